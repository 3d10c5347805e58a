/-
  Whole numbers as floats: what the word of a whole number is, read back, added, compared, made whole.
-/
import Derived.Laws.FloatArith
import Derived.Laws.ComplexArith
namespace Go.Proofs.Ytiedahchpkfmgaa.Fl
open Go Ieee
set_option linter.unusedVariables false

/-- The word of a whole number. -/
def fl (n : Int) : Nat := floatOfInt .f64 n
def dbl : Format := double
theorem fmt : FloatKind.format .f64 = double := rfl
theorem lp : double.leastPlace = -1074 := by decide
theorem bin : double.binade = 4503599627370496 := by decide
theorem infR : double.infRung = 9218868437227405312 := by decide
theorem sgn : double.signWeight = 9223372036854775808 := by decide
theorem fl_def (n : Int) : fl n = double.nearest (decide (n < 0)) n.natAbs 0 := rfl
theorem shl (a b : Nat) : a <<< b = a * 2 ^ b := Nat.shiftLeft_eq a b

theorem cut_zero (w : Toward) (s : Bool) (n : Nat) : w.cut s n 0 = n := by
  unfold Toward.cut
  simp only [Nat.zero_min, Nat.shiftLeft_zero, Nat.div_one, Nat.mod_one]
  cases w <;> simp
theorem log2_shl {m : Nat} (h : m ≠ 0) (k : Nat) : (m * 2 ^ k).log2 = m.log2 + k := by
  rw [Nat.log2_eq_iff (Nat.mul_ne_zero h (by have := Nat.two_pow_pos k; omega))]
  have h1 := Nat.log2_self_le h
  have h2 := @Nat.lt_log2_self m
  have hp := Nat.two_pow_pos k
  rw [Nat.pow_add, show m.log2 + k + 1 = (m.log2 + 1) + k by omega, Nat.pow_add]
  exact ⟨Nat.mul_le_mul_right _ h1, Nat.mul_lt_mul_of_pos_right h2 hp⟩
theorem cut_exact (w : Toward) (s : Bool) (m k : Nat) (h : m ≠ 0) : w.cut s (m * 2 ^ k) k = m := by
  unfold Toward.cut
  have hl := log2_shl h k
  have hm : min k ((m * 2 ^ k).log2 + 2) = k := by omega
  have hp := Nat.two_pow_pos k
  simp only [hm, shl, Nat.one_mul, Nat.mul_mod_left, Nat.mul_div_cancel _ hp]
  cases w <;> simp <;> omega
theorem cut_exact0 (w : Toward) (s : Bool) (k : Nat) : w.cut s 0 k = 0 := by
  unfold Toward.cut
  have hp : 0 < 1 <<< min k (Nat.log2 0 + 2) := by rw [shl, Nat.one_mul]; exact Nat.two_pow_pos _
  generalize 1 <<< min k (Nat.log2 0 + 2) = g at hp
  cases w <;> simp
theorem cut_scale (w : Toward) (s : Bool) (m k : Nat) : w.cut s (m * 2 ^ k) k = m := by
  by_cases h : m = 0
  · subst h; rw [Nat.zero_mul]; exact cut_exact0 w s k
  · exact cut_exact w s m k h

theorem log2_53 {m : Nat} (h : m ≠ 0) (hm : m < 2 ^ 53) : m.log2 ≤ 52 := by
  have := (Nat.log2_lt h).2 hm
  omega
/-- The nearest word of a number below 2 ^ 53, at whatever place it is told. -/
theorem nearest_scale (s : Bool) (m k : Nat) (hm : m < 2 ^ 53) : double.nearest s (m * 2 ^ k) (-(k : Int)) =
    double.word s (if m = 0 then 0 else (m.log2 + 1022) * 4503599627370496 + m * 2 ^ (52 - m.log2)) := by
  unfold Format.nearest
  by_cases h : m = 0
  · subst h; simp
  · have hp := Nat.two_pow_pos k
    have hne : m * 2 ^ k ≠ 0 := Nat.mul_ne_zero h (by omega)
    have hl := log2_53 h hm
    rw [if_neg hne, if_neg h, log2_shl h k, lp, bin, infR]
    have e1 : max (-(k : Int) + ((m.log2 + k : Nat) : Int) - ((double.fractionBits : Nat) : Int)) (-1074) = (m.log2 : Int) - 52 := by
      show max (-(k : Int) + ((m.log2 + k : Nat) : Int) - ((52 : Nat) : Int)) (-1074) = (m.log2 : Int) - 52
      omega
    simp only [e1]
    have hk : Toward.even.cut s ((m * 2 ^ k) <<< (-(k : Int) - ((m.log2 : Int) - 52)).toNat) ((m.log2 : Int) - 52 - -(k : Int)).toNat = m * 2 ^ (52 - m.log2) := by
      rw [shl]
      by_cases c : k ≤ 52 - m.log2
      · rw [show ((m.log2 : Int) - 52 - -(k : Int)).toNat = 0 by omega, cut_zero, show (-(k : Int) - ((m.log2 : Int) - 52)).toNat = 52 - m.log2 - k by omega, Nat.mul_assoc, ← Nat.pow_add, show k + (52 - m.log2 - k) = 52 - m.log2 by omega]
      · rw [show (-(k : Int) - ((m.log2 : Int) - 52)).toNat = 0 by omega, Nat.pow_zero, Nat.mul_one, show ((m.log2 : Int) - 52 - -(k : Int)).toNat = k - (52 - m.log2) by omega]
        have : m * 2 ^ k = (m * 2 ^ (52 - m.log2)) * 2 ^ (k - (52 - m.log2)) := by rw [Nat.mul_assoc, ← Nat.pow_add, show 52 - m.log2 + (k - (52 - m.log2)) = k by omega]
        rw [this]
        exact cut_scale _ _ _ _
    rw [hk, show ((m.log2 : Int) - 52 - -1074).toNat = m.log2 + 1022 by omega]
    have hb : m * 2 ^ (52 - m.log2) < 9007199254740992 := by
      have h2 := @Nat.lt_log2_self m
      have : m * 2 ^ (52 - m.log2) < 2 ^ (m.log2 + 1) * 2 ^ (52 - m.log2) := Nat.mul_lt_mul_of_pos_right h2 (Nat.two_pow_pos _)
      rw [← Nat.pow_add, show m.log2 + 1 + (52 - m.log2) = 53 by omega] at this
      exact this
    rw [Nat.min_eq_left (by omega)]
theorem fl_word (n : Int) (h : n.natAbs < 2 ^ 53) : fl n = double.word (decide (n < 0)) (if n.natAbs = 0 then 0 else (n.natAbs.log2 + 1022) * 4503599627370496 + n.natAbs * 2 ^ (52 - n.natAbs.log2)) := by
  have := nearest_scale (decide (n < 0)) n.natAbs 0 h
  rw [Nat.pow_zero, Nat.mul_one] at this
  rw [fl_def]
  exact this
theorem nearest_fl (n : Int) (k : Nat) (h : n.natAbs < 2 ^ 53) : double.nearest (decide (n < 0)) (n.natAbs * 2 ^ k) (-(k : Int)) = fl n := by
  rw [nearest_scale _ _ _ h, fl_word n h]
/-- The place of a number's last digit, below. -/
def pl (n : Int) : Nat := if n.natAbs = 0 then 1074 else 52 - n.natAbs.log2
theorem word_mod (s : Bool) {r : Nat} (h : r < 9223372036854775808) : (double.word s r) / double.signWeight % 2 = (if s = true then 1 else 0) ∧ double.word s r % double.signWeight = r := by
  unfold Format.word
  rw [sgn]
  cases s <;> simp <;> omega
theorem read_word (s : Bool) (m : Nat) (hm : m < 2 ^ 53) (h : m ≠ 0) : double.read (double.word s ((m.log2 + 1022) * 4503599627370496 + m * 2 ^ (52 - m.log2))) = .number s (m * 2 ^ (52 - m.log2)) (-((52 - m.log2 : Nat) : Int)) := by
  have hl := log2_53 h hm
  have hb : m * 2 ^ (52 - m.log2) < 9007199254740992 := by
    have h2 := @Nat.lt_log2_self m
    have : m * 2 ^ (52 - m.log2) < 2 ^ (m.log2 + 1) * 2 ^ (52 - m.log2) := Nat.mul_lt_mul_of_pos_right h2 (Nat.two_pow_pos _)
    rw [← Nat.pow_add, show m.log2 + 1 + (52 - m.log2) = 53 by omega] at this
    exact this
  have ha : 4503599627370496 ≤ m * 2 ^ (52 - m.log2) := by
    have h1 := Nat.log2_self_le h
    have : 2 ^ m.log2 * 2 ^ (52 - m.log2) ≤ m * 2 ^ (52 - m.log2) := Nat.mul_le_mul_right _ h1
    rw [← Nat.pow_add, show m.log2 + (52 - m.log2) = 52 by omega] at this
    exact this
  generalize hq : m * 2 ^ (52 - m.log2) = q at *
  have hr : (m.log2 + 1022) * 4503599627370496 + q < 9223372036854775808 := by omega
  obtain ⟨e1, e2⟩ := word_mod s hr
  unfold Format.read
  simp only [e1, e2, bin, infR, lp]
  rw [if_neg (by omega), if_pos (by omega)]
  congr 1
  · cases s <;> simp
  · omega
  · omega
theorem read_zero (s : Bool) : double.read (double.word s 0) = .number s 0 (-1074) := by cases s <;> decide +kernel
theorem zero_at (s : Bool) (k : Nat) : Datum.number s 0 (-(k : Int)) = .number s (0 * 2 ^ k) (-(k : Int)) := by rw [Nat.zero_mul]
theorem read_fl (n : Int) (h : n.natAbs < 2 ^ 53) : double.read (fl n) = .number (decide (n < 0)) (n.natAbs * 2 ^ pl n) (-(pl n : Int)) := by
  rw [fl_word n h]
  unfold pl
  by_cases c : n.natAbs = 0
  · rw [if_pos c, if_pos c, read_zero, c]
    exact zero_at _ 1074
  · rw [if_neg c, if_neg c, read_word _ _ h c]
theorem signed_fl (n : Int) (k j : Nat) : signed (decide (n < 0)) (n.natAbs * 2 ^ k) j = n * 2 ^ (k + j) := by
  unfold signed
  rw [shl, Nat.mul_assoc, ← Nat.pow_add]
  by_cases c : n < 0
  · rw [if_pos (by simpa using c)]
    have e : ((n.natAbs * 2 ^ (k + j) : Nat) : Int) = -n * 2 ^ (k + j) := by
      rw [Int.natCast_mul, Int.natCast_pow]
      congr 1
      omega
    rw [e, Int.neg_mul, Int.neg_neg]
  · rw [if_neg (by simpa using c)]
    rw [Int.natCast_mul, Int.natCast_pow]
    congr 1
    omega
/-- What stands for a whole number: at any place. -/
def At (n : Int) (k : Nat) : Datum := .number (decide (n < 0)) (n.natAbs * 2 ^ k) (-(k : Int))
theorem pow_pos' (k : Nat) : (0 : Int) < 2 ^ k := by
  have := Nat.two_pow_pos k
  have h : ((2 ^ k : Nat) : Int) = 2 ^ k := by rw [Int.natCast_pow]; rfl
  omega
theorem natAbs_pow (n : Int) (k : Nat) : (n * 2 ^ k).natAbs = n.natAbs * 2 ^ k := by
  rw [Int.natAbs_mul, Int.natAbs_pow]; rfl
theorem neg_pow (n : Int) (k : Nat) : (n * 2 ^ k < 0) ↔ n < 0 := by
  have hp := pow_pos' k
  constructor
  · intro h
    by_cases c : n < 0
    · exact c
    · have := Int.mul_nonneg (show 0 ≤ n by omega) (Int.le_of_lt hp); omega
  · intro h; exact Int.mul_neg_of_neg_of_pos h hp
theorem zero_pow (n : Int) (k : Nat) : (n * 2 ^ k = 0) ↔ n = 0 := by
  have hp := pow_pos' k
  constructor
  · intro h
    rcases Int.mul_eq_zero.1 h with h | h
    · exact h
    · omega
  · rintro rfl; simp
theorem sum_at (n m : Int) (k l : Nat) : (At n k).sum (At m l) = some (At (n + m) (max k l)) := by
  unfold At Datum.sum
  have hb : min (-(k : Int)) (-(l : Int)) = -((max k l : Nat) : Int) := by omega
  simp only [hb]
  rw [signed_fl, signed_fl, show k + (-(k : Int) - -((max k l : Nat) : Int)).toNat = max k l by omega, show l + (-(l : Int) - -((max k l : Nat) : Int)).toNat = max k l by omega, ← Int.add_mul, natAbs_pow]
  have e : (if (n + m) * 2 ^ (max k l) = 0 then decide (n < 0) && decide (m < 0) else decide ((n + m) * 2 ^ (max k l) < 0)) = decide (n + m < 0) := by
    by_cases c : n + m = 0
    · rw [if_pos ((zero_pow _ _).2 c)]
      rw [Bool.eq_iff_iff]
      simp
      omega
    · rw [if_neg (fun h => c ((zero_pow _ _).1 h))]
      rw [Bool.eq_iff_iff]
      simp [neg_pow]
  rw [e]
theorem write_at (n : Int) (k : Nat) (h : n.natAbs < 2 ^ 53) : double.write (At n k) = fl n := nearest_fl n k h
theorem read_at (n : Int) (h : n.natAbs < 2 ^ 53) : double.read (fl n) = At n (pl n) := read_fl n h
theorem add_fl (n m : Int) (hn : n.natAbs < 2 ^ 53) (hm : m.natAbs < 2 ^ 53) (h : (n + m).natAbs < 2 ^ 53) : double.add (fl n) (fl m) = some (fl (n + m)) := by
  unfold Format.add
  rw [read_at n hn, read_at m hm, sum_at, Option.map_some, write_at _ _ h]
/-- The word of minus zero. -/
def mz : Nat := 9223372036854775808
theorem read_mz : double.read mz = .number true 0 (-1074) := by decide +kernel
theorem add_mz (n : Int) (hn : n.natAbs < 2 ^ 53) : double.add (fl n) mz = some (fl n) := by
  unfold Format.add
  rw [read_at n hn, read_mz]
  unfold At Datum.sum
  have hb : min (-(pl n : Int)) (-1074) = -((max (pl n) 1074 : Nat) : Int) := by omega
  simp only [hb]
  rw [signed_fl, show pl n + (-(pl n : Int) - -((max (pl n) 1074 : Nat) : Int)).toNat = max (pl n) 1074 by omega]
  have hz : signed true 0 (-1074 - -((max (pl n) 1074 : Nat) : Int)).toNat = 0 := by unfold signed; rw [shl, Nat.zero_mul]; rfl
  rw [hz, Int.add_zero, natAbs_pow]
  have e : (if n * 2 ^ (max (pl n) 1074) = 0 then decide (n < 0) && true else decide (n * 2 ^ (max (pl n) 1074) < 0)) = decide (n < 0) := by
    by_cases c : n = 0
    · subst c; simp
    · rw [if_neg (fun h => c ((zero_pow _ _).1 h))]
      rw [Bool.eq_iff_iff]
      simp [neg_pow]
  rw [e, Option.map_some]
  exact congrArg some (write_at n _ hn)
theorem opp_at (n : Int) (k : Nat) (h : n ≠ 0) : (At n k).opposite = At (-n) k := by
  unfold At Datum.opposite
  simp only [Int.natAbs_neg]
  congr 1
  rw [Bool.eq_iff_iff]
  simp
  omega
theorem sub_fl (n m : Int) (hn : n.natAbs < 2 ^ 53) (hm : m.natAbs < 2 ^ 53) (h : (n - m).natAbs < 2 ^ 53) : double.sub (fl n) (fl m) = some (fl (n - m)) := by
  unfold Format.sub
  rw [read_at n hn, read_at m hm]
  by_cases c : m = 0
  · subst c
    rw [show (At 0 (pl 0)).opposite = double.read mz by rw [read_mz]; decide +kernel]
    have := add_mz n hn
    unfold Format.add at this
    rw [read_at n hn] at this
    rw [this, Int.sub_zero]
  · rw [opp_at _ _ c, sum_at, Option.map_some, ← Int.sub_eq_add_neg, write_at _ _ h]
theorem compare_mul (a b : Int) (k : Nat) : compare (a * 2 ^ k) (b * 2 ^ k) = compare a b := by
  have hp := pow_pos' k
  show compareOfLessAndEq _ _ = compareOfLessAndEq _ _
  unfold compareOfLessAndEq
  have h1 : (a * 2 ^ k < b * 2 ^ k) ↔ a < b := ⟨fun h => Int.lt_of_mul_lt_mul_right h (Int.le_of_lt hp), fun h => Int.mul_lt_mul_of_pos_right h hp⟩
  have h2 : (a * 2 ^ k = b * 2 ^ k) ↔ a = b := ⟨fun h => Int.eq_of_mul_eq_mul_right (by omega) h, fun h => by rw [h]⟩
  simp only [h1, h2]
theorem order_fl (n m : Int) (hn : n.natAbs < 2 ^ 53) (hm : m.natAbs < 2 ^ 53) : double.order (fl n) (fl m) = some (compare n m) := by
  unfold Format.order
  rw [read_at n hn, read_at m hm]
  unfold At Datum.order
  have hb : min (-(pl n : Int)) (-(pl m : Int)) = -((max (pl n) (pl m) : Nat) : Int) := by omega
  simp only [hb]
  rw [signed_fl, signed_fl, show pl n + (-(pl n : Int) - -((max (pl n) (pl m) : Nat) : Int)).toNat = max (pl n) (pl m) by omega, show pl m + (-(pl m : Int) - -((max (pl n) (pl m) : Nat) : Int)).toNat = max (pl n) (pl m) by omega, compare_mul]
theorem integral_fl (n : Int) (h : n.natAbs < 2 ^ 53) (w : Toward) : (double.read (fl n)).integral w = .number (decide (n < 0)) n.natAbs 0 := by
  rw [read_at n h]
  unfold At Datum.integral
  dsimp only
  rw [show (-(pl n : Int)).toNat = 0 by omega, shl, Nat.pow_zero, Nat.mul_one, show (- -(pl n : Int)).toNat = pl n by omega, cut_scale]
theorem trunc_fl (n : Int) (h : n.natAbs < 2 ^ 53) (w : Toward) : double.write ((double.read (fl n)).integral w) = fl n := by
  rw [integral_fl n h]; rfl
theorem toInt_fl (n : Int) (h : n.natAbs < 2 ^ 53) : floatToIntVal .f64 (fl n) .i64 = some n := by
  unfold floatToIntVal
  have e : (FloatKind.f64.decode (fl n)).toInt .zero = some n := by
    show (double.read (fl n)).toInt .zero = some n
    unfold Datum.toInt
    rw [integral_fl n h]
    simp only
    have := signed_fl n 0 0
    rw [Nat.pow_zero, Nat.mul_one] at this
    rw [this]; simp
  rw [e]
  simp only
  rw [if_pos]
  show (-9223372036854775808 : Int) ≤ n ∧ n ≤ 9223372036854775807
  omega
end Go.Proofs.Ytiedahchpkfmgaa.Fl
