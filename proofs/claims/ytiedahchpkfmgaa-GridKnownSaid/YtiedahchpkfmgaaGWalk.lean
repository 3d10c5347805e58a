/-
  Places walked: whole, is, place, Place, Hops; of the document: Is, abs, Hops, Place.
-/
import Derived.Test.YtiedahchpkfmgaaGAbs
import Derived.Laws.Cover3
import Derived.IntWalk
namespace Go.Proofs.Ytiedahchpkfmgaa.GWalk
open Go Ieee Go.RowKit Base Fl GAbs
set_option linter.unusedVariables false
set_option linter.unusedSimpArgs false

def flR (n : Int) : Nat := if n.natAbs = 0 then 0 else (n.natAbs.log2 + 1022) * 4503599627370496 + n.natAbs * 2 ^ (52 - n.natAbs.log2)
theorem flR_lt (n : Int) (h : n.natAbs < 2 ^ 53) : flR n < 9223372036854775808 := by
  unfold flR
  by_cases c : n.natAbs = 0
  · rw [if_pos c]; omega
  · rw [if_neg c]
    have hl := log2_53 c h
    have h2 := @Nat.lt_log2_self n.natAbs
    have : n.natAbs * 2 ^ (52 - n.natAbs.log2) < 2 ^ (n.natAbs.log2 + 1) * 2 ^ (52 - n.natAbs.log2) := Nat.mul_lt_mul_of_pos_right h2 (Nat.two_pow_pos _)
    rw [← Nat.pow_add, show n.natAbs.log2 + 1 + (52 - n.natAbs.log2) = 53 by omega] at this
    omega
theorem fl_flR (n : Int) (h : n.natAbs < 2 ^ 53) : fl n = double.word (decide (n < 0)) (flR n) := fl_word n h
theorem flR_abs (n : Int) (h : n.natAbs < 2 ^ 53) : flR n = fl (n.natAbs : Int) := by
  rw [fl_word _ (by simpa using h)]
  have e : decide (((n.natAbs : Nat) : Int) < 0) = false := by simp
  rw [e, Int.natAbs_natCast]
  rfl
theorem abs_fl (n : Int) (h : n.natAbs < 2 ^ 53) (w : World) :
    Calls Try.prog 17 #[.float .f64 (fl n)] w fun e w' => e = .returned (.float .f64 (fl (n.natAbs : Int))) ∧ w = w' := by
  have := abs_any (decide (n < 0)) (flR n) (flR_lt n h) w
  rw [← fl_flR n h, flR_abs n h] at this
  exact this
theorem far_fl : fl 1048576 = 4697254411347427328 := by decide +kernel
theorem whole_yes (n : Int) (h : n.natAbs ≤ 1048576) (w : World) :
    Calls Try.prog 20 #[.float .f64 (fl n)] w fun e w' => e = .returned (.bool true) ∧ w = w' := by
  have hb : n.natAbs < 2 ^ 53 := by omega
  have T := hide (fun w => trunc_any (fl n) _ _ _ (read_fl n hb) (fl n) (by have := trunc_fl n hb .zero; rw [read_fl n hb] at this; exact this) w)
  have A := hide (fun w => abs_fl n hb w)
  have o1 : (FloatKind.f64.format.order (fl n) (fl n) == some .eq) = true := by
    rw [fmt, order_fl n n hb hb]
    have : compare n n = .eq := by show compareOfLessAndEq _ _ = _; unfold compareOfLessAndEq; simp
    rw [this]; rfl
  have o2 : (FloatKind.f64.format.order (fl (n.natAbs : Int)) 4697254411347427328 == some .lt || FloatKind.f64.format.order (fl (n.natAbs : Int)) 4697254411347427328 == some .eq) = true := by
    rw [fmt, ← far_fl, order_fl _ _ (by omega) (by omega)]
    have : compare (n.natAbs : Int) 1048576 ≠ .gt := by
      show compareOfLessAndEq _ _ ≠ _
      unfold compareOfLessAndEq
      by_cases c : (n.natAbs : Int) < 1048576
      · rw [if_pos c]; decide
      · rw [if_neg c, if_pos (by omega)]; decide
    cases hc : compare (n.natAbs : Int) 1048576 <;> first | rfl | exact absurd hc this
  generalize fl n = x at *
  generalize fl (n.natAbs : Int) = y at *
  clear hb h
  go_enter Try.func20, Try.ntmps20
  go_wp2_with fail
  refine (T.out _).mono ?_
  rintro e w1 ⟨rfl, rfl⟩
  go_wp2_with fail
  refine (A.out _).mono ?_
  rintro e w1 ⟨rfl, rfl⟩
  go_wp2
  go_ret
  exact ⟨rfl, rfl⟩
/-- A number too far. -/
theorem whole_no (s : Bool) (r : Nat) (hr : r < 9223372036854775808) (m : Nat) (p : Int) (h : double.read (double.word s r) = .number s m p) (hg : double.order r 4697254411347427328 = some .gt) (w : World) :
    Calls Try.prog 20 #[.float .f64 (double.word s r)] w fun e w' => e = .returned (.bool false) ∧ w = w' := by
  have T := hide (fun w => trunc_any _ _ _ _ h _ rfl w)
  have A := hide (fun w => abs_any s r hr w)
  generalize double.write ((Datum.number s m p).integral .zero) = v at *
  have o2 : (FloatKind.f64.format.order r 4697254411347427328 == some .lt || FloatKind.f64.format.order r 4697254411347427328 == some .eq) = false := by
    rw [fmt, hg]; rfl
  generalize double.word s r = x at *
  clear h hg hr
  rcases Bool.eq_false_or_eq_true (FloatKind.f64.format.order x v == some .eq) with o1 | o1
  · go_enter Try.func20, Try.ntmps20
    go_wp2_with fail
    refine (T.out _).mono ?_
    rintro e w1 ⟨rfl, rfl⟩
    go_wp2_with fail
    refine (A.out _).mono ?_
    rintro e w1 ⟨rfl, rfl⟩
    go_wp2
    go_ret
    exact ⟨rfl, rfl⟩
  · go_enter Try.func20, Try.ntmps20
    go_wp2_with fail
    refine (T.out _).mono ?_
    rintro e w1 ⟨rfl, rfl⟩
    go_wp2
    go_ret
    exact ⟨rfl, rfl⟩
theorem cmp_gt {a b : Int} (h : b < a) : compare a b = .gt := by
  show compareOfLessAndEq _ _ = _
  unfold compareOfLessAndEq
  rw [if_neg (by omega), if_neg (by omega)]
theorem fl_big (n : Int) (h : 2 ^ 53 ≤ n.natAbs) (h2 : n.natAbs ≤ 2 ^ 63) : ∃ r, r < 9223372036854775808 ∧ fl n = double.word (decide (n < 0)) r ∧ 4503599627370496 * 1076 ≤ r ∧ r < 9218868437227405312 := by
  have hne : n.natAbs ≠ 0 := by omega
  rw [fl_def]
  unfold Format.nearest
  rw [if_neg hne, lp, bin, infR]
  have hl1 : 53 ≤ n.natAbs.log2 := (Nat.le_log2 hne).2 h
  have hl2 : n.natAbs.log2 ≤ 63 := by
    have : n.natAbs.log2 < 64 := (Nat.log2_lt hne).2 (by omega)
    omega
  have e1 : max ((0 : Int) + ((n.natAbs.log2 : Nat) : Int) - ((double.fractionBits : Nat) : Int)) (-1074) = (n.natAbs.log2 : Int) - 52 := by
    show max ((0 : Int) + ((n.natAbs.log2 : Nat) : Int) - ((52 : Nat) : Int)) (-1074) = _
    omega
  simp only [e1]
  rw [shl, show ((0 : Int) - ((n.natAbs.log2 : Int) - 52)).toNat = 0 by omega, Nat.pow_zero, Nat.mul_one, show ((n.natAbs.log2 : Int) - 52 - 0).toNat = n.natAbs.log2 - 52 by omega, show ((n.natAbs.log2 : Int) - 52 - -1074).toNat = n.natAbs.log2 + 1022 by omega]
  have k1 : 4503599627370496 ≤ Toward.even.cut (decide (n < 0)) n.natAbs (n.natAbs.log2 - 52) := by
    unfold Toward.cut
    have hm : min (n.natAbs.log2 - 52) (n.natAbs.log2 + 2) = n.natAbs.log2 - 52 := by omega
    simp only [hm, shl, Nat.one_mul]
    have hp := Nat.two_pow_pos (n.natAbs.log2 - 52)
    have h3 := Nat.log2_self_le hne
    have : 4503599627370496 ≤ n.natAbs / 2 ^ (n.natAbs.log2 - 52) := by
      rw [Nat.le_div_iff_mul_le hp]
      have : 2 ^ 52 * 2 ^ (n.natAbs.log2 - 52) = 2 ^ n.natAbs.log2 := by rw [← Nat.pow_add, show 52 + (n.natAbs.log2 - 52) = n.natAbs.log2 by omega]
      omega
    omega
  have k2 : Toward.even.cut (decide (n < 0)) n.natAbs (n.natAbs.log2 - 52) ≤ 9007199254740992 := by
    unfold Toward.cut
    have hm : min (n.natAbs.log2 - 52) (n.natAbs.log2 + 2) = n.natAbs.log2 - 52 := by omega
    simp only [hm, shl, Nat.one_mul]
    have hp := Nat.two_pow_pos (n.natAbs.log2 - 52)
    have h3 := @Nat.lt_log2_self n.natAbs
    have h4 : n.natAbs / 2 ^ (n.natAbs.log2 - 52) < 9007199254740992 := by
      rw [Nat.div_lt_iff_lt_mul hp]
      have : 2 ^ 53 * 2 ^ (n.natAbs.log2 - 52) = 2 ^ (n.natAbs.log2 + 1) := by rw [← Nat.pow_add, show 53 + (n.natAbs.log2 - 52) = n.natAbs.log2 + 1 by omega]
      omega
    generalize n.natAbs / 2 ^ (n.natAbs.log2 - 52) = q at *
    have : ∀ b : Bool, b.toNat ≤ 1 := by decide
    have := this (decide (2 ^ (n.natAbs.log2 - 52) < 2 * (n.natAbs % 2 ^ (n.natAbs.log2 - 52))) || 2 ^ (n.natAbs.log2 - 52) == 2 * (n.natAbs % 2 ^ (n.natAbs.log2 - 52)) && q % 2 == 1)
    omega
  generalize Toward.even.cut (decide (n < 0)) n.natAbs (n.natAbs.log2 - 52) = kept at *
  refine ⟨_, ?_, rfl, ?_, ?_⟩ <;> omega
theorem sgn_bool (s : Bool) : ((if s = true then 1 else 0) == 1) = s := by cases s <;> rfl
theorem read_big (s : Bool) (r : Nat) (h1 : 4503599627370496 * 1076 ≤ r) (h2 : r < 9218868437227405312) : ∃ m : Nat, ∃ p : Nat, double.read (double.word s r) = .number s m (p : Int) ∧ 4503599627370496 ≤ m := by
  obtain ⟨e1, e2⟩ := word_mod s (show r < 9223372036854775808 by omega)
  refine ⟨4503599627370496 + r % 4503599627370496, r / 4503599627370496 - 1 - 1074, ?_, by omega⟩
  unfold Format.read
  simp only [e1, e2, bin, infR, lp]
  rw [if_neg (by omega), if_pos h2]
  congr 1
  · cases s <;> rfl
  · omega
theorem order_big (r m p : Nat) (h : double.read r = .number false m (p : Int)) (hm : 4503599627370496 ≤ m) : double.order r 4697254411347427328 = some .gt := by
  rw [← far_fl]
  unfold Format.order
  rw [h, read_at 1048576 (by decide)]
  unfold At Datum.order
  have hpl : pl 1048576 = 32 := by decide +kernel
  rw [hpl]
  have hb : min (p : Int) (-((32 : Nat) : Int)) = -32 := by omega
  simp only [hb]
  refine congrArg some (cmp_gt ?_)
  have h1 : signed false m ((p : Int) - -32).toNat = (m * 2 ^ (p + 32) : Nat) := by
    unfold signed
    rw [shl, show ((p : Int) - -32).toNat = p + 32 by omega]
    rfl
  have h2 := signed_fl 1048576 32 ((-((32 : Nat) : Int)) - -32).toNat
  rw [h1, h2]
  have hp : 1 ≤ 2 ^ p := Nat.two_pow_pos p
  have h3 : 4503599627370496 * 4294967296 ≤ m * 2 ^ (p + 32) := by
    rw [Nat.pow_add]
    have : 4503599627370496 * (1 * 4294967296) ≤ m * (2 ^ p * 2 ^ 32) := Nat.mul_le_mul hm (Nat.mul_le_mul hp (Nat.le_refl _))
    omega
  have h4 : (1048576 : Int) * 2 ^ (32 + (-((32 : Nat) : Int) - -32).toNat) = 4503599627370496 := by decide +kernel
  rw [h4]
  omega
theorem whole_far (n : Int) (h : 1048576 < n.natAbs) (h2 : n.natAbs ≤ 2 ^ 63) (w : World) :
    Calls Try.prog 20 #[.float .f64 (fl n)] w fun e w' => e = .returned (.bool false) ∧ w = w' := by
  by_cases c : n.natAbs < 2 ^ 53
  · have := read_fl n c
    rw [fl_flR n c] at this ⊢
    refine whole_no _ _ (flR_lt n c) _ _ this ?_ w
    rw [flR_abs n c, ← far_fl, order_fl _ _ (by omega) (by omega), cmp_gt (by omega)]
  · obtain ⟨r, r1, e, r2, r3⟩ := fl_big n (by omega) h2
    obtain ⟨m, p, hr, hm⟩ := read_big (decide (n < 0)) r r2 r3
    obtain ⟨m', p', hr', hm'⟩ := read_big false r r2 r3
    rw [e]
    refine whole_no _ _ r1 _ _ hr (order_big r m' p' ?_ hm') w
    have : double.word false r = r := rfl
    rw [this] at hr'
    exact hr'
/-- May it be a place's part? -/
def inB (n : Int) : Bool := decide (n.natAbs ≤ 1048576)
theorem whole_any (n : Int) (h0 : -9223372036854775808 ≤ n) (h1 : n ≤ 9223372036854775807) (w : World) :
    Calls Try.prog 20 #[.float .f64 (fl n)] w fun e w' => e = .returned (.bool (inB n)) ∧ w = w' := by
  by_cases c : n.natAbs ≤ 1048576
  · rw [show inB n = true by simp [inB, c]]
    exact whole_yes n c w
  · rw [show inB n = false by simp [inB]; omega]
    exact whole_far n (by omega) (by omega) w
def plW (a b : Int) : Value := .complex .f64 (fl a) (fl b)
theorem is_any (a b : Int) (a0 : -9223372036854775808 ≤ a) (a1 : a ≤ 9223372036854775807) (b0 : -9223372036854775808 ≤ b) (b1 : b ≤ 9223372036854775807) (w : World) :
    Calls Try.prog 16 #[plW a b] w fun e w' => e = .returned (.bool (inB a && inB b)) ∧ w = w' := by
  have A := hide (fun w => whole_any a a0 a1 w)
  have B := hide (fun w => whole_any b b0 b1 w)
  unfold plW
  clear a0 a1 b0 b1
  generalize fl a = x at *
  generalize fl b = y at *
  generalize inB b = q at *
  cases hA : inB a
  all_goals
    rw [hA] at A
    clear hA
    go_enter Try.func16, Try.ntmps16
    go_wp2_with fail
    refine (A.out _).mono ?_
    rintro e w1 ⟨rfl, rfl⟩
    go_wp2_with ((with_reducible refine (B.out _).mono ?_); rintro e w1 ⟨rfl, rfl⟩)
    go_ret
    exact ⟨rfl, rfl⟩
theorem place_any (a b : Int) (w : World) : Calls Try.prog 8 #[.int .i64 a, .int .i64 b] w fun e w' => e = .returned (plW a b) ∧ w = w' := by
  go_enter Try.func8, Try.ntmps8
  go_wp2
  go_ret
  exact ⟨rfl, rfl⟩
end Go.Proofs.Ytiedahchpkfmgaa.GWalk
