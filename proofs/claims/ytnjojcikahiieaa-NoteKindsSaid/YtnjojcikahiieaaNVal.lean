/-
  Bytes as numbers, the lowest first: value of the program, of the document.
-/
import Derived.Test.YtnjojcikahiieaaNNum
namespace Go.Proofs.Ytnjojcikahiieaa.NVal
open Go.RowKit Base Words NNum
set_option linter.unusedVariables false
set_option linter.unusedSimpArgs false

def val (q : Nat → Int) : Nat → Int
  | 0 => 0
  | k + 1 => val q k + q k * (256 ^ k : Nat)
theorem val_bd {q : Nat → Int} {n : Nat} (h : ∀ j, j < n → 0 ≤ q j ∧ q j ≤ 255) : ∀ k, k ≤ n → 0 ≤ val q k ∧ val q k < (256 ^ k : Nat)
  | 0, _ => by simp [val]
  | k + 1, hk => by
    obtain ⟨h1, h2⟩ := val_bd h k (by omega)
    obtain ⟨h3, h4⟩ := h k (by omega)
    have hp : (0 : Int) ≤ (256 ^ k : Nat) := by omega
    have h5 := Int.mul_nonneg h3 hp
    have h6 := Int.mul_le_mul_of_nonneg_right h4 hp
    rw [Nat.pow_succ]
    simp only [val]
    omega
theorem u64_or_add (v y : Int) (k : Nat) (hk : k ≤ 7) (v0 : 0 ≤ v) (v1 : v < (256 ^ k : Nat)) (y0 : 0 ≤ y) (y1 : y ≤ 255) : bits .or .u64 v (y * (256 ^ k : Nat)) = v + y * (256 ^ k : Nat) := by
  obtain ⟨m, rfl⟩ := Int.eq_ofNat_of_zero_le v0
  obtain ⟨z, rfl⟩ := Int.eq_ofNat_of_zero_le y0
  have hp : 256 ^ k = 2 ^ (8 * k) := by rw [Nat.pow_mul]
  have hle : 256 ^ k ≤ 256 ^ 7 := Nat.pow_le_pow_right (by omega) hk
  have hm : m < 2 ^ (8 * k) := by rw [← hp]; omega
  have hz : z * 256 ^ k ≤ 255 * 256 ^ 7 := Nat.mul_le_mul (by omega) hle
  have e1 : ((z : Int) * ((256 ^ k : Nat) : Int)) = ((z * 256 ^ k : Nat) : Int) := by simp
  rw [e1, u64_or_nat m (z * 256 ^ k) (by omega) (by omega), Nat.or_comm, Nat.mul_comm, hp, ← Nat.two_pow_add_eq_or_of_lt hm, Int.natCast_add, Int.add_comm]
theorem value_any (b off n c : Nat) (q : Nat → Int) (hn : n ≤ 8) (w : World) (hc : ∀ j, j < n → w.cell? ⟨b, off + j, none⟩ = some (.int .u8 (q j))) (hq : ∀ j, j < n → 0 ≤ q j ∧ q j ≤ 255) :
    Calls Try.prog 19 #[.slice (some ⟨b, off, none⟩) n c] w fun e w' => e = .returned (.int .u64 (val q n)) ∧ w = w' := by
  have HC := hide hc
  have HQ := hide hq
  clear hc hq
  go_enter Try.func19, Try.ntmps19
  go_wp2_with fail
  go_loop [3, 8] (fun x i => ∃ k : Nat, k ≤ n ∧ i = .int .i64 k ∧ x = .int .u64 (val q k)) (fun _ i => n - (intOf i).toNat)
  case atStart => exact ⟨0, by omega, rfl, rfl⟩
  case round =>
    obtain ⟨k, hk, rfl, rfl⟩ := hrel
    by_cases hlt : k < n
    · have hk8 : k = 0 ∨ k = 1 ∨ k = 2 ∨ k = 3 ∨ k = 4 ∨ k = 5 ∨ k = 6 ∨ k = 7 := by omega
      have hcell := HC.out k hlt
      obtain ⟨q0, q1⟩ := HQ.out k hlt
      obtain ⟨v0, v1⟩ := val_bd HQ.out k hk
      have hlt' : (k : Int) < (n : Int) := by omega
      have hval : val q (k + 1) = val q k + q k * (256 ^ k : Nat) := rfl
      generalize val q k = v at *
      generalize q k = y at *
      rcases hk8 with rfl | rfl | rfl | rfl | rfl | rfl | rfl | rfl
      · simp only [Nat.add_zero] at hcell
        have hor := u64_or_add v y 0 (by omega) v0 v1 q0 q1
        rw [show ((256 ^ 0 : Nat) : Int) = 1 from rfl] at hor hval
        rw [Int.mul_one] at hor hval
        have HV := hide hval
        have HOR := hide hor
        clear hor hval
        go_wp2_with fail
        go_round
        case rel =>
          refine ⟨0 + 1, by omega, by go_num, ?_⟩
          rw [HV.out, ← HOR.out]
        case measure => simp [intOf]; omega
      · have hor := u64_or_add v y 1 (by omega) v0 v1 q0 q1
        rw [show ((256 ^ 1 : Nat) : Int) = 256 from rfl] at hor hval
        have HV := hide hval
        have HOR := hide hor
        clear hor hval
        go_wp2_with fail
        go_round
        case rel =>
          refine ⟨1 + 1, by omega, by go_num, ?_⟩
          rw [HV.out, ← HOR.out]
        case measure => simp [intOf]; omega
      · have hor := u64_or_add v y 2 (by omega) v0 v1 q0 q1
        rw [show ((256 ^ 2 : Nat) : Int) = 65536 from rfl] at hor hval
        have HV := hide hval
        have HOR := hide hor
        clear hor hval
        go_wp2_with fail
        go_round
        case rel =>
          refine ⟨2 + 1, by omega, by go_num, ?_⟩
          rw [HV.out, ← HOR.out]
        case measure => simp [intOf]; omega
      · have hor := u64_or_add v y 3 (by omega) v0 v1 q0 q1
        rw [show ((256 ^ 3 : Nat) : Int) = 16777216 from rfl] at hor hval
        have HV := hide hval
        have HOR := hide hor
        clear hor hval
        go_wp2_with fail
        go_round
        case rel =>
          refine ⟨3 + 1, by omega, by go_num, ?_⟩
          rw [HV.out, ← HOR.out]
        case measure => simp [intOf]; omega
      · have hor := u64_or_add v y 4 (by omega) v0 v1 q0 q1
        rw [show ((256 ^ 4 : Nat) : Int) = 4294967296 from rfl] at hor hval
        have HV := hide hval
        have HOR := hide hor
        clear hor hval
        go_wp2_with fail
        go_round
        case rel =>
          refine ⟨4 + 1, by omega, by go_num, ?_⟩
          rw [HV.out, ← HOR.out]
        case measure => simp [intOf]; omega
      · have hor := u64_or_add v y 5 (by omega) v0 v1 q0 q1
        rw [show ((256 ^ 5 : Nat) : Int) = 1099511627776 from rfl] at hor hval
        have HV := hide hval
        have HOR := hide hor
        clear hor hval
        go_wp2_with fail
        go_round
        case rel =>
          refine ⟨5 + 1, by omega, by go_num, ?_⟩
          rw [HV.out, ← HOR.out]
        case measure => simp [intOf]; omega
      · have hor := u64_or_add v y 6 (by omega) v0 v1 q0 q1
        rw [show ((256 ^ 6 : Nat) : Int) = 281474976710656 from rfl] at hor hval
        have HV := hide hval
        have HOR := hide hor
        clear hor hval
        go_wp2_with fail
        go_round
        case rel =>
          refine ⟨6 + 1, by omega, by go_num, ?_⟩
          rw [HV.out, ← HOR.out]
        case measure => simp [intOf]; omega
      · have hor := u64_or_add v y 7 (by omega) v0 v1 q0 q1
        rw [show ((256 ^ 7 : Nat) : Int) = 72057594037927936 from rfl] at hor hval
        have HV := hide hval
        have HOR := hide hor
        clear hor hval
        go_wp2_with fail
        go_round
        case rel =>
          refine ⟨7 + 1, by omega, by go_num, ?_⟩
          rw [HV.out, ← HOR.out]
        case measure => simp [intOf]; omega
    · obtain rfl : k = n := by omega
      have hlt' : ¬ ((k : Int) < (k : Int)) := by omega
      go_wp2
      go_ret
      exact ⟨rfl, rfl⟩

/-- A string's byte. -/
def bt (s : ByteArray) (j : Nat) : Int := if h : j < s.size then ((s[j]'h).toNat : Int) else 0
theorem bt_bd (s : ByteArray) (j : Nat) : 0 ≤ bt s j ∧ bt s j ≤ 255 := by
  unfold bt
  split
  · rename_i h
    have := (s[j]'h).toNat_lt
    omega
  · omega
theorem bt_at (s : ByteArray) {j : Nat} (h : j < s.size) : bt s j = ((s[j]'h).toNat : Int) := by simp [bt, h]
def upv (q : Nat → Int) : Nat → Nat → Int
  | _, 0 => 0
  | k, m + 1 => q k + 256 * upv q (k + 1) m
theorem upv_val (q : Nat → Int) : ∀ m k, upv q k m * (256 ^ k : Nat) + val q k = val q (k + m)
  | 0, k => by simp [upv]
  | m + 1, k => by
    have h := upv_val q m (k + 1)
    have e : val q (k + 1) = val q k + q k * (256 ^ k : Nat) := rfl
    rw [show k + (m + 1) = k + 1 + m by omega, ← h, e]
    simp only [upv]
    have hp : ((256 ^ (k + 1) : Nat) : Int) = 256 * (256 ^ k : Nat) := by rw [Nat.pow_succ]; simp [Int.mul_comm]
    rw [hp]
    generalize ((256 ^ k : Nat) : Int) = P
    rw [Int.add_mul, Int.mul_assoc 256 _ P, Int.mul_left_comm 256 _ P]
    omega
theorem upv_zero (q : Nat → Int) (n : Nat) : upv q 0 n = val q n := by
  have h := upv_val q n 0
  simp [val] at h
  exact h
theorem upv_bd {q : Nat → Int} (h : ∀ j, 0 ≤ q j ∧ q j ≤ 255) : ∀ m k, 0 ≤ upv q k m ∧ upv q k m ≤ (256 ^ m : Nat) - 1
  | 0, k => by simp [upv]
  | m + 1, k => by
    obtain ⟨h1, h2⟩ := upv_bd h m (k + 1)
    obtain ⟨h3, h4⟩ := h k
    simp only [upv]
    rw [Nat.pow_succ]
    omega
theorem valueR_any (s : ByteArray) (hs : s.size ≤ 8) (w : World) :
    Calls Try.prog 21 #[.string s] w fun e w' => e = .returned (.int .u64 (val (bt s) s.size)) ∧ w = w' := by
  have HB := hide (bt_bd s)
  go_enter Try.func21, Try.ntmps21
  go_wp2_with fail
  go_loop [3, 4] (fun x i => ∃ k m : Nat, k + m = s.size ∧ i = .int .i64 ((k : Int) - 1) ∧ x = .int .u64 (upv (bt s) k m)) (fun _ i => ((intOf i) + 1).toNat)
  case atStart => exact ⟨s.size, 0, by omega, rfl, rfl⟩
  case round =>
    obtain ⟨k, m, hk, rfl, rfl⟩ := hrel
    rcases Nat.eq_zero_or_pos k with hz | hz
    · subst hz
      obtain rfl : m = s.size := by omega
      have HU := hide (upv_zero (bt s) s.size)
      clear hk
      go_wp2
      go_ret
      rw [HU.out]
      exact ⟨rfl, rfl⟩
    · obtain ⟨k, rfl⟩ : ∃ k', k = k' + 1 := ⟨k - 1, by omega⟩
      have e1 : ((k + 1 : Nat) : Int) - 1 = (k : Int) := by omega
      rw [e1]
      clear e1
      obtain ⟨u0, u1⟩ := upv_bd HB.out m (k + 1)
      have hm7 : 256 ^ m ≤ 256 ^ 7 := Nat.pow_le_pow_right (by omega) (by omega)
      have u2 : upv (bt s) (k + 1) m ≤ 72057594037927935 := by omega
      have hks : k < s.size := by omega
      have hb := bt_at s hks
      have HU : Hid (upv (bt s) k (m + 1) = bt s k + 256 * upv (bt s) (k + 1) m) := hide rfl
      rw [hb] at HU
      clear hb u1 hm7
      generalize upv (bt s) (k + 1) m = x at *
      have hby := (s[k]'hks).toNat_lt
      go_wp2
      go_round
      case rel =>
        refine ⟨k, m + 1, by omega, rfl, ?_⟩
        rw [HU.out]
        go_num
      case measure => simp [intOf]
end Go.Proofs.Ytnjojcikahiieaa.NVal
