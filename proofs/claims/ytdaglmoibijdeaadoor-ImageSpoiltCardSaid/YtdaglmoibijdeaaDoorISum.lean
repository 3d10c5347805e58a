/-
  The sum of bytes, of the program and of the document.
-/
import Derived.Test.YtdaglmoibijdeaaDoorIVal
namespace Go.Proofs.YtdaglmoibijdeaaDoor.ISum
open Go.RowKit Base Words INum IVal
set_option linter.unusedVariables false
set_option linter.unusedSimpArgs false

def sumF (q : Nat → Int) : Nat → Int
  | 0 => 1
  | k + 1 => (31 * sumF q k + q k) % 4294967296
theorem sumF_bd (q : Nat → Int) : ∀ k, 0 ≤ sumF q k ∧ sumF q k ≤ 4294967295
  | 0 => by simp [sumF]
  | k + 1 => by simp only [sumF]; omega
theorem sumF_congr {p q : Nat → Int} : ∀ n, (∀ j, j < n → p j = q j) → sumF p n = sumF q n
  | 0, _ => rfl
  | n + 1, h => by simp only [sumF]; rw [sumF_congr n (fun j hj => h j (by omega)), h n (by omega)]
theorem sum_step (v b : Int) (v0 : 0 ≤ v) (b0 : 0 ≤ b) : (v * 31 % 4294967296 + b) % 4294967296 = (31 * v + b) % 4294967296 := by omega
theorem Sum_any (s : ByteArray) (hs : s.size ≤ maxLen) (w : World) :
    Calls Tryd.prog 11 #[.string s] w fun e w' => e = .returned (.int .u32 (sumF (bt s) s.size)) ∧ w = w' := by
  unfold maxLen at hs
  go_enter Tryd.func11, Tryd.ntmps11
  go_wp2_with fail
  go_loop [3, 7] (fun x i => ∃ k : Nat, k ≤ s.size ∧ i = .int .i64 k ∧ x = .int .u32 (sumF (bt s) k)) (fun _ i => s.size - (intOf i).toNat)
  case atStart => exact ⟨0, by omega, rfl, rfl⟩
  case round =>
    obtain ⟨k, hk, rfl, rfl⟩ := hrel
    by_cases hlt : k < s.size
    · have hb := bt_at s hlt
      obtain ⟨q0, q1⟩ := bt_bd s k
      obtain ⟨v0, v1⟩ := sumF_bd (bt s) k
      have hlt' : (k : Int) < (s.size : Int) := by omega
      have hval : sumF (bt s) (k + 1) = (31 * sumF (bt s) k + bt s k) % 4294967296 := rfl
      rw [hb] at hval q0 q1
      clear hb
      generalize sumF (bt s) k = v at *
      have HST := hide (sum_step v ((s[k]'hlt).toNat : Int) v0 q0)
      have HV := hide hval
      clear hval
      go_wp2_with fail
      go_round
      case rel => exact ⟨k + 1, by omega, by go_num, by rw [HV.out, ← HST.out]⟩
      case measure => simp [intOf]; omega
    · obtain rfl : k = s.size := by omega
      have hlt' : ¬ ((s.size : Int) < (s.size : Int)) := by omega
      go_wp2
      go_ret
      exact ⟨rfl, rfl⟩
theorem SumR_any (s : ByteArray) (hs : s.size ≤ maxLen) (w : World) :
    Calls Tryd.prog 13 #[.string s] w fun e w' => e = .returned (.int .u32 (sumF (bt s) s.size)) ∧ w = w' := by
  unfold maxLen at hs
  go_enter Tryd.func13, Tryd.ntmps13
  go_wp2_with fail
  go_loop [3, 4] (fun x i => ∃ k : Nat, k ≤ s.size ∧ i = .int .i64 k ∧ x = .int .u64 (sumF (bt s) k)) (fun _ i => s.size - (intOf i).toNat)
  case atStart => exact ⟨0, by omega, rfl, rfl⟩
  case round =>
    obtain ⟨k, hk, rfl, rfl⟩ := hrel
    obtain ⟨v0, v1⟩ := sumF_bd (bt s) k
    by_cases hlt : k < s.size
    · have hb := bt_at s hlt
      obtain ⟨q0, q1⟩ := bt_bd s k
      have hlt' : (k : Int) < (s.size : Int) := by omega
      have hval : sumF (bt s) (k + 1) = (31 * sumF (bt s) k + bt s k) % 4294967296 := rfl
      rw [hb] at hval q0 q1
      clear hb
      generalize sumF (bt s) k = v at *
      have HV := hide hval
      clear hval
      go_wp2_with fail
      go_round
      case rel => exact ⟨k + 1, by omega, by go_num, by rw [HV.out]⟩
      case measure => simp [intOf]; omega
    · obtain rfl : k = s.size := by omega
      have hlt' : ¬ ((s.size : Int) < (s.size : Int)) := by omega
      generalize hv : sumF (bt s) s.size = v at *
      have HV := hide hv
      clear hv
      go_wp2
      go_ret
      rw [HV.out]
      exact ⟨rfl, rfl⟩
end Go.Proofs.YtdaglmoibijdeaaDoor.ISum
