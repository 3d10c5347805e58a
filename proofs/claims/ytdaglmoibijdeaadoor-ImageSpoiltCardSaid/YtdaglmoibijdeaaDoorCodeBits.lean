/-
  The small functions of the layer 'code' walked: reg, within, bits, signed, of the program; reg and form of the reference.
-/
import Derived.Test.YtdaglmoibijdeaaDoorProg
import Derived.Test.YtdaglmoibijdeaaDoorBase
import Derived.Test.YtdaglmoibijdeaaDoorCodePlain
import Derived.Test.YtdaglmoibijdeaaDoorPBits
import Derived.IntWalk
namespace Go.Proofs.YtdaglmoibijdeaaDoor.CodeBits
open Go.RowKit Base CodePlain
set_option linter.unusedVariables false

theorem reg_any (x : Int) (w : World) : Calls Tryd.prog 33 #[.int .i64 x] w fun e w' => e = .returned (.bool (regB x)) ∧ w = w' := by
  by_cases h0 : 0 ≤ x
  · by_cases h1 : x < 16
    · have hr : regB x = true := regB_iff.2 ⟨h0, h1⟩
      rw [hr]
      clear hr
      go_enter Tryd.func33, Tryd.ntmps33
      go_wp2
      go_ret
      exact ⟨rfl, rfl⟩
    · have hr : regB x = false := by rw [Bool.eq_false_iff, ne_eq, regB_iff]; omega
      rw [hr]
      clear hr
      go_enter Tryd.func33, Tryd.ntmps33
      go_wp2
      go_ret
      exact ⟨rfl, rfl⟩
  · have hr : regB x = false := by rw [Bool.eq_false_iff, ne_eq, regB_iff]; omega
    have h2 : decide (0 ≤ x) = false := by simpa using h0
    rw [hr]
    clear hr
    go_enter Tryd.func33, Tryd.ntmps33
    go_wp2
    go_ret
    exact ⟨rfl, rfl⟩
theorem regR_any (x : Int) (w : World) : Calls Tryd.prog 31 #[.int .i64 x] w fun e w' => e = .returned (.bool (regB x)) ∧ w = w' := by
  by_cases h0 : 0 ≤ x
  · by_cases h1 : x ≤ 15
    · have hr : regB x = true := regB_iff.2 ⟨h0, by omega⟩
      rw [hr]
      clear hr
      go_enter Tryd.func31, Tryd.ntmps31
      go_wp2
      go_ret
      exact ⟨rfl, rfl⟩
    · have hr : regB x = false := by rw [Bool.eq_false_iff, ne_eq, regB_iff]; omega
      rw [hr]
      clear hr
      go_enter Tryd.func31, Tryd.ntmps31
      go_wp2
      go_ret
      exact ⟨rfl, rfl⟩
  · have hr : regB x = false := by rw [Bool.eq_false_iff, ne_eq, regB_iff]; omega
    have h2 : decide (0 ≤ x) = false := by simpa using h0
    rw [hr]
    clear hr
    go_enter Tryd.func31, Tryd.ntmps31
    go_wp2
    go_ret
    exact ⟨rfl, rfl⟩
theorem ret_b {a b : Bool} (h : a = b) : Ending.returned (.bool a) = .returned (.bool b) := by rw [h]
theorem within14 (x : Int) (w : World) : Calls Tryd.prog 34 #[.int .i64 x, .int .i64 14] w fun e w' => e = .returned (.bool (inB x 8192)) ∧ w = w' := by
  by_cases h0 : -8192 ≤ x
  · have HR := hide (show decide (x < 8192) = inB x 8192 by rw [Bool.eq_iff_iff]; simp [inB]; omega)
    go_enter Tryd.func34, Tryd.ntmps34
    go_wp2
    go_ret
    exact ⟨ret_b HR.out, rfl⟩
  · have hr : inB x 8192 = false := by rw [Bool.eq_false_iff, ne_eq, inB_iff]; omega
    have h2 : decide (-8192 ≤ x) = false := by simpa using h0
    rw [hr]
    clear hr
    go_enter Tryd.func34, Tryd.ntmps34
    go_wp2
    go_ret
    exact ⟨rfl, rfl⟩
theorem within22 (x : Int) (w : World) : Calls Tryd.prog 34 #[.int .i64 x, .int .i64 22] w fun e w' => e = .returned (.bool (inB x 2097152)) ∧ w = w' := by
  by_cases h0 : -2097152 ≤ x
  · have HR := hide (show decide (x < 2097152) = inB x 2097152 by rw [Bool.eq_iff_iff]; simp [inB]; omega)
    go_enter Tryd.func34, Tryd.ntmps34
    go_wp2
    go_ret
    exact ⟨ret_b HR.out, rfl⟩
  · have hr : inB x 2097152 = false := by rw [Bool.eq_false_iff, ne_eq, inB_iff]; omega
    have h2 : decide (-2097152 ≤ x) = false := by simpa using h0
    rw [hr]
    clear hr
    go_enter Tryd.func34, Tryd.ntmps34
    go_wp2
    go_ret
    exact ⟨rfl, rfl⟩
theorem ret_w {a b : Int} (h : a = b) : Ending.returned (.int .u32 a) = .returned (.int .u32 b) := by rw [h]
theorem ret_i {a b : Int} (h : a = b) : Ending.returned (.int .i64 a) = .returned (.int .i64 b) := by rw [h]
theorem form_any (k : Nat) (hk : k ≤ 255) (w : World) : Calls Tryd.prog 27 #[.int .u8 (k : Int)] w fun e w' => e = .returned (.int .i64 (formN k)) ∧ w = w' := by
  by_cases h : k < 22
  · have : k = 0 ∨ k = 1 ∨ k = 2 ∨ k = 3 ∨ k = 4 ∨ k = 5 ∨ k = 6 ∨ k = 7 ∨ k = 8 ∨ k = 9 ∨ k = 10 ∨ k = 11 ∨ k = 12 ∨ k = 13 ∨ k = 14 ∨ k = 15 ∨ k = 16 ∨ k = 17 ∨ k = 18 ∨ k = 19 ∨ k = 20 ∨ k = 21 := by omega
    rcases this with h | h | h | h | h | h | h | h | h | h | h | h | h | h | h | h | h | h | h | h | h | h <;> subst h
    all_goals
      go_enter Tryd.func27, Tryd.ntmps27
      go_wp2
      go_ret
      exact ⟨rfl, rfl⟩
  · rw [formN_none (by omega)]
    have e0 : ((k : Int) == 0) = false := by rw [beq_eq_false_iff_ne]; omega
    have e8 : ((k : Int) == 8) = false := by rw [beq_eq_false_iff_ne]; omega
    have e9 : ((k : Int) == 9) = false := by rw [beq_eq_false_iff_ne]; omega
    have e10 : ((k : Int) == 10) = false := by rw [beq_eq_false_iff_ne]; omega
    have e12 : ((k : Int) == 12) = false := by rw [beq_eq_false_iff_ne]; omega
    have e13 : ((k : Int) == 13) = false := by rw [beq_eq_false_iff_ne]; omega
    have e14 : ((k : Int) == 14) = false := by rw [beq_eq_false_iff_ne]; omega
    have e15 : ((k : Int) == 15) = false := by rw [beq_eq_false_iff_ne]; omega
    have e16 : ((k : Int) == 16) = false := by rw [beq_eq_false_iff_ne]; omega
    have e17 : ((k : Int) == 17) = false := by rw [beq_eq_false_iff_ne]; omega
    have e18 : ((k : Int) == 18) = false := by rw [beq_eq_false_iff_ne]; omega
    have e19 : ((k : Int) == 19) = false := by rw [beq_eq_false_iff_ne]; omega
    have e20 : ((k : Int) == 20) = false := by rw [beq_eq_false_iff_ne]; omega
    have e21 : ((k : Int) == 21) = false := by rw [beq_eq_false_iff_ne]; omega
    clear h
    go_enter Tryd.func27, Tryd.ntmps27
    go_wp2
    go_ret
    exact ⟨rfl, rfl⟩
end Go.Proofs.YtdaglmoibijdeaaDoor.CodeBits
