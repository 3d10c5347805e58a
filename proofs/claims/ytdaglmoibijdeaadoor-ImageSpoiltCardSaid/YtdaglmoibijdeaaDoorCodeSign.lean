/-
  bits and signed of the layer 'code' walked.
-/
import Derived.Test.YtdaglmoibijdeaaDoorCodeBits
namespace Go.Proofs.YtdaglmoibijdeaaDoor.CodeSign
open Go.RowKit Base CodePlain CodeBits
set_option linter.unusedVariables false

theorem bits14 (x : Int) (w : World) : Calls Tryd.prog 24 #[.int .i64 x, .int .i64 14] w fun e w' => e = .returned (.int .u32 (x % 16384)) ∧ w = w' := by
  go_enter Tryd.func24, Tryd.ntmps24
  go_wp2
  go_ret
  exact ⟨ret_w (by rw [PBits.u32_mask (x % 4294967296) 14 16383 (by omega) (by omega) (by omega) (by decide)]; omega), rfl⟩
theorem bits22 (x : Int) (w : World) : Calls Tryd.prog 24 #[.int .i64 x, .int .i64 22] w fun e w' => e = .returned (.int .u32 (x % 4194304)) ∧ w = w' := by
  go_enter Tryd.func24, Tryd.ntmps24
  go_wp2
  go_ret
  exact ⟨ret_w (by rw [PBits.u32_mask (x % 4294967296) 22 4194303 (by omega) (by omega) (by omega) (by decide)]; omega), rfl⟩
theorem signed14 (x : Int) (h0 : 0 ≤ x) (h1 : x < 4294967296) (w : World) : Calls Tryd.prog 23 #[.int .u32 x, .int .i64 14] w fun e w' => e = .returned (.int .i64 (sgn (x % 16384) 8192)) ∧ w = w' := by
  have HX : Hid (sgn (x % 16384) 8192 = if 8192 ≤ x % 16384 then x % 16384 - 2 * 8192 else x % 16384) := hide rfl
  have hb : 0 ≤ x % 16384 ∧ x % 16384 < 16384 := by omega
  obtain ⟨b0, b1⟩ := hb
  by_cases h : 8192 ≤ x % 16384
  · go_enter Tryd.func23, Tryd.ntmps23
    go_wp2_with fail
    refine (bits14 x _).mono ?_
    rintro e w' ⟨rfl, rfl⟩
    go_wp2
    go_ret
    exact ⟨ret_i (by rw [HX.out, if_pos h]; omega), rfl⟩
  · go_enter Tryd.func23, Tryd.ntmps23
    go_wp2_with fail
    refine (bits14 x _).mono ?_
    rintro e w' ⟨rfl, rfl⟩
    go_wp2
    go_ret
    exact ⟨ret_i (by rw [HX.out, if_neg (by omega)]), rfl⟩
theorem signed22 (x : Int) (h0 : 0 ≤ x) (h1 : x < 4294967296) (w : World) : Calls Tryd.prog 23 #[.int .u32 x, .int .i64 22] w fun e w' => e = .returned (.int .i64 (sgn (x % 4194304) 2097152)) ∧ w = w' := by
  have HX : Hid (sgn (x % 4194304) 2097152 = if 2097152 ≤ x % 4194304 then x % 4194304 - 2 * 2097152 else x % 4194304) := hide rfl
  have hb : 0 ≤ x % 4194304 ∧ x % 4194304 < 4194304 := by omega
  obtain ⟨b0, b1⟩ := hb
  by_cases h : 2097152 ≤ x % 4194304
  · go_enter Tryd.func23, Tryd.ntmps23
    go_wp2_with fail
    refine (bits22 x _).mono ?_
    rintro e w' ⟨rfl, rfl⟩
    go_wp2
    go_ret
    exact ⟨ret_i (by rw [HX.out, if_pos h]; omega), rfl⟩
  · go_enter Tryd.func23, Tryd.ntmps23
    go_wp2_with fail
    refine (bits22 x _).mono ?_
    rintro e w' ⟨rfl, rfl⟩
    go_wp2
    go_ret
    exact ⟨ret_i (by rw [HX.out, if_neg (by omega)]), rfl⟩
end Go.Proofs.YtdaglmoibijdeaaDoor.CodeSign
