/-
  'of' of the layer 'step' walked: the function of two words that an instruction is, or none.
-/
import Derived.Test.YticlojpdcdkdgaaDoorRegs
namespace Go.Proofs.YticlojpdcdkdgaaDoor.Of
open Go.RowKit Base Blks
set_option linter.unusedVariables false

theorem of_0 (w : World) : Calls Tryd.prog 18 #[.int .u8 0] w fun e w' => e = .returned (.nilFunc) ∧ w = w' := by
  have i0 : ∀ w, (Instr.index 43 (.agg #[.nilFunc, .func (.func 22) #[] #[], .func (.func 23) #[] #[], .func (.func 24) #[] #[], .func (.func 25) #[] #[], .func (.func 26) #[] #[], .func (.func 27) #[] #[], .func (.func 28) #[] #[], .nilFunc, .nilFunc, .nilFunc, .nilFunc, .nilFunc, .nilFunc, .nilFunc, .nilFunc, .nilFunc, .nilFunc, .nilFunc, .nilFunc, .nilFunc, .nilFunc]) (.int .u8 0)).run Tryd.prog w = .ok (.nilFunc) w := fun _ => by as_aux_lemma => kernel_rfl
  go_enter Tryd.func18, Tryd.ntmps18
  go_wp2
  go_ret
  exact ⟨rfl, rfl⟩
theorem of_1 (w : World) : Calls Tryd.prog 18 #[.int .u8 1] w fun e w' => e = .returned (.func (.func 22) #[] #[]) ∧ w = w' := by
  have i0 : ∀ w, (Instr.index 43 (.agg #[.nilFunc, .func (.func 22) #[] #[], .func (.func 23) #[] #[], .func (.func 24) #[] #[], .func (.func 25) #[] #[], .func (.func 26) #[] #[], .func (.func 27) #[] #[], .func (.func 28) #[] #[], .nilFunc, .nilFunc, .nilFunc, .nilFunc, .nilFunc, .nilFunc, .nilFunc, .nilFunc, .nilFunc, .nilFunc, .nilFunc, .nilFunc, .nilFunc, .nilFunc]) (.int .u8 1)).run Tryd.prog w = .ok (.func (.func 22) #[] #[]) w := fun _ => by as_aux_lemma => kernel_rfl
  go_enter Tryd.func18, Tryd.ntmps18
  go_wp2
  go_ret
  exact ⟨rfl, rfl⟩
theorem of_2 (w : World) : Calls Tryd.prog 18 #[.int .u8 2] w fun e w' => e = .returned (.func (.func 23) #[] #[]) ∧ w = w' := by
  have i0 : ∀ w, (Instr.index 43 (.agg #[.nilFunc, .func (.func 22) #[] #[], .func (.func 23) #[] #[], .func (.func 24) #[] #[], .func (.func 25) #[] #[], .func (.func 26) #[] #[], .func (.func 27) #[] #[], .func (.func 28) #[] #[], .nilFunc, .nilFunc, .nilFunc, .nilFunc, .nilFunc, .nilFunc, .nilFunc, .nilFunc, .nilFunc, .nilFunc, .nilFunc, .nilFunc, .nilFunc, .nilFunc]) (.int .u8 2)).run Tryd.prog w = .ok (.func (.func 23) #[] #[]) w := fun _ => by as_aux_lemma => kernel_rfl
  go_enter Tryd.func18, Tryd.ntmps18
  go_wp2
  go_ret
  exact ⟨rfl, rfl⟩
theorem of_3 (w : World) : Calls Tryd.prog 18 #[.int .u8 3] w fun e w' => e = .returned (.func (.func 24) #[] #[]) ∧ w = w' := by
  have i0 : ∀ w, (Instr.index 43 (.agg #[.nilFunc, .func (.func 22) #[] #[], .func (.func 23) #[] #[], .func (.func 24) #[] #[], .func (.func 25) #[] #[], .func (.func 26) #[] #[], .func (.func 27) #[] #[], .func (.func 28) #[] #[], .nilFunc, .nilFunc, .nilFunc, .nilFunc, .nilFunc, .nilFunc, .nilFunc, .nilFunc, .nilFunc, .nilFunc, .nilFunc, .nilFunc, .nilFunc, .nilFunc]) (.int .u8 3)).run Tryd.prog w = .ok (.func (.func 24) #[] #[]) w := fun _ => by as_aux_lemma => kernel_rfl
  go_enter Tryd.func18, Tryd.ntmps18
  go_wp2
  go_ret
  exact ⟨rfl, rfl⟩
theorem of_4 (w : World) : Calls Tryd.prog 18 #[.int .u8 4] w fun e w' => e = .returned (.func (.func 25) #[] #[]) ∧ w = w' := by
  have i0 : ∀ w, (Instr.index 43 (.agg #[.nilFunc, .func (.func 22) #[] #[], .func (.func 23) #[] #[], .func (.func 24) #[] #[], .func (.func 25) #[] #[], .func (.func 26) #[] #[], .func (.func 27) #[] #[], .func (.func 28) #[] #[], .nilFunc, .nilFunc, .nilFunc, .nilFunc, .nilFunc, .nilFunc, .nilFunc, .nilFunc, .nilFunc, .nilFunc, .nilFunc, .nilFunc, .nilFunc, .nilFunc]) (.int .u8 4)).run Tryd.prog w = .ok (.func (.func 25) #[] #[]) w := fun _ => by as_aux_lemma => kernel_rfl
  go_enter Tryd.func18, Tryd.ntmps18
  go_wp2
  go_ret
  exact ⟨rfl, rfl⟩
theorem of_5 (w : World) : Calls Tryd.prog 18 #[.int .u8 5] w fun e w' => e = .returned (.func (.func 26) #[] #[]) ∧ w = w' := by
  have i0 : ∀ w, (Instr.index 43 (.agg #[.nilFunc, .func (.func 22) #[] #[], .func (.func 23) #[] #[], .func (.func 24) #[] #[], .func (.func 25) #[] #[], .func (.func 26) #[] #[], .func (.func 27) #[] #[], .func (.func 28) #[] #[], .nilFunc, .nilFunc, .nilFunc, .nilFunc, .nilFunc, .nilFunc, .nilFunc, .nilFunc, .nilFunc, .nilFunc, .nilFunc, .nilFunc, .nilFunc, .nilFunc]) (.int .u8 5)).run Tryd.prog w = .ok (.func (.func 26) #[] #[]) w := fun _ => by as_aux_lemma => kernel_rfl
  go_enter Tryd.func18, Tryd.ntmps18
  go_wp2
  go_ret
  exact ⟨rfl, rfl⟩
theorem of_6 (w : World) : Calls Tryd.prog 18 #[.int .u8 6] w fun e w' => e = .returned (.func (.func 27) #[] #[]) ∧ w = w' := by
  have i0 : ∀ w, (Instr.index 43 (.agg #[.nilFunc, .func (.func 22) #[] #[], .func (.func 23) #[] #[], .func (.func 24) #[] #[], .func (.func 25) #[] #[], .func (.func 26) #[] #[], .func (.func 27) #[] #[], .func (.func 28) #[] #[], .nilFunc, .nilFunc, .nilFunc, .nilFunc, .nilFunc, .nilFunc, .nilFunc, .nilFunc, .nilFunc, .nilFunc, .nilFunc, .nilFunc, .nilFunc, .nilFunc]) (.int .u8 6)).run Tryd.prog w = .ok (.func (.func 27) #[] #[]) w := fun _ => by as_aux_lemma => kernel_rfl
  go_enter Tryd.func18, Tryd.ntmps18
  go_wp2
  go_ret
  exact ⟨rfl, rfl⟩
theorem of_7 (w : World) : Calls Tryd.prog 18 #[.int .u8 7] w fun e w' => e = .returned (.func (.func 28) #[] #[]) ∧ w = w' := by
  have i0 : ∀ w, (Instr.index 43 (.agg #[.nilFunc, .func (.func 22) #[] #[], .func (.func 23) #[] #[], .func (.func 24) #[] #[], .func (.func 25) #[] #[], .func (.func 26) #[] #[], .func (.func 27) #[] #[], .func (.func 28) #[] #[], .nilFunc, .nilFunc, .nilFunc, .nilFunc, .nilFunc, .nilFunc, .nilFunc, .nilFunc, .nilFunc, .nilFunc, .nilFunc, .nilFunc, .nilFunc, .nilFunc]) (.int .u8 7)).run Tryd.prog w = .ok (.func (.func 28) #[] #[]) w := fun _ => by as_aux_lemma => kernel_rfl
  go_enter Tryd.func18, Tryd.ntmps18
  go_wp2
  go_ret
  exact ⟨rfl, rfl⟩
theorem of_8 (w : World) : Calls Tryd.prog 18 #[.int .u8 8] w fun e w' => e = .returned (.nilFunc) ∧ w = w' := by
  have i0 : ∀ w, (Instr.index 43 (.agg #[.nilFunc, .func (.func 22) #[] #[], .func (.func 23) #[] #[], .func (.func 24) #[] #[], .func (.func 25) #[] #[], .func (.func 26) #[] #[], .func (.func 27) #[] #[], .func (.func 28) #[] #[], .nilFunc, .nilFunc, .nilFunc, .nilFunc, .nilFunc, .nilFunc, .nilFunc, .nilFunc, .nilFunc, .nilFunc, .nilFunc, .nilFunc, .nilFunc, .nilFunc]) (.int .u8 8)).run Tryd.prog w = .ok (.nilFunc) w := fun _ => by as_aux_lemma => kernel_rfl
  go_enter Tryd.func18, Tryd.ntmps18
  go_wp2
  go_ret
  exact ⟨rfl, rfl⟩
theorem of_9 (w : World) : Calls Tryd.prog 18 #[.int .u8 9] w fun e w' => e = .returned (.nilFunc) ∧ w = w' := by
  have i0 : ∀ w, (Instr.index 43 (.agg #[.nilFunc, .func (.func 22) #[] #[], .func (.func 23) #[] #[], .func (.func 24) #[] #[], .func (.func 25) #[] #[], .func (.func 26) #[] #[], .func (.func 27) #[] #[], .func (.func 28) #[] #[], .nilFunc, .nilFunc, .nilFunc, .nilFunc, .nilFunc, .nilFunc, .nilFunc, .nilFunc, .nilFunc, .nilFunc, .nilFunc, .nilFunc, .nilFunc, .nilFunc]) (.int .u8 9)).run Tryd.prog w = .ok (.nilFunc) w := fun _ => by as_aux_lemma => kernel_rfl
  go_enter Tryd.func18, Tryd.ntmps18
  go_wp2
  go_ret
  exact ⟨rfl, rfl⟩
theorem of_10 (w : World) : Calls Tryd.prog 18 #[.int .u8 10] w fun e w' => e = .returned (.nilFunc) ∧ w = w' := by
  have i0 : ∀ w, (Instr.index 43 (.agg #[.nilFunc, .func (.func 22) #[] #[], .func (.func 23) #[] #[], .func (.func 24) #[] #[], .func (.func 25) #[] #[], .func (.func 26) #[] #[], .func (.func 27) #[] #[], .func (.func 28) #[] #[], .nilFunc, .nilFunc, .nilFunc, .nilFunc, .nilFunc, .nilFunc, .nilFunc, .nilFunc, .nilFunc, .nilFunc, .nilFunc, .nilFunc, .nilFunc, .nilFunc]) (.int .u8 10)).run Tryd.prog w = .ok (.nilFunc) w := fun _ => by as_aux_lemma => kernel_rfl
  go_enter Tryd.func18, Tryd.ntmps18
  go_wp2
  go_ret
  exact ⟨rfl, rfl⟩
theorem of_11 (w : World) : Calls Tryd.prog 18 #[.int .u8 11] w fun e w' => e = .returned (.nilFunc) ∧ w = w' := by
  have i0 : ∀ w, (Instr.index 43 (.agg #[.nilFunc, .func (.func 22) #[] #[], .func (.func 23) #[] #[], .func (.func 24) #[] #[], .func (.func 25) #[] #[], .func (.func 26) #[] #[], .func (.func 27) #[] #[], .func (.func 28) #[] #[], .nilFunc, .nilFunc, .nilFunc, .nilFunc, .nilFunc, .nilFunc, .nilFunc, .nilFunc, .nilFunc, .nilFunc, .nilFunc, .nilFunc, .nilFunc, .nilFunc]) (.int .u8 11)).run Tryd.prog w = .ok (.nilFunc) w := fun _ => by as_aux_lemma => kernel_rfl
  go_enter Tryd.func18, Tryd.ntmps18
  go_wp2
  go_ret
  exact ⟨rfl, rfl⟩
theorem of_12 (w : World) : Calls Tryd.prog 18 #[.int .u8 12] w fun e w' => e = .returned (.nilFunc) ∧ w = w' := by
  have i0 : ∀ w, (Instr.index 43 (.agg #[.nilFunc, .func (.func 22) #[] #[], .func (.func 23) #[] #[], .func (.func 24) #[] #[], .func (.func 25) #[] #[], .func (.func 26) #[] #[], .func (.func 27) #[] #[], .func (.func 28) #[] #[], .nilFunc, .nilFunc, .nilFunc, .nilFunc, .nilFunc, .nilFunc, .nilFunc, .nilFunc, .nilFunc, .nilFunc, .nilFunc, .nilFunc, .nilFunc, .nilFunc]) (.int .u8 12)).run Tryd.prog w = .ok (.nilFunc) w := fun _ => by as_aux_lemma => kernel_rfl
  go_enter Tryd.func18, Tryd.ntmps18
  go_wp2
  go_ret
  exact ⟨rfl, rfl⟩
theorem of_13 (w : World) : Calls Tryd.prog 18 #[.int .u8 13] w fun e w' => e = .returned (.nilFunc) ∧ w = w' := by
  have i0 : ∀ w, (Instr.index 43 (.agg #[.nilFunc, .func (.func 22) #[] #[], .func (.func 23) #[] #[], .func (.func 24) #[] #[], .func (.func 25) #[] #[], .func (.func 26) #[] #[], .func (.func 27) #[] #[], .func (.func 28) #[] #[], .nilFunc, .nilFunc, .nilFunc, .nilFunc, .nilFunc, .nilFunc, .nilFunc, .nilFunc, .nilFunc, .nilFunc, .nilFunc, .nilFunc, .nilFunc, .nilFunc]) (.int .u8 13)).run Tryd.prog w = .ok (.nilFunc) w := fun _ => by as_aux_lemma => kernel_rfl
  go_enter Tryd.func18, Tryd.ntmps18
  go_wp2
  go_ret
  exact ⟨rfl, rfl⟩
theorem of_14 (w : World) : Calls Tryd.prog 18 #[.int .u8 14] w fun e w' => e = .returned (.nilFunc) ∧ w = w' := by
  have i0 : ∀ w, (Instr.index 43 (.agg #[.nilFunc, .func (.func 22) #[] #[], .func (.func 23) #[] #[], .func (.func 24) #[] #[], .func (.func 25) #[] #[], .func (.func 26) #[] #[], .func (.func 27) #[] #[], .func (.func 28) #[] #[], .nilFunc, .nilFunc, .nilFunc, .nilFunc, .nilFunc, .nilFunc, .nilFunc, .nilFunc, .nilFunc, .nilFunc, .nilFunc, .nilFunc, .nilFunc, .nilFunc]) (.int .u8 14)).run Tryd.prog w = .ok (.nilFunc) w := fun _ => by as_aux_lemma => kernel_rfl
  go_enter Tryd.func18, Tryd.ntmps18
  go_wp2
  go_ret
  exact ⟨rfl, rfl⟩
theorem of_15 (w : World) : Calls Tryd.prog 18 #[.int .u8 15] w fun e w' => e = .returned (.nilFunc) ∧ w = w' := by
  have i0 : ∀ w, (Instr.index 43 (.agg #[.nilFunc, .func (.func 22) #[] #[], .func (.func 23) #[] #[], .func (.func 24) #[] #[], .func (.func 25) #[] #[], .func (.func 26) #[] #[], .func (.func 27) #[] #[], .func (.func 28) #[] #[], .nilFunc, .nilFunc, .nilFunc, .nilFunc, .nilFunc, .nilFunc, .nilFunc, .nilFunc, .nilFunc, .nilFunc, .nilFunc, .nilFunc, .nilFunc, .nilFunc]) (.int .u8 15)).run Tryd.prog w = .ok (.nilFunc) w := fun _ => by as_aux_lemma => kernel_rfl
  go_enter Tryd.func18, Tryd.ntmps18
  go_wp2
  go_ret
  exact ⟨rfl, rfl⟩
theorem of_16 (w : World) : Calls Tryd.prog 18 #[.int .u8 16] w fun e w' => e = .returned (.nilFunc) ∧ w = w' := by
  have i0 : ∀ w, (Instr.index 43 (.agg #[.nilFunc, .func (.func 22) #[] #[], .func (.func 23) #[] #[], .func (.func 24) #[] #[], .func (.func 25) #[] #[], .func (.func 26) #[] #[], .func (.func 27) #[] #[], .func (.func 28) #[] #[], .nilFunc, .nilFunc, .nilFunc, .nilFunc, .nilFunc, .nilFunc, .nilFunc, .nilFunc, .nilFunc, .nilFunc, .nilFunc, .nilFunc, .nilFunc, .nilFunc]) (.int .u8 16)).run Tryd.prog w = .ok (.nilFunc) w := fun _ => by as_aux_lemma => kernel_rfl
  go_enter Tryd.func18, Tryd.ntmps18
  go_wp2
  go_ret
  exact ⟨rfl, rfl⟩
theorem of_17 (w : World) : Calls Tryd.prog 18 #[.int .u8 17] w fun e w' => e = .returned (.nilFunc) ∧ w = w' := by
  have i0 : ∀ w, (Instr.index 43 (.agg #[.nilFunc, .func (.func 22) #[] #[], .func (.func 23) #[] #[], .func (.func 24) #[] #[], .func (.func 25) #[] #[], .func (.func 26) #[] #[], .func (.func 27) #[] #[], .func (.func 28) #[] #[], .nilFunc, .nilFunc, .nilFunc, .nilFunc, .nilFunc, .nilFunc, .nilFunc, .nilFunc, .nilFunc, .nilFunc, .nilFunc, .nilFunc, .nilFunc, .nilFunc]) (.int .u8 17)).run Tryd.prog w = .ok (.nilFunc) w := fun _ => by as_aux_lemma => kernel_rfl
  go_enter Tryd.func18, Tryd.ntmps18
  go_wp2
  go_ret
  exact ⟨rfl, rfl⟩
theorem of_18 (w : World) : Calls Tryd.prog 18 #[.int .u8 18] w fun e w' => e = .returned (.nilFunc) ∧ w = w' := by
  have i0 : ∀ w, (Instr.index 43 (.agg #[.nilFunc, .func (.func 22) #[] #[], .func (.func 23) #[] #[], .func (.func 24) #[] #[], .func (.func 25) #[] #[], .func (.func 26) #[] #[], .func (.func 27) #[] #[], .func (.func 28) #[] #[], .nilFunc, .nilFunc, .nilFunc, .nilFunc, .nilFunc, .nilFunc, .nilFunc, .nilFunc, .nilFunc, .nilFunc, .nilFunc, .nilFunc, .nilFunc, .nilFunc]) (.int .u8 18)).run Tryd.prog w = .ok (.nilFunc) w := fun _ => by as_aux_lemma => kernel_rfl
  go_enter Tryd.func18, Tryd.ntmps18
  go_wp2
  go_ret
  exact ⟨rfl, rfl⟩
theorem of_19 (w : World) : Calls Tryd.prog 18 #[.int .u8 19] w fun e w' => e = .returned (.nilFunc) ∧ w = w' := by
  have i0 : ∀ w, (Instr.index 43 (.agg #[.nilFunc, .func (.func 22) #[] #[], .func (.func 23) #[] #[], .func (.func 24) #[] #[], .func (.func 25) #[] #[], .func (.func 26) #[] #[], .func (.func 27) #[] #[], .func (.func 28) #[] #[], .nilFunc, .nilFunc, .nilFunc, .nilFunc, .nilFunc, .nilFunc, .nilFunc, .nilFunc, .nilFunc, .nilFunc, .nilFunc, .nilFunc, .nilFunc, .nilFunc]) (.int .u8 19)).run Tryd.prog w = .ok (.nilFunc) w := fun _ => by as_aux_lemma => kernel_rfl
  go_enter Tryd.func18, Tryd.ntmps18
  go_wp2
  go_ret
  exact ⟨rfl, rfl⟩
theorem of_20 (w : World) : Calls Tryd.prog 18 #[.int .u8 20] w fun e w' => e = .returned (.nilFunc) ∧ w = w' := by
  have i0 : ∀ w, (Instr.index 43 (.agg #[.nilFunc, .func (.func 22) #[] #[], .func (.func 23) #[] #[], .func (.func 24) #[] #[], .func (.func 25) #[] #[], .func (.func 26) #[] #[], .func (.func 27) #[] #[], .func (.func 28) #[] #[], .nilFunc, .nilFunc, .nilFunc, .nilFunc, .nilFunc, .nilFunc, .nilFunc, .nilFunc, .nilFunc, .nilFunc, .nilFunc, .nilFunc, .nilFunc, .nilFunc]) (.int .u8 20)).run Tryd.prog w = .ok (.nilFunc) w := fun _ => by as_aux_lemma => kernel_rfl
  go_enter Tryd.func18, Tryd.ntmps18
  go_wp2
  go_ret
  exact ⟨rfl, rfl⟩
theorem of_21 (w : World) : Calls Tryd.prog 18 #[.int .u8 21] w fun e w' => e = .returned (.nilFunc) ∧ w = w' := by
  have i0 : ∀ w, (Instr.index 43 (.agg #[.nilFunc, .func (.func 22) #[] #[], .func (.func 23) #[] #[], .func (.func 24) #[] #[], .func (.func 25) #[] #[], .func (.func 26) #[] #[], .func (.func 27) #[] #[], .func (.func 28) #[] #[], .nilFunc, .nilFunc, .nilFunc, .nilFunc, .nilFunc, .nilFunc, .nilFunc, .nilFunc, .nilFunc, .nilFunc, .nilFunc, .nilFunc, .nilFunc, .nilFunc]) (.int .u8 21)).run Tryd.prog w = .ok (.nilFunc) w := fun _ => by as_aux_lemma => kernel_rfl
  go_enter Tryd.func18, Tryd.ntmps18
  go_wp2
  go_ret
  exact ⟨rfl, rfl⟩
end Go.Proofs.YticlojpdcdkdgaaDoor.Of
