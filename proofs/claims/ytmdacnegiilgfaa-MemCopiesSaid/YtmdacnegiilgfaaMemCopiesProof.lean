/-
  The given statement of MemCopies: a copy and what it was made of go on apart.
  No condition: every input that the given statement speaks of.
-/
import Derived.Test.YtmdacnegiilgfaaRows
import Derived.Test.YtmdacnegiilgfaaFrame
import Derived.Test.YtmdacnegiilgfaaCopies
import Derived.Test.YtmdacnegiilgfaaOpens
namespace Go.Proofs.Ytmdacnegiilgfaa.memCopies
open Go.ChangeShapes Go.WideShapes Go.ChangeAt Go.RowKit
set_option linter.unusedVariables false

theorem own : ownKnob Try.prog.godebug = none := by kernel_rfl
theorem laid : laidOutB Try.prog = true := by kernel_rfl
theorem rows : (Try.f8.params.toList.all fun t => Try.prog.readableRec t && decide (t < Try.prog.types.size)) = true := by kernel_rfl

set_option maxRecDepth 100000 in
theorem lifted (os : Os) (started : os.Started) (H : Type) (enc : TypeId × Value → H) :
    ReturnsInHanded {} Try.checked os 8 .any (Rows.memCopiesSpec.pre6 enc Try.prog Try.f8 Rows.memCopiesRow.domain false) (Rows.memCopiesSpec.post enc Try.prog Try.f8 false true false false) := by
  refine returnsInHanded_of_change (C := Try.checked) own started (by kernel_rfl) Try.func8
    (ChangeSpec.witness6 (enc := enc) (C := Try.checked) false ⟨#[], #[.slice none 0 0, .slice none 0 0], []⟩ 8 (by kernel_rfl) (by kernel_rfl) (by kernel_rfl) (by kernel_rfl)) ?_
  intro W base args ds gs before hval0 hW _ _
  have hval : ∀ (j : Nat) t v, Try.f8.params[j]? = some t → args[j]? = some v → Value.okWide Try.prog W .any base t v := hval0
  have hsize : Try.f8.params.size = 2 := by rw [Try.params8]; rfl
  have hpost := fun W' (hb : Below W.heap.size W W') => Frame.post_law (f := Try.f8) (s := Rows.memCopiesSpec) laid rows Try.underlying4 (by kernel_rfl) rfl (fun ds h => by
    rw [hsize] at h
    match ds, h with
    | [_, _], _ => rfl) hW hb
  obtain ⟨p, q, hA0, hV, rfl, hfz, hnd⟩ := hW
  have hA : DataW.TrodAll enc Try.prog W 0 (fun _ => true) true Try.f8.params.toList args.toList ds p := hA0
  rw [Try.params8] at hA hval
  obtain ⟨v0, vs0, d0, ds0, p0, q0, hargs, rfl, rfl, h0, r0⟩ := trodAll_cons hA
  obtain ⟨v1, vs1, d1, ds1, p1, q1, rfl, rfl, rfl, h1, r1⟩ := trodAll_cons r0
  obtain ⟨rfl, rfl, rfl⟩ := trodAll_nil r1
  obtain rfl : args = #[v0, v1] := by cases args; simp_all
  obtain ⟨A0, n0, c0, s0_0, s0_1, s0_2, s0_3, rfl, hn0, hR0⟩ := Opens.open_rows4 Try.underlying22 Try.underlying30 (by kernel_rfl) (by kernel_rfl) rfl rfl rfl rfl rfl Try.underlying3 Try.underlying3 Try.underlying3 Try.underlying23 (hval 0 22 v0 rfl rfl) h0
  obtain ⟨A1, n1, c1, s1_0, s1_1, s1_2, s1_3, rfl, hn1, hR1⟩ := Opens.open_rows4 Try.underlying22 Try.underlying30 (by kernel_rfl) (by kernel_rfl) rfl rfl rfl rfl rfl Try.underlying3 Try.underlying3 Try.underlying3 Try.underlying23 (hval 1 22 v1 rfl rfl) h1
  refine (Copies.copies A0 A1 n0 c0 n1 c1 hn0 hn1 s0_0 s0_1 s0_2 s0_3 s1_0 s1_1 s1_2 s1_3 W hR0 hR1).mono fun e W' ⟨he, hb⟩ => ?_
  subst he
  exact ⟨_, rfl, hpost W' hb⟩

theorem over : Rows.memCopiesRow.holds Try.pinned (OpenSpec.ofChange Rows.memCopiesSpec) :=
  OpenClaim.holds_of_wide 8 Try.f8 rfl rfl rfl rfl rfl rfl rfl ⟨rfl, rfl, rfl, rfl, rfl⟩ rfl rfl rfl rfl rfl (by kernel_rfl) Try.func8 (by kernel_rfl)
    (of_decide_eq_true (by kernel_rfl)) (by unfold Func.isWrapper; first | (rw [if_pos (by decide +kernel)]; kernel_rfl) | (rw [if_neg (by decide +kernel)]; exact ⟨rfl, rfl⟩))
    (fun os started H enc _ => lifted os started H enc)

theorem proved : Rows.MemCopiesSaid :=
  over
end Go.Proofs.Ytmdacnegiilgfaa.memCopies
