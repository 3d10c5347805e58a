/-
  The given statement of UndoBack: writing back what was there makes all data words what they were.
  No condition: every input that the given statement speaks of.
-/
import Derived.Test.YtnhfbdjjbmhnkaaRows
import Derived.Test.YtnhfbdjjbmhnkaaFrame
import Derived.Test.YtnhfbdjjbmhnkaaUBack
import Derived.Test.YtnhfbdjjbmhnkaaOpens
import Derived.Test.YtnhfbdjjbmhnkaaOpens3
namespace Go.Proofs.Ytnhfbdjjbmhnkaa.undoBack
open Go.ChangeShapes Go.WideShapes Go.ChangeAt Go.RowKit
set_option linter.unusedVariables false

theorem own : ownKnob Try.prog.godebug = none := by kernel_rfl
theorem laid : laidOutB Try.prog = true := by kernel_rfl
theorem rows : (Try.f7.params.toList.all fun t => Try.prog.readableRec t && decide (t < Try.prog.types.size)) = true := by kernel_rfl

set_option maxRecDepth 100000 in
theorem lifted (os : Os) (started : os.Started) (H : Type) (enc : TypeId × Value → H) :
    ReturnsInHanded {} Try.checked os 7 .any (Rows.undoBackSpec.pre6 enc Try.prog Try.f7 Rows.undoBackRow.domain false) (Rows.undoBackSpec.post enc Try.prog Try.f7 false true false false) := by
  refine returnsInHanded_of_change (C := Try.checked) own started (by kernel_rfl) Try.func7
    (ChangeSpec.witness6 (enc := enc) (C := Try.checked) false ⟨#[], #[.agg #[.int .i64 0, .int .i64 0, .int .i64 0, .int .i64 0, .int .i64 0, .int .i64 0, .int .i64 0, .int .i64 0], .int .i64 0, .slice none 0 0, .slice none 0 0], []⟩ 8 (by kernel_rfl) (by kernel_rfl) (by kernel_rfl) (by kernel_rfl)) ?_
  intro W base args ds gs before hval0 hW _ _
  have hval : ∀ (j : Nat) t v, Try.f7.params[j]? = some t → args[j]? = some v → Value.okWide Try.prog W .any base t v := hval0
  have hsize : Try.f7.params.size = 4 := by rw [Try.params7]; rfl
  have hpost := fun W' (hb : Below W.heap.size W W') => Frame.post_law (f := Try.f7) (s := Rows.undoBackSpec) laid rows Try.underlying4 (by kernel_rfl) rfl (fun ds h => by
    rw [hsize] at h
    match ds, h with
    | [_, _, _, _], _ => rfl) hW hb
  obtain ⟨p, q, hA0, hV, rfl, hfz, hnd⟩ := hW
  have hA : DataW.TrodAll enc Try.prog W 0 (fun _ => true) true Try.f7.params.toList args.toList ds p := hA0
  rw [Try.params7] at hA hval
  obtain ⟨v0, vs0, d0, ds0, p0, q0, hargs, rfl, rfl, h0, r0⟩ := trodAll_cons hA
  obtain ⟨v1, vs1, d1, ds1, p1, q1, rfl, rfl, rfl, h1, r1⟩ := trodAll_cons r0
  obtain ⟨v2, vs2, d2, ds2, p2, q2, rfl, rfl, rfl, h2, r2⟩ := trodAll_cons r1
  obtain ⟨v3, vs3, d3, ds3, p3, q3, rfl, rfl, rfl, h3, r3⟩ := trodAll_cons r2
  obtain ⟨rfl, rfl, rfl⟩ := trodAll_nil r3
  obtain rfl : args = #[v0, v1, v2, v3] := by cases args; simp_all
  obtain ⟨cs0, rfl, hs0, hf0⟩ := Opens.open_struct_cells Try.underlying23 (by kernel_rfl) (by kernel_rfl) (hval 0 23 v0 rfl rfl) h0
  obtain ⟨x0_0, e0_0, w0_0⟩ := Opens.int_cell Try.underlying3 (hf0 0 _ rfl)
  obtain ⟨x0_1, e0_1, w0_1⟩ := Opens.int_cell Try.underlying3 (hf0 1 _ rfl)
  obtain ⟨x0_2, e0_2, w0_2⟩ := Opens.int_cell Try.underlying3 (hf0 2 _ rfl)
  obtain ⟨x0_3, e0_3, w0_3⟩ := Opens.int_cell Try.underlying3 (hf0 3 _ rfl)
  obtain ⟨x0_4, e0_4, w0_4⟩ := Opens.int_cell Try.underlying3 (hf0 4 _ rfl)
  obtain ⟨x0_5, e0_5, w0_5⟩ := Opens.int_cell Try.underlying3 (hf0 5 _ rfl)
  obtain ⟨x0_6, e0_6, w0_6⟩ := Opens.int_cell Try.underlying3 (hf0 6 _ rfl)
  obtain ⟨x0_7, e0_7, w0_7⟩ := Opens.int_cell Try.underlying3 (hf0 7 _ rfl)
  obtain rfl := Opens.array8 hs0 e0_0 e0_1 e0_2 e0_3 e0_4 e0_5 e0_6 e0_7
  obtain ⟨a1, rfl, rfl, rfl, w1⟩ := open_int Try.underlying3 (hval 1 3 v1 rfl rfl) h1
  have b1 : -9223372036854775808 ≤ a1 ∧ a1 ≤ 9223372036854775807 := by simpa [Lit.wf, IntKind.min, IntKind.max, IntKind.signed, IntKind.bits] using w1
  obtain ⟨A2, n2, c2, s2_0, s2_1, s2_2, rfl, hn2, hR2⟩ := Opens3.open_rows3 Try.underlying64 Try.underlying66 (by kernel_rfl) (by kernel_rfl) rfl rfl rfl rfl Try.underlying3 Try.underlying3 Try.underlying36 (hval 2 64 v2 rfl rfl) h2
  obtain ⟨A3, n3, c3, s3_0, s3_1, s3_2, rfl, hn3, hR3⟩ := Opens3.open_rows3 Try.underlying64 Try.underlying66 (by kernel_rfl) (by kernel_rfl) rfl rfl rfl rfl Try.underlying3 Try.underlying3 Try.underlying36 (hval 3 64 v3 rfl rfl) h3
  refine (UBack.whole x0_0 x0_1 x0_2 x0_3 x0_4 x0_5 x0_6 x0_7 a1 A2 A3 n2 c2 n3 c3 W hn2 hn3 s2_0 s2_1 s2_2 hR2 s3_0 s3_1 s3_2 hR3).mono fun e W' ⟨he, hb⟩ => ?_
  subst he
  exact ⟨_, rfl, hpost W' hb⟩

theorem over : Rows.undoBackRow.holds Try.pinned (OpenSpec.ofChange Rows.undoBackSpec) :=
  OpenClaim.holds_of_wide 7 Try.f7 rfl rfl rfl rfl rfl rfl rfl ⟨rfl, rfl, rfl, rfl, rfl⟩ rfl rfl rfl rfl rfl (by kernel_rfl) Try.func7 (by kernel_rfl)
    (of_decide_eq_true (by kernel_rfl)) (by unfold Func.isWrapper; first | (rw [if_pos (by decide +kernel)]; kernel_rfl) | (rw [if_neg (by decide +kernel)]; exact ⟨rfl, rfl⟩))
    (fun os started H enc _ => lifted os started H enc)

theorem proved : Rows.UndoBackSaid :=
  over
end Go.Proofs.Ytnhfbdjjbmhnkaa.undoBack
