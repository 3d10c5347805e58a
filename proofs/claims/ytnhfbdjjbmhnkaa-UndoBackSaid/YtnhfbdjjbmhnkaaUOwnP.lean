/-
  The log and its plan's box as one state; what a log writes, in plain words.
-/
import Derived.Test.YtnhfbdjjbmhnkaaUPair
import Derived.Test.YtnhfbdjjbmhnkaaOpens
namespace Go.Proofs.Ytnhfbdjjbmhnkaa.UOwnP
open Go.RowKit PPlain Base PMay PRefMay PWalk MMem UPlain UWalk UAdd UAt UNew MRef URef ULog UPair Opens
set_option linter.unusedVariables false

theorem Rows4.below {w w' : World} {B : Nat} {k0 k1 k2 k3 : IntKind} {A : Option Addr} {n : Nat} {s0 s1 s2 s3 : Nat → Int} (h : Rows4 w B k0 k1 k2 k3 A n s0 s1 s2 s3) (hb : Below B w w') : Rows4 w' B k0 k1 k2 k3 A n s0 s1 s2 s3 := by
  refine ⟨fun hn => ?_, h.2⟩
  obtain ⟨b, off, rfl, hB, hc⟩ := h.1 hn
  refine ⟨b, off, rfl, hB, fun i hi => ?_⟩
  obtain ⟨a0, a1, a2, a3⟩ := hc i hi
  exact ⟨(hb.cell hB).trans a0, (hb.cell hB).trans a1, (hb.cell hB).trans a2, (hb.cell hB).trans a3⟩
theorem u32_bd {a : Int} (h : (Lit.int .u32 a).wf = true) : 0 ≤ a ∧ a ≤ 4294967295 := by
  simpa [Lit.wf, IntKind.min, IntKind.max, IntKind.signed, IntKind.bits] using h

structure LB (w0 w : World) (l : Nat) (c0 c1 c2 c3 c4 c5 c6 c7 : Int) (p : Nat) (first many : Int) (D nb : Nat) (F : Nat → Int) (B : Nat) (cs : Array Value) : Prop where
  L : LSt w0 w l c0 c1 c2 c3 c4 c5 c6 c7 p first c4 many D nb F
  B : Blk w B 23 cs
section
variable {w0 w w' : World} {l : Nat} {c0 c1 c2 c3 c4 c5 c6 c7 : Int} {p : Nat} {first many many' : Int} {D nb : Nat} {F F' : Nat → Int} {B : Nat} {cs : Array Value}
theorem LB.below (h : LB w0 w l c0 c1 c2 c3 c4 c5 c6 c7 p first many D nb F B cs) (hb : Below w.heap.size w w') : LB w0 w' l c0 c1 c2 c3 c4 c5 c6 c7 p first many D nb F B cs := ⟨h.L.below hb, h.B.below hb h.B.lt⟩
theorem LB.drewN (h : LB w0 w l c0 c1 c2 c3 c4 c5 c6 c7 p first many D nb F B cs) (k : Nat) : LB w0 (w.drewN k) l c0 c1 c2 c3 c4 c5 c6 c7 p first many D nb F B cs := ⟨h.L.drewN k, h.B⟩
theorem LB.move (h : LB w0 w l c0 c1 c2 c3 c4 c5 c6 c7 p first many D nb F B cs) (hL : LSt w0 w' l c0 c1 c2 c3 c4 c5 c6 c7 p first c4 many' D nb F') (ht : Two D l w w') : LB w0 w' l c0 c1 c2 c3 c4 c5 c6 c7 p first many' D nb F' B cs :=
  ⟨hL, (ht.block B h.B.lt (blk_ne h.B h.L.mem.2.2.2 (by decide)) (blk_ne h.B h.L.log (by decide))).trans h.B⟩
theorem LB.cells {v0 v1 v2 v3 v4 v5 v6 v7 : Value} (h : LB w0 w l c0 c1 c2 c3 c4 c5 c6 c7 p first many D nb F B #[v0, v1, v2, v3, v4, v5, v6, v7]) :
    w.cell? ⟨B, 0, none⟩ = some v0 ∧ w.cell? ⟨B, 1, none⟩ = some v1 ∧ w.cell? ⟨B, 2, none⟩ = some v2 ∧ w.cell? ⟨B, 3, none⟩ = some v3 ∧ w.cell? ⟨B, 4, none⟩ = some v4 ∧ w.cell? ⟨B, 5, none⟩ = some v5 ∧ w.cell? ⟨B, 6, none⟩ = some v6 ∧ w.cell? ⟨B, 7, none⟩ = some v7 :=
  ⟨h.B.cell 0, h.B.cell 1, h.B.cell 2, h.B.cell 3, h.B.cell 4, h.B.cell 5, h.B.cell 6, h.B.cell 7⟩
end

/-- Outside the log's blocks all words are 0. -/
def Own (F : Nat → Int) (f : Nat) (logs : Int) : Prop := ∀ i : Nat, ((i : Int) < 16 * f ∨ 16 * (f + logs) ≤ i) → F i = 0
theorem addE_zero {c0 c3 c4 addr logs many : Int} (h : addE c0 c3 c4 addr logs many = 0) : many ≠ 8 * logs := by
  unfold addE at h
  split at h
  · omega
  · split at h
    · cases h
    · assumption
theorem Own.add {F : Nat → Int} {f : Nat} {logs many a o e : Int} (h : Own F f logs) (m0 : 0 ≤ many) (m1 : many ≤ 8 * logs) (he : e = 0 → many ≠ 8 * logs) : Own (addF F f many a o e) f logs := by
  intro i hi
  unfold addF
  split
  · rename_i e0
    have := he e0
    have e1 : i ≠ base f many := by unfold base; omega
    have e2 : i ≠ base f many + 1 := by unfold base; omega
    simp [putE, e1, e2, h i hi]
  · exact h i hi
end Go.Proofs.Ytnhfbdjjbmhnkaa.UOwnP
