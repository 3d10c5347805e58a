/-
  A slice of structs of three integers, opened to its cells.
-/
import Derived.Test.YtnhfbdjjbmhnkaaOpens
namespace Go.Proofs.Ytnhfbdjjbmhnkaa.Opens3
open Go.Joins Go.ChangeShapes Go.WideShapes Go.RowKit Go.Deep Opens

/-- A slice of structs of three integers, read by its cells: nil or not. -/
def Rows3 (w : World) (B : Nat) (k0 k1 k2 : IntKind) (A : Option Addr) (n : Nat) (s0 s1 s2 : Nat → Int) : Prop :=
  (0 < n → ∃ b off, A = some ⟨b, off, none⟩ ∧ b < B ∧ ∀ i, i < n → w.cell? ⟨b, off + i * 3, none⟩ = some (.int k0 (s0 i)) ∧ w.cell? ⟨b, off + i * 3 + 1, none⟩ = some (.int k1 (s1 i)) ∧
    w.cell? ⟨b, off + i * 3 + 2, none⟩ = some (.int k2 (s2 i))) ∧
  ∀ i, i < n → (Lit.int k0 (s0 i)).wf = true ∧ (Lit.int k1 (s1 i)).wf = true ∧ (Lit.int k2 (s2 i)).wf = true

section
variable {H : Type} {enc : TypeId × Value → H} {P : Program} {w : World}
theorem open_rows3 {t e : TypeId} {r : Reach} {b0 : Nat} {k0 k1 k2 : IntKind} {v : Value} {d : DataW H} {p : List MemPlace} {fs : Array Field} (ht : P.underlying t = some (.slice e)) (he : P.underlying e = some (.struct fs))
    (hone : oneCellFields P fs = true) (hC : P.cellsOf e = fs.size) (hn4 : fs.size = 3) {f0 f1 f2 : Field} (e0 : fs[0]? = some f0) (e1 : fs[1]? = some f1) (e2 : fs[2]? = some f2)
    (u0 : P.underlying f0.type = some (.int k0)) (u1 : P.underlying f1.type = some (.int k1)) (u2 : P.underlying f2.type = some (.int k2))
    (hv : Value.okWide P w r b0 t v) (h : DataW.Trod enc P w 0 (fun _ => true) true t v d p) :
    ∃ (A : Option Addr) (n c : Nat) (s0 s1 s2 : Nat → Int), v = .slice A n c ∧ n ≤ maxLen ∧ Rows3 w w.heap.size k0 k1 k2 A n s0 s1 s2 := by
  obtain ⟨a0, len, cap, rfl⟩ := okWide_slice ht hv
  obtain ⟨fuel, hf⟩ := h
  rcases open_slice_fields ht he hone hC hf with ⟨hcs, _⟩ | ⟨a, len', cap', m, D, Pl, hcs, hb, hl, hm, hmm, _, hi⟩
  · simp [Value.cells] at hcs
    obtain ⟨rfl, rfl, rfl⟩ := hcs
    exact ⟨none, 0, 0, fun _ => 0, fun _ => 0, fun _ => 0, rfl, by simp [maxLen], fun hn => absurd hn (by omega), fun i hi => absurd hi (by omega)⟩
  · simp [Value.cells] at hcs
    obtain ⟨rfl, rfl, rfl⟩ := hcs
    have hml : len ≤ m := by rw [hmm]; split <;> omega
    have hcell : ∀ i, i < len → ∃ x0 x1 x2 : Int, (w.cell? (a.add (i * 3 + 0)) = some (.int k0 x0) ∧ w.cell? (a.add (i * 3 + 1)) = some (.int k1 x1) ∧ w.cell? (a.add (i * 3 + 2)) = some (.int k2 x2)) ∧
        (Lit.int k0 x0).wf = true ∧ (Lit.int k1 x1).wf = true ∧ (Lit.int k2 x2).wf = true := by
      intro i hil
      obtain ⟨ys, n, _, _, _, hff⟩ := hi i (by omega)
      rw [hn4] at hff
      obtain ⟨v0, y0, c0, _, t0⟩ := hff 0 f0 e0
      obtain ⟨v1, y1, c1, _, t1⟩ := hff 1 f1 e1
      obtain ⟨v2, y2, c2, _, t2⟩ := hff 2 f2 e2
      obtain ⟨x0, g0, _, w0⟩ := DataW.trod_int u0 t0
      obtain ⟨x1, g1, _, w1⟩ := DataW.trod_int u1 t1
      obtain ⟨x2, g2, _, w2⟩ := DataW.trod_int u2 t2
      simp only [List.cons.injEq, and_true] at g0 g1 g2
      subst g0 g1 g2
      exact ⟨x0, x1, x2, ⟨c0, c1, c2⟩, w0, w1, w2⟩
    have hx : ∃ s0 s1 s2 : Nat → Int, ∀ i, i < len → (w.cell? (a.add (i * 3 + 0)) = some (.int k0 (s0 i)) ∧ w.cell? (a.add (i * 3 + 1)) = some (.int k1 (s1 i)) ∧ w.cell? (a.add (i * 3 + 2)) = some (.int k2 (s2 i))) ∧
        (Lit.int k0 (s0 i)).wf = true ∧ (Lit.int k1 (s1 i)).wf = true ∧ (Lit.int k2 (s2 i)).wf = true := by
      classical
      have g : ∀ i, ∃ x : Int × Int × Int, i < len → (w.cell? (a.add (i * 3 + 0)) = some (.int k0 x.1) ∧ w.cell? (a.add (i * 3 + 1)) = some (.int k1 x.2.1) ∧ w.cell? (a.add (i * 3 + 2)) = some (.int k2 x.2.2)) ∧
          (Lit.int k0 x.1).wf = true ∧ (Lit.int k1 x.2.1).wf = true ∧ (Lit.int k2 x.2.2).wf = true := fun i => by
        by_cases h : i < len
        · obtain ⟨x0, x1, x2, hh⟩ := hcell i h
          exact ⟨(x0, x1, x2), fun _ => hh⟩
        · exact ⟨(0, 0, 0), fun h' => absurd h' h⟩
      refine ⟨fun i => (Classical.choose (g i)).1, fun i => (Classical.choose (g i)).2.1, fun i => (Classical.choose (g i)).2.2, fun i hi => Classical.choose_spec (g i) hi⟩
    obtain ⟨s0, s1, s2, hs⟩ := hx
    refine ⟨some a, len, cap, s0, s1, s2, rfl, by omega, fun hn => ?_, fun i hi => (hs i hi).2⟩
    obtain ⟨b, off, spot⟩ := a
    have hc0 := (hs 0 hn).1.1
    have hspot : spot = none := by simpa [Addr.add] using World.cell?_spot hc0
    subst hspot
    have hadd : ∀ j, (⟨b, off, none⟩ : Addr).add j = ⟨b, off + j, none⟩ := fun j => by unfold Addr.add; split <;> simp_all
    refine ⟨b, off, rfl, by have := block_lt_of_cell hc0; rwa [hadd] at this, fun i hi => ?_⟩
    have := (hs i hi).1
    simp only [hadd, Nat.add_zero, ← Nat.add_assoc] at this
    exact this
end

theorem Rows3.below {w w' : World} {B : Nat} {k0 k1 k2 : IntKind} {A : Option Addr} {n : Nat} {s0 s1 s2 : Nat → Int} (h : Rows3 w B k0 k1 k2 A n s0 s1 s2) (hb : Below B w w') : Rows3 w' B k0 k1 k2 A n s0 s1 s2 := by
  refine ⟨fun hn => ?_, h.2⟩
  obtain ⟨b, off, rfl, hB, hc⟩ := h.1 hn
  refine ⟨b, off, rfl, hB, fun i hi => ?_⟩
  obtain ⟨a0, a1, a2⟩ := hc i hi
  exact ⟨(hb.cell hB).trans a0, (hb.cell hB).trans a1, (hb.cell hB).trans a2⟩
end Go.Proofs.Ytnhfbdjjbmhnkaa.Opens3
