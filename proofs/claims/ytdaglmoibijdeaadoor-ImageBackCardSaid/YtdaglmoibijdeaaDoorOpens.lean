/-
  Arguments opened to their cells: a struct by value whose fields are of one cell each, an array of integers by value.
-/
import Derived.Test.YtdaglmoibijdeaaDoorBase
import Derived.Lib.SmallJoins
import Derived.Deep.Slices
import Derived.Deep.Fields
import Derived.ChangeSame
namespace Go.Proofs.YtdaglmoibijdeaaDoor.Opens
open Go.Joins Go.ChangeShapes Go.WideShapes Go.RowKit Go.Deep

section
variable {H : Type} {enc : TypeId × Value → H} {P : Program} {w : World} {base : Nat} {spare : Nat → Bool} {held : Bool}

/-- A struct by value: its cells, each with its reading. -/
theorem open_struct_cells {r : Reach} {b0 : Nat} {t : TypeId} {fs : Array Field} {v : Value} {d : DataW H} {p : List MemPlace} (hs : P.underlying t = some (.struct fs)) (hone : oneCellFields P fs = true) (hC : P.cellsOf t = fs.size)
    (hv : Value.okWide P w r b0 t v) (h : DataW.Trod enc P w base spare held t v d p) :
    ∃ cs : Array Value, v = .agg cs ∧ cs.size = fs.size ∧ ∀ (j : Nat) (f : Field), fs[j]? = some f → ∃ (n : Nat) (c : Value) (y : DataW H × List MemPlace), cs[j]? = some c ∧ DataW.trod enc P w base spare held n f.type [c] = some y := by
  obtain ⟨cs, rfl, hsz⟩ := okWide_struct hs hv
  obtain ⟨fuel, hf⟩ := h
  obtain ⟨xs, n, _, _, _, hlen, hg⟩ := DataW.trod_struct hs hf
  have hsz' : cs.size = fs.size := hsz.trans hC
  refine ⟨cs, rfl, hsz', fun j f hj => ?_⟩
  obtain ⟨ho, hk⟩ := hone_of hone j f hj
  have hjl : j < fs.size := (Array.getElem?_eq_some_iff.1 hj).1
  have h1 := hg j f hj
  rw [ho, hk] at h1
  have hl : j < cs.toList.length := by simp; omega
  have hdrop : ((Value.agg cs).cells.toList.drop j).take 1 = [cs[j]'(by omega)] := by
    show (cs.toList.drop j).take 1 = _
    rw [List.drop_eq_getElem_cons hl]
    simp
  rw [hdrop] at h1
  have hx : xs[j]? = some (xs[j]'(by omega)) := List.getElem?_eq_getElem (by omega)
  exact ⟨n, _, _, Array.getElem?_eq_getElem (by omega), h1.trans hx⟩

theorem int_cell {cs : Array Value} {j : Nat} {t : TypeId} {k : IntKind} (ht : P.underlying t = some (.int k))
    (h : ∃ (n : Nat) (c : Value) (y : DataW H × List MemPlace), cs[j]? = some c ∧ DataW.trod enc P w base spare held n t [c] = some y) : ∃ a, cs[j]? = some (.int k a) ∧ (Lit.int k a).wf = true := by
  obtain ⟨n, c, y, hc, hy⟩ := h
  obtain ⟨a, e, _, hw⟩ := DataW.trod_int ht hy
  simp only [List.cons.injEq, and_true] at e
  exact ⟨a, by rw [hc, e], hw⟩
theorem bool_cell {cs : Array Value} {j : Nat} {t : TypeId} (ht : P.underlying t = some .bool)
    (h : ∃ (n : Nat) (c : Value) (y : DataW H × List MemPlace), cs[j]? = some c ∧ DataW.trod enc P w base spare held n t [c] = some y) : ∃ b, cs[j]? = some (.bool b) := by
  obtain ⟨n, c, y, hc, hy⟩ := h
  obtain ⟨a, e, _⟩ := DataW.trod_bool ht hy
  simp only [List.cons.injEq, and_true] at e
  exact ⟨a, by rw [hc, e]⟩

theorem array_of {α : Type} {cs : Array α} {l : List α} (hs : cs.size = l.length) (h : ∀ j, j < l.length → cs[j]? = l[j]?) : cs = l.toArray := by
  apply Array.ext_getElem?
  intro j
  by_cases hj : j < l.length
  · rw [h j hj]; simp
  · rw [Array.getElem?_eq_none (by omega), Array.getElem?_eq_none (by simp; omega)]

theorem array5 {cs : Array Value} {x0 x1 x2 x3 x4 : Value} (hs : cs.size = 5) (h0 : cs[0]? = some x0) (h1 : cs[1]? = some x1) (h2 : cs[2]? = some x2) (h3 : cs[3]? = some x3) (h4 : cs[4]? = some x4) : cs = #[x0, x1, x2, x3, x4] :=
  array_of (l := [x0, x1, x2, x3, x4]) hs fun j hj => by
    match j, hj with
    | 0, _ => exact h0
    | 1, _ => exact h1
    | 2, _ => exact h2
    | 3, _ => exact h3
    | 4, _ => exact h4
theorem array8 {cs : Array Value} {x0 x1 x2 x3 x4 x5 x6 x7 : Value} (hs : cs.size = 8) (h0 : cs[0]? = some x0) (h1 : cs[1]? = some x1) (h2 : cs[2]? = some x2) (h3 : cs[3]? = some x3) (h4 : cs[4]? = some x4)
    (h5 : cs[5]? = some x5) (h6 : cs[6]? = some x6) (h7 : cs[7]? = some x7) : cs = #[x0, x1, x2, x3, x4, x5, x6, x7] :=
  array_of (l := [x0, x1, x2, x3, x4, x5, x6, x7]) hs fun j hj => by
    match j, hj with
    | 0, _ => exact h0
    | 1, _ => exact h1
    | 2, _ => exact h2
    | 3, _ => exact h3
    | 4, _ => exact h4
    | 5, _ => exact h5
    | 6, _ => exact h6
    | 7, _ => exact h7
end
section
variable {H : Type} {enc : TypeId × Value → H} {P : Program} {w : World} {base : Nat} {spare : Nat → Bool} {held : Bool}
theorem open_slice_fields {t e : TypeId} {fs : Array Field} {fuel : Nat} {cs : List Value} {x : DataW H × List MemPlace} (ht : P.underlying t = some (.slice e)) (he : P.underlying e = some (.struct fs))
    (hone : oneCellFields P fs = true) (hC : P.cellsOf e = fs.size) (h : DataW.trod enc P w base spare held fuel t cs = some x) :
    (cs = [.slice none 0 0] ∧ x = (.nil, [])) ∨
    ∃ (a : Addr) (len cap m : Nat) (D : Nat → DataW H) (Pl : Nat → List MemPlace), cs = [.slice (some a) len cap] ∧ base ≤ a.block ∧ len ≤ cap ∧ cap ≤ maxLen ∧ m = (if spare a.block then cap else len) ∧
      x = (.slice ((List.range len).map D) ((List.range (m - len)).map fun j => D (len + j)), MemPlace.row a (m * fs.size) ++ (List.range m).flatMap Pl) ∧
      ∀ i, i < m → ∃ (ys : List (DataW H × List MemPlace)) (n : Nat), D i = .agg (ys.map (·.1)) ∧ Pl i = ys.flatMap (·.2) ∧ ys.length = fs.size ∧
        ∀ (j : Nat) (f : Field), fs[j]? = some f → ∃ (v : Value) (y : DataW H × List MemPlace), w.cell? (a.add (i * fs.size + j)) = some v ∧ ys[j]? = some y ∧ DataW.trod enc P w base spare held n f.type [v] = some y := by
  rcases open_slice ht h with h0 | ⟨a, len, cap, m, n, D, Pl, hcs, hb, hl, hm, hmm, hx, hi⟩
  · exact .inl h0
  · refine .inr ⟨a, len, cap, m, D, Pl, hcs, hb, hl, hm, hmm, by rw [hC] at hx; exact hx, fun i him => ?_⟩
    obtain ⟨cs', hc, ht'⟩ := hi i him
    rw [hC] at hc
    obtain ⟨ys, n', hn', hy, hlen, hyl, hf⟩ := DataW.trod_struct he ht'
    obtain ⟨_, hcl, hat⟩ := World.cells?_some hc
    simp only [Prod.mk.injEq] at hy
    refine ⟨ys, n', hy.1, hy.2, hyl, fun j f hj => ?_⟩
    obtain ⟨ho, hk⟩ := hone_of hone j f hj
    have hjl : j < fs.size := (Array.getElem?_eq_some_iff.1 hj).1
    have hcell := hat j hjl
    have hv : cs'[j]? = some (cs'[j]'(by omega)) := List.getElem?_eq_getElem (by omega)
    have h1 := hf j f hj
    rw [ho, hk] at h1
    have hone' : (cs'.drop j).take 1 = [cs'[j]'(by omega)] := by
      rw [List.drop_eq_getElem_cons (by omega)]
      rfl
    rw [hone'] at h1
    have hys : ys[j]? = some (ys[j]'(by omega)) := List.getElem?_eq_getElem (by omega)
    refine ⟨_, _, ?_, hys, h1.trans hys⟩
    rw [← Go.Deep.add_add, hcell, hv]
end

/-- A slice of structs of four integers, read by its cells: nil or not. -/
def Rows4 (w : World) (B : Nat) (k0 k1 k2 k3 : IntKind) (A : Option Addr) (n : Nat) (s0 s1 s2 s3 : Nat → Int) : Prop :=
  (0 < n → ∃ b off, A = some ⟨b, off, none⟩ ∧ b < B ∧ ∀ i, i < n → w.cell? ⟨b, off + i * 4, none⟩ = some (.int k0 (s0 i)) ∧ w.cell? ⟨b, off + i * 4 + 1, none⟩ = some (.int k1 (s1 i)) ∧
    w.cell? ⟨b, off + i * 4 + 2, none⟩ = some (.int k2 (s2 i)) ∧ w.cell? ⟨b, off + i * 4 + 3, none⟩ = some (.int k3 (s3 i))) ∧
  ∀ i, i < n → (Lit.int k0 (s0 i)).wf = true ∧ (Lit.int k1 (s1 i)).wf = true ∧ (Lit.int k2 (s2 i)).wf = true ∧ (Lit.int k3 (s3 i)).wf = true

section
variable {H : Type} {enc : TypeId × Value → H} {P : Program} {w : World}
theorem open_rows4 {t e : TypeId} {r : Reach} {b0 : Nat} {k0 k1 k2 k3 : IntKind} {v : Value} {d : DataW H} {p : List MemPlace} {fs : Array Field} (ht : P.underlying t = some (.slice e)) (he : P.underlying e = some (.struct fs))
    (hone : oneCellFields P fs = true) (hC : P.cellsOf e = fs.size) (hn4 : fs.size = 4) {f0 f1 f2 f3 : Field} (e0 : fs[0]? = some f0) (e1 : fs[1]? = some f1) (e2 : fs[2]? = some f2) (e3 : fs[3]? = some f3)
    (u0 : P.underlying f0.type = some (.int k0)) (u1 : P.underlying f1.type = some (.int k1)) (u2 : P.underlying f2.type = some (.int k2)) (u3 : P.underlying f3.type = some (.int k3))
    (hv : Value.okWide P w r b0 t v) (h : DataW.Trod enc P w 0 (fun _ => true) true t v d p) :
    ∃ (A : Option Addr) (n c : Nat) (s0 s1 s2 s3 : Nat → Int), v = .slice A n c ∧ n ≤ maxLen ∧ Rows4 w w.heap.size k0 k1 k2 k3 A n s0 s1 s2 s3 := by
  obtain ⟨a0, len, cap, rfl⟩ := okWide_slice ht hv
  obtain ⟨fuel, hf⟩ := h
  rcases open_slice_fields ht he hone hC hf with ⟨hcs, _⟩ | ⟨a, len', cap', m, D, Pl, hcs, hb, hl, hm, hmm, _, hi⟩
  · simp [Value.cells] at hcs
    obtain ⟨rfl, rfl, rfl⟩ := hcs
    exact ⟨none, 0, 0, fun _ => 0, fun _ => 0, fun _ => 0, fun _ => 0, rfl, by simp [maxLen], fun hn => absurd hn (by omega), fun i hi => absurd hi (by omega)⟩
  · simp [Value.cells] at hcs
    obtain ⟨rfl, rfl, rfl⟩ := hcs
    have hml : len ≤ m := by rw [hmm]; split <;> omega
    have hcell : ∀ i, i < len → ∃ x0 x1 x2 x3 : Int, (w.cell? (a.add (i * 4 + 0)) = some (.int k0 x0) ∧ w.cell? (a.add (i * 4 + 1)) = some (.int k1 x1) ∧ w.cell? (a.add (i * 4 + 2)) = some (.int k2 x2) ∧ w.cell? (a.add (i * 4 + 3)) = some (.int k3 x3)) ∧
        (Lit.int k0 x0).wf = true ∧ (Lit.int k1 x1).wf = true ∧ (Lit.int k2 x2).wf = true ∧ (Lit.int k3 x3).wf = true := by
      intro i hil
      obtain ⟨ys, n, _, _, _, hff⟩ := hi i (by omega)
      rw [hn4] at hff
      obtain ⟨v0, y0, c0, _, t0⟩ := hff 0 f0 e0
      obtain ⟨v1, y1, c1, _, t1⟩ := hff 1 f1 e1
      obtain ⟨v2, y2, c2, _, t2⟩ := hff 2 f2 e2
      obtain ⟨v3, y3, c3, _, t3⟩ := hff 3 f3 e3
      obtain ⟨x0, g0, _, w0⟩ := DataW.trod_int u0 t0
      obtain ⟨x1, g1, _, w1⟩ := DataW.trod_int u1 t1
      obtain ⟨x2, g2, _, w2⟩ := DataW.trod_int u2 t2
      obtain ⟨x3, g3, _, w3⟩ := DataW.trod_int u3 t3
      simp only [List.cons.injEq, and_true] at g0 g1 g2 g3
      subst g0 g1 g2 g3
      exact ⟨x0, x1, x2, x3, ⟨c0, c1, c2, c3⟩, w0, w1, w2, w3⟩
    have hx : ∃ s0 s1 s2 s3 : Nat → Int, ∀ i, i < len → (w.cell? (a.add (i * 4 + 0)) = some (.int k0 (s0 i)) ∧ w.cell? (a.add (i * 4 + 1)) = some (.int k1 (s1 i)) ∧ w.cell? (a.add (i * 4 + 2)) = some (.int k2 (s2 i)) ∧ w.cell? (a.add (i * 4 + 3)) = some (.int k3 (s3 i))) ∧
        (Lit.int k0 (s0 i)).wf = true ∧ (Lit.int k1 (s1 i)).wf = true ∧ (Lit.int k2 (s2 i)).wf = true ∧ (Lit.int k3 (s3 i)).wf = true := by
      classical
      have g : ∀ i, ∃ x : Int × Int × Int × Int, i < len → (w.cell? (a.add (i * 4 + 0)) = some (.int k0 x.1) ∧ w.cell? (a.add (i * 4 + 1)) = some (.int k1 x.2.1) ∧ w.cell? (a.add (i * 4 + 2)) = some (.int k2 x.2.2.1) ∧ w.cell? (a.add (i * 4 + 3)) = some (.int k3 x.2.2.2)) ∧
          (Lit.int k0 x.1).wf = true ∧ (Lit.int k1 x.2.1).wf = true ∧ (Lit.int k2 x.2.2.1).wf = true ∧ (Lit.int k3 x.2.2.2).wf = true := fun i => by
        by_cases h : i < len
        · obtain ⟨x0, x1, x2, x3, hh⟩ := hcell i h
          exact ⟨(x0, x1, x2, x3), fun _ => hh⟩
        · exact ⟨(0, 0, 0, 0), fun h' => absurd h' h⟩
      refine ⟨fun i => (Classical.choose (g i)).1, fun i => (Classical.choose (g i)).2.1, fun i => (Classical.choose (g i)).2.2.1, fun i => (Classical.choose (g i)).2.2.2, fun i hi => Classical.choose_spec (g i) hi⟩
    obtain ⟨s0, s1, s2, s3, hs⟩ := hx
    refine ⟨some a, len, cap, s0, s1, s2, s3, rfl, by omega, fun hn => ?_, fun i hi => (hs i hi).2⟩
    obtain ⟨b, off, spot⟩ := a
    have hc0 := (hs 0 hn).1.1
    have hspot : spot = none := by simpa [Addr.add] using World.cell?_spot hc0
    subst hspot
    have hadd : ∀ j, (⟨b, off, none⟩ : Addr).add j = ⟨b, off + j, none⟩ := fun j => by unfold Addr.add; split <;> simp_all
    refine ⟨b, off, rfl, by have := block_lt_of_cell hc0; rwa [hadd] at this, fun i hi => ?_⟩
    have := (hs i hi).1
    simp only [hadd, Nat.add_zero, ← Nat.add_assoc] at this
    exact this
end
end Go.Proofs.YtdaglmoibijdeaaDoor.Opens
