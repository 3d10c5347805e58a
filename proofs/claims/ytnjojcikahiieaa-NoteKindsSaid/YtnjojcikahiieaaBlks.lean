/-
  Blocks of sixteen words by value: a block is a function of the place. How it is laid, read, stored whole, compared.
-/
import Derived.Test.YtnjojcikahiieaaBase
import Derived.Deep.MidRow
import Derived.Deep.OwnRows
import Derived.ChangeKeysEq
namespace Go.Proofs.Ytnjojcikahiieaa.Blks
open Go.RowKit Base
set_option linter.unusedVariables false

/-- The cells of a block. -/
def blk (f : Nat → Int) : List Value := (List.range 16).map fun j => .int .u32 (f j)
theorem blk_len (f : Nat → Int) : (blk f).length = 16 := by simp [blk]
theorem blk_get (f : Nat → Int) {j : Nat} (h : j < 16) : (blk f)[j]? = some (.int .u32 (f j)) := by simp [blk, h]
theorem blk_one (f : Nat → Int) : ∀ v ∈ blk f, v.oneCell' = true := by
  intro v hv
  simp only [blk, List.mem_map] at hv
  obtain ⟨j, _, rfl⟩ := hv
  rfl
theorem blk_congr {f g : Nat → Int} (h : ∀ j, j < 16 → f j = g j) : blk f = blk g := by
  unfold blk
  exact List.map_congr_left fun j hj => by rw [h j (List.mem_range.1 hj)]

section
variable {w w' : World} {b : Nat} {t : TypeId} {f g : Nat → Int}
abbrev BlkAt (w : World) (b : Nat) (t : TypeId) (f : Nat → Int) : Prop := w.rowIs b t 16 (fun j => .int .u32 (f j))
theorem blk_new (w : World) (t : TypeId) (f : Nat → Int) : BlkAt (w.alloc (.cells (blk f).toArray t)) w.heap.size t f := by
  have h := World.rowIs_alloc w (blk f).toArray t (fun j => .int .u32 (f j)) (fun i hi => by
    have : i < 16 := by simpa [blk_len] using hi
    simp [blk_get f this])
  simpa [blk_len] using h
theorem row_range (h : BlkAt w b t f) : w.rangeAt b 0 (blk f) := fun j v hv => by
  have hj : j < 16 := by
    have := (List.getElem?_eq_some_iff.1 hv).1
    rwa [blk_len] at this
  rw [blk_get f hj] at hv
  rw [Nat.zero_add, h.cell hj]
  exact hv
theorem row_there (h : BlkAt w b t f) : w.there b 0 16 := fun j hj => by
  rw [Nat.zero_add]
  exact ⟨by rw [h.cell hj]; rfl, h.frozen j⟩
theorem row_set (h : BlkAt w b t f) (i : Nat) (x : Int) : BlkAt (w.setCell ⟨b, i, none⟩ (.int .u32 x)) b t (fun j => if j = i then x else f j) :=
  (h.set i _).congr fun j _ => by by_cases e : j = i <;> simp [e]
theorem rows_setCells {n : Nat} : ∀ (vs : List Value) (o : Nat) (w : World) (F : Nat → Value), w.rowIs b t n F → (w.setCells b o vs).rowIs b t n (fun j => if o ≤ j ∧ j < o + vs.length then vs.getD (j - o) undef else F j)
  | [], o, _, F, h => h.congr fun j _ => by rw [if_neg (by simp)]
  | v :: r, o, w, F, h => by
    refine (rows_setCells r (o + 1) _ _ (h.set o v)).congr fun j _ => ?_
    by_cases e : j = o
    · subst e
      rw [if_neg (by omega), if_pos rfl, if_pos (by simp)]
      simp
    · by_cases e2 : o + 1 ≤ j ∧ j < o + 1 + r.length
      · rw [if_pos e2, if_pos (by simp; omega)]
        rw [show j - o = (j - (o + 1)) + 1 by omega]
        simp
      · rw [if_neg e2, if_neg e, if_neg (by simp; omega)]
theorem row_setCells (h : BlkAt w b t f) (g : Nat → Int) : BlkAt (w.setCells b 0 (blk g)) b t g :=
  (rows_setCells (blk g) 0 w _ h).congr fun j hj => by
    rw [if_pos (by rw [blk_len]; omega), Nat.sub_zero, List.getD_eq_getElem?_getD, blk_get g hj]
    rfl
theorem below_setCells {B : Nat} {a : World} : ∀ (vs : List Value) (o : Nat) (w : World), Below B a w → B ≤ b → Below B a (w.setCells b o vs)
  | [], _, _, h, _ => h
  | v :: r, o, w, h, hb => below_setCells r (o + 1) _ (h.setCell (p := ⟨b, o, none⟩) hb v) hb
theorem size_setCells : ∀ (vs : List Value) (o : Nat) (w : World), (w.setCells b o vs).heap.size = w.heap.size
  | [], _, _ => rfl
  | v :: r, o, w => by rw [World.setCells, size_setCells r]; simp [World.setCell]
end

theorem blk_heap {w : World} {b : Nat} {t : TypeId} {f : Nat → Int} (h : BlkAt w b t f) : w.heap[b]? = some (.cells (blk f).toArray t (0, 0)) := by
  obtain ⟨cs, h1, h2, h3⟩ := h
  rw [h1]
  have e : cs = (blk f).toArray := by
    apply Array.ext_getElem?
    intro j
    by_cases hj : j < 16
    · rw [h3 j hj]
      simp [blk_get f hj]
    · rw [Array.getElem?_eq_none (by omega), Array.getElem?_eq_none (by simp [blk_len]; omega)]
  rw [e]

section
variable {P : Program} {ops : Array Oper} {rest : List Oper} {o : Oper} {a : Act} {w : World} {Q : Exit → Act → World → Prop}
/-- A whole block loaded; stored; handed back. -/
theorem load_blk (hg : o.guard = none) (ty : TypeId) (x : Operand) (ho : o.op = .load ty x) (b : Nat) (hx : a.eval x = .pointer (some ⟨b, 0, none⟩)) {t : TypeId} {f : Nat → Int} (h : BlkAt w b t f) {n : Nat} {e : TypeId}
    (hu : P.underlying ty = some (.array n e)) (hi : (P.info? ty).map (·.size) = some 16) (hK : wpList P ops Q rest (a.put o.dst (.agg (blk f).toArray)) w) : wpList P ops Q (o :: rest) a w :=
  wpList_load_mid hg ty x ho b 0 hx (blk f) _ (row_range h) hu rfl (by rw [hi, blk_len]) hK
theorem load_blk_g (hw : Region.wanted o (yielded ops a.tmps) = true) (ty : TypeId) (x : Operand) (ho : o.op = .load ty x) (b : Nat) (hx : a.eval x = .pointer (some ⟨b, 0, none⟩)) {t : TypeId} {f : Nat → Int} (h : BlkAt w b t f) {n : Nat} {e : TypeId}
    (hu : P.underlying ty = some (.array n e)) (hi : (P.info? ty).map (·.size) = some 16) (hK : wpList P ops Q rest (a.put o.dst (.agg (blk f).toArray)) w) : wpList P ops Q (o :: rest) a w :=
  wpList_step fun K hK' => by
    rw [if_pos hw]
    exact wp_load_mid ty x ho b 0 hx (blk f) _ (row_range h) hu rfl (by rw [hi, blk_len]) (hK' _ _ hK)
theorem store_blk (hg : o.guard = none) (ty : TypeId) (x y : Operand) (ho : o.op = .store ty x y) (b : Nat) (hx : a.eval x = .pointer (some ⟨b, 0, none⟩)) (g : Nat → Int) (hy : a.eval y = .agg (blk g).toArray) {t : TypeId} {f : Nat → Int} (h : BlkAt w b t f)
    (hi : (P.info? ty).map (·.size) = some 16) (hK : wpList P ops Q rest (a.put o.dst undef) (w.setCells b 0 (blk g))) : wpList P ops Q (o :: rest) a w :=
  wpList_store_mid hg ty x y ho b 0 _ hx hy (by simpa [blk_len] using row_there h) (by rw [hi]; simp [blk_len]) (all_oneCell_toArray (blk_one g)) (by simpa using hK)
theorem ret_blk {fn : Func} {tmps : Array Value} {p : Tmp} {ty e : TypeId} {n : Nat} (hr : fn.results = #[.cell p ty]) {b : Nat} (hp : tmps.getD p undef = .pointer (some ⟨b, 0, none⟩)) {t : TypeId} {f : Nat → Int} (h : BlkAt w b t f)
    (hu : P.underlying ty = some (.array n e)) (hi : (P.info? ty).map (·.size) = some 16) : (results fn tmps).run P w = .ok (.agg (blk f).toArray) w :=
  results_cell_row hr tmps w b t _ (0, 0) _ hp (blk_heap h) hu rfl (by rw [hi]; simp [blk_len])
end

/-- Whether two blocks are one. -/
def eqB (f g : Nat → Int) : Bool := (List.range 16).all fun j => f j == g j
theorem eqB_true {f g : Nat → Int} (h : ∀ j, j < 16 → f j = g j) : eqB f g = true := by
  unfold eqB
  rw [List.all_eq_true]
  intro j hj
  simpa using h j (List.mem_range.1 hj)
theorem eqB_iff {f g : Nat → Int} : eqB f g = true ↔ ∀ j, j < 16 → f j = g j := by
  refine ⟨fun h j hj => ?_, eqB_true⟩
  have := List.all_eq_true.1 h j (List.mem_range.2 hj)
  simpa using this

section
variable {P : Program} {e : TypeId}
theorem run_eqItems_blk (d : Nat) (he : P.underlying e = some (.int .u32)) (f g : Nat → Int) (w : World) : ∀ is : List Nat, (∀ i ∈ is, i < 16) →
    (Op.eqItems (d + 1) e 1 (blk f).toArray (blk g).toArray is).run P w = .ok (is.all fun j => f j == g j) w
  | [], _ => by simp [Op.eqItems]
  | i :: is, h => by
    have hi : i < 16 := h i (by simp)
    have p1 : ∀ F : Nat → Int, (part e (blk F).toArray (i * 1)).run P w = .ok (.int .u32 (F i)) w := fun F => by
      have hagg : (isAgg e).run P w = .ok false w := by
        unfold isAgg
        rw [Sem.run_bind, run_underlying he w]
        simp
      unfold part
      simp [Sem.run_bind, hagg, blk_get F hi]
    have ih := run_eqItems_blk d he f g w is (fun j hj => h j (by simp [hj]))
    simp only [Op.eqItems, Sem.run_bind, p1, Result.andThen_ok, run_equalIn_int w d e .u32 .u32 (f i) (g i) he]
    cases hfg : f i == g i
    · simp [hfg]
    · simp [hfg, ih]
theorem run_eql_blk {t : TypeId} {i : TypeInfo} (hu : P.underlying t = some (.array 16 e)) (hi : P.info? e = some i) (hc : P.cellsOf e = 1) (he : P.underlying e = some (.int .u32)) (f g : Nat → Int) (w : World) :
    (Op.equalIn 10000 t (.agg (blk f).toArray) (.agg (blk g).toArray)).run P w = .ok (eqB f g) w := by
  rw [run_equalIn_array (w := w) 9999 _ _ hu hi, hc]
  exact run_eqItems_blk 9998 he f g w (List.range 16) (fun j hj => List.mem_range.1 hj)
end
end Go.Proofs.Ytnjojcikahiieaa.Blks
