/-
  The walk's steps on a whole note: loaded, laid, stored; one of its fields stored.
-/
import Derived.Test.YtnjojcikahiieaaNRec
import Derived.Deep.MidRow
import Derived.Great.Walk
namespace Go.Proofs.Ytnjojcikahiieaa.NLaw
open Go.RowKit Base Blks NRec
set_option linter.unusedVariables false
section
variable {ops : Array Oper} {rest : List Oper} {o : Oper} {a : Act} {w : World} {Q : Exit → Act → World → Prop} {n m : NT} {b : Nat}
theorem load_note (hg : o.guard = none) (x : Operand) (ho : o.op = .load 29 x) (b : Nat) (hx : a.eval x = .pointer (some ⟨b, 0, none⟩)) (h : NAt w b n)
    (hK : wpList Try.prog ops Q rest (a.put o.dst (.agg (ntL n).toArray)) w) : wpList Try.prog ops Q (o :: rest) a w :=
  wpList_load_row hg _ x ho b hx _ _ (0, 0) _ h Try.underlying29 rfl (sizeN n) hK
theorem load_note_g (hw : Region.wanted o (yielded ops a.tmps) = true) (x : Operand) (ho : o.op = .load 29 x) (b : Nat) (hx : a.eval x = .pointer (some ⟨b, 0, none⟩)) (h : NAt w b n)
    (hK : wpList Try.prog ops Q rest (a.put o.dst (.agg (ntL n).toArray)) w) : wpList Try.prog ops Q (o :: rest) a w :=
  wpList_step fun K hK' => by
    rw [if_pos hw]
    exact wp_load_row _ x ho b hx _ _ (0, 0) _ h Try.underlying29 rfl (sizeN n) (hK' _ _ hK)
theorem alloc_note (hg : o.guard = none) (ho : o.op = .alloc 29) (N : Nat) (hN : w.heap.size = N)
    (h : wpList Try.prog ops Q rest (a.put o.dst (.pointer (some ⟨N, 0, none⟩))) (w.alloc (.cells (ntL zeroN).toArray 29))) : wpList Try.prog ops Q (o :: rest) a w :=
  Arr.wpList_alloc_zero hg _ ho _ _ infoN N hN h
theorem store_note_last (hg : o.guard = none) (x y : Operand) (ho : o.op = .store 29 x y) (m : NT) (N : Nat) (hN : w.heap.size = N)
    (hx : a.eval x = .pointer (some ⟨N, 0, none⟩)) (hy : a.eval y = .agg (ntL n).toArray)
    (h : wpList Try.prog ops Q rest (a.put o.dst undef) (w.alloc (.cells (ntL n).toArray 29))) : wpList Try.prog ops Q (o :: rest) a (w.alloc (.cells (ntL m).toArray 29)) :=
  Arr.wpList_store_last hg _ x y ho _ _ N hN hx hy (zero_of_info (P := Try.prog) infoN).2 (ntL_size n) (ntL_size m) (ntL_all n) h
theorem load_data (hg : o.guard = none) (x : Operand) (ho : o.op = .load 27 x) (b : Nat) (hx : a.eval x = .pointer (some ⟨b, 8, none⟩)) (h : NAt w b n)
    (hK : wpList Try.prog ops Q rest (a.put o.dst (.agg (blk n.f).toArray)) w) : wpList Try.prog ops Q (o :: rest) a w :=
  wpList_load_mid hg _ x ho b 8 hx (blk n.f) _ h.range Try.underlying27 rfl (by rw [(zero_of_info (P := Try.prog) infoB).2, blk_len]) hK
theorem load_data_g (hw : Region.wanted o (yielded ops a.tmps) = true) (x : Operand) (ho : o.op = .load 27 x) (b : Nat) (hx : a.eval x = .pointer (some ⟨b, 8, none⟩)) (h : NAt w b n)
    (hK : wpList Try.prog ops Q rest (a.put o.dst (.agg (blk n.f).toArray)) w) : wpList Try.prog ops Q (o :: rest) a w :=
  wpList_step fun K hK' => by
    rw [if_pos hw]
    exact wp_load_mid _ x ho b 8 hx (blk n.f) _ h.range Try.underlying27 rfl (by rw [(zero_of_info (P := Try.prog) infoB).2, blk_len]) (hK' _ _ hK)
theorem store_data (hg : o.guard = none) (x y : Operand) (ho : o.op = .store 27 x y) (b : Nat) (hx : a.eval x = .pointer (some ⟨b, 8, none⟩)) (g : Nat → Int) (hy : a.eval y = .agg (blk g).toArray) (h : NAt w b n)
    (hK : wpList Try.prog ops Q rest (a.put o.dst undef) (w.setCells b 8 (blk g))) : wpList Try.prog ops Q (o :: rest) a w :=
  wpList_store_mid hg _ x y ho b 8 _ hx hy (by simpa [blk_len] using h.there) (by rw [(zero_of_info (P := Try.prog) infoB).2]; simp [blk_len]) (all_oneCell_toArray (blk_one g)) (by simpa using hK)
theorem NAt.rows (h : NAt w b n) : w.rowIs b 29 24 (fun j => (ntL n).getD j undef) := ⟨_, h, ntL_size n, fun i hi => by
  rw [List.getElem?_toArray]
  show (ntL n)[i]? = some ((ntL n).getD i undef)
  rw [List.getD_eq_getElem?_getD, List.getElem?_eq_getElem (by rw [ntL_len]; exact hi)]
  rfl⟩
theorem NAt.of_rows {f : Nat → Value} (h : w.rowIs b 29 24 f) (e : ∀ j, j < 24 → (ntL n)[j]? = some (f j)) : NAt w b n := by
  obtain ⟨c, h1, h2, h3⟩ := h
  unfold NAt
  rw [h1]
  have : c = (ntL n).toArray := by
    apply Array.ext_getElem?
    intro j
    by_cases hj : j < 24
    · rw [h3 j hj, List.getElem?_toArray, e j hj]
    · rw [Array.getElem?_eq_none (by omega), Array.getElem?_eq_none (by rw [ntL_size]; omega)]
  rw [this]
theorem NAt.setAll (h : NAt w b n) (m : NT) : NAt (w.setCells b 0 (ntL m)) b m := by
  refine NAt.of_rows (rows_setCells (ntL m) 0 w _ (NAt.rows h)) fun j hj => ?_
  rw [if_pos (by rw [ntL_len]; omega), Nat.sub_zero, List.getD_eq_getElem?_getD, List.getElem?_eq_getElem (by rw [ntL_len]; exact hj)]
  rfl
theorem store_note (hg : o.guard = none) (x y : Operand) (ho : o.op = .store 29 x y) (b : Nat) (hx : a.eval x = .pointer (some ⟨b, 0, none⟩)) (m : NT) (hy : a.eval y = .agg (ntL m).toArray) (h : NAt w b n)
    (hK : wpList Try.prog ops Q rest (a.put o.dst undef) (w.setCells b 0 (ntL m))) : wpList Try.prog ops Q (o :: rest) a w :=
  wpList_store_mid hg _ x y ho b 0 _ hx hy (by
    intro j hj
    rw [ntL_size] at hj
    rw [Nat.zero_add]
    refine ⟨?_, h.frozen j⟩
    rw [(NAt.rows h).cell hj]
    rfl) (by rw [(zero_of_info (P := Try.prog) infoN).2, ntL_size]) (all_oneCell_toArray (ntL_one m)) (by simpa using hK)
theorem ret_note {P : Program} {w : World} {fn : Func} {tmps : Array Value} {p q : Tmp} (hr : fn.results = #[.cell p 29, .tmp q]) {b : Nat} (hp : tmps.getD p undef = .pointer (some ⟨b, 0, none⟩)) (h : NAt w b n)
    {fs : Array Field} (hu : P.underlying 29 = some (.struct fs)) (hi : (P.info? 29).map (·.size) = some 24) : (results fn tmps).run P w = .ok (.tuple #[.agg (ntL n).toArray, tmps.getD q undef]) w := by
  have hp' : tmps[p]?.getD undef = .pointer (some ⟨b, 0, none⟩) := by simpa using hp
  have hl := run_loadVar_row (P := P) w b 29 29 _ (0, 0) _ h hu rfl (by rw [hi, ntL_size])
  simp [results, hr, hp', asAddr, hl]
theorem ret_note1 {P : Program} {w : World} {fn : Func} {tmps : Array Value} {p : Tmp} (hr : fn.results = #[.cell p 29]) {b : Nat} (hp : tmps.getD p undef = .pointer (some ⟨b, 0, none⟩)) (h : NAt w b n)
    {fs : Array Field} (hu : P.underlying 29 = some (.struct fs)) (hi : (P.info? 29).map (·.size) = some 24) : (results fn tmps).run P w = .ok (.agg (ntL n).toArray) w :=
  results_cell_row hr tmps w b _ _ (0, 0) _ hp h hu rfl (by rw [hi, ntL_size])
end
end Go.Proofs.Ytnjojcikahiieaa.NLaw
