/-
  MemMerges and MemMergesBoth walked: they return true at any two blocks, any words.
-/
import Derived.Test.YtmdacnegiilgfaaMerge
import Derived.Deep.RegionHeld3
namespace Go.Proofs.Ytmdacnegiilgfaa.Merges
open Go.RowKit Base Mem Blks Merge
set_option linter.unusedVariables false
set_option linter.unusedSimpArgs false

theorem range_next {w w' : World} {b o : Nat} {cs : List Value} (h : w.rangeAt b o cs) (hb : Below w.heap.size w w') : w'.rangeAt b o cs := fun j v hv =>
  (hb.cell (block_lt_of_cell (h j v hv))).trans (h j v hv)
theorem two_next {B C : Nat} {w0 w1 w2 : World} {f g : Nat → Int} (hb : Below w1.heap.size w1 w2) (h : w1.rangeAt B 0 (blk f) ∧ w1.rangeAt C 0 (blk g) ∧ Below w0.heap.size w0 w1) :
    w2.rangeAt B 0 (blk f) ∧ w2.rangeAt C 0 (blk g) ∧ Below w0.heap.size w0 w2 := ⟨range_next h.1 hb, range_next h.2.1 hb, h.2.2.trans (hb.mono h.2.2.size)⟩
theorem guard36 : Try.prog.eqGuardType Try.prog.depth 36 = false := by kernel_rfl
theorem cells23 : Try.prog.cellsOf 23 = 1 := by kernel_rfl
theorem info23 : ∃ i, Try.prog.info? 23 = some i := Option.isSome_iff_exists.1 (by kernel_rfl)
theorem eq36 (f g : Nat → Int) (w : World) : (Op.equalIn 10000 36 (.agg (blk f).toArray) (.agg (blk g).toArray)).run Try.prog w = .ok (eqB f g) w := by
  obtain ⟨i, hi⟩ := info23
  exact run_eql_blk Try.underlying36 hi cells23 Try.underlying23 f g w
theorem size36 (f : Nat → Int) : (Try.prog.info? 36).map (·.size) = some (blk f).length := by
  rw [blk_len]; exact (zero_of_info (P := Try.prog) info36').2

theorem merges (f g : Nat → Int) (m : Int) (hm0 : 0 ≤ m) (hm1 : m ≤ 65535) (w : World) :
    Calls Try.prog 4 #[.agg (blk f).toArray, .agg (blk g).toArray, .int .u16 m] w fun e w' => e = .returned (.bool true) ∧ Below w.heap.size w w' := by
  have hgd := guard36
  have heq := eq36
  have hu := Try.underlying36
  have hs1 := size36 f
  have hs2 := size36 g
  have hl1 := blk_len f
  have hl2 := blk_len g
  have ho1 := blk_one f
  have ho2 := blk_one g
  have hrefl : eqB (mergeF f g m) (mergeF f g m) = true := eqB_true fun _ _ => rfl
  have M1 := hide (fun w1 => merge_any f g m hm0 hm1 w1)
  have M2 := hide (fun w1 => mergeR_any f g m hm0 hm1 w1)
  have S1 : ((w.alloc (.cells (blk f).toArray 36)).alloc (.cells (blk g).toArray 36)).drew.rangeAt w.heap.size 0 (blk f) ∧ ((w.alloc (.cells (blk f).toArray 36)).alloc (.cells (blk g).toArray 36)).drew.rangeAt (w.heap.size + 1) 0 (blk g) ∧
      Below w.heap.size w ((w.alloc (.cells (blk f).toArray 36)).alloc (.cells (blk g).toArray 36)).drew := by
    refine ⟨row_range ((blk_new w 36 f).alloc _), ?_, (((Below.refl _ _).alloc (Nat.le_refl _) _).alloc (by simp) _).drew⟩
    have h := blk_new (w.alloc (.cells (blk f).toArray 36)) 36 g
    rw [World.size_alloc] at h
    exact row_range h
  go_enter Try.func4, Try.ntmps4
  go_wp2_with fail
  generalize blk f = cf at *
  generalize blk g = cg at *
  have hB2 : ∀ (w1 w2 : World), Below w1.heap.size w1 w2 → (w1.rangeAt w.heap.size 0 cf ∧ w1.rangeAt (w.heap.size + 1) 0 cg ∧ Below w.heap.size w w1) → (w2.rangeAt w.heap.size 0 cf ∧ w2.rangeAt (w.heap.size + 1) 0 cg ∧ Below w.heap.size w w2) :=
    fun w1 w2 hb h => ⟨range_next h.1 hb, range_next h.2.1 hb, h.2.2.trans (hb.mono h.2.2.size)⟩
  refine wp_region_held_drew (S := fun w' => w'.rangeAt w.heap.size 0 cf ∧ w'.rangeAt (w.heap.size + 1) 0 cg ∧ Below w.heap.size w w') (by kernel_rfl) S1 (fun hH => ?_)
  refine wpAnyH_take (i := 0) (v := _) rfl (by kernel_rfl) (by kernel_rfl) (by kernel_rfl) (fun _ _ _ h => h) (yieldsIf_load_mid (by rfl) _ _ rfl _ _ rfl _ _ (fun w h => h.1) hu rfl hs1) hH ?_
  try simp only [Act.put, List.getElem_toArray, List.getElem_cons_zero, List.getElem_cons_succ, List.setIfInBounds_toArray, List.set_cons_zero, List.set_cons_succ]
  refine wpAnyH_take (i := 1) (v := _) rfl (by kernel_rfl) (by kernel_rfl) (by kernel_rfl) (fun _ _ _ h => h) (yieldsIf_load_mid (by rfl) _ _ rfl _ _ rfl _ _ (fun w h => h.2.1) hu rfl hs2) hH ?_
  try simp only [Act.put, List.getElem_toArray, List.getElem_cons_zero, List.getElem_cons_succ, List.setIfInBounds_toArray, List.set_cons_zero, List.set_cons_succ]
  refine wpAnyH_take (i := 2) (v := ?_) rfl (by kernel_rfl) (by kernel_rfl) (by kernel_rfl) (fun _ _ _ h => h) (Or.inl ⟨by rfl, fun w hSw => ?_⟩) hH ?_
  rotate_left
  · go_simp
    try with_reducible rfl
  try simp only [Act.put, List.getElem_toArray, List.getElem_cons_zero, List.getElem_cons_succ, List.setIfInBounds_toArray, List.set_cons_zero, List.set_cons_succ]
  refine wpAnyH_take (i := 4) (v := _) rfl (by kernel_rfl) (by kernel_rfl) (by kernel_rfl) (fun _ _ _ h => h) (yieldsIf_load_mid (by rfl) _ _ rfl _ _ rfl _ _ (fun w h => h.1) hu rfl hs1) hH ?_
  try simp only [Act.put, List.getElem_toArray, List.getElem_cons_zero, List.getElem_cons_succ, List.setIfInBounds_toArray, List.set_cons_zero, List.set_cons_succ]
  refine wpAnyH_take (i := 5) (v := _) rfl (by kernel_rfl) (by kernel_rfl) (by kernel_rfl) (fun _ _ _ h => h) (yieldsIf_load_mid (by rfl) _ _ rfl _ _ rfl _ _ (fun w h => h.2.1) hu rfl hs2) hH ?_
  try simp only [Act.put, List.getElem_toArray, List.getElem_cons_zero, List.getElem_cons_succ, List.setIfInBounds_toArray, List.set_cons_zero, List.set_cons_succ]
  refine wpAnyH_take (i := 6) (v := ?_) rfl (by kernel_rfl) (by kernel_rfl) (by kernel_rfl) (fun _ _ _ h => h) (Or.inl ⟨by rfl, fun w hSw => ?_⟩) hH ?_
  rotate_left
  · go_simp
    try with_reducible rfl
  try simp only [Act.put, List.getElem_toArray, List.getElem_cons_zero, List.getElem_cons_succ, List.setIfInBounds_toArray, List.set_cons_zero, List.set_cons_succ]
  refine wpAnyH_ready (rs := [3]) (by kernel_rfl) (by simp) ?_
  refine AllReadyH.cons (o := _) rfl (fun K hK => ?_) AllReadyH.nil
  go_simp
  refine (M1.out _).mono ?_
  rintro e w2 ⟨rfl, hb2⟩
  refine hK.out _ _ (hB2 _ _ hb2 hH) (fun hH2 => ?_)
  clear hK K
  try simp only [Act.put, List.getElem_toArray, List.getElem_cons_zero, List.getElem_cons_succ, List.setIfInBounds_toArray, List.set_cons_zero, List.set_cons_succ]
  refine wpAnyH_ready (rs := [7]) (by kernel_rfl) (by simp) ?_
  refine AllReadyH.cons (o := _) rfl (fun K hK => ?_) AllReadyH.nil
  go_simp
  refine (M2.out _).mono ?_
  rintro e w3 ⟨rfl, hb3⟩
  refine hK.out _ _ (hB2 _ _ hb3 hH2) (fun hH3 => ?_)
  clear hK K
  try simp only [Act.put, List.getElem_toArray, List.getElem_cons_zero, List.getElem_cons_succ, List.setIfInBounds_toArray, List.set_cons_zero, List.set_cons_succ]
  refine wpAnyH_take (i := 8) (v := ?_) rfl (by kernel_rfl) (by kernel_rfl) (by kernel_rfl) (fun _ _ _ h => h) (Or.inl ⟨by rfl, fun w hSw => ?_⟩) hH3 ?_
  rotate_left
  · go_simp
    try with_reducible rfl
  try simp only [Act.put, List.getElem_toArray, List.getElem_cons_zero, List.getElem_cons_succ, List.setIfInBounds_toArray, List.set_cons_zero, List.set_cons_succ]
  refine wpAnyH_take (i := 9) (v := ?_) rfl (by kernel_rfl) (by kernel_rfl) (by kernel_rfl) (fun _ _ _ h => h) (Or.inl ⟨by rfl, fun w hSw => ?_⟩) hH3 ?_
  rotate_left
  · go_simp
    try with_reducible rfl
  try simp only [Act.put, List.getElem_toArray, List.getElem_cons_zero, List.getElem_cons_succ, List.setIfInBounds_toArray, List.set_cons_zero, List.set_cons_succ]
  refine wpAnyH_ready (rs := [10]) (by kernel_rfl) (by simp) ?_
  refine AllReadyH.cons (o := _) rfl (fun K hK => ?_) AllReadyH.nil
  go_simp
  refine (works_any _).mono ?_
  rintro e w4 ⟨rfl, hb4⟩
  refine hK.out _ _ (hB2 _ _ hb4 hH3) (fun hH4 => ?_)
  clear hK K
  try simp only [Act.put, List.getElem_toArray, List.getElem_cons_zero, List.getElem_cons_succ, List.setIfInBounds_toArray, List.set_cons_zero, List.set_cons_succ]
  refine wpAnyH_take (i := 11) (v := ?_) rfl (by kernel_rfl) (by kernel_rfl) (by kernel_rfl) (fun _ _ _ h => h) (Or.inl ⟨by rfl, fun w hSw => ?_⟩) hH4 ?_
  rotate_left
  · go_simp
    try with_reducible rfl
  try simp only [Act.put, List.getElem_toArray, List.getElem_cons_zero, List.getElem_cons_succ, List.setIfInBounds_toArray, List.set_cons_zero, List.set_cons_succ]
  refine wpAnyH_take (i := 12) (v := ?_) rfl (by kernel_rfl) (by kernel_rfl) (by kernel_rfl) (fun _ _ _ h => h) (Or.inl ⟨by rfl, fun w hSw => ?_⟩) hH4 ?_
  rotate_left
  · go_simp
    try with_reducible rfl
  try simp only [Act.put, List.getElem_toArray, List.getElem_cons_zero, List.getElem_cons_succ, List.setIfInBounds_toArray, List.set_cons_zero, List.set_cons_succ]
  refine wpAnyH_done (by kernel_rfl) ?_ _
  go_wp2
  go_ret
  exact ⟨rfl, hH4.2.2⟩
end Go.Proofs.Ytmdacnegiilgfaa.Merges
