/-
  Do of the layer 'step' walked, over the table of the forms: a part of the instructions.
-/
import Derived.Test.YticlojpdcdkdgaaDoorDoSt
import Derived.Test.YticlojpdcdkdgaaDoorLastOp
namespace Go.Proofs.YticlojpdcdkdgaaDoor.Do
open Go.RowKit Base Blks CodePlain CodeBits CodeTab Regs DoSt
set_option linter.unusedVariables false
set_option linter.unusedSimpArgs false
set_option maxRecDepth 100000

set_option maxHeartbeats 1000000 in
theorem do_4 (a b c n at_ : Int) (f : Nat → Int) (hm : mayB 4 a b c n = true) (h0 : 0 ≤ at_) (h1 : at_ ≤ 1024) (w : World) (hT : Tab w) :
    Calls Tryd.prog 13 #[.agg (blk f).toArray, .int .i64 at_, code5 4 a b c n] w fun e w' => e = .returned (.tuple #[.agg (blk (putF (zf f) a (bits .or .u32 (getF (zf f) b) (getF (zf f) c)))).toArray, .int .i64 (at_ + 1), .int .i64 0]) ∧ Below w.heap.size w w' := by
  have hu := Tryd.underlying23
  have HI := hide (zero_of_info (P := Tryd.prog) infoR).2
  have HM := hide (fun w hT => CodeMay.may_any 4 a b c n (by omega) w hT)
  rw [show errX 4 a b c n = 0 by simp [errX, hm]] at HM
  have hn := n_bd hm
  obtain ⟨hn0, hn1⟩ := hn
  have S0 := DoSt.new w hT f #[.int .u8 4, .int .i64 a, .int .i64 b, .int .i64 c, .int .i64 n]
  clear hT hm
  unfold code5 at *
  go_enter Tryd.func13, Tryd.ntmps13
  go_wp2_with (first
    | ((with_reducible refine Arr.wpList_alloc_zero rfl 23 (by rfl) _ _ infoR (w.heap.size + 1 + 1) ?_ ?_); (· simp))
    | ((with_reducible refine Arr.wpList_alloc_zero rfl 23 (by rfl) _ _ infoR (w.heap.size + 1 + 1 + 1) ?_ ?_); (· simp))
    | ((with_reducible refine Great.wpList_readTo rfl (some 14) rfl (.agg (blk (fun _ => 0)).toArray) ?_ ?_); (· as_aux_lemma => kernel_rfl))
    | ((with_reducible refine Arr.wpList_store_last rfl 23 (.tmp 9) (.tmp 14) rfl _ _ (w.heap.size + 1 + 1 + 1) ?_ rfl rfl HI.out ?_ ?_ ?_ ?_); (· simp); (· simp [blk_len]); (· simp [blk_len]); (· simpa using blk_one (fun _ => 0))))
  refine wp_scope_fwd 0 (by rfl) (fun J hJ => ?_)
  have HJ := hide hJ
  clear hJ
  go_wp2_with (first
    | ((with_reducible refine Arr.wpList_alloc_zero rfl 23 (by rfl) _ _ infoR (w.heap.size + 1 + 1) ?_ ?_); (· simp))
    | ((with_reducible refine Arr.wpList_alloc_zero rfl 23 (by rfl) _ _ infoR (w.heap.size + 1 + 1 + 1) ?_ ?_); (· simp))
    | ((with_reducible refine Great.wpList_readTo rfl (some 14) rfl (.agg (blk (fun _ => 0)).toArray) ?_ ?_); (· as_aux_lemma => kernel_rfl))
    | ((with_reducible refine Arr.wpList_store_last rfl 23 (.tmp 9) (.tmp 14) rfl _ _ (w.heap.size + 1 + 1 + 1) ?_ rfl rfl HI.out ?_ ?_ ?_ ?_); (· simp); (· simp [blk_len]); (· simp [blk_len]); (· simpa using blk_one (fun _ => 0))))
  refine (HM.out _ S0.tab).mono ?_
  rintro e w1 ⟨rfl, hb1⟩
  have S1 := S0.below hb1
  have c0 := S1.regs.cell (show 0 < 16 by omega)
  have f0 := S1.regs.frozen 0
  clear hb1 S0
  go_wp2_with fail
  clear c0 f0
  have S2 := S1.set0.drew
  clear S1
  refine wp_region_held_drew (S := (fun w' => DoSt w w' (zf f) #[.int .u8 4, .int .i64 a, .int .i64 b, .int .i64 c, .int .i64 n])) (by kernel_rfl) S2 (fun hH0 => ?_)
  refine wpAnyH_take (i := 0) (v := _) rfl (by kernel_rfl) (by kernel_rfl) (by kernel_rfl) (fun _ _ _ h => h) (yieldsIf_load_mid (by rfl) _ _ rfl _ _ rfl _ _ (fun w h => row_range h.regs) hu rfl (sizeR _)) hH0 ?_
  try simp only [Act.put, List.getElem_toArray, List.getElem_cons_zero, List.getElem_cons_succ, List.setIfInBounds_toArray, List.set_cons_zero, List.set_cons_succ]
  refine wpAnyH_take (i := 1) (v := ?_) rfl (by kernel_rfl) (by kernel_rfl) (by kernel_rfl) (fun _ _ _ h => h) (Or.inl ⟨by rfl, fun w hSw => ?_⟩) hH0 ?_
  rotate_left
  · clear hSw
    go_simp
    try with_reducible rfl
  try simp only [Act.put, List.getElem_toArray, List.getElem_cons_zero, List.getElem_cons_succ, List.setIfInBounds_toArray, List.set_cons_zero, List.set_cons_succ]
  refine wpAnyH_take (i := 2) (v := ?_) rfl (by kernel_rfl) (by kernel_rfl) (by kernel_rfl) (fun _ _ _ h => h) (Or.inl ⟨by rfl, fun w hSw => ?_⟩) hH0 ?_
  rotate_left
  · have hc := c5_of (DoSt.code hSw)
    clear hSw
    go_simp
    try with_reducible rfl
  try simp only [Act.put, List.getElem_toArray, List.getElem_cons_zero, List.getElem_cons_succ, List.setIfInBounds_toArray, List.set_cons_zero, List.set_cons_succ]
  refine wpAnyH_take (i := 4) (v := _) rfl (by kernel_rfl) (by kernel_rfl) (by kernel_rfl) (fun _ _ _ h => h) (yieldsIf_load_mid (by rfl) _ _ rfl _ _ rfl _ _ (fun w h => row_range h.regs) hu rfl (sizeR _)) hH0 ?_
  try simp only [Act.put, List.getElem_toArray, List.getElem_cons_zero, List.getElem_cons_succ, List.setIfInBounds_toArray, List.set_cons_zero, List.set_cons_succ]
  refine wpAnyH_take (i := 5) (v := ?_) rfl (by kernel_rfl) (by kernel_rfl) (by kernel_rfl) (fun _ _ _ h => h) (Or.inl ⟨by rfl, fun w hSw => ?_⟩) hH0 ?_
  rotate_left
  · clear hSw
    go_simp
    try with_reducible rfl
  try simp only [Act.put, List.getElem_toArray, List.getElem_cons_zero, List.getElem_cons_succ, List.setIfInBounds_toArray, List.set_cons_zero, List.set_cons_succ]
  refine wpAnyH_take (i := 6) (v := ?_) rfl (by kernel_rfl) (by kernel_rfl) (by kernel_rfl) (fun _ _ _ h => h) (Or.inl ⟨by rfl, fun w hSw => ?_⟩) hH0 ?_
  rotate_left
  · have hc := c5_of (DoSt.code hSw)
    clear hSw
    go_simp
    try with_reducible rfl
  try simp only [Act.put, List.getElem_toArray, List.getElem_cons_zero, List.getElem_cons_succ, List.setIfInBounds_toArray, List.set_cons_zero, List.set_cons_succ]
  refine wpAnyH_ready (rs := [3]) (by kernel_rfl) (by simp) ?_
  refine AllReadyH.cons (o := _) rfl (fun K hK => ?_) AllReadyH.nil
  go_simp
  refine (get_any (zf f) a _).mono ?_
  rintro e wa ⟨rfl, hba⟩
  refine hK.out _ _ (DoSt.below hH0 hba) (fun hH1 => ?_)
  clear hK K
  try simp only [Act.put, List.getElem_toArray, List.getElem_cons_zero, List.getElem_cons_succ, List.setIfInBounds_toArray, List.set_cons_zero, List.set_cons_succ]
  refine wpAnyH_ready (rs := [7]) (by kernel_rfl) (by simp) ?_
  refine AllReadyH.cons (o := _) rfl (fun K hK => ?_) AllReadyH.nil
  go_simp
  refine (get_any (zf f) b _).mono ?_
  rintro e wb ⟨rfl, hbb⟩
  refine hK.out _ _ (DoSt.below hH1 hbb) (fun hH2 => ?_)
  clear hK K
  try simp only [Act.put, List.getElem_toArray, List.getElem_cons_zero, List.getElem_cons_succ, List.setIfInBounds_toArray, List.set_cons_zero, List.set_cons_succ]
  refine wpAnyH_take (i := 8) (v := ?_) rfl (by kernel_rfl) (by kernel_rfl) (by kernel_rfl) (fun _ _ _ h => h) (Or.inl ⟨by rfl, fun w hSw => ?_⟩) hH2 ?_
  rotate_left
  · clear hSw
    go_simp
    try with_reducible rfl
  try simp only [Act.put, List.getElem_toArray, List.getElem_cons_zero, List.getElem_cons_succ, List.setIfInBounds_toArray, List.set_cons_zero, List.set_cons_succ]
  refine wpAnyH_take (i := 9) (v := ?_) rfl (by kernel_rfl) (by kernel_rfl) (by kernel_rfl) (fun _ _ _ h => h) (Or.inl ⟨by rfl, fun w hSw => ?_⟩) hH2 ?_
  rotate_left
  · clear hSw
    go_simp
    try with_reducible rfl
  try simp only [Act.put, List.getElem_toArray, List.getElem_cons_zero, List.getElem_cons_succ, List.setIfInBounds_toArray, List.set_cons_zero, List.set_cons_succ]
  refine wpAnyH_done (by kernel_rfl) ?_ _
  have S3 : DoSt w wb (zf f) #[.int .u8 4, .int .i64 a, .int .i64 b, .int .i64 c, .int .i64 n] := hH2
  clear hH0 hH1 hH2 S2 hba hbb
  have hc := c5_of S3.code
  have hnf : ∀ w, (binOp .neq 37 (.func (.func 25) #[] #[]) .nilFunc).run Tryd.prog w = .ok (.bool true) w := fun _ => by as_aux_lemma => kernel_rfl
  go_wp2_with fail
  refine (Of.of_4 _).mono ?_
  rintro e wx ⟨rfl, rfl⟩
  clear hc
  go_wp2_with fail
  refine LastOp.start (S := (fun w' => DoSt w w' (zf f) #[.int .u8 4, .int .i64 a, .int .i64 b, .int .i64 c, .int .i64 n])) (by kernel_rfl) S3.drew (fun hH0 => ?_)
  refine LastOp.take (i := 0) (v := _) rfl (by kernel_rfl) (by kernel_rfl) (by kernel_rfl) (fun _ _ _ h => h) (yieldsIf_load_mid (by rfl) _ _ rfl _ _ rfl _ _ (fun w h => row_range h.regs) hu rfl (sizeR _)) hH0 ?_
  try simp only [Act.put, List.getElem_toArray, List.getElem_cons_zero, List.getElem_cons_succ, List.setIfInBounds_toArray, List.set_cons_zero, List.set_cons_succ]
  refine LastOp.take (i := 1) (v := ?_) rfl (by kernel_rfl) (by kernel_rfl) (by kernel_rfl) (fun _ _ _ h => h) (Or.inl ⟨by rfl, fun w hSw => ?_⟩) hH0 ?_
  rotate_left
  · clear hSw
    go_simp
    try with_reducible rfl
  try simp only [Act.put, List.getElem_toArray, List.getElem_cons_zero, List.getElem_cons_succ, List.setIfInBounds_toArray, List.set_cons_zero, List.set_cons_succ]
  refine LastOp.take (i := 2) (v := ?_) rfl (by kernel_rfl) (by kernel_rfl) (by kernel_rfl) (fun _ _ _ h => h) (Or.inl ⟨by rfl, fun w hSw => ?_⟩) hH0 ?_
  rotate_left
  · have hc := c5_of (DoSt.code hSw)
    clear hSw
    go_simp
    try with_reducible rfl
  try simp only [Act.put, List.getElem_toArray, List.getElem_cons_zero, List.getElem_cons_succ, List.setIfInBounds_toArray, List.set_cons_zero, List.set_cons_succ]
  refine LastOp.take (i := 3) (v := ?_) rfl (by kernel_rfl) (by kernel_rfl) (by kernel_rfl) (fun _ _ _ h => h) (Or.inl ⟨by rfl, fun w hSw => ?_⟩) hH0 ?_
  rotate_left
  · clear hSw
    go_simp
    try with_reducible rfl
  try simp only [Act.put, List.getElem_toArray, List.getElem_cons_zero, List.getElem_cons_succ, List.setIfInBounds_toArray, List.set_cons_zero, List.set_cons_succ]
  refine LastOp.take (i := 4) (v := ?_) rfl (by kernel_rfl) (by kernel_rfl) (by kernel_rfl) (fun _ _ _ h => h) (Or.inl ⟨by rfl, fun w hSw => ?_⟩) hH0 ?_
  rotate_left
  · clear hSw
    go_simp
    try with_reducible rfl
  try simp only [Act.put, List.getElem_toArray, List.getElem_cons_zero, List.getElem_cons_succ, List.setIfInBounds_toArray, List.set_cons_zero, List.set_cons_succ]
  refine LastOp.take (i := 5) (v := _) rfl (by kernel_rfl) (by kernel_rfl) (by kernel_rfl) (fun _ _ _ h => h) (yieldsIf_load_mid (by rfl) _ _ rfl _ _ rfl _ _ (fun w h => row_range h.regs) hu rfl (sizeR _)) hH0 ?_
  try simp only [Act.put, List.getElem_toArray, List.getElem_cons_zero, List.getElem_cons_succ, List.setIfInBounds_toArray, List.set_cons_zero, List.set_cons_succ]
  refine LastOp.take (i := 6) (v := ?_) rfl (by kernel_rfl) (by kernel_rfl) (by kernel_rfl) (fun _ _ _ h => h) (Or.inl ⟨by rfl, fun w hSw => ?_⟩) hH0 ?_
  rotate_left
  · clear hSw
    go_simp
    try with_reducible rfl
  try simp only [Act.put, List.getElem_toArray, List.getElem_cons_zero, List.getElem_cons_succ, List.setIfInBounds_toArray, List.set_cons_zero, List.set_cons_succ]
  refine LastOp.take (i := 7) (v := ?_) rfl (by kernel_rfl) (by kernel_rfl) (by kernel_rfl) (fun _ _ _ h => h) (Or.inl ⟨by rfl, fun w hSw => ?_⟩) hH0 ?_
  rotate_left
  · have hc := c5_of (DoSt.code hSw)
    clear hSw
    go_simp
    try with_reducible rfl
  try simp only [Act.put, List.getElem_toArray, List.getElem_cons_zero, List.getElem_cons_succ, List.setIfInBounds_toArray, List.set_cons_zero, List.set_cons_succ]
  refine LastOp.one (i := 8) (by kernel_rfl) rfl (fun K hK => ?_)
  go_simp
  refine (get_any (zf f) c _).mono ?_
  rintro e wc ⟨rfl, hbc⟩
  have hH1 := DoSt.below hH0 hbc
  refine hK.out _ _ (Or.inr hH1) ?_
  clear hK K
  try simp only [Act.put, List.getElem_toArray, List.getElem_cons_zero, List.getElem_cons_succ, List.setIfInBounds_toArray, List.set_cons_zero, List.set_cons_succ]
  refine LastOp.one (i := 9) (by kernel_rfl) rfl (fun K hK => ?_)
  go_simp
  refine (or_any (getF (zf f) b) (getF (zf f) c) _).mono ?_
  rintro e wx ⟨rfl, rfl⟩
  have hH2 := hH1
  refine hK.out _ _ (Or.inr hH2) ?_
  clear hK K
  try simp only [Act.put, List.getElem_toArray, List.getElem_cons_zero, List.getElem_cons_succ, List.setIfInBounds_toArray, List.set_cons_zero, List.set_cons_succ]
  refine LastOp.one (i := 10) (by kernel_rfl) rfl (fun K hK => ?_)
  go_simp
  refine (put_any (zf f) a (bits .or .u32 (getF (zf f) b) (getF (zf f) c)) _).mono ?_
  rintro e wd ⟨rfl, hbd⟩
  have hH3 := DoSt.below hH2 hbd
  refine hK.out _ _ (Or.inr hH3) ?_
  clear hK K
  try simp only [Act.put, List.getElem_toArray, List.getElem_cons_zero, List.getElem_cons_succ, List.setIfInBounds_toArray, List.set_cons_zero, List.set_cons_succ]
  refine LastOp.one (i := 11) (by kernel_rfl) rfl (fun K hK => ?_)
  rw [if_pos (by rfl)]
  refine wp_store_mid 23 _ _ rfl w.heap.size 0 (blk (putF (zf f) a (bits .or .u32 (getF (zf f) b) (getF (zf f) c)))).toArray rfl rfl (by simpa [blk_len] using row_there (DoSt.regs hH3)) (by rw [HI.out]; simp [blk_len]) (all_oneCell_toArray (blk_one _)) ?_
  rw [List.toList_toArray]
  refine hK.out _ _ (Or.inl (by kernel_rfl)) ?_
  clear hK K
  try simp only [Act.put, List.getElem_toArray, List.getElem_cons_zero, List.getElem_cons_succ, List.setIfInBounds_toArray, List.set_cons_zero, List.set_cons_succ]
  refine LastOp.done (by kernel_rfl) ?_ _
  have S4 := DoSt.setRegs hH3 (putF (zf f) a (bits .or .u32 (getF (zf f) b) (getF (zf f) c)))
  clear hH0 hH1 hH2 hH3 S3
  go_wp2_with fail
  go_step3
  refine And.intro (rfl : (0 : Nat) = 0) ?_
  refine HJ.out _ _ ?_
  go_wp2_with (first
    | ((refine load_blk rfl 23 (.tmp 3) rfl w.heap.size rfl S4.regs hu HI.out ?_))
    | ((with_reducible refine store_blk rfl 23 (.tmp 6) (.tmp 99) rfl (w.heap.size + 1 + 1) ?_ (putF (zf f) a (bits .or .u32 (getF (zf f) b) (getF (zf f) c))) ?_ S4.out HI.out ?_); (· rfl); (· rfl)))
  try rw [jump_ret]
  exact bodyPost_ret (v := .tuple #[.agg (blk (putF (zf f) a (bits .or .u32 (getF (zf f) b) (getF (zf f) c)))).toArray, .int .i64 (at_ + 1), .int .i64 0]) (ret_blk3 (b := w.heap.size + 1 + 1) Tryd.results13 rfl (row_setCells S4.out _) hu HI.out) rfl ⟨rfl, below_setCells _ _ _ S4.bel (by omega)⟩
set_option maxHeartbeats 1000000 in
theorem do_5 (a b c n at_ : Int) (f : Nat → Int) (hm : mayB 5 a b c n = true) (h0 : 0 ≤ at_) (h1 : at_ ≤ 1024) (w : World) (hT : Tab w) :
    Calls Tryd.prog 13 #[.agg (blk f).toArray, .int .i64 at_, code5 5 a b c n] w fun e w' => e = .returned (.tuple #[.agg (blk (putF (zf f) a (bits .xor .u32 (getF (zf f) b) (getF (zf f) c)))).toArray, .int .i64 (at_ + 1), .int .i64 0]) ∧ Below w.heap.size w w' := by
  have hu := Tryd.underlying23
  have HI := hide (zero_of_info (P := Tryd.prog) infoR).2
  have HM := hide (fun w hT => CodeMay.may_any 5 a b c n (by omega) w hT)
  rw [show errX 5 a b c n = 0 by simp [errX, hm]] at HM
  have hn := n_bd hm
  obtain ⟨hn0, hn1⟩ := hn
  have S0 := DoSt.new w hT f #[.int .u8 5, .int .i64 a, .int .i64 b, .int .i64 c, .int .i64 n]
  clear hT hm
  unfold code5 at *
  go_enter Tryd.func13, Tryd.ntmps13
  go_wp2_with (first
    | ((with_reducible refine Arr.wpList_alloc_zero rfl 23 (by rfl) _ _ infoR (w.heap.size + 1 + 1) ?_ ?_); (· simp))
    | ((with_reducible refine Arr.wpList_alloc_zero rfl 23 (by rfl) _ _ infoR (w.heap.size + 1 + 1 + 1) ?_ ?_); (· simp))
    | ((with_reducible refine Great.wpList_readTo rfl (some 14) rfl (.agg (blk (fun _ => 0)).toArray) ?_ ?_); (· as_aux_lemma => kernel_rfl))
    | ((with_reducible refine Arr.wpList_store_last rfl 23 (.tmp 9) (.tmp 14) rfl _ _ (w.heap.size + 1 + 1 + 1) ?_ rfl rfl HI.out ?_ ?_ ?_ ?_); (· simp); (· simp [blk_len]); (· simp [blk_len]); (· simpa using blk_one (fun _ => 0))))
  refine wp_scope_fwd 0 (by rfl) (fun J hJ => ?_)
  have HJ := hide hJ
  clear hJ
  go_wp2_with (first
    | ((with_reducible refine Arr.wpList_alloc_zero rfl 23 (by rfl) _ _ infoR (w.heap.size + 1 + 1) ?_ ?_); (· simp))
    | ((with_reducible refine Arr.wpList_alloc_zero rfl 23 (by rfl) _ _ infoR (w.heap.size + 1 + 1 + 1) ?_ ?_); (· simp))
    | ((with_reducible refine Great.wpList_readTo rfl (some 14) rfl (.agg (blk (fun _ => 0)).toArray) ?_ ?_); (· as_aux_lemma => kernel_rfl))
    | ((with_reducible refine Arr.wpList_store_last rfl 23 (.tmp 9) (.tmp 14) rfl _ _ (w.heap.size + 1 + 1 + 1) ?_ rfl rfl HI.out ?_ ?_ ?_ ?_); (· simp); (· simp [blk_len]); (· simp [blk_len]); (· simpa using blk_one (fun _ => 0))))
  refine (HM.out _ S0.tab).mono ?_
  rintro e w1 ⟨rfl, hb1⟩
  have S1 := S0.below hb1
  have c0 := S1.regs.cell (show 0 < 16 by omega)
  have f0 := S1.regs.frozen 0
  clear hb1 S0
  go_wp2_with fail
  clear c0 f0
  have S2 := S1.set0.drew
  clear S1
  refine wp_region_held_drew (S := (fun w' => DoSt w w' (zf f) #[.int .u8 5, .int .i64 a, .int .i64 b, .int .i64 c, .int .i64 n])) (by kernel_rfl) S2 (fun hH0 => ?_)
  refine wpAnyH_take (i := 0) (v := _) rfl (by kernel_rfl) (by kernel_rfl) (by kernel_rfl) (fun _ _ _ h => h) (yieldsIf_load_mid (by rfl) _ _ rfl _ _ rfl _ _ (fun w h => row_range h.regs) hu rfl (sizeR _)) hH0 ?_
  try simp only [Act.put, List.getElem_toArray, List.getElem_cons_zero, List.getElem_cons_succ, List.setIfInBounds_toArray, List.set_cons_zero, List.set_cons_succ]
  refine wpAnyH_take (i := 1) (v := ?_) rfl (by kernel_rfl) (by kernel_rfl) (by kernel_rfl) (fun _ _ _ h => h) (Or.inl ⟨by rfl, fun w hSw => ?_⟩) hH0 ?_
  rotate_left
  · clear hSw
    go_simp
    try with_reducible rfl
  try simp only [Act.put, List.getElem_toArray, List.getElem_cons_zero, List.getElem_cons_succ, List.setIfInBounds_toArray, List.set_cons_zero, List.set_cons_succ]
  refine wpAnyH_take (i := 2) (v := ?_) rfl (by kernel_rfl) (by kernel_rfl) (by kernel_rfl) (fun _ _ _ h => h) (Or.inl ⟨by rfl, fun w hSw => ?_⟩) hH0 ?_
  rotate_left
  · have hc := c5_of (DoSt.code hSw)
    clear hSw
    go_simp
    try with_reducible rfl
  try simp only [Act.put, List.getElem_toArray, List.getElem_cons_zero, List.getElem_cons_succ, List.setIfInBounds_toArray, List.set_cons_zero, List.set_cons_succ]
  refine wpAnyH_take (i := 4) (v := _) rfl (by kernel_rfl) (by kernel_rfl) (by kernel_rfl) (fun _ _ _ h => h) (yieldsIf_load_mid (by rfl) _ _ rfl _ _ rfl _ _ (fun w h => row_range h.regs) hu rfl (sizeR _)) hH0 ?_
  try simp only [Act.put, List.getElem_toArray, List.getElem_cons_zero, List.getElem_cons_succ, List.setIfInBounds_toArray, List.set_cons_zero, List.set_cons_succ]
  refine wpAnyH_take (i := 5) (v := ?_) rfl (by kernel_rfl) (by kernel_rfl) (by kernel_rfl) (fun _ _ _ h => h) (Or.inl ⟨by rfl, fun w hSw => ?_⟩) hH0 ?_
  rotate_left
  · clear hSw
    go_simp
    try with_reducible rfl
  try simp only [Act.put, List.getElem_toArray, List.getElem_cons_zero, List.getElem_cons_succ, List.setIfInBounds_toArray, List.set_cons_zero, List.set_cons_succ]
  refine wpAnyH_take (i := 6) (v := ?_) rfl (by kernel_rfl) (by kernel_rfl) (by kernel_rfl) (fun _ _ _ h => h) (Or.inl ⟨by rfl, fun w hSw => ?_⟩) hH0 ?_
  rotate_left
  · have hc := c5_of (DoSt.code hSw)
    clear hSw
    go_simp
    try with_reducible rfl
  try simp only [Act.put, List.getElem_toArray, List.getElem_cons_zero, List.getElem_cons_succ, List.setIfInBounds_toArray, List.set_cons_zero, List.set_cons_succ]
  refine wpAnyH_ready (rs := [3]) (by kernel_rfl) (by simp) ?_
  refine AllReadyH.cons (o := _) rfl (fun K hK => ?_) AllReadyH.nil
  go_simp
  refine (get_any (zf f) a _).mono ?_
  rintro e wa ⟨rfl, hba⟩
  refine hK.out _ _ (DoSt.below hH0 hba) (fun hH1 => ?_)
  clear hK K
  try simp only [Act.put, List.getElem_toArray, List.getElem_cons_zero, List.getElem_cons_succ, List.setIfInBounds_toArray, List.set_cons_zero, List.set_cons_succ]
  refine wpAnyH_ready (rs := [7]) (by kernel_rfl) (by simp) ?_
  refine AllReadyH.cons (o := _) rfl (fun K hK => ?_) AllReadyH.nil
  go_simp
  refine (get_any (zf f) b _).mono ?_
  rintro e wb ⟨rfl, hbb⟩
  refine hK.out _ _ (DoSt.below hH1 hbb) (fun hH2 => ?_)
  clear hK K
  try simp only [Act.put, List.getElem_toArray, List.getElem_cons_zero, List.getElem_cons_succ, List.setIfInBounds_toArray, List.set_cons_zero, List.set_cons_succ]
  refine wpAnyH_take (i := 8) (v := ?_) rfl (by kernel_rfl) (by kernel_rfl) (by kernel_rfl) (fun _ _ _ h => h) (Or.inl ⟨by rfl, fun w hSw => ?_⟩) hH2 ?_
  rotate_left
  · clear hSw
    go_simp
    try with_reducible rfl
  try simp only [Act.put, List.getElem_toArray, List.getElem_cons_zero, List.getElem_cons_succ, List.setIfInBounds_toArray, List.set_cons_zero, List.set_cons_succ]
  refine wpAnyH_take (i := 9) (v := ?_) rfl (by kernel_rfl) (by kernel_rfl) (by kernel_rfl) (fun _ _ _ h => h) (Or.inl ⟨by rfl, fun w hSw => ?_⟩) hH2 ?_
  rotate_left
  · clear hSw
    go_simp
    try with_reducible rfl
  try simp only [Act.put, List.getElem_toArray, List.getElem_cons_zero, List.getElem_cons_succ, List.setIfInBounds_toArray, List.set_cons_zero, List.set_cons_succ]
  refine wpAnyH_done (by kernel_rfl) ?_ _
  have S3 : DoSt w wb (zf f) #[.int .u8 5, .int .i64 a, .int .i64 b, .int .i64 c, .int .i64 n] := hH2
  clear hH0 hH1 hH2 S2 hba hbb
  have hc := c5_of S3.code
  have hnf : ∀ w, (binOp .neq 37 (.func (.func 26) #[] #[]) .nilFunc).run Tryd.prog w = .ok (.bool true) w := fun _ => by as_aux_lemma => kernel_rfl
  go_wp2_with fail
  refine (Of.of_5 _).mono ?_
  rintro e wx ⟨rfl, rfl⟩
  clear hc
  go_wp2_with fail
  refine LastOp.start (S := (fun w' => DoSt w w' (zf f) #[.int .u8 5, .int .i64 a, .int .i64 b, .int .i64 c, .int .i64 n])) (by kernel_rfl) S3.drew (fun hH0 => ?_)
  refine LastOp.take (i := 0) (v := _) rfl (by kernel_rfl) (by kernel_rfl) (by kernel_rfl) (fun _ _ _ h => h) (yieldsIf_load_mid (by rfl) _ _ rfl _ _ rfl _ _ (fun w h => row_range h.regs) hu rfl (sizeR _)) hH0 ?_
  try simp only [Act.put, List.getElem_toArray, List.getElem_cons_zero, List.getElem_cons_succ, List.setIfInBounds_toArray, List.set_cons_zero, List.set_cons_succ]
  refine LastOp.take (i := 1) (v := ?_) rfl (by kernel_rfl) (by kernel_rfl) (by kernel_rfl) (fun _ _ _ h => h) (Or.inl ⟨by rfl, fun w hSw => ?_⟩) hH0 ?_
  rotate_left
  · clear hSw
    go_simp
    try with_reducible rfl
  try simp only [Act.put, List.getElem_toArray, List.getElem_cons_zero, List.getElem_cons_succ, List.setIfInBounds_toArray, List.set_cons_zero, List.set_cons_succ]
  refine LastOp.take (i := 2) (v := ?_) rfl (by kernel_rfl) (by kernel_rfl) (by kernel_rfl) (fun _ _ _ h => h) (Or.inl ⟨by rfl, fun w hSw => ?_⟩) hH0 ?_
  rotate_left
  · have hc := c5_of (DoSt.code hSw)
    clear hSw
    go_simp
    try with_reducible rfl
  try simp only [Act.put, List.getElem_toArray, List.getElem_cons_zero, List.getElem_cons_succ, List.setIfInBounds_toArray, List.set_cons_zero, List.set_cons_succ]
  refine LastOp.take (i := 3) (v := ?_) rfl (by kernel_rfl) (by kernel_rfl) (by kernel_rfl) (fun _ _ _ h => h) (Or.inl ⟨by rfl, fun w hSw => ?_⟩) hH0 ?_
  rotate_left
  · clear hSw
    go_simp
    try with_reducible rfl
  try simp only [Act.put, List.getElem_toArray, List.getElem_cons_zero, List.getElem_cons_succ, List.setIfInBounds_toArray, List.set_cons_zero, List.set_cons_succ]
  refine LastOp.take (i := 4) (v := ?_) rfl (by kernel_rfl) (by kernel_rfl) (by kernel_rfl) (fun _ _ _ h => h) (Or.inl ⟨by rfl, fun w hSw => ?_⟩) hH0 ?_
  rotate_left
  · clear hSw
    go_simp
    try with_reducible rfl
  try simp only [Act.put, List.getElem_toArray, List.getElem_cons_zero, List.getElem_cons_succ, List.setIfInBounds_toArray, List.set_cons_zero, List.set_cons_succ]
  refine LastOp.take (i := 5) (v := _) rfl (by kernel_rfl) (by kernel_rfl) (by kernel_rfl) (fun _ _ _ h => h) (yieldsIf_load_mid (by rfl) _ _ rfl _ _ rfl _ _ (fun w h => row_range h.regs) hu rfl (sizeR _)) hH0 ?_
  try simp only [Act.put, List.getElem_toArray, List.getElem_cons_zero, List.getElem_cons_succ, List.setIfInBounds_toArray, List.set_cons_zero, List.set_cons_succ]
  refine LastOp.take (i := 6) (v := ?_) rfl (by kernel_rfl) (by kernel_rfl) (by kernel_rfl) (fun _ _ _ h => h) (Or.inl ⟨by rfl, fun w hSw => ?_⟩) hH0 ?_
  rotate_left
  · clear hSw
    go_simp
    try with_reducible rfl
  try simp only [Act.put, List.getElem_toArray, List.getElem_cons_zero, List.getElem_cons_succ, List.setIfInBounds_toArray, List.set_cons_zero, List.set_cons_succ]
  refine LastOp.take (i := 7) (v := ?_) rfl (by kernel_rfl) (by kernel_rfl) (by kernel_rfl) (fun _ _ _ h => h) (Or.inl ⟨by rfl, fun w hSw => ?_⟩) hH0 ?_
  rotate_left
  · have hc := c5_of (DoSt.code hSw)
    clear hSw
    go_simp
    try with_reducible rfl
  try simp only [Act.put, List.getElem_toArray, List.getElem_cons_zero, List.getElem_cons_succ, List.setIfInBounds_toArray, List.set_cons_zero, List.set_cons_succ]
  refine LastOp.one (i := 8) (by kernel_rfl) rfl (fun K hK => ?_)
  go_simp
  refine (get_any (zf f) c _).mono ?_
  rintro e wc ⟨rfl, hbc⟩
  have hH1 := DoSt.below hH0 hbc
  refine hK.out _ _ (Or.inr hH1) ?_
  clear hK K
  try simp only [Act.put, List.getElem_toArray, List.getElem_cons_zero, List.getElem_cons_succ, List.setIfInBounds_toArray, List.set_cons_zero, List.set_cons_succ]
  refine LastOp.one (i := 9) (by kernel_rfl) rfl (fun K hK => ?_)
  go_simp
  refine (xor_any (getF (zf f) b) (getF (zf f) c) _).mono ?_
  rintro e wx ⟨rfl, rfl⟩
  have hH2 := hH1
  refine hK.out _ _ (Or.inr hH2) ?_
  clear hK K
  try simp only [Act.put, List.getElem_toArray, List.getElem_cons_zero, List.getElem_cons_succ, List.setIfInBounds_toArray, List.set_cons_zero, List.set_cons_succ]
  refine LastOp.one (i := 10) (by kernel_rfl) rfl (fun K hK => ?_)
  go_simp
  refine (put_any (zf f) a (bits .xor .u32 (getF (zf f) b) (getF (zf f) c)) _).mono ?_
  rintro e wd ⟨rfl, hbd⟩
  have hH3 := DoSt.below hH2 hbd
  refine hK.out _ _ (Or.inr hH3) ?_
  clear hK K
  try simp only [Act.put, List.getElem_toArray, List.getElem_cons_zero, List.getElem_cons_succ, List.setIfInBounds_toArray, List.set_cons_zero, List.set_cons_succ]
  refine LastOp.one (i := 11) (by kernel_rfl) rfl (fun K hK => ?_)
  rw [if_pos (by rfl)]
  refine wp_store_mid 23 _ _ rfl w.heap.size 0 (blk (putF (zf f) a (bits .xor .u32 (getF (zf f) b) (getF (zf f) c)))).toArray rfl rfl (by simpa [blk_len] using row_there (DoSt.regs hH3)) (by rw [HI.out]; simp [blk_len]) (all_oneCell_toArray (blk_one _)) ?_
  rw [List.toList_toArray]
  refine hK.out _ _ (Or.inl (by kernel_rfl)) ?_
  clear hK K
  try simp only [Act.put, List.getElem_toArray, List.getElem_cons_zero, List.getElem_cons_succ, List.setIfInBounds_toArray, List.set_cons_zero, List.set_cons_succ]
  refine LastOp.done (by kernel_rfl) ?_ _
  have S4 := DoSt.setRegs hH3 (putF (zf f) a (bits .xor .u32 (getF (zf f) b) (getF (zf f) c)))
  clear hH0 hH1 hH2 hH3 S3
  go_wp2_with fail
  go_step3
  refine And.intro (rfl : (0 : Nat) = 0) ?_
  refine HJ.out _ _ ?_
  go_wp2_with (first
    | ((refine load_blk rfl 23 (.tmp 3) rfl w.heap.size rfl S4.regs hu HI.out ?_))
    | ((with_reducible refine store_blk rfl 23 (.tmp 6) (.tmp 99) rfl (w.heap.size + 1 + 1) ?_ (putF (zf f) a (bits .xor .u32 (getF (zf f) b) (getF (zf f) c))) ?_ S4.out HI.out ?_); (· rfl); (· rfl)))
  try rw [jump_ret]
  exact bodyPost_ret (v := .tuple #[.agg (blk (putF (zf f) a (bits .xor .u32 (getF (zf f) b) (getF (zf f) c)))).toArray, .int .i64 (at_ + 1), .int .i64 0]) (ret_blk3 (b := w.heap.size + 1 + 1) Tryd.results13 rfl (row_setCells S4.out _) hu HI.out) rfl ⟨rfl, below_setCells _ _ _ S4.bel (by omega)⟩
set_option maxHeartbeats 1000000 in
theorem do_6 (a b c n at_ : Int) (f : Nat → Int) (hm : mayB 6 a b c n = true) (h0 : 0 ≤ at_) (h1 : at_ ≤ 1024) (w : World) (hT : Tab w) :
    Calls Tryd.prog 13 #[.agg (blk f).toArray, .int .i64 at_, code5 6 a b c n] w fun e w' => e = .returned (.tuple #[.agg (blk (putF (zf f) a (lessV (getF (zf f) b) (getF (zf f) c)))).toArray, .int .i64 (at_ + 1), .int .i64 0]) ∧ Below w.heap.size w w' := by
  have hu := Tryd.underlying23
  have HI := hide (zero_of_info (P := Tryd.prog) infoR).2
  have HM := hide (fun w hT => CodeMay.may_any 6 a b c n (by omega) w hT)
  rw [show errX 6 a b c n = 0 by simp [errX, hm]] at HM
  have hn := n_bd hm
  obtain ⟨hn0, hn1⟩ := hn
  have S0 := DoSt.new w hT f #[.int .u8 6, .int .i64 a, .int .i64 b, .int .i64 c, .int .i64 n]
  clear hT hm
  unfold code5 at *
  go_enter Tryd.func13, Tryd.ntmps13
  go_wp2_with (first
    | ((with_reducible refine Arr.wpList_alloc_zero rfl 23 (by rfl) _ _ infoR (w.heap.size + 1 + 1) ?_ ?_); (· simp))
    | ((with_reducible refine Arr.wpList_alloc_zero rfl 23 (by rfl) _ _ infoR (w.heap.size + 1 + 1 + 1) ?_ ?_); (· simp))
    | ((with_reducible refine Great.wpList_readTo rfl (some 14) rfl (.agg (blk (fun _ => 0)).toArray) ?_ ?_); (· as_aux_lemma => kernel_rfl))
    | ((with_reducible refine Arr.wpList_store_last rfl 23 (.tmp 9) (.tmp 14) rfl _ _ (w.heap.size + 1 + 1 + 1) ?_ rfl rfl HI.out ?_ ?_ ?_ ?_); (· simp); (· simp [blk_len]); (· simp [blk_len]); (· simpa using blk_one (fun _ => 0))))
  refine wp_scope_fwd 0 (by rfl) (fun J hJ => ?_)
  have HJ := hide hJ
  clear hJ
  go_wp2_with (first
    | ((with_reducible refine Arr.wpList_alloc_zero rfl 23 (by rfl) _ _ infoR (w.heap.size + 1 + 1) ?_ ?_); (· simp))
    | ((with_reducible refine Arr.wpList_alloc_zero rfl 23 (by rfl) _ _ infoR (w.heap.size + 1 + 1 + 1) ?_ ?_); (· simp))
    | ((with_reducible refine Great.wpList_readTo rfl (some 14) rfl (.agg (blk (fun _ => 0)).toArray) ?_ ?_); (· as_aux_lemma => kernel_rfl))
    | ((with_reducible refine Arr.wpList_store_last rfl 23 (.tmp 9) (.tmp 14) rfl _ _ (w.heap.size + 1 + 1 + 1) ?_ rfl rfl HI.out ?_ ?_ ?_ ?_); (· simp); (· simp [blk_len]); (· simp [blk_len]); (· simpa using blk_one (fun _ => 0))))
  refine (HM.out _ S0.tab).mono ?_
  rintro e w1 ⟨rfl, hb1⟩
  have S1 := S0.below hb1
  have c0 := S1.regs.cell (show 0 < 16 by omega)
  have f0 := S1.regs.frozen 0
  clear hb1 S0
  go_wp2_with fail
  clear c0 f0
  have S2 := S1.set0.drew
  clear S1
  refine wp_region_held_drew (S := (fun w' => DoSt w w' (zf f) #[.int .u8 6, .int .i64 a, .int .i64 b, .int .i64 c, .int .i64 n])) (by kernel_rfl) S2 (fun hH0 => ?_)
  refine wpAnyH_take (i := 0) (v := _) rfl (by kernel_rfl) (by kernel_rfl) (by kernel_rfl) (fun _ _ _ h => h) (yieldsIf_load_mid (by rfl) _ _ rfl _ _ rfl _ _ (fun w h => row_range h.regs) hu rfl (sizeR _)) hH0 ?_
  try simp only [Act.put, List.getElem_toArray, List.getElem_cons_zero, List.getElem_cons_succ, List.setIfInBounds_toArray, List.set_cons_zero, List.set_cons_succ]
  refine wpAnyH_take (i := 1) (v := ?_) rfl (by kernel_rfl) (by kernel_rfl) (by kernel_rfl) (fun _ _ _ h => h) (Or.inl ⟨by rfl, fun w hSw => ?_⟩) hH0 ?_
  rotate_left
  · clear hSw
    go_simp
    try with_reducible rfl
  try simp only [Act.put, List.getElem_toArray, List.getElem_cons_zero, List.getElem_cons_succ, List.setIfInBounds_toArray, List.set_cons_zero, List.set_cons_succ]
  refine wpAnyH_take (i := 2) (v := ?_) rfl (by kernel_rfl) (by kernel_rfl) (by kernel_rfl) (fun _ _ _ h => h) (Or.inl ⟨by rfl, fun w hSw => ?_⟩) hH0 ?_
  rotate_left
  · have hc := c5_of (DoSt.code hSw)
    clear hSw
    go_simp
    try with_reducible rfl
  try simp only [Act.put, List.getElem_toArray, List.getElem_cons_zero, List.getElem_cons_succ, List.setIfInBounds_toArray, List.set_cons_zero, List.set_cons_succ]
  refine wpAnyH_take (i := 4) (v := _) rfl (by kernel_rfl) (by kernel_rfl) (by kernel_rfl) (fun _ _ _ h => h) (yieldsIf_load_mid (by rfl) _ _ rfl _ _ rfl _ _ (fun w h => row_range h.regs) hu rfl (sizeR _)) hH0 ?_
  try simp only [Act.put, List.getElem_toArray, List.getElem_cons_zero, List.getElem_cons_succ, List.setIfInBounds_toArray, List.set_cons_zero, List.set_cons_succ]
  refine wpAnyH_take (i := 5) (v := ?_) rfl (by kernel_rfl) (by kernel_rfl) (by kernel_rfl) (fun _ _ _ h => h) (Or.inl ⟨by rfl, fun w hSw => ?_⟩) hH0 ?_
  rotate_left
  · clear hSw
    go_simp
    try with_reducible rfl
  try simp only [Act.put, List.getElem_toArray, List.getElem_cons_zero, List.getElem_cons_succ, List.setIfInBounds_toArray, List.set_cons_zero, List.set_cons_succ]
  refine wpAnyH_take (i := 6) (v := ?_) rfl (by kernel_rfl) (by kernel_rfl) (by kernel_rfl) (fun _ _ _ h => h) (Or.inl ⟨by rfl, fun w hSw => ?_⟩) hH0 ?_
  rotate_left
  · have hc := c5_of (DoSt.code hSw)
    clear hSw
    go_simp
    try with_reducible rfl
  try simp only [Act.put, List.getElem_toArray, List.getElem_cons_zero, List.getElem_cons_succ, List.setIfInBounds_toArray, List.set_cons_zero, List.set_cons_succ]
  refine wpAnyH_ready (rs := [3]) (by kernel_rfl) (by simp) ?_
  refine AllReadyH.cons (o := _) rfl (fun K hK => ?_) AllReadyH.nil
  go_simp
  refine (get_any (zf f) a _).mono ?_
  rintro e wa ⟨rfl, hba⟩
  refine hK.out _ _ (DoSt.below hH0 hba) (fun hH1 => ?_)
  clear hK K
  try simp only [Act.put, List.getElem_toArray, List.getElem_cons_zero, List.getElem_cons_succ, List.setIfInBounds_toArray, List.set_cons_zero, List.set_cons_succ]
  refine wpAnyH_ready (rs := [7]) (by kernel_rfl) (by simp) ?_
  refine AllReadyH.cons (o := _) rfl (fun K hK => ?_) AllReadyH.nil
  go_simp
  refine (get_any (zf f) b _).mono ?_
  rintro e wb ⟨rfl, hbb⟩
  refine hK.out _ _ (DoSt.below hH1 hbb) (fun hH2 => ?_)
  clear hK K
  try simp only [Act.put, List.getElem_toArray, List.getElem_cons_zero, List.getElem_cons_succ, List.setIfInBounds_toArray, List.set_cons_zero, List.set_cons_succ]
  refine wpAnyH_take (i := 8) (v := ?_) rfl (by kernel_rfl) (by kernel_rfl) (by kernel_rfl) (fun _ _ _ h => h) (Or.inl ⟨by rfl, fun w hSw => ?_⟩) hH2 ?_
  rotate_left
  · clear hSw
    go_simp
    try with_reducible rfl
  try simp only [Act.put, List.getElem_toArray, List.getElem_cons_zero, List.getElem_cons_succ, List.setIfInBounds_toArray, List.set_cons_zero, List.set_cons_succ]
  refine wpAnyH_take (i := 9) (v := ?_) rfl (by kernel_rfl) (by kernel_rfl) (by kernel_rfl) (fun _ _ _ h => h) (Or.inl ⟨by rfl, fun w hSw => ?_⟩) hH2 ?_
  rotate_left
  · clear hSw
    go_simp
    try with_reducible rfl
  try simp only [Act.put, List.getElem_toArray, List.getElem_cons_zero, List.getElem_cons_succ, List.setIfInBounds_toArray, List.set_cons_zero, List.set_cons_succ]
  refine wpAnyH_done (by kernel_rfl) ?_ _
  have S3 : DoSt w wb (zf f) #[.int .u8 6, .int .i64 a, .int .i64 b, .int .i64 c, .int .i64 n] := hH2
  clear hH0 hH1 hH2 S2 hba hbb
  have hc := c5_of S3.code
  have hnf : ∀ w, (binOp .neq 37 (.func (.func 27) #[] #[]) .nilFunc).run Tryd.prog w = .ok (.bool true) w := fun _ => by as_aux_lemma => kernel_rfl
  go_wp2_with fail
  refine (Of.of_6 _).mono ?_
  rintro e wx ⟨rfl, rfl⟩
  clear hc
  go_wp2_with fail
  refine LastOp.start (S := (fun w' => DoSt w w' (zf f) #[.int .u8 6, .int .i64 a, .int .i64 b, .int .i64 c, .int .i64 n])) (by kernel_rfl) S3.drew (fun hH0 => ?_)
  refine LastOp.take (i := 0) (v := _) rfl (by kernel_rfl) (by kernel_rfl) (by kernel_rfl) (fun _ _ _ h => h) (yieldsIf_load_mid (by rfl) _ _ rfl _ _ rfl _ _ (fun w h => row_range h.regs) hu rfl (sizeR _)) hH0 ?_
  try simp only [Act.put, List.getElem_toArray, List.getElem_cons_zero, List.getElem_cons_succ, List.setIfInBounds_toArray, List.set_cons_zero, List.set_cons_succ]
  refine LastOp.take (i := 1) (v := ?_) rfl (by kernel_rfl) (by kernel_rfl) (by kernel_rfl) (fun _ _ _ h => h) (Or.inl ⟨by rfl, fun w hSw => ?_⟩) hH0 ?_
  rotate_left
  · clear hSw
    go_simp
    try with_reducible rfl
  try simp only [Act.put, List.getElem_toArray, List.getElem_cons_zero, List.getElem_cons_succ, List.setIfInBounds_toArray, List.set_cons_zero, List.set_cons_succ]
  refine LastOp.take (i := 2) (v := ?_) rfl (by kernel_rfl) (by kernel_rfl) (by kernel_rfl) (fun _ _ _ h => h) (Or.inl ⟨by rfl, fun w hSw => ?_⟩) hH0 ?_
  rotate_left
  · have hc := c5_of (DoSt.code hSw)
    clear hSw
    go_simp
    try with_reducible rfl
  try simp only [Act.put, List.getElem_toArray, List.getElem_cons_zero, List.getElem_cons_succ, List.setIfInBounds_toArray, List.set_cons_zero, List.set_cons_succ]
  refine LastOp.take (i := 3) (v := ?_) rfl (by kernel_rfl) (by kernel_rfl) (by kernel_rfl) (fun _ _ _ h => h) (Or.inl ⟨by rfl, fun w hSw => ?_⟩) hH0 ?_
  rotate_left
  · clear hSw
    go_simp
    try with_reducible rfl
  try simp only [Act.put, List.getElem_toArray, List.getElem_cons_zero, List.getElem_cons_succ, List.setIfInBounds_toArray, List.set_cons_zero, List.set_cons_succ]
  refine LastOp.take (i := 4) (v := ?_) rfl (by kernel_rfl) (by kernel_rfl) (by kernel_rfl) (fun _ _ _ h => h) (Or.inl ⟨by rfl, fun w hSw => ?_⟩) hH0 ?_
  rotate_left
  · clear hSw
    go_simp
    try with_reducible rfl
  try simp only [Act.put, List.getElem_toArray, List.getElem_cons_zero, List.getElem_cons_succ, List.setIfInBounds_toArray, List.set_cons_zero, List.set_cons_succ]
  refine LastOp.take (i := 5) (v := _) rfl (by kernel_rfl) (by kernel_rfl) (by kernel_rfl) (fun _ _ _ h => h) (yieldsIf_load_mid (by rfl) _ _ rfl _ _ rfl _ _ (fun w h => row_range h.regs) hu rfl (sizeR _)) hH0 ?_
  try simp only [Act.put, List.getElem_toArray, List.getElem_cons_zero, List.getElem_cons_succ, List.setIfInBounds_toArray, List.set_cons_zero, List.set_cons_succ]
  refine LastOp.take (i := 6) (v := ?_) rfl (by kernel_rfl) (by kernel_rfl) (by kernel_rfl) (fun _ _ _ h => h) (Or.inl ⟨by rfl, fun w hSw => ?_⟩) hH0 ?_
  rotate_left
  · clear hSw
    go_simp
    try with_reducible rfl
  try simp only [Act.put, List.getElem_toArray, List.getElem_cons_zero, List.getElem_cons_succ, List.setIfInBounds_toArray, List.set_cons_zero, List.set_cons_succ]
  refine LastOp.take (i := 7) (v := ?_) rfl (by kernel_rfl) (by kernel_rfl) (by kernel_rfl) (fun _ _ _ h => h) (Or.inl ⟨by rfl, fun w hSw => ?_⟩) hH0 ?_
  rotate_left
  · have hc := c5_of (DoSt.code hSw)
    clear hSw
    go_simp
    try with_reducible rfl
  try simp only [Act.put, List.getElem_toArray, List.getElem_cons_zero, List.getElem_cons_succ, List.setIfInBounds_toArray, List.set_cons_zero, List.set_cons_succ]
  refine LastOp.one (i := 8) (by kernel_rfl) rfl (fun K hK => ?_)
  go_simp
  refine (get_any (zf f) c _).mono ?_
  rintro e wc ⟨rfl, hbc⟩
  have hH1 := DoSt.below hH0 hbc
  refine hK.out _ _ (Or.inr hH1) ?_
  clear hK K
  try simp only [Act.put, List.getElem_toArray, List.getElem_cons_zero, List.getElem_cons_succ, List.setIfInBounds_toArray, List.set_cons_zero, List.set_cons_succ]
  refine LastOp.one (i := 9) (by kernel_rfl) rfl (fun K hK => ?_)
  go_simp
  refine (less_any (getF (zf f) b) (getF (zf f) c) _).mono ?_
  rintro e wx ⟨rfl, rfl⟩
  have hH2 := hH1
  refine hK.out _ _ (Or.inr hH2) ?_
  clear hK K
  try simp only [Act.put, List.getElem_toArray, List.getElem_cons_zero, List.getElem_cons_succ, List.setIfInBounds_toArray, List.set_cons_zero, List.set_cons_succ]
  refine LastOp.one (i := 10) (by kernel_rfl) rfl (fun K hK => ?_)
  go_simp
  refine (put_any (zf f) a (lessV (getF (zf f) b) (getF (zf f) c)) _).mono ?_
  rintro e wd ⟨rfl, hbd⟩
  have hH3 := DoSt.below hH2 hbd
  refine hK.out _ _ (Or.inr hH3) ?_
  clear hK K
  try simp only [Act.put, List.getElem_toArray, List.getElem_cons_zero, List.getElem_cons_succ, List.setIfInBounds_toArray, List.set_cons_zero, List.set_cons_succ]
  refine LastOp.one (i := 11) (by kernel_rfl) rfl (fun K hK => ?_)
  rw [if_pos (by rfl)]
  refine wp_store_mid 23 _ _ rfl w.heap.size 0 (blk (putF (zf f) a (lessV (getF (zf f) b) (getF (zf f) c)))).toArray rfl rfl (by simpa [blk_len] using row_there (DoSt.regs hH3)) (by rw [HI.out]; simp [blk_len]) (all_oneCell_toArray (blk_one _)) ?_
  rw [List.toList_toArray]
  refine hK.out _ _ (Or.inl (by kernel_rfl)) ?_
  clear hK K
  try simp only [Act.put, List.getElem_toArray, List.getElem_cons_zero, List.getElem_cons_succ, List.setIfInBounds_toArray, List.set_cons_zero, List.set_cons_succ]
  refine LastOp.done (by kernel_rfl) ?_ _
  have S4 := DoSt.setRegs hH3 (putF (zf f) a (lessV (getF (zf f) b) (getF (zf f) c)))
  clear hH0 hH1 hH2 hH3 S3
  go_wp2_with fail
  go_step3
  refine And.intro (rfl : (0 : Nat) = 0) ?_
  refine HJ.out _ _ ?_
  go_wp2_with (first
    | ((refine load_blk rfl 23 (.tmp 3) rfl w.heap.size rfl S4.regs hu HI.out ?_))
    | ((with_reducible refine store_blk rfl 23 (.tmp 6) (.tmp 99) rfl (w.heap.size + 1 + 1) ?_ (putF (zf f) a (lessV (getF (zf f) b) (getF (zf f) c))) ?_ S4.out HI.out ?_); (· rfl); (· rfl)))
  try rw [jump_ret]
  exact bodyPost_ret (v := .tuple #[.agg (blk (putF (zf f) a (lessV (getF (zf f) b) (getF (zf f) c)))).toArray, .int .i64 (at_ + 1), .int .i64 0]) (ret_blk3 (b := w.heap.size + 1 + 1) Tryd.results13 rfl (row_setCells S4.out _) hu HI.out) rfl ⟨rfl, below_setCells _ _ _ S4.bel (by omega)⟩
set_option maxHeartbeats 1000000 in
theorem do_9 (a b c n at_ : Int) (f : Nat → Int) (hm : mayB 9 a b c n = true) (h0 : 0 ≤ at_) (h1 : at_ ≤ 1024) (w : World) (hT : Tab w) :
    Calls Tryd.prog 13 #[.agg (blk f).toArray, .int .i64 at_, code5 9 a b c n] w fun e w' => e = .returned (.tuple #[.agg (blk (fun _ => 0)).toArray, .int .i64 (0), .int .i64 4]) ∧ Below w.heap.size w w' := by
  have hu := Tryd.underlying23
  have HI := hide (zero_of_info (P := Tryd.prog) infoR).2
  have HM := hide (fun w hT => CodeMay.may_any 9 a b c n (by omega) w hT)
  rw [show errX 9 a b c n = 0 by simp [errX, hm]] at HM
  have hn := n_bd hm
  obtain ⟨hn0, hn1⟩ := hn
  have S0 := DoSt.new w hT f #[.int .u8 9, .int .i64 a, .int .i64 b, .int .i64 c, .int .i64 n]
  clear hT hm
  unfold code5 at *
  go_enter Tryd.func13, Tryd.ntmps13
  go_wp2_with (first
    | ((with_reducible refine Arr.wpList_alloc_zero rfl 23 (by rfl) _ _ infoR (w.heap.size + 1 + 1) ?_ ?_); (· simp))
    | ((with_reducible refine Arr.wpList_alloc_zero rfl 23 (by rfl) _ _ infoR (w.heap.size + 1 + 1 + 1) ?_ ?_); (· simp))
    | ((with_reducible refine Great.wpList_readTo rfl (some 14) rfl (.agg (blk (fun _ => 0)).toArray) ?_ ?_); (· as_aux_lemma => kernel_rfl))
    | ((with_reducible refine Arr.wpList_store_last rfl 23 (.tmp 9) (.tmp 14) rfl _ _ (w.heap.size + 1 + 1 + 1) ?_ rfl rfl HI.out ?_ ?_ ?_ ?_); (· simp); (· simp [blk_len]); (· simp [blk_len]); (· simpa using blk_one (fun _ => 0))))
  refine wp_scope_fwd 0 (by rfl) (fun J hJ => ?_)
  have HJ := hide hJ
  clear hJ
  go_wp2_with (first
    | ((with_reducible refine Arr.wpList_alloc_zero rfl 23 (by rfl) _ _ infoR (w.heap.size + 1 + 1) ?_ ?_); (· simp))
    | ((with_reducible refine Arr.wpList_alloc_zero rfl 23 (by rfl) _ _ infoR (w.heap.size + 1 + 1 + 1) ?_ ?_); (· simp))
    | ((with_reducible refine Great.wpList_readTo rfl (some 14) rfl (.agg (blk (fun _ => 0)).toArray) ?_ ?_); (· as_aux_lemma => kernel_rfl))
    | ((with_reducible refine Arr.wpList_store_last rfl 23 (.tmp 9) (.tmp 14) rfl _ _ (w.heap.size + 1 + 1 + 1) ?_ rfl rfl HI.out ?_ ?_ ?_ ?_); (· simp); (· simp [blk_len]); (· simp [blk_len]); (· simpa using blk_one (fun _ => 0))))
  refine (HM.out _ S0.tab).mono ?_
  rintro e w1 ⟨rfl, hb1⟩
  have S1 := S0.below hb1
  have c0 := S1.regs.cell (show 0 < 16 by omega)
  have f0 := S1.regs.frozen 0
  clear hb1 S0
  go_wp2_with fail
  clear c0 f0
  have S2 := S1.set0.drew
  clear S1
  refine wp_region_held_drew (S := (fun w' => DoSt w w' (zf f) #[.int .u8 9, .int .i64 a, .int .i64 b, .int .i64 c, .int .i64 n])) (by kernel_rfl) S2 (fun hH0 => ?_)
  refine wpAnyH_take (i := 0) (v := _) rfl (by kernel_rfl) (by kernel_rfl) (by kernel_rfl) (fun _ _ _ h => h) (yieldsIf_load_mid (by rfl) _ _ rfl _ _ rfl _ _ (fun w h => row_range h.regs) hu rfl (sizeR _)) hH0 ?_
  try simp only [Act.put, List.getElem_toArray, List.getElem_cons_zero, List.getElem_cons_succ, List.setIfInBounds_toArray, List.set_cons_zero, List.set_cons_succ]
  refine wpAnyH_take (i := 1) (v := ?_) rfl (by kernel_rfl) (by kernel_rfl) (by kernel_rfl) (fun _ _ _ h => h) (Or.inl ⟨by rfl, fun w hSw => ?_⟩) hH0 ?_
  rotate_left
  · clear hSw
    go_simp
    try with_reducible rfl
  try simp only [Act.put, List.getElem_toArray, List.getElem_cons_zero, List.getElem_cons_succ, List.setIfInBounds_toArray, List.set_cons_zero, List.set_cons_succ]
  refine wpAnyH_take (i := 2) (v := ?_) rfl (by kernel_rfl) (by kernel_rfl) (by kernel_rfl) (fun _ _ _ h => h) (Or.inl ⟨by rfl, fun w hSw => ?_⟩) hH0 ?_
  rotate_left
  · have hc := c5_of (DoSt.code hSw)
    clear hSw
    go_simp
    try with_reducible rfl
  try simp only [Act.put, List.getElem_toArray, List.getElem_cons_zero, List.getElem_cons_succ, List.setIfInBounds_toArray, List.set_cons_zero, List.set_cons_succ]
  refine wpAnyH_take (i := 4) (v := _) rfl (by kernel_rfl) (by kernel_rfl) (by kernel_rfl) (fun _ _ _ h => h) (yieldsIf_load_mid (by rfl) _ _ rfl _ _ rfl _ _ (fun w h => row_range h.regs) hu rfl (sizeR _)) hH0 ?_
  try simp only [Act.put, List.getElem_toArray, List.getElem_cons_zero, List.getElem_cons_succ, List.setIfInBounds_toArray, List.set_cons_zero, List.set_cons_succ]
  refine wpAnyH_take (i := 5) (v := ?_) rfl (by kernel_rfl) (by kernel_rfl) (by kernel_rfl) (fun _ _ _ h => h) (Or.inl ⟨by rfl, fun w hSw => ?_⟩) hH0 ?_
  rotate_left
  · clear hSw
    go_simp
    try with_reducible rfl
  try simp only [Act.put, List.getElem_toArray, List.getElem_cons_zero, List.getElem_cons_succ, List.setIfInBounds_toArray, List.set_cons_zero, List.set_cons_succ]
  refine wpAnyH_take (i := 6) (v := ?_) rfl (by kernel_rfl) (by kernel_rfl) (by kernel_rfl) (fun _ _ _ h => h) (Or.inl ⟨by rfl, fun w hSw => ?_⟩) hH0 ?_
  rotate_left
  · have hc := c5_of (DoSt.code hSw)
    clear hSw
    go_simp
    try with_reducible rfl
  try simp only [Act.put, List.getElem_toArray, List.getElem_cons_zero, List.getElem_cons_succ, List.setIfInBounds_toArray, List.set_cons_zero, List.set_cons_succ]
  refine wpAnyH_ready (rs := [3]) (by kernel_rfl) (by simp) ?_
  refine AllReadyH.cons (o := _) rfl (fun K hK => ?_) AllReadyH.nil
  go_simp
  refine (get_any (zf f) a _).mono ?_
  rintro e wa ⟨rfl, hba⟩
  refine hK.out _ _ (DoSt.below hH0 hba) (fun hH1 => ?_)
  clear hK K
  try simp only [Act.put, List.getElem_toArray, List.getElem_cons_zero, List.getElem_cons_succ, List.setIfInBounds_toArray, List.set_cons_zero, List.set_cons_succ]
  refine wpAnyH_ready (rs := [7]) (by kernel_rfl) (by simp) ?_
  refine AllReadyH.cons (o := _) rfl (fun K hK => ?_) AllReadyH.nil
  go_simp
  refine (get_any (zf f) b _).mono ?_
  rintro e wb ⟨rfl, hbb⟩
  refine hK.out _ _ (DoSt.below hH1 hbb) (fun hH2 => ?_)
  clear hK K
  try simp only [Act.put, List.getElem_toArray, List.getElem_cons_zero, List.getElem_cons_succ, List.setIfInBounds_toArray, List.set_cons_zero, List.set_cons_succ]
  refine wpAnyH_take (i := 8) (v := ?_) rfl (by kernel_rfl) (by kernel_rfl) (by kernel_rfl) (fun _ _ _ h => h) (Or.inl ⟨by rfl, fun w hSw => ?_⟩) hH2 ?_
  rotate_left
  · clear hSw
    go_simp
    try with_reducible rfl
  try simp only [Act.put, List.getElem_toArray, List.getElem_cons_zero, List.getElem_cons_succ, List.setIfInBounds_toArray, List.set_cons_zero, List.set_cons_succ]
  refine wpAnyH_take (i := 9) (v := ?_) rfl (by kernel_rfl) (by kernel_rfl) (by kernel_rfl) (fun _ _ _ h => h) (Or.inl ⟨by rfl, fun w hSw => ?_⟩) hH2 ?_
  rotate_left
  · clear hSw
    go_simp
    try with_reducible rfl
  try simp only [Act.put, List.getElem_toArray, List.getElem_cons_zero, List.getElem_cons_succ, List.setIfInBounds_toArray, List.set_cons_zero, List.set_cons_succ]
  refine wpAnyH_done (by kernel_rfl) ?_ _
  have S3 : DoSt w wb (zf f) #[.int .u8 9, .int .i64 a, .int .i64 b, .int .i64 c, .int .i64 n] := hH2
  clear hH0 hH1 hH2 S2 hba hbb
  have hc := c5_of S3.code
  have hnf : ∀ w, (binOp .neq 37 (.nilFunc) .nilFunc).run Tryd.prog w = .ok (.bool false) w := fun _ => by as_aux_lemma => kernel_rfl
  go_wp2_with fail
  refine (Of.of_9 _).mono ?_
  rintro e wx ⟨rfl, rfl⟩
  clear hc
  have hc := c5_of S3.code
  go_wp2_with (first
    | ((refine load_blk rfl 23 (.tmp 9) rfl (w.heap.size + 1 + 1 + 1) rfl S3.zero hu HI.out ?_))
    | ((with_reducible refine store_blk rfl 23 (.tmp 6) (.tmp 54) rfl (w.heap.size + 1 + 1) ?_ (fun _ => 0) ?_ S3.out HI.out ?_); (· rfl); (· rfl)))
  try rw [jump_ret]
  exact bodyPost_ret (v := .tuple #[.agg (blk (fun _ => 0)).toArray, .int .i64 0, .int .i64 4]) (ret_blk3 (b := w.heap.size + 1 + 1) Tryd.results13 rfl (row_setCells S3.out _) hu HI.out) rfl ⟨rfl, below_setCells _ _ _ S3.bel (by omega)⟩
end Go.Proofs.YticlojpdcdkdgaaDoor.Do
