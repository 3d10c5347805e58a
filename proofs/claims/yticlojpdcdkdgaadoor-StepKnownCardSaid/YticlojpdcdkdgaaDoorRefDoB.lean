/-
  The reference's Do of the layer 'step' walked: a part of the instructions.
-/
import Derived.Test.YticlojpdcdkdgaaDoorDoSt
namespace Go.Proofs.YticlojpdcdkdgaaDoor.RefDo
open Go.RowKit Base Blks CodePlain CodeBits CodeTab Regs DoSt
set_option linter.unusedVariables false
set_option linter.unusedSimpArgs false
set_option maxRecDepth 100000

set_option maxHeartbeats 1000000 in
theorem do_21 (a b c n at_ : Int) (f : Nat → Int) (hm : mayB 21 a b c n = true) (h0 : 0 ≤ at_) (h1 : at_ ≤ 1024) (w : World) (hT : Tab w) :
    Calls Tryd.prog 15 #[.agg (blk f).toArray, .int .i64 at_, code5 21 a b c n] w fun e w' => e = .returned (.tuple #[.agg (blk (putF (zf f) a (getF (zf f) a))).toArray, .int .i64 (at_ + 1), .int .i64 0]) ∧ Below w.heap.size w w' := by
  have hu := Tryd.underlying23
  have HI := hide (zero_of_info (P := Tryd.prog) infoR).2
  have HM := hide (fun w => CodeRefMay.may_any 21 a b c n (by omega) w)
  rw [hm] at HM
  have hn := n_bd hm
  obtain ⟨hn0, hn1⟩ := hn
  have S0 := DoSt.new w hT f #[.int .u8 21, .int .i64 a, .int .i64 b, .int .i64 c, .int .i64 n]
  clear hT hm
  unfold code5 at *
  go_enter Tryd.func15, Tryd.ntmps15
  go_wp2_with (first
    | ((with_reducible refine Arr.wpList_alloc_zero rfl 23 (by rfl) _ _ infoR (w.heap.size + 1 + 1) ?_ ?_); (· simp))
    | ((with_reducible refine Arr.wpList_alloc_zero rfl 23 (by rfl) _ _ infoR (w.heap.size + 1 + 1 + 1) ?_ ?_); (· simp))
    | ((with_reducible refine Great.wpList_readTo rfl (some 15) rfl (.agg (blk (fun _ => 0)).toArray) ?_ ?_); (· as_aux_lemma => kernel_rfl))
    | ((with_reducible refine Arr.wpList_store_last rfl 23 (.tmp 9) (.tmp 15) rfl _ _ (w.heap.size + 1 + 1 + 1) ?_ rfl rfl HI.out ?_ ?_ ?_ ?_); (· simp); (· simp [blk_len]); (· simp [blk_len]); (· simpa using blk_one (fun _ => 0))))
  refine (HM.out _).mono ?_
  rintro e w1 ⟨rfl, hb1⟩
  have S1 := S0.below hb1
  have c0 := S1.regs.cell (show 0 < 16 by omega)
  have f0 := S1.regs.frozen 0
  have S := S1.set0
  have hc := c5_of S.code
  clear hb1 S0
  go_wp2_with (first
    | ((refine load_blk rfl 23 (.tmp 3) rfl w.heap.size rfl S.regs hu HI.out ?_)))
  clear c0 f0 S1
  refine (getR_any (zf f) a _).mono ?_
  rintro e wg ⟨rfl, hbg⟩
  have S := S.below hbg
  have hc := c5_of S.code
  clear hbg
  go_wp2_with (first
    | ((refine load_blk rfl 23 (.tmp 3) rfl w.heap.size rfl S.regs hu HI.out ?_)))
  refine (getR_any (zf f) b _).mono ?_
  rintro e wg ⟨rfl, hbg⟩
  have S := S.below hbg
  have hc := c5_of S.code
  clear hbg
  go_wp2_with (first
    | ((refine load_blk rfl 23 (.tmp 3) rfl w.heap.size rfl S.regs hu HI.out ?_)))
  refine (getR_any (zf f) c _).mono ?_
  rintro e wg ⟨rfl, hbg⟩
  have S := S.below hbg
  have hc := c5_of S.code
  clear hbg
  go_wp2_with (first
    | ((refine load_blk rfl 23 (.tmp 3) rfl w.heap.size rfl S.regs hu HI.out ?_))
    | (go_at_call 20; refine (wordR n _).mono ?_; rintro e wx ⟨rfl, rfl⟩)
    | (go_at_call 9; refine (putR_any (zf f) a (getF (zf f) a) _).mono ?_; rintro e wd ⟨rfl, hbd⟩; have S9 := S.below hbd; clear hbd)
    | ((with_reducible refine store_blk rfl 23 (.tmp 6) (.tmp 133) rfl (w.heap.size + 1 + 1) ?_ (putF (zf f) a (getF (zf f) a)) ?_ S9.out HI.out ?_); (· rfl); (· rfl)))
  exact bodyPost_ret (v := .tuple #[.agg (blk (putF (zf f) a (getF (zf f) a))).toArray, .int .i64 (at_ + 1), .int .i64 0]) (ret_blk3 (b := w.heap.size + 1 + 1) Tryd.results15 rfl (row_setCells S9.out _) hu HI.out) rfl ⟨rfl, below_setCells _ _ _ S9.bel (by omega)⟩
set_option maxHeartbeats 1000000 in
theorem do_16 (a b c n at_ : Int) (f : Nat → Int) (hm : mayB 16 a b c n = true) (h0 : 0 ≤ at_) (h1 : at_ ≤ 1024) (w : World) (hT : Tab w) :
    Calls Tryd.prog 15 #[.agg (blk f).toArray, .int .i64 at_, code5 16 a b c n] w fun e w' => e = .returned (.tuple #[.agg (blk (putF (zf f) a (getF (zf f) a))).toArray, .int .i64 (at_ + 1 + n), .int .i64 0]) ∧ Below w.heap.size w w' := by
  have hu := Tryd.underlying23
  have HI := hide (zero_of_info (P := Tryd.prog) infoR).2
  have HM := hide (fun w => CodeRefMay.may_any 16 a b c n (by omega) w)
  rw [hm] at HM
  have hn := n_bd hm
  obtain ⟨hn0, hn1⟩ := hn
  have S0 := DoSt.new w hT f #[.int .u8 16, .int .i64 a, .int .i64 b, .int .i64 c, .int .i64 n]
  clear hT hm
  unfold code5 at *
  go_enter Tryd.func15, Tryd.ntmps15
  go_wp2_with (first
    | ((with_reducible refine Arr.wpList_alloc_zero rfl 23 (by rfl) _ _ infoR (w.heap.size + 1 + 1) ?_ ?_); (· simp))
    | ((with_reducible refine Arr.wpList_alloc_zero rfl 23 (by rfl) _ _ infoR (w.heap.size + 1 + 1 + 1) ?_ ?_); (· simp))
    | ((with_reducible refine Great.wpList_readTo rfl (some 15) rfl (.agg (blk (fun _ => 0)).toArray) ?_ ?_); (· as_aux_lemma => kernel_rfl))
    | ((with_reducible refine Arr.wpList_store_last rfl 23 (.tmp 9) (.tmp 15) rfl _ _ (w.heap.size + 1 + 1 + 1) ?_ rfl rfl HI.out ?_ ?_ ?_ ?_); (· simp); (· simp [blk_len]); (· simp [blk_len]); (· simpa using blk_one (fun _ => 0))))
  refine (HM.out _).mono ?_
  rintro e w1 ⟨rfl, hb1⟩
  have S1 := S0.below hb1
  have c0 := S1.regs.cell (show 0 < 16 by omega)
  have f0 := S1.regs.frozen 0
  have S := S1.set0
  have hc := c5_of S.code
  clear hb1 S0
  go_wp2_with (first
    | ((refine load_blk rfl 23 (.tmp 3) rfl w.heap.size rfl S.regs hu HI.out ?_)))
  clear c0 f0 S1
  refine (getR_any (zf f) a _).mono ?_
  rintro e wg ⟨rfl, hbg⟩
  have S := S.below hbg
  have hc := c5_of S.code
  clear hbg
  go_wp2_with (first
    | ((refine load_blk rfl 23 (.tmp 3) rfl w.heap.size rfl S.regs hu HI.out ?_)))
  refine (getR_any (zf f) b _).mono ?_
  rintro e wg ⟨rfl, hbg⟩
  have S := S.below hbg
  have hc := c5_of S.code
  clear hbg
  go_wp2_with (first
    | ((refine load_blk rfl 23 (.tmp 3) rfl w.heap.size rfl S.regs hu HI.out ?_)))
  refine (getR_any (zf f) c _).mono ?_
  rintro e wg ⟨rfl, hbg⟩
  have S := S.below hbg
  have hc := c5_of S.code
  clear hbg
  go_wp2_with (first
    | ((refine load_blk rfl 23 (.tmp 3) rfl w.heap.size rfl S.regs hu HI.out ?_))
    | (go_at_call 20; refine (wordR n _).mono ?_; rintro e wx ⟨rfl, rfl⟩)
    | (go_at_call 9; refine (putR_any (zf f) a (getF (zf f) a) _).mono ?_; rintro e wd ⟨rfl, hbd⟩; have S9 := S.below hbd; clear hbd)
    | ((with_reducible refine store_blk rfl 23 (.tmp 6) (.tmp 133) rfl (w.heap.size + 1 + 1) ?_ (putF (zf f) a (getF (zf f) a)) ?_ S9.out HI.out ?_); (· rfl); (· rfl)))
  exact bodyPost_ret (v := .tuple #[.agg (blk (putF (zf f) a (getF (zf f) a))).toArray, .int .i64 (at_ + 1 + n), .int .i64 0]) (ret_blk3 (b := w.heap.size + 1 + 1) Tryd.results15 rfl (row_setCells S9.out _) hu HI.out) rfl ⟨rfl, below_setCells _ _ _ S9.bel (by omega)⟩
set_option maxHeartbeats 1000000 in
theorem do_13y (a b c n at_ : Int) (f : Nat → Int) (hm : mayB 13 a b c n = true) (h0 : 0 ≤ at_) (h1 : at_ ≤ 1024) (h2 : (getF (zf f) a == getF (zf f) b) = true) (w : World) (hT : Tab w) :
    Calls Tryd.prog 15 #[.agg (blk f).toArray, .int .i64 at_, code5 13 a b c n] w fun e w' => e = .returned (.tuple #[.agg (blk (putF (zf f) a (getF (zf f) a))).toArray, .int .i64 (at_ + 1 + n), .int .i64 0]) ∧ Below w.heap.size w w' := by
  have hu := Tryd.underlying23
  have HI := hide (zero_of_info (P := Tryd.prog) infoR).2
  have HM := hide (fun w => CodeRefMay.may_any 13 a b c n (by omega) w)
  rw [hm] at HM
  have hn := n_bd hm
  obtain ⟨hn0, hn1⟩ := hn
  have S0 := DoSt.new w hT f #[.int .u8 13, .int .i64 a, .int .i64 b, .int .i64 c, .int .i64 n]
  clear hT hm
  unfold code5 at *
  go_enter Tryd.func15, Tryd.ntmps15
  go_wp2_with (first
    | ((with_reducible refine Arr.wpList_alloc_zero rfl 23 (by rfl) _ _ infoR (w.heap.size + 1 + 1) ?_ ?_); (· simp))
    | ((with_reducible refine Arr.wpList_alloc_zero rfl 23 (by rfl) _ _ infoR (w.heap.size + 1 + 1 + 1) ?_ ?_); (· simp))
    | ((with_reducible refine Great.wpList_readTo rfl (some 15) rfl (.agg (blk (fun _ => 0)).toArray) ?_ ?_); (· as_aux_lemma => kernel_rfl))
    | ((with_reducible refine Arr.wpList_store_last rfl 23 (.tmp 9) (.tmp 15) rfl _ _ (w.heap.size + 1 + 1 + 1) ?_ rfl rfl HI.out ?_ ?_ ?_ ?_); (· simp); (· simp [blk_len]); (· simp [blk_len]); (· simpa using blk_one (fun _ => 0))))
  refine (HM.out _).mono ?_
  rintro e w1 ⟨rfl, hb1⟩
  have S1 := S0.below hb1
  have c0 := S1.regs.cell (show 0 < 16 by omega)
  have f0 := S1.regs.frozen 0
  have S := S1.set0
  have hc := c5_of S.code
  clear hb1 S0
  go_wp2_with (first
    | ((refine load_blk rfl 23 (.tmp 3) rfl w.heap.size rfl S.regs hu HI.out ?_)))
  clear c0 f0 S1
  refine (getR_any (zf f) a _).mono ?_
  rintro e wg ⟨rfl, hbg⟩
  have S := S.below hbg
  have hc := c5_of S.code
  clear hbg
  go_wp2_with (first
    | ((refine load_blk rfl 23 (.tmp 3) rfl w.heap.size rfl S.regs hu HI.out ?_)))
  refine (getR_any (zf f) b _).mono ?_
  rintro e wg ⟨rfl, hbg⟩
  have S := S.below hbg
  have hc := c5_of S.code
  clear hbg
  go_wp2_with (first
    | ((refine load_blk rfl 23 (.tmp 3) rfl w.heap.size rfl S.regs hu HI.out ?_)))
  refine (getR_any (zf f) c _).mono ?_
  rintro e wg ⟨rfl, hbg⟩
  have S := S.below hbg
  have hc := c5_of S.code
  clear hbg
  go_wp2_with (first
    | ((refine load_blk rfl 23 (.tmp 3) rfl w.heap.size rfl S.regs hu HI.out ?_))
    | (go_at_call 20; refine (wordR n _).mono ?_; rintro e wx ⟨rfl, rfl⟩)
    | (go_at_call 9; refine (putR_any (zf f) a (getF (zf f) a) _).mono ?_; rintro e wd ⟨rfl, hbd⟩; have S9 := S.below hbd; clear hbd)
    | ((with_reducible refine store_blk rfl 23 (.tmp 6) (.tmp 133) rfl (w.heap.size + 1 + 1) ?_ (putF (zf f) a (getF (zf f) a)) ?_ S9.out HI.out ?_); (· rfl); (· rfl)))
  exact bodyPost_ret (v := .tuple #[.agg (blk (putF (zf f) a (getF (zf f) a))).toArray, .int .i64 (at_ + 1 + n), .int .i64 0]) (ret_blk3 (b := w.heap.size + 1 + 1) Tryd.results15 rfl (row_setCells S9.out _) hu HI.out) rfl ⟨rfl, below_setCells _ _ _ S9.bel (by omega)⟩
set_option maxHeartbeats 1000000 in
theorem do_13n (a b c n at_ : Int) (f : Nat → Int) (hm : mayB 13 a b c n = true) (h0 : 0 ≤ at_) (h1 : at_ ≤ 1024) (h2 : (getF (zf f) a == getF (zf f) b) = false) (w : World) (hT : Tab w) :
    Calls Tryd.prog 15 #[.agg (blk f).toArray, .int .i64 at_, code5 13 a b c n] w fun e w' => e = .returned (.tuple #[.agg (blk (putF (zf f) a (getF (zf f) a))).toArray, .int .i64 (at_ + 1), .int .i64 0]) ∧ Below w.heap.size w w' := by
  have hu := Tryd.underlying23
  have HI := hide (zero_of_info (P := Tryd.prog) infoR).2
  have HM := hide (fun w => CodeRefMay.may_any 13 a b c n (by omega) w)
  rw [hm] at HM
  have hn := n_bd hm
  obtain ⟨hn0, hn1⟩ := hn
  have S0 := DoSt.new w hT f #[.int .u8 13, .int .i64 a, .int .i64 b, .int .i64 c, .int .i64 n]
  clear hT hm
  unfold code5 at *
  go_enter Tryd.func15, Tryd.ntmps15
  go_wp2_with (first
    | ((with_reducible refine Arr.wpList_alloc_zero rfl 23 (by rfl) _ _ infoR (w.heap.size + 1 + 1) ?_ ?_); (· simp))
    | ((with_reducible refine Arr.wpList_alloc_zero rfl 23 (by rfl) _ _ infoR (w.heap.size + 1 + 1 + 1) ?_ ?_); (· simp))
    | ((with_reducible refine Great.wpList_readTo rfl (some 15) rfl (.agg (blk (fun _ => 0)).toArray) ?_ ?_); (· as_aux_lemma => kernel_rfl))
    | ((with_reducible refine Arr.wpList_store_last rfl 23 (.tmp 9) (.tmp 15) rfl _ _ (w.heap.size + 1 + 1 + 1) ?_ rfl rfl HI.out ?_ ?_ ?_ ?_); (· simp); (· simp [blk_len]); (· simp [blk_len]); (· simpa using blk_one (fun _ => 0))))
  refine (HM.out _).mono ?_
  rintro e w1 ⟨rfl, hb1⟩
  have S1 := S0.below hb1
  have c0 := S1.regs.cell (show 0 < 16 by omega)
  have f0 := S1.regs.frozen 0
  have S := S1.set0
  have hc := c5_of S.code
  clear hb1 S0
  go_wp2_with (first
    | ((refine load_blk rfl 23 (.tmp 3) rfl w.heap.size rfl S.regs hu HI.out ?_)))
  clear c0 f0 S1
  refine (getR_any (zf f) a _).mono ?_
  rintro e wg ⟨rfl, hbg⟩
  have S := S.below hbg
  have hc := c5_of S.code
  clear hbg
  go_wp2_with (first
    | ((refine load_blk rfl 23 (.tmp 3) rfl w.heap.size rfl S.regs hu HI.out ?_)))
  refine (getR_any (zf f) b _).mono ?_
  rintro e wg ⟨rfl, hbg⟩
  have S := S.below hbg
  have hc := c5_of S.code
  clear hbg
  go_wp2_with (first
    | ((refine load_blk rfl 23 (.tmp 3) rfl w.heap.size rfl S.regs hu HI.out ?_)))
  refine (getR_any (zf f) c _).mono ?_
  rintro e wg ⟨rfl, hbg⟩
  have S := S.below hbg
  have hc := c5_of S.code
  clear hbg
  go_wp2_with (first
    | ((refine load_blk rfl 23 (.tmp 3) rfl w.heap.size rfl S.regs hu HI.out ?_))
    | (go_at_call 20; refine (wordR n _).mono ?_; rintro e wx ⟨rfl, rfl⟩)
    | (go_at_call 9; refine (putR_any (zf f) a (getF (zf f) a) _).mono ?_; rintro e wd ⟨rfl, hbd⟩; have S9 := S.below hbd; clear hbd)
    | ((with_reducible refine store_blk rfl 23 (.tmp 6) (.tmp 133) rfl (w.heap.size + 1 + 1) ?_ (putF (zf f) a (getF (zf f) a)) ?_ S9.out HI.out ?_); (· rfl); (· rfl)))
  exact bodyPost_ret (v := .tuple #[.agg (blk (putF (zf f) a (getF (zf f) a))).toArray, .int .i64 (at_ + 1), .int .i64 0]) (ret_blk3 (b := w.heap.size + 1 + 1) Tryd.results15 rfl (row_setCells S9.out _) hu HI.out) rfl ⟨rfl, below_setCells _ _ _ S9.bel (by omega)⟩
set_option maxHeartbeats 1000000 in
theorem do_14y (a b c n at_ : Int) (f : Nat → Int) (hm : mayB 14 a b c n = true) (h0 : 0 ≤ at_) (h1 : at_ ≤ 1024) (h2 : (getF (zf f) a != getF (zf f) b) = true) (w : World) (hT : Tab w) :
    Calls Tryd.prog 15 #[.agg (blk f).toArray, .int .i64 at_, code5 14 a b c n] w fun e w' => e = .returned (.tuple #[.agg (blk (putF (zf f) a (getF (zf f) a))).toArray, .int .i64 (at_ + 1 + n), .int .i64 0]) ∧ Below w.heap.size w w' := by
  have hu := Tryd.underlying23
  have HI := hide (zero_of_info (P := Tryd.prog) infoR).2
  have HM := hide (fun w => CodeRefMay.may_any 14 a b c n (by omega) w)
  rw [hm] at HM
  have hn := n_bd hm
  obtain ⟨hn0, hn1⟩ := hn
  have S0 := DoSt.new w hT f #[.int .u8 14, .int .i64 a, .int .i64 b, .int .i64 c, .int .i64 n]
  clear hT hm
  unfold code5 at *
  go_enter Tryd.func15, Tryd.ntmps15
  go_wp2_with (first
    | ((with_reducible refine Arr.wpList_alloc_zero rfl 23 (by rfl) _ _ infoR (w.heap.size + 1 + 1) ?_ ?_); (· simp))
    | ((with_reducible refine Arr.wpList_alloc_zero rfl 23 (by rfl) _ _ infoR (w.heap.size + 1 + 1 + 1) ?_ ?_); (· simp))
    | ((with_reducible refine Great.wpList_readTo rfl (some 15) rfl (.agg (blk (fun _ => 0)).toArray) ?_ ?_); (· as_aux_lemma => kernel_rfl))
    | ((with_reducible refine Arr.wpList_store_last rfl 23 (.tmp 9) (.tmp 15) rfl _ _ (w.heap.size + 1 + 1 + 1) ?_ rfl rfl HI.out ?_ ?_ ?_ ?_); (· simp); (· simp [blk_len]); (· simp [blk_len]); (· simpa using blk_one (fun _ => 0))))
  refine (HM.out _).mono ?_
  rintro e w1 ⟨rfl, hb1⟩
  have S1 := S0.below hb1
  have c0 := S1.regs.cell (show 0 < 16 by omega)
  have f0 := S1.regs.frozen 0
  have S := S1.set0
  have hc := c5_of S.code
  clear hb1 S0
  go_wp2_with (first
    | ((refine load_blk rfl 23 (.tmp 3) rfl w.heap.size rfl S.regs hu HI.out ?_)))
  clear c0 f0 S1
  refine (getR_any (zf f) a _).mono ?_
  rintro e wg ⟨rfl, hbg⟩
  have S := S.below hbg
  have hc := c5_of S.code
  clear hbg
  go_wp2_with (first
    | ((refine load_blk rfl 23 (.tmp 3) rfl w.heap.size rfl S.regs hu HI.out ?_)))
  refine (getR_any (zf f) b _).mono ?_
  rintro e wg ⟨rfl, hbg⟩
  have S := S.below hbg
  have hc := c5_of S.code
  clear hbg
  go_wp2_with (first
    | ((refine load_blk rfl 23 (.tmp 3) rfl w.heap.size rfl S.regs hu HI.out ?_)))
  refine (getR_any (zf f) c _).mono ?_
  rintro e wg ⟨rfl, hbg⟩
  have S := S.below hbg
  have hc := c5_of S.code
  clear hbg
  go_wp2_with (first
    | ((refine load_blk rfl 23 (.tmp 3) rfl w.heap.size rfl S.regs hu HI.out ?_))
    | (go_at_call 20; refine (wordR n _).mono ?_; rintro e wx ⟨rfl, rfl⟩)
    | (go_at_call 9; refine (putR_any (zf f) a (getF (zf f) a) _).mono ?_; rintro e wd ⟨rfl, hbd⟩; have S9 := S.below hbd; clear hbd)
    | ((with_reducible refine store_blk rfl 23 (.tmp 6) (.tmp 133) rfl (w.heap.size + 1 + 1) ?_ (putF (zf f) a (getF (zf f) a)) ?_ S9.out HI.out ?_); (· rfl); (· rfl)))
  exact bodyPost_ret (v := .tuple #[.agg (blk (putF (zf f) a (getF (zf f) a))).toArray, .int .i64 (at_ + 1 + n), .int .i64 0]) (ret_blk3 (b := w.heap.size + 1 + 1) Tryd.results15 rfl (row_setCells S9.out _) hu HI.out) rfl ⟨rfl, below_setCells _ _ _ S9.bel (by omega)⟩
set_option maxHeartbeats 1000000 in
theorem do_14n (a b c n at_ : Int) (f : Nat → Int) (hm : mayB 14 a b c n = true) (h0 : 0 ≤ at_) (h1 : at_ ≤ 1024) (h2 : (getF (zf f) a != getF (zf f) b) = false) (w : World) (hT : Tab w) :
    Calls Tryd.prog 15 #[.agg (blk f).toArray, .int .i64 at_, code5 14 a b c n] w fun e w' => e = .returned (.tuple #[.agg (blk (putF (zf f) a (getF (zf f) a))).toArray, .int .i64 (at_ + 1), .int .i64 0]) ∧ Below w.heap.size w w' := by
  have hu := Tryd.underlying23
  have HI := hide (zero_of_info (P := Tryd.prog) infoR).2
  have HM := hide (fun w => CodeRefMay.may_any 14 a b c n (by omega) w)
  rw [hm] at HM
  have hn := n_bd hm
  obtain ⟨hn0, hn1⟩ := hn
  have S0 := DoSt.new w hT f #[.int .u8 14, .int .i64 a, .int .i64 b, .int .i64 c, .int .i64 n]
  clear hT hm
  unfold code5 at *
  go_enter Tryd.func15, Tryd.ntmps15
  go_wp2_with (first
    | ((with_reducible refine Arr.wpList_alloc_zero rfl 23 (by rfl) _ _ infoR (w.heap.size + 1 + 1) ?_ ?_); (· simp))
    | ((with_reducible refine Arr.wpList_alloc_zero rfl 23 (by rfl) _ _ infoR (w.heap.size + 1 + 1 + 1) ?_ ?_); (· simp))
    | ((with_reducible refine Great.wpList_readTo rfl (some 15) rfl (.agg (blk (fun _ => 0)).toArray) ?_ ?_); (· as_aux_lemma => kernel_rfl))
    | ((with_reducible refine Arr.wpList_store_last rfl 23 (.tmp 9) (.tmp 15) rfl _ _ (w.heap.size + 1 + 1 + 1) ?_ rfl rfl HI.out ?_ ?_ ?_ ?_); (· simp); (· simp [blk_len]); (· simp [blk_len]); (· simpa using blk_one (fun _ => 0))))
  refine (HM.out _).mono ?_
  rintro e w1 ⟨rfl, hb1⟩
  have S1 := S0.below hb1
  have c0 := S1.regs.cell (show 0 < 16 by omega)
  have f0 := S1.regs.frozen 0
  have S := S1.set0
  have hc := c5_of S.code
  clear hb1 S0
  go_wp2_with (first
    | ((refine load_blk rfl 23 (.tmp 3) rfl w.heap.size rfl S.regs hu HI.out ?_)))
  clear c0 f0 S1
  refine (getR_any (zf f) a _).mono ?_
  rintro e wg ⟨rfl, hbg⟩
  have S := S.below hbg
  have hc := c5_of S.code
  clear hbg
  go_wp2_with (first
    | ((refine load_blk rfl 23 (.tmp 3) rfl w.heap.size rfl S.regs hu HI.out ?_)))
  refine (getR_any (zf f) b _).mono ?_
  rintro e wg ⟨rfl, hbg⟩
  have S := S.below hbg
  have hc := c5_of S.code
  clear hbg
  go_wp2_with (first
    | ((refine load_blk rfl 23 (.tmp 3) rfl w.heap.size rfl S.regs hu HI.out ?_)))
  refine (getR_any (zf f) c _).mono ?_
  rintro e wg ⟨rfl, hbg⟩
  have S := S.below hbg
  have hc := c5_of S.code
  clear hbg
  go_wp2_with (first
    | ((refine load_blk rfl 23 (.tmp 3) rfl w.heap.size rfl S.regs hu HI.out ?_))
    | (go_at_call 20; refine (wordR n _).mono ?_; rintro e wx ⟨rfl, rfl⟩)
    | (go_at_call 9; refine (putR_any (zf f) a (getF (zf f) a) _).mono ?_; rintro e wd ⟨rfl, hbd⟩; have S9 := S.below hbd; clear hbd)
    | ((with_reducible refine store_blk rfl 23 (.tmp 6) (.tmp 133) rfl (w.heap.size + 1 + 1) ?_ (putF (zf f) a (getF (zf f) a)) ?_ S9.out HI.out ?_); (· rfl); (· rfl)))
  exact bodyPost_ret (v := .tuple #[.agg (blk (putF (zf f) a (getF (zf f) a))).toArray, .int .i64 (at_ + 1), .int .i64 0]) (ret_blk3 (b := w.heap.size + 1 + 1) Tryd.results15 rfl (row_setCells S9.out _) hu HI.out) rfl ⟨rfl, below_setCells _ _ _ S9.bel (by omega)⟩
set_option maxHeartbeats 1000000 in
theorem do_15y (a b c n at_ : Int) (f : Nat → Int) (hm : mayB 15 a b c n = true) (h0 : 0 ≤ at_) (h1 : at_ ≤ 1024) (h2 : decide (getF (zf f) a < getF (zf f) b) = true) (w : World) (hT : Tab w) :
    Calls Tryd.prog 15 #[.agg (blk f).toArray, .int .i64 at_, code5 15 a b c n] w fun e w' => e = .returned (.tuple #[.agg (blk (putF (zf f) a (getF (zf f) a))).toArray, .int .i64 (at_ + 1 + n), .int .i64 0]) ∧ Below w.heap.size w w' := by
  have hu := Tryd.underlying23
  have HI := hide (zero_of_info (P := Tryd.prog) infoR).2
  have HM := hide (fun w => CodeRefMay.may_any 15 a b c n (by omega) w)
  rw [hm] at HM
  have hn := n_bd hm
  obtain ⟨hn0, hn1⟩ := hn
  have S0 := DoSt.new w hT f #[.int .u8 15, .int .i64 a, .int .i64 b, .int .i64 c, .int .i64 n]
  clear hT hm
  unfold code5 at *
  go_enter Tryd.func15, Tryd.ntmps15
  go_wp2_with (first
    | ((with_reducible refine Arr.wpList_alloc_zero rfl 23 (by rfl) _ _ infoR (w.heap.size + 1 + 1) ?_ ?_); (· simp))
    | ((with_reducible refine Arr.wpList_alloc_zero rfl 23 (by rfl) _ _ infoR (w.heap.size + 1 + 1 + 1) ?_ ?_); (· simp))
    | ((with_reducible refine Great.wpList_readTo rfl (some 15) rfl (.agg (blk (fun _ => 0)).toArray) ?_ ?_); (· as_aux_lemma => kernel_rfl))
    | ((with_reducible refine Arr.wpList_store_last rfl 23 (.tmp 9) (.tmp 15) rfl _ _ (w.heap.size + 1 + 1 + 1) ?_ rfl rfl HI.out ?_ ?_ ?_ ?_); (· simp); (· simp [blk_len]); (· simp [blk_len]); (· simpa using blk_one (fun _ => 0))))
  refine (HM.out _).mono ?_
  rintro e w1 ⟨rfl, hb1⟩
  have S1 := S0.below hb1
  have c0 := S1.regs.cell (show 0 < 16 by omega)
  have f0 := S1.regs.frozen 0
  have S := S1.set0
  have hc := c5_of S.code
  clear hb1 S0
  go_wp2_with (first
    | ((refine load_blk rfl 23 (.tmp 3) rfl w.heap.size rfl S.regs hu HI.out ?_)))
  clear c0 f0 S1
  refine (getR_any (zf f) a _).mono ?_
  rintro e wg ⟨rfl, hbg⟩
  have S := S.below hbg
  have hc := c5_of S.code
  clear hbg
  go_wp2_with (first
    | ((refine load_blk rfl 23 (.tmp 3) rfl w.heap.size rfl S.regs hu HI.out ?_)))
  refine (getR_any (zf f) b _).mono ?_
  rintro e wg ⟨rfl, hbg⟩
  have S := S.below hbg
  have hc := c5_of S.code
  clear hbg
  go_wp2_with (first
    | ((refine load_blk rfl 23 (.tmp 3) rfl w.heap.size rfl S.regs hu HI.out ?_)))
  refine (getR_any (zf f) c _).mono ?_
  rintro e wg ⟨rfl, hbg⟩
  have S := S.below hbg
  have hc := c5_of S.code
  clear hbg
  go_wp2_with (first
    | ((refine load_blk rfl 23 (.tmp 3) rfl w.heap.size rfl S.regs hu HI.out ?_))
    | (go_at_call 20; refine (wordR n _).mono ?_; rintro e wx ⟨rfl, rfl⟩)
    | (go_at_call 9; refine (putR_any (zf f) a (getF (zf f) a) _).mono ?_; rintro e wd ⟨rfl, hbd⟩; have S9 := S.below hbd; clear hbd)
    | ((with_reducible refine store_blk rfl 23 (.tmp 6) (.tmp 133) rfl (w.heap.size + 1 + 1) ?_ (putF (zf f) a (getF (zf f) a)) ?_ S9.out HI.out ?_); (· rfl); (· rfl)))
  exact bodyPost_ret (v := .tuple #[.agg (blk (putF (zf f) a (getF (zf f) a))).toArray, .int .i64 (at_ + 1 + n), .int .i64 0]) (ret_blk3 (b := w.heap.size + 1 + 1) Tryd.results15 rfl (row_setCells S9.out _) hu HI.out) rfl ⟨rfl, below_setCells _ _ _ S9.bel (by omega)⟩
set_option maxHeartbeats 1000000 in
theorem do_15n (a b c n at_ : Int) (f : Nat → Int) (hm : mayB 15 a b c n = true) (h0 : 0 ≤ at_) (h1 : at_ ≤ 1024) (h2 : decide (getF (zf f) a < getF (zf f) b) = false) (w : World) (hT : Tab w) :
    Calls Tryd.prog 15 #[.agg (blk f).toArray, .int .i64 at_, code5 15 a b c n] w fun e w' => e = .returned (.tuple #[.agg (blk (putF (zf f) a (getF (zf f) a))).toArray, .int .i64 (at_ + 1), .int .i64 0]) ∧ Below w.heap.size w w' := by
  have hu := Tryd.underlying23
  have HI := hide (zero_of_info (P := Tryd.prog) infoR).2
  have HM := hide (fun w => CodeRefMay.may_any 15 a b c n (by omega) w)
  rw [hm] at HM
  have hn := n_bd hm
  obtain ⟨hn0, hn1⟩ := hn
  have S0 := DoSt.new w hT f #[.int .u8 15, .int .i64 a, .int .i64 b, .int .i64 c, .int .i64 n]
  clear hT hm
  unfold code5 at *
  go_enter Tryd.func15, Tryd.ntmps15
  go_wp2_with (first
    | ((with_reducible refine Arr.wpList_alloc_zero rfl 23 (by rfl) _ _ infoR (w.heap.size + 1 + 1) ?_ ?_); (· simp))
    | ((with_reducible refine Arr.wpList_alloc_zero rfl 23 (by rfl) _ _ infoR (w.heap.size + 1 + 1 + 1) ?_ ?_); (· simp))
    | ((with_reducible refine Great.wpList_readTo rfl (some 15) rfl (.agg (blk (fun _ => 0)).toArray) ?_ ?_); (· as_aux_lemma => kernel_rfl))
    | ((with_reducible refine Arr.wpList_store_last rfl 23 (.tmp 9) (.tmp 15) rfl _ _ (w.heap.size + 1 + 1 + 1) ?_ rfl rfl HI.out ?_ ?_ ?_ ?_); (· simp); (· simp [blk_len]); (· simp [blk_len]); (· simpa using blk_one (fun _ => 0))))
  refine (HM.out _).mono ?_
  rintro e w1 ⟨rfl, hb1⟩
  have S1 := S0.below hb1
  have c0 := S1.regs.cell (show 0 < 16 by omega)
  have f0 := S1.regs.frozen 0
  have S := S1.set0
  have hc := c5_of S.code
  clear hb1 S0
  go_wp2_with (first
    | ((refine load_blk rfl 23 (.tmp 3) rfl w.heap.size rfl S.regs hu HI.out ?_)))
  clear c0 f0 S1
  refine (getR_any (zf f) a _).mono ?_
  rintro e wg ⟨rfl, hbg⟩
  have S := S.below hbg
  have hc := c5_of S.code
  clear hbg
  go_wp2_with (first
    | ((refine load_blk rfl 23 (.tmp 3) rfl w.heap.size rfl S.regs hu HI.out ?_)))
  refine (getR_any (zf f) b _).mono ?_
  rintro e wg ⟨rfl, hbg⟩
  have S := S.below hbg
  have hc := c5_of S.code
  clear hbg
  go_wp2_with (first
    | ((refine load_blk rfl 23 (.tmp 3) rfl w.heap.size rfl S.regs hu HI.out ?_)))
  refine (getR_any (zf f) c _).mono ?_
  rintro e wg ⟨rfl, hbg⟩
  have S := S.below hbg
  have hc := c5_of S.code
  clear hbg
  go_wp2_with (first
    | ((refine load_blk rfl 23 (.tmp 3) rfl w.heap.size rfl S.regs hu HI.out ?_))
    | (go_at_call 20; refine (wordR n _).mono ?_; rintro e wx ⟨rfl, rfl⟩)
    | (go_at_call 9; refine (putR_any (zf f) a (getF (zf f) a) _).mono ?_; rintro e wd ⟨rfl, hbd⟩; have S9 := S.below hbd; clear hbd)
    | ((with_reducible refine store_blk rfl 23 (.tmp 6) (.tmp 133) rfl (w.heap.size + 1 + 1) ?_ (putF (zf f) a (getF (zf f) a)) ?_ S9.out HI.out ?_); (· rfl); (· rfl)))
  exact bodyPost_ret (v := .tuple #[.agg (blk (putF (zf f) a (getF (zf f) a))).toArray, .int .i64 (at_ + 1), .int .i64 0]) (ret_blk3 (b := w.heap.size + 1 + 1) Tryd.results15 rfl (row_setCells S9.out _) hu HI.out) rfl ⟨rfl, below_setCells _ _ _ S9.bel (by omega)⟩
end Go.Proofs.YticlojpdcdkdgaaDoor.RefDo
