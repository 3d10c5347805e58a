/-
  The reference's Do of the layer 'step' walked: a part of the instructions.
-/
import Derived.Test.YticlojpdcdkdgaaDoorDoSt
namespace Go.Proofs.YticlojpdcdkdgaaDoor.RefDo
open Go.RowKit Base Blks CodePlain CodeBits CodeTab Regs DoSt
set_option linter.unusedVariables false
set_option linter.unusedSimpArgs false
set_option maxRecDepth 100000

set_option maxHeartbeats 1000000 in
theorem do_0 (a b c n at_ : Int) (f : Nat → Int) (hm : mayB 0 a b c n = true) (h0 : 0 ≤ at_) (h1 : at_ ≤ 1024) (w : World) (hT : Tab w) :
    Calls Tryd.prog 15 #[.agg (blk f).toArray, .int .i64 at_, code5 0 a b c n] w fun e w' => e = .returned (.tuple #[.agg (blk (fun _ => 0)).toArray, .int .i64 (0), .int .i64 4]) ∧ Below w.heap.size w w' := by
  have hu := Tryd.underlying23
  have HI := hide (zero_of_info (P := Tryd.prog) infoR).2
  have HM := hide (fun w => CodeRefMay.may_any 0 a b c n (by omega) w)
  rw [hm] at HM
  have hn := n_bd hm
  obtain ⟨hn0, hn1⟩ := hn
  have S0 := DoSt.new w hT f #[.int .u8 0, .int .i64 a, .int .i64 b, .int .i64 c, .int .i64 n]
  clear hT hm
  unfold code5 at *
  go_enter Tryd.func15, Tryd.ntmps15
  go_wp2_with (first
    | ((with_reducible refine Arr.wpList_alloc_zero rfl 23 (by rfl) _ _ infoR (w.heap.size + 1 + 1) ?_ ?_); (· simp))
    | ((with_reducible refine Arr.wpList_alloc_zero rfl 23 (by rfl) _ _ infoR (w.heap.size + 1 + 1 + 1) ?_ ?_); (· simp))
    | ((with_reducible refine Great.wpList_readTo rfl (some 15) rfl (.agg (blk (fun _ => 0)).toArray) ?_ ?_); (· as_aux_lemma => kernel_rfl))
    | ((with_reducible refine Arr.wpList_store_last rfl 23 (.tmp 9) (.tmp 15) rfl _ _ (w.heap.size + 1 + 1 + 1) ?_ rfl rfl HI.out ?_ ?_ ?_ ?_); (· simp); (· simp [blk_len]); (· simp [blk_len]); (· simpa using blk_one (fun _ => 0))))
  refine (HM.out _).mono ?_
  rintro e w1 ⟨rfl, hb1⟩
  have S1 := S0.below hb1
  have c0 := S1.regs.cell (show 0 < 16 by omega)
  have f0 := S1.regs.frozen 0
  have S := S1.set0
  have hc := c5_of S.code
  clear hb1 S0
  go_wp2_with (first
    | ((refine load_blk rfl 23 (.tmp 3) rfl w.heap.size rfl S.regs hu HI.out ?_)))
  clear c0 f0 S1
  refine (getR_any (zf f) a _).mono ?_
  rintro e wg ⟨rfl, hbg⟩
  have S := S.below hbg
  have hc := c5_of S.code
  clear hbg
  go_wp2_with (first
    | ((refine load_blk rfl 23 (.tmp 3) rfl w.heap.size rfl S.regs hu HI.out ?_)))
  refine (getR_any (zf f) b _).mono ?_
  rintro e wg ⟨rfl, hbg⟩
  have S := S.below hbg
  have hc := c5_of S.code
  clear hbg
  go_wp2_with (first
    | ((refine load_blk rfl 23 (.tmp 3) rfl w.heap.size rfl S.regs hu HI.out ?_)))
  refine (getR_any (zf f) c _).mono ?_
  rintro e wg ⟨rfl, hbg⟩
  have S := S.below hbg
  have hc := c5_of S.code
  clear hbg
  go_wp2_with (first
    | ((refine load_blk rfl 23 (.tmp 9) rfl (w.heap.size + 1 + 1 + 1) rfl S.zero hu HI.out ?_))
    | ((with_reducible refine store_blk rfl 23 (.tmp 6) (.tmp 46) rfl (w.heap.size + 1 + 1) ?_ (fun _ => 0) ?_ S.out HI.out ?_); (· rfl); (· rfl)))
  exact bodyPost_ret (v := .tuple #[.agg (blk (fun _ => 0)).toArray, .int .i64 0, .int .i64 4]) (ret_blk3 (b := w.heap.size + 1 + 1) Tryd.results15 rfl (row_setCells S.out _) hu HI.out) rfl ⟨rfl, below_setCells _ _ _ S.bel (by omega)⟩
set_option maxHeartbeats 1000000 in
theorem do_9 (a b c n at_ : Int) (f : Nat → Int) (hm : mayB 9 a b c n = true) (h0 : 0 ≤ at_) (h1 : at_ ≤ 1024) (w : World) (hT : Tab w) :
    Calls Tryd.prog 15 #[.agg (blk f).toArray, .int .i64 at_, code5 9 a b c n] w fun e w' => e = .returned (.tuple #[.agg (blk (fun _ => 0)).toArray, .int .i64 (0), .int .i64 4]) ∧ Below w.heap.size w w' := by
  have hu := Tryd.underlying23
  have HI := hide (zero_of_info (P := Tryd.prog) infoR).2
  have HM := hide (fun w => CodeRefMay.may_any 9 a b c n (by omega) w)
  rw [hm] at HM
  have hn := n_bd hm
  obtain ⟨hn0, hn1⟩ := hn
  have S0 := DoSt.new w hT f #[.int .u8 9, .int .i64 a, .int .i64 b, .int .i64 c, .int .i64 n]
  clear hT hm
  unfold code5 at *
  go_enter Tryd.func15, Tryd.ntmps15
  go_wp2_with (first
    | ((with_reducible refine Arr.wpList_alloc_zero rfl 23 (by rfl) _ _ infoR (w.heap.size + 1 + 1) ?_ ?_); (· simp))
    | ((with_reducible refine Arr.wpList_alloc_zero rfl 23 (by rfl) _ _ infoR (w.heap.size + 1 + 1 + 1) ?_ ?_); (· simp))
    | ((with_reducible refine Great.wpList_readTo rfl (some 15) rfl (.agg (blk (fun _ => 0)).toArray) ?_ ?_); (· as_aux_lemma => kernel_rfl))
    | ((with_reducible refine Arr.wpList_store_last rfl 23 (.tmp 9) (.tmp 15) rfl _ _ (w.heap.size + 1 + 1 + 1) ?_ rfl rfl HI.out ?_ ?_ ?_ ?_); (· simp); (· simp [blk_len]); (· simp [blk_len]); (· simpa using blk_one (fun _ => 0))))
  refine (HM.out _).mono ?_
  rintro e w1 ⟨rfl, hb1⟩
  have S1 := S0.below hb1
  have c0 := S1.regs.cell (show 0 < 16 by omega)
  have f0 := S1.regs.frozen 0
  have S := S1.set0
  have hc := c5_of S.code
  clear hb1 S0
  go_wp2_with (first
    | ((refine load_blk rfl 23 (.tmp 3) rfl w.heap.size rfl S.regs hu HI.out ?_)))
  clear c0 f0 S1
  refine (getR_any (zf f) a _).mono ?_
  rintro e wg ⟨rfl, hbg⟩
  have S := S.below hbg
  have hc := c5_of S.code
  clear hbg
  go_wp2_with (first
    | ((refine load_blk rfl 23 (.tmp 3) rfl w.heap.size rfl S.regs hu HI.out ?_)))
  refine (getR_any (zf f) b _).mono ?_
  rintro e wg ⟨rfl, hbg⟩
  have S := S.below hbg
  have hc := c5_of S.code
  clear hbg
  go_wp2_with (first
    | ((refine load_blk rfl 23 (.tmp 3) rfl w.heap.size rfl S.regs hu HI.out ?_)))
  refine (getR_any (zf f) c _).mono ?_
  rintro e wg ⟨rfl, hbg⟩
  have S := S.below hbg
  have hc := c5_of S.code
  clear hbg
  go_wp2_with (first
    | ((refine load_blk rfl 23 (.tmp 9) rfl (w.heap.size + 1 + 1 + 1) rfl S.zero hu HI.out ?_))
    | ((with_reducible refine store_blk rfl 23 (.tmp 6) (.tmp 46) rfl (w.heap.size + 1 + 1) ?_ (fun _ => 0) ?_ S.out HI.out ?_); (· rfl); (· rfl)))
  exact bodyPost_ret (v := .tuple #[.agg (blk (fun _ => 0)).toArray, .int .i64 0, .int .i64 4]) (ret_blk3 (b := w.heap.size + 1 + 1) Tryd.results15 rfl (row_setCells S.out _) hu HI.out) rfl ⟨rfl, below_setCells _ _ _ S.bel (by omega)⟩
set_option maxHeartbeats 1000000 in
theorem do_10 (a b c n at_ : Int) (f : Nat → Int) (hm : mayB 10 a b c n = true) (h0 : 0 ≤ at_) (h1 : at_ ≤ 1024) (w : World) (hT : Tab w) :
    Calls Tryd.prog 15 #[.agg (blk f).toArray, .int .i64 at_, code5 10 a b c n] w fun e w' => e = .returned (.tuple #[.agg (blk (fun _ => 0)).toArray, .int .i64 (0), .int .i64 4]) ∧ Below w.heap.size w w' := by
  have hu := Tryd.underlying23
  have HI := hide (zero_of_info (P := Tryd.prog) infoR).2
  have HM := hide (fun w => CodeRefMay.may_any 10 a b c n (by omega) w)
  rw [hm] at HM
  have hn := n_bd hm
  obtain ⟨hn0, hn1⟩ := hn
  have S0 := DoSt.new w hT f #[.int .u8 10, .int .i64 a, .int .i64 b, .int .i64 c, .int .i64 n]
  clear hT hm
  unfold code5 at *
  go_enter Tryd.func15, Tryd.ntmps15
  go_wp2_with (first
    | ((with_reducible refine Arr.wpList_alloc_zero rfl 23 (by rfl) _ _ infoR (w.heap.size + 1 + 1) ?_ ?_); (· simp))
    | ((with_reducible refine Arr.wpList_alloc_zero rfl 23 (by rfl) _ _ infoR (w.heap.size + 1 + 1 + 1) ?_ ?_); (· simp))
    | ((with_reducible refine Great.wpList_readTo rfl (some 15) rfl (.agg (blk (fun _ => 0)).toArray) ?_ ?_); (· as_aux_lemma => kernel_rfl))
    | ((with_reducible refine Arr.wpList_store_last rfl 23 (.tmp 9) (.tmp 15) rfl _ _ (w.heap.size + 1 + 1 + 1) ?_ rfl rfl HI.out ?_ ?_ ?_ ?_); (· simp); (· simp [blk_len]); (· simp [blk_len]); (· simpa using blk_one (fun _ => 0))))
  refine (HM.out _).mono ?_
  rintro e w1 ⟨rfl, hb1⟩
  have S1 := S0.below hb1
  have c0 := S1.regs.cell (show 0 < 16 by omega)
  have f0 := S1.regs.frozen 0
  have S := S1.set0
  have hc := c5_of S.code
  clear hb1 S0
  go_wp2_with (first
    | ((refine load_blk rfl 23 (.tmp 3) rfl w.heap.size rfl S.regs hu HI.out ?_)))
  clear c0 f0 S1
  refine (getR_any (zf f) a _).mono ?_
  rintro e wg ⟨rfl, hbg⟩
  have S := S.below hbg
  have hc := c5_of S.code
  clear hbg
  go_wp2_with (first
    | ((refine load_blk rfl 23 (.tmp 3) rfl w.heap.size rfl S.regs hu HI.out ?_)))
  refine (getR_any (zf f) b _).mono ?_
  rintro e wg ⟨rfl, hbg⟩
  have S := S.below hbg
  have hc := c5_of S.code
  clear hbg
  go_wp2_with (first
    | ((refine load_blk rfl 23 (.tmp 3) rfl w.heap.size rfl S.regs hu HI.out ?_)))
  refine (getR_any (zf f) c _).mono ?_
  rintro e wg ⟨rfl, hbg⟩
  have S := S.below hbg
  have hc := c5_of S.code
  clear hbg
  go_wp2_with (first
    | ((refine load_blk rfl 23 (.tmp 9) rfl (w.heap.size + 1 + 1 + 1) rfl S.zero hu HI.out ?_))
    | ((with_reducible refine store_blk rfl 23 (.tmp 6) (.tmp 46) rfl (w.heap.size + 1 + 1) ?_ (fun _ => 0) ?_ S.out HI.out ?_); (· rfl); (· rfl)))
  exact bodyPost_ret (v := .tuple #[.agg (blk (fun _ => 0)).toArray, .int .i64 0, .int .i64 4]) (ret_blk3 (b := w.heap.size + 1 + 1) Tryd.results15 rfl (row_setCells S.out _) hu HI.out) rfl ⟨rfl, below_setCells _ _ _ S.bel (by omega)⟩
set_option maxHeartbeats 1000000 in
theorem do_11 (a b c n at_ : Int) (f : Nat → Int) (hm : mayB 11 a b c n = true) (h0 : 0 ≤ at_) (h1 : at_ ≤ 1024) (w : World) (hT : Tab w) :
    Calls Tryd.prog 15 #[.agg (blk f).toArray, .int .i64 at_, code5 11 a b c n] w fun e w' => e = .returned (.tuple #[.agg (blk (fun _ => 0)).toArray, .int .i64 (0), .int .i64 4]) ∧ Below w.heap.size w w' := by
  have hu := Tryd.underlying23
  have HI := hide (zero_of_info (P := Tryd.prog) infoR).2
  have HM := hide (fun w => CodeRefMay.may_any 11 a b c n (by omega) w)
  rw [hm] at HM
  have hn := n_bd hm
  obtain ⟨hn0, hn1⟩ := hn
  have S0 := DoSt.new w hT f #[.int .u8 11, .int .i64 a, .int .i64 b, .int .i64 c, .int .i64 n]
  clear hT hm
  unfold code5 at *
  go_enter Tryd.func15, Tryd.ntmps15
  go_wp2_with (first
    | ((with_reducible refine Arr.wpList_alloc_zero rfl 23 (by rfl) _ _ infoR (w.heap.size + 1 + 1) ?_ ?_); (· simp))
    | ((with_reducible refine Arr.wpList_alloc_zero rfl 23 (by rfl) _ _ infoR (w.heap.size + 1 + 1 + 1) ?_ ?_); (· simp))
    | ((with_reducible refine Great.wpList_readTo rfl (some 15) rfl (.agg (blk (fun _ => 0)).toArray) ?_ ?_); (· as_aux_lemma => kernel_rfl))
    | ((with_reducible refine Arr.wpList_store_last rfl 23 (.tmp 9) (.tmp 15) rfl _ _ (w.heap.size + 1 + 1 + 1) ?_ rfl rfl HI.out ?_ ?_ ?_ ?_); (· simp); (· simp [blk_len]); (· simp [blk_len]); (· simpa using blk_one (fun _ => 0))))
  refine (HM.out _).mono ?_
  rintro e w1 ⟨rfl, hb1⟩
  have S1 := S0.below hb1
  have c0 := S1.regs.cell (show 0 < 16 by omega)
  have f0 := S1.regs.frozen 0
  have S := S1.set0
  have hc := c5_of S.code
  clear hb1 S0
  go_wp2_with (first
    | ((refine load_blk rfl 23 (.tmp 3) rfl w.heap.size rfl S.regs hu HI.out ?_)))
  clear c0 f0 S1
  refine (getR_any (zf f) a _).mono ?_
  rintro e wg ⟨rfl, hbg⟩
  have S := S.below hbg
  have hc := c5_of S.code
  clear hbg
  go_wp2_with (first
    | ((refine load_blk rfl 23 (.tmp 3) rfl w.heap.size rfl S.regs hu HI.out ?_)))
  refine (getR_any (zf f) b _).mono ?_
  rintro e wg ⟨rfl, hbg⟩
  have S := S.below hbg
  have hc := c5_of S.code
  clear hbg
  go_wp2_with (first
    | ((refine load_blk rfl 23 (.tmp 3) rfl w.heap.size rfl S.regs hu HI.out ?_)))
  refine (getR_any (zf f) c _).mono ?_
  rintro e wg ⟨rfl, hbg⟩
  have S := S.below hbg
  have hc := c5_of S.code
  clear hbg
  go_wp2_with (first
    | ((refine load_blk rfl 23 (.tmp 9) rfl (w.heap.size + 1 + 1 + 1) rfl S.zero hu HI.out ?_))
    | ((with_reducible refine store_blk rfl 23 (.tmp 6) (.tmp 46) rfl (w.heap.size + 1 + 1) ?_ (fun _ => 0) ?_ S.out HI.out ?_); (· rfl); (· rfl)))
  exact bodyPost_ret (v := .tuple #[.agg (blk (fun _ => 0)).toArray, .int .i64 0, .int .i64 4]) (ret_blk3 (b := w.heap.size + 1 + 1) Tryd.results15 rfl (row_setCells S.out _) hu HI.out) rfl ⟨rfl, below_setCells _ _ _ S.bel (by omega)⟩
set_option maxHeartbeats 1000000 in
theorem do_17 (a b c n at_ : Int) (f : Nat → Int) (hm : mayB 17 a b c n = true) (h0 : 0 ≤ at_) (h1 : at_ ≤ 1024) (w : World) (hT : Tab w) :
    Calls Tryd.prog 15 #[.agg (blk f).toArray, .int .i64 at_, code5 17 a b c n] w fun e w' => e = .returned (.tuple #[.agg (blk (fun _ => 0)).toArray, .int .i64 (0), .int .i64 4]) ∧ Below w.heap.size w w' := by
  have hu := Tryd.underlying23
  have HI := hide (zero_of_info (P := Tryd.prog) infoR).2
  have HM := hide (fun w => CodeRefMay.may_any 17 a b c n (by omega) w)
  rw [hm] at HM
  have hn := n_bd hm
  obtain ⟨hn0, hn1⟩ := hn
  have S0 := DoSt.new w hT f #[.int .u8 17, .int .i64 a, .int .i64 b, .int .i64 c, .int .i64 n]
  clear hT hm
  unfold code5 at *
  go_enter Tryd.func15, Tryd.ntmps15
  go_wp2_with (first
    | ((with_reducible refine Arr.wpList_alloc_zero rfl 23 (by rfl) _ _ infoR (w.heap.size + 1 + 1) ?_ ?_); (· simp))
    | ((with_reducible refine Arr.wpList_alloc_zero rfl 23 (by rfl) _ _ infoR (w.heap.size + 1 + 1 + 1) ?_ ?_); (· simp))
    | ((with_reducible refine Great.wpList_readTo rfl (some 15) rfl (.agg (blk (fun _ => 0)).toArray) ?_ ?_); (· as_aux_lemma => kernel_rfl))
    | ((with_reducible refine Arr.wpList_store_last rfl 23 (.tmp 9) (.tmp 15) rfl _ _ (w.heap.size + 1 + 1 + 1) ?_ rfl rfl HI.out ?_ ?_ ?_ ?_); (· simp); (· simp [blk_len]); (· simp [blk_len]); (· simpa using blk_one (fun _ => 0))))
  refine (HM.out _).mono ?_
  rintro e w1 ⟨rfl, hb1⟩
  have S1 := S0.below hb1
  have c0 := S1.regs.cell (show 0 < 16 by omega)
  have f0 := S1.regs.frozen 0
  have S := S1.set0
  have hc := c5_of S.code
  clear hb1 S0
  go_wp2_with (first
    | ((refine load_blk rfl 23 (.tmp 3) rfl w.heap.size rfl S.regs hu HI.out ?_)))
  clear c0 f0 S1
  refine (getR_any (zf f) a _).mono ?_
  rintro e wg ⟨rfl, hbg⟩
  have S := S.below hbg
  have hc := c5_of S.code
  clear hbg
  go_wp2_with (first
    | ((refine load_blk rfl 23 (.tmp 3) rfl w.heap.size rfl S.regs hu HI.out ?_)))
  refine (getR_any (zf f) b _).mono ?_
  rintro e wg ⟨rfl, hbg⟩
  have S := S.below hbg
  have hc := c5_of S.code
  clear hbg
  go_wp2_with (first
    | ((refine load_blk rfl 23 (.tmp 3) rfl w.heap.size rfl S.regs hu HI.out ?_)))
  refine (getR_any (zf f) c _).mono ?_
  rintro e wg ⟨rfl, hbg⟩
  have S := S.below hbg
  have hc := c5_of S.code
  clear hbg
  go_wp2_with (first
    | ((refine load_blk rfl 23 (.tmp 9) rfl (w.heap.size + 1 + 1 + 1) rfl S.zero hu HI.out ?_))
    | ((with_reducible refine store_blk rfl 23 (.tmp 6) (.tmp 46) rfl (w.heap.size + 1 + 1) ?_ (fun _ => 0) ?_ S.out HI.out ?_); (· rfl); (· rfl)))
  exact bodyPost_ret (v := .tuple #[.agg (blk (fun _ => 0)).toArray, .int .i64 0, .int .i64 4]) (ret_blk3 (b := w.heap.size + 1 + 1) Tryd.results15 rfl (row_setCells S.out _) hu HI.out) rfl ⟨rfl, below_setCells _ _ _ S.bel (by omega)⟩
set_option maxHeartbeats 1000000 in
theorem do_18 (a b c n at_ : Int) (f : Nat → Int) (hm : mayB 18 a b c n = true) (h0 : 0 ≤ at_) (h1 : at_ ≤ 1024) (w : World) (hT : Tab w) :
    Calls Tryd.prog 15 #[.agg (blk f).toArray, .int .i64 at_, code5 18 a b c n] w fun e w' => e = .returned (.tuple #[.agg (blk (fun _ => 0)).toArray, .int .i64 (0), .int .i64 4]) ∧ Below w.heap.size w w' := by
  have hu := Tryd.underlying23
  have HI := hide (zero_of_info (P := Tryd.prog) infoR).2
  have HM := hide (fun w => CodeRefMay.may_any 18 a b c n (by omega) w)
  rw [hm] at HM
  have hn := n_bd hm
  obtain ⟨hn0, hn1⟩ := hn
  have S0 := DoSt.new w hT f #[.int .u8 18, .int .i64 a, .int .i64 b, .int .i64 c, .int .i64 n]
  clear hT hm
  unfold code5 at *
  go_enter Tryd.func15, Tryd.ntmps15
  go_wp2_with (first
    | ((with_reducible refine Arr.wpList_alloc_zero rfl 23 (by rfl) _ _ infoR (w.heap.size + 1 + 1) ?_ ?_); (· simp))
    | ((with_reducible refine Arr.wpList_alloc_zero rfl 23 (by rfl) _ _ infoR (w.heap.size + 1 + 1 + 1) ?_ ?_); (· simp))
    | ((with_reducible refine Great.wpList_readTo rfl (some 15) rfl (.agg (blk (fun _ => 0)).toArray) ?_ ?_); (· as_aux_lemma => kernel_rfl))
    | ((with_reducible refine Arr.wpList_store_last rfl 23 (.tmp 9) (.tmp 15) rfl _ _ (w.heap.size + 1 + 1 + 1) ?_ rfl rfl HI.out ?_ ?_ ?_ ?_); (· simp); (· simp [blk_len]); (· simp [blk_len]); (· simpa using blk_one (fun _ => 0))))
  refine (HM.out _).mono ?_
  rintro e w1 ⟨rfl, hb1⟩
  have S1 := S0.below hb1
  have c0 := S1.regs.cell (show 0 < 16 by omega)
  have f0 := S1.regs.frozen 0
  have S := S1.set0
  have hc := c5_of S.code
  clear hb1 S0
  go_wp2_with (first
    | ((refine load_blk rfl 23 (.tmp 3) rfl w.heap.size rfl S.regs hu HI.out ?_)))
  clear c0 f0 S1
  refine (getR_any (zf f) a _).mono ?_
  rintro e wg ⟨rfl, hbg⟩
  have S := S.below hbg
  have hc := c5_of S.code
  clear hbg
  go_wp2_with (first
    | ((refine load_blk rfl 23 (.tmp 3) rfl w.heap.size rfl S.regs hu HI.out ?_)))
  refine (getR_any (zf f) b _).mono ?_
  rintro e wg ⟨rfl, hbg⟩
  have S := S.below hbg
  have hc := c5_of S.code
  clear hbg
  go_wp2_with (first
    | ((refine load_blk rfl 23 (.tmp 3) rfl w.heap.size rfl S.regs hu HI.out ?_)))
  refine (getR_any (zf f) c _).mono ?_
  rintro e wg ⟨rfl, hbg⟩
  have S := S.below hbg
  have hc := c5_of S.code
  clear hbg
  go_wp2_with (first
    | ((refine load_blk rfl 23 (.tmp 9) rfl (w.heap.size + 1 + 1 + 1) rfl S.zero hu HI.out ?_))
    | ((with_reducible refine store_blk rfl 23 (.tmp 6) (.tmp 46) rfl (w.heap.size + 1 + 1) ?_ (fun _ => 0) ?_ S.out HI.out ?_); (· rfl); (· rfl)))
  exact bodyPost_ret (v := .tuple #[.agg (blk (fun _ => 0)).toArray, .int .i64 0, .int .i64 4]) (ret_blk3 (b := w.heap.size + 1 + 1) Tryd.results15 rfl (row_setCells S.out _) hu HI.out) rfl ⟨rfl, below_setCells _ _ _ S.bel (by omega)⟩
set_option maxHeartbeats 1000000 in
theorem do_19 (a b c n at_ : Int) (f : Nat → Int) (hm : mayB 19 a b c n = true) (h0 : 0 ≤ at_) (h1 : at_ ≤ 1024) (w : World) (hT : Tab w) :
    Calls Tryd.prog 15 #[.agg (blk f).toArray, .int .i64 at_, code5 19 a b c n] w fun e w' => e = .returned (.tuple #[.agg (blk (fun _ => 0)).toArray, .int .i64 (0), .int .i64 4]) ∧ Below w.heap.size w w' := by
  have hu := Tryd.underlying23
  have HI := hide (zero_of_info (P := Tryd.prog) infoR).2
  have HM := hide (fun w => CodeRefMay.may_any 19 a b c n (by omega) w)
  rw [hm] at HM
  have hn := n_bd hm
  obtain ⟨hn0, hn1⟩ := hn
  have S0 := DoSt.new w hT f #[.int .u8 19, .int .i64 a, .int .i64 b, .int .i64 c, .int .i64 n]
  clear hT hm
  unfold code5 at *
  go_enter Tryd.func15, Tryd.ntmps15
  go_wp2_with (first
    | ((with_reducible refine Arr.wpList_alloc_zero rfl 23 (by rfl) _ _ infoR (w.heap.size + 1 + 1) ?_ ?_); (· simp))
    | ((with_reducible refine Arr.wpList_alloc_zero rfl 23 (by rfl) _ _ infoR (w.heap.size + 1 + 1 + 1) ?_ ?_); (· simp))
    | ((with_reducible refine Great.wpList_readTo rfl (some 15) rfl (.agg (blk (fun _ => 0)).toArray) ?_ ?_); (· as_aux_lemma => kernel_rfl))
    | ((with_reducible refine Arr.wpList_store_last rfl 23 (.tmp 9) (.tmp 15) rfl _ _ (w.heap.size + 1 + 1 + 1) ?_ rfl rfl HI.out ?_ ?_ ?_ ?_); (· simp); (· simp [blk_len]); (· simp [blk_len]); (· simpa using blk_one (fun _ => 0))))
  refine (HM.out _).mono ?_
  rintro e w1 ⟨rfl, hb1⟩
  have S1 := S0.below hb1
  have c0 := S1.regs.cell (show 0 < 16 by omega)
  have f0 := S1.regs.frozen 0
  have S := S1.set0
  have hc := c5_of S.code
  clear hb1 S0
  go_wp2_with (first
    | ((refine load_blk rfl 23 (.tmp 3) rfl w.heap.size rfl S.regs hu HI.out ?_)))
  clear c0 f0 S1
  refine (getR_any (zf f) a _).mono ?_
  rintro e wg ⟨rfl, hbg⟩
  have S := S.below hbg
  have hc := c5_of S.code
  clear hbg
  go_wp2_with (first
    | ((refine load_blk rfl 23 (.tmp 3) rfl w.heap.size rfl S.regs hu HI.out ?_)))
  refine (getR_any (zf f) b _).mono ?_
  rintro e wg ⟨rfl, hbg⟩
  have S := S.below hbg
  have hc := c5_of S.code
  clear hbg
  go_wp2_with (first
    | ((refine load_blk rfl 23 (.tmp 3) rfl w.heap.size rfl S.regs hu HI.out ?_)))
  refine (getR_any (zf f) c _).mono ?_
  rintro e wg ⟨rfl, hbg⟩
  have S := S.below hbg
  have hc := c5_of S.code
  clear hbg
  go_wp2_with (first
    | ((refine load_blk rfl 23 (.tmp 9) rfl (w.heap.size + 1 + 1 + 1) rfl S.zero hu HI.out ?_))
    | ((with_reducible refine store_blk rfl 23 (.tmp 6) (.tmp 46) rfl (w.heap.size + 1 + 1) ?_ (fun _ => 0) ?_ S.out HI.out ?_); (· rfl); (· rfl)))
  exact bodyPost_ret (v := .tuple #[.agg (blk (fun _ => 0)).toArray, .int .i64 0, .int .i64 4]) (ret_blk3 (b := w.heap.size + 1 + 1) Tryd.results15 rfl (row_setCells S.out _) hu HI.out) rfl ⟨rfl, below_setCells _ _ _ S.bel (by omega)⟩
set_option maxHeartbeats 1000000 in
theorem do_20 (a b c n at_ : Int) (f : Nat → Int) (hm : mayB 20 a b c n = true) (h0 : 0 ≤ at_) (h1 : at_ ≤ 1024) (w : World) (hT : Tab w) :
    Calls Tryd.prog 15 #[.agg (blk f).toArray, .int .i64 at_, code5 20 a b c n] w fun e w' => e = .returned (.tuple #[.agg (blk (fun _ => 0)).toArray, .int .i64 (0), .int .i64 4]) ∧ Below w.heap.size w w' := by
  have hu := Tryd.underlying23
  have HI := hide (zero_of_info (P := Tryd.prog) infoR).2
  have HM := hide (fun w => CodeRefMay.may_any 20 a b c n (by omega) w)
  rw [hm] at HM
  have hn := n_bd hm
  obtain ⟨hn0, hn1⟩ := hn
  have S0 := DoSt.new w hT f #[.int .u8 20, .int .i64 a, .int .i64 b, .int .i64 c, .int .i64 n]
  clear hT hm
  unfold code5 at *
  go_enter Tryd.func15, Tryd.ntmps15
  go_wp2_with (first
    | ((with_reducible refine Arr.wpList_alloc_zero rfl 23 (by rfl) _ _ infoR (w.heap.size + 1 + 1) ?_ ?_); (· simp))
    | ((with_reducible refine Arr.wpList_alloc_zero rfl 23 (by rfl) _ _ infoR (w.heap.size + 1 + 1 + 1) ?_ ?_); (· simp))
    | ((with_reducible refine Great.wpList_readTo rfl (some 15) rfl (.agg (blk (fun _ => 0)).toArray) ?_ ?_); (· as_aux_lemma => kernel_rfl))
    | ((with_reducible refine Arr.wpList_store_last rfl 23 (.tmp 9) (.tmp 15) rfl _ _ (w.heap.size + 1 + 1 + 1) ?_ rfl rfl HI.out ?_ ?_ ?_ ?_); (· simp); (· simp [blk_len]); (· simp [blk_len]); (· simpa using blk_one (fun _ => 0))))
  refine (HM.out _).mono ?_
  rintro e w1 ⟨rfl, hb1⟩
  have S1 := S0.below hb1
  have c0 := S1.regs.cell (show 0 < 16 by omega)
  have f0 := S1.regs.frozen 0
  have S := S1.set0
  have hc := c5_of S.code
  clear hb1 S0
  go_wp2_with (first
    | ((refine load_blk rfl 23 (.tmp 3) rfl w.heap.size rfl S.regs hu HI.out ?_)))
  clear c0 f0 S1
  refine (getR_any (zf f) a _).mono ?_
  rintro e wg ⟨rfl, hbg⟩
  have S := S.below hbg
  have hc := c5_of S.code
  clear hbg
  go_wp2_with (first
    | ((refine load_blk rfl 23 (.tmp 3) rfl w.heap.size rfl S.regs hu HI.out ?_)))
  refine (getR_any (zf f) b _).mono ?_
  rintro e wg ⟨rfl, hbg⟩
  have S := S.below hbg
  have hc := c5_of S.code
  clear hbg
  go_wp2_with (first
    | ((refine load_blk rfl 23 (.tmp 3) rfl w.heap.size rfl S.regs hu HI.out ?_)))
  refine (getR_any (zf f) c _).mono ?_
  rintro e wg ⟨rfl, hbg⟩
  have S := S.below hbg
  have hc := c5_of S.code
  clear hbg
  go_wp2_with (first
    | ((refine load_blk rfl 23 (.tmp 9) rfl (w.heap.size + 1 + 1 + 1) rfl S.zero hu HI.out ?_))
    | ((with_reducible refine store_blk rfl 23 (.tmp 6) (.tmp 46) rfl (w.heap.size + 1 + 1) ?_ (fun _ => 0) ?_ S.out HI.out ?_); (· rfl); (· rfl)))
  exact bodyPost_ret (v := .tuple #[.agg (blk (fun _ => 0)).toArray, .int .i64 0, .int .i64 4]) (ret_blk3 (b := w.heap.size + 1 + 1) Tryd.results15 rfl (row_setCells S.out _) hu HI.out) rfl ⟨rfl, below_setCells _ _ _ S.bel (by omega)⟩
set_option maxHeartbeats 1000000 in
theorem do_no (k : Nat) (a b c n at_ : Int) (f : Nat → Int) (hk : k ≤ 255) (hm : mayB k a b c n = false) (w : World) (hT : Tab w) :
    Calls Tryd.prog 15 #[.agg (blk f).toArray, .int .i64 at_, code5 k a b c n] w fun e w' => e = .returned (.tuple #[.agg (blk (fun _ => 0)).toArray, .int .i64 0, .int .i64 2]) ∧ Below w.heap.size w w' := by
  have hu := Tryd.underlying23
  have HI := hide (zero_of_info (P := Tryd.prog) infoR).2
  have HM := hide (fun w => CodeRefMay.may_any k a b c n hk w)
  rw [hm] at HM
  have S0 := DoSt.new w hT f #[.int .u8 (k : Int), .int .i64 a, .int .i64 b, .int .i64 c, .int .i64 n]
  clear hT hm
  unfold code5 at *
  go_enter Tryd.func15, Tryd.ntmps15
  go_wp2_with (first
    | ((with_reducible refine Arr.wpList_alloc_zero rfl 23 (by rfl) _ _ infoR (w.heap.size + 1 + 1) ?_ ?_); (· simp))
    | ((with_reducible refine Arr.wpList_alloc_zero rfl 23 (by rfl) _ _ infoR (w.heap.size + 1 + 1 + 1) ?_ ?_); (· simp))
    | ((with_reducible refine Great.wpList_readTo rfl (some 15) rfl (.agg (blk (fun _ => 0)).toArray) ?_ ?_); (· as_aux_lemma => kernel_rfl))
    | ((with_reducible refine Arr.wpList_store_last rfl 23 (.tmp 9) (.tmp 15) rfl _ _ (w.heap.size + 1 + 1 + 1) ?_ rfl rfl HI.out ?_ ?_ ?_ ?_); (· simp); (· simp [blk_len]); (· simp [blk_len]); (· simpa using blk_one (fun _ => 0))))
  refine (HM.out _).mono ?_
  rintro e w1 ⟨rfl, hb1⟩
  have S1 := S0.below hb1
  clear hb1 S0
  go_wp2_with (first
    | ((refine load_blk rfl 23 (.tmp 9) rfl (w.heap.size + 1 + 1 + 1) rfl S1.zero hu HI.out ?_))
    | ((with_reducible refine store_blk rfl 23 (.tmp 6) (.tmp 27) rfl (w.heap.size + 1 + 1) ?_ (fun _ => 0) ?_ S1.out HI.out ?_); (· rfl); (· rfl)))
  exact bodyPost_ret (v := .tuple #[.agg (blk (fun _ => 0)).toArray, .int .i64 0, .int .i64 2]) (ret_blk3 (b := w.heap.size + 1 + 1) Tryd.results15 rfl (row_setCells S1.out _) hu HI.out) rfl ⟨rfl, below_setCells _ _ _ S1.bel (by omega)⟩
set_option maxHeartbeats 1000000 in
theorem do_lo (k : Nat) (a b c n at_ : Int) (f : Nat → Int) (hk : k ≤ 255) (hm : mayB k a b c n = true) (h0 : at_ < 0) (w : World) (hT : Tab w) :
    Calls Tryd.prog 15 #[.agg (blk f).toArray, .int .i64 at_, code5 k a b c n] w fun e w' => e = .returned (.tuple #[.agg (blk (fun _ => 0)).toArray, .int .i64 0, .int .i64 2]) ∧ Below w.heap.size w w' := by
  have hu := Tryd.underlying23
  have HI := hide (zero_of_info (P := Tryd.prog) infoR).2
  have HM := hide (fun w => CodeRefMay.may_any k a b c n hk w)
  rw [hm] at HM
  have S0 := DoSt.new w hT f #[.int .u8 (k : Int), .int .i64 a, .int .i64 b, .int .i64 c, .int .i64 n]
  clear hT hm
  unfold code5 at *
  go_enter Tryd.func15, Tryd.ntmps15
  go_wp2_with (first
    | ((with_reducible refine Arr.wpList_alloc_zero rfl 23 (by rfl) _ _ infoR (w.heap.size + 1 + 1) ?_ ?_); (· simp))
    | ((with_reducible refine Arr.wpList_alloc_zero rfl 23 (by rfl) _ _ infoR (w.heap.size + 1 + 1 + 1) ?_ ?_); (· simp))
    | ((with_reducible refine Great.wpList_readTo rfl (some 15) rfl (.agg (blk (fun _ => 0)).toArray) ?_ ?_); (· as_aux_lemma => kernel_rfl))
    | ((with_reducible refine Arr.wpList_store_last rfl 23 (.tmp 9) (.tmp 15) rfl _ _ (w.heap.size + 1 + 1 + 1) ?_ rfl rfl HI.out ?_ ?_ ?_ ?_); (· simp); (· simp [blk_len]); (· simp [blk_len]); (· simpa using blk_one (fun _ => 0))))
  refine (HM.out _).mono ?_
  rintro e w1 ⟨rfl, hb1⟩
  have S1 := S0.below hb1
  clear hb1 S0
  go_wp2_with (first
    | ((refine load_blk rfl 23 (.tmp 9) rfl (w.heap.size + 1 + 1 + 1) rfl S1.zero hu HI.out ?_))
    | ((with_reducible refine store_blk rfl 23 (.tmp 6) (.tmp 27) rfl (w.heap.size + 1 + 1) ?_ (fun _ => 0) ?_ S1.out HI.out ?_); (· rfl); (· rfl)))
  exact bodyPost_ret (v := .tuple #[.agg (blk (fun _ => 0)).toArray, .int .i64 0, .int .i64 2]) (ret_blk3 (b := w.heap.size + 1 + 1) Tryd.results15 rfl (row_setCells S1.out _) hu HI.out) rfl ⟨rfl, below_setCells _ _ _ S1.bel (by omega)⟩
set_option maxHeartbeats 1000000 in
theorem do_hi (k : Nat) (a b c n at_ : Int) (f : Nat → Int) (hk : k ≤ 255) (hm : mayB k a b c n = true) (h0 : ¬ at_ < 0) (h1 : 1024 < at_) (w : World) (hT : Tab w) :
    Calls Tryd.prog 15 #[.agg (blk f).toArray, .int .i64 at_, code5 k a b c n] w fun e w' => e = .returned (.tuple #[.agg (blk (fun _ => 0)).toArray, .int .i64 0, .int .i64 2]) ∧ Below w.heap.size w w' := by
  have hu := Tryd.underlying23
  have HI := hide (zero_of_info (P := Tryd.prog) infoR).2
  have HM := hide (fun w => CodeRefMay.may_any k a b c n hk w)
  rw [hm] at HM
  have S0 := DoSt.new w hT f #[.int .u8 (k : Int), .int .i64 a, .int .i64 b, .int .i64 c, .int .i64 n]
  clear hT hm
  unfold code5 at *
  go_enter Tryd.func15, Tryd.ntmps15
  go_wp2_with (first
    | ((with_reducible refine Arr.wpList_alloc_zero rfl 23 (by rfl) _ _ infoR (w.heap.size + 1 + 1) ?_ ?_); (· simp))
    | ((with_reducible refine Arr.wpList_alloc_zero rfl 23 (by rfl) _ _ infoR (w.heap.size + 1 + 1 + 1) ?_ ?_); (· simp))
    | ((with_reducible refine Great.wpList_readTo rfl (some 15) rfl (.agg (blk (fun _ => 0)).toArray) ?_ ?_); (· as_aux_lemma => kernel_rfl))
    | ((with_reducible refine Arr.wpList_store_last rfl 23 (.tmp 9) (.tmp 15) rfl _ _ (w.heap.size + 1 + 1 + 1) ?_ rfl rfl HI.out ?_ ?_ ?_ ?_); (· simp); (· simp [blk_len]); (· simp [blk_len]); (· simpa using blk_one (fun _ => 0))))
  refine (HM.out _).mono ?_
  rintro e w1 ⟨rfl, hb1⟩
  have S1 := S0.below hb1
  clear hb1 S0
  go_wp2_with (first
    | ((refine load_blk rfl 23 (.tmp 9) rfl (w.heap.size + 1 + 1 + 1) rfl S1.zero hu HI.out ?_))
    | ((with_reducible refine store_blk rfl 23 (.tmp 6) (.tmp 27) rfl (w.heap.size + 1 + 1) ?_ (fun _ => 0) ?_ S1.out HI.out ?_); (· rfl); (· rfl)))
  exact bodyPost_ret (v := .tuple #[.agg (blk (fun _ => 0)).toArray, .int .i64 0, .int .i64 2]) (ret_blk3 (b := w.heap.size + 1 + 1) Tryd.results15 rfl (row_setCells S1.out _) hu HI.out) rfl ⟨rfl, below_setCells _ _ _ S1.bel (by omega)⟩
end Go.Proofs.YticlojpdcdkdgaaDoor.RefDo
