/-
  MemKnown walked: the document's examples; no memory. It returns true.
-/
import Derived.Test.YtmdacnegiilgfaaRefBlk
namespace Go.Proofs.Ytmdacnegiilgfaa.Known
open Go.RowKit Base Mem Blks Merge Merges Block RefBlk
set_option linter.unusedVariables false

theorem at_nil (b k : Int) (w : World) : Calls Try.prog 26 #[.pointer none, .int .i64 b, .int .i64 k] w fun e w' => e = .returned (.tuple #[.pointer none, .int .i64 1]) ∧ w = w' := by
  go_enter Try.func26, Try.ntmps26
  go_wp2
  go_ret2
  exact ⟨rfl, rfl⟩
theorem word_nil (b k : Int) (w : World) : Calls Try.prog 13 #[.pointer none, .int .i64 b, .int .i64 k] w fun e w' => e = .returned (.tuple #[.int .u32 0, .int .i64 1]) ∧ w = w' := by
  go_enter Try.func13, Try.ntmps13
  go_wp2_with fail
  refine (at_nil b k _).mono ?_
  rintro e w' ⟨rfl, rfl⟩
  go_wp2
  go_ret2
  exact ⟨rfl, rfl⟩
theorem setword_nil (b k x : Int) (w : World) : Calls Try.prog 12 #[.pointer none, .int .i64 b, .int .i64 k, .int .u32 x] w fun e w' => e = .returned (.int .i64 1) ∧ w = w' := by
  go_enter Try.func12, Try.ntmps12
  go_wp2_with fail
  refine (at_nil b k _).mono ?_
  rintro e w' ⟨rfl, rfl⟩
  go_wp2
  go_ret
  exact ⟨rfl, rfl⟩
theorem block_nil (b : Int) (w : World) : Calls Try.prog 17 #[.pointer none, .int .i64 b] w fun e w' => e = .returned (.tuple #[.agg (blk (fun _ => 0)).toArray, .int .i64 1]) ∧ Below w.heap.size w w' := by
  have hu := Try.underlying36
  have HI := hide (zero_of_info (P := Try.prog) info36').2
  have Z := hide (blk_new w 36 (fun _ => 0))
  go_enter Try.func17, Try.ntmps17
  go_wp2_with (first
    | ((with_reducible refine Arr.wpList_alloc_zero rfl 36 rfl _ _ info36' w.heap.size rfl ?_))
    | (go_at_call 26; refine (at_nil b 0 _).mono ?_; rintro e wx ⟨rfl, rfl⟩)
    | ((with_reducible refine Great.wpList_readTo rfl (some 16) rfl (.agg (blk (fun _ => 0)).toArray) ?_ ?_); (· as_aux_lemma => kernel_rfl))
    | ((with_reducible refine store_blk rfl 36 _ _ rfl w.heap.size rfl (fun _ => 0) rfl Z.out HI.out ?_)))
  exact bodyPost_ret (v := .tuple #[.agg (blk (fun _ => 0)).toArray, .int .i64 1]) (ret_blk2 (b := w.heap.size) Try.results17 rfl (row_setCells Z.out _) hu HI.out) rfl
    ⟨rfl, below_setCells _ _ _ ((Below.refl _ _).alloc (Nat.le_refl _) _) (Nat.le_refl _)⟩
theorem setblock_nil (b : Int) (g : Nat → Int) (w : World) : Calls Try.prog 16 #[.pointer none, .int .i64 b, .agg (blk g).toArray] w fun e w' => e = .returned (.int .i64 1) ∧ Below w.heap.size w w' := by
  have hgd := guard36
  have hu := Try.underlying36
  have HI := hide (zero_of_info (P := Try.prog) info36').2
  go_enter Try.func16, Try.ntmps16
  go_wp2_with (first
    | (go_at_call 17; refine (block_nil b _).mono ?_; rintro e w1 ⟨rfl, hb1⟩)
    | ((with_reducible refine Arr.wpList_alloc_zero rfl 36 rfl _ _ info36' w1.heap.size rfl ?_))
    | ((with_reducible refine Arr.wpList_store_last rfl 36 _ _ rfl _ _ w1.heap.size rfl rfl rfl HI.out ?_ ?_ ?_ ?_); (· simp [blk_len]); (· simp [blk_len]); (· simpa using blk_one (fun _ => 0))))
  go_ret
  have hs1 := hb1.size
  simp at hs1
  exact ⟨rfl, (((Below.refl _ _).alloc (Nat.le_refl _) _).trans (hb1.mono (by simp))).alloc (by omega) _⟩
theorem blocks_nil (w : World) : Calls Try.prog 25 #[.pointer none] w fun e w' => e = .returned (.int .i64 0) ∧ w = w' := by
  go_enter Try.func25, Try.ntmps25
  go_wp2
  go_ret
  exact ⟨rfl, rfl⟩
theorem copy_nil (w : World) : Calls Try.prog 24 #[.pointer none] w fun e w' => e = .returned (.pointer none) ∧ w = w' := by
  go_enter Try.func24, Try.ntmps24
  go_wp2
  go_ret
  exact ⟨rfl, rfl⟩

theorem known (w : World) : Calls Try.prog 9 #[] w fun e w' => e = .returned (.bool true) ∧ Below w.heap.size w w' := by
  have hgd := guard36
  have hu := Try.underlying36
  have HI := hide (zero_of_info (P := Try.prog) info36').2
  go_enter Try.func9, Try.ntmps9
  go_wp2_with fail
  refine (New_ok 3 (by omega) (by omega) w).mono ?_
  rintro e w1 ⟨rfl, hM1, hb1⟩
  have W1 := Word_any _ _ _ _ 2 14 w1 hM1
  have W2 := Word_any _ _ _ _ 0 16 w1 hM1
  rw [show getOf (fun _ => 0) 3 2 14 = 0 by decide, show errOf 3 2 14 = 0 by decide] at W1
  rw [show getOf (fun _ => 0) 3 0 16 = 0 by decide, show errOf 3 0 16 = 5 by decide] at W2
  have HW1 := hide W1
  have HW2 := hide W2
  clear W1 W2 hM1
  go_wp2_with fail
  refine HW1.out.mono ?_
  rintro e wx ⟨rfl, rfl⟩
  go_wp2_with fail
  refine HW2.out.mono ?_
  rintro e wx ⟨rfl, rfl⟩
  go_wp2_with fail
  refine (all_any 1 _).mono ?_
  rintro e w2 ⟨rfl, hb2⟩
  go_wp2_with fail
  refine (all_any 2 _).mono ?_
  rintro e w3 ⟨rfl, hb3⟩
  go_wp2_with fail
  refine (merge_any (fun _ => 1) (fun _ => 2) 5 (by omega) (by omega) _).mono ?_
  rintro e w4 ⟨rfl, hb4⟩
  have R0 := hide (blk_new w4 36 (mergeF (fun _ => 1) (fun _ => 2) 5))
  have hb := below_then (below_then (below_then hb1 hb2) hb3) hb4
  have B4 := hide (hb.alloc hb.size (.cells (blk (mergeF (fun _ => 1) (fun _ => 2) 5)).toArray 36))
  clear hb1 hb2 hb3 hb4 hb
  go_wp2_with (first
    | ((with_reducible refine Arr.wpList_alloc_zero rfl 36 (by rfl) _ _ info36' w4.heap.size rfl ?_))
    | ((with_reducible refine Arr.wpList_store_last rfl 36 _ _ rfl _ _ w4.heap.size rfl rfl rfl HI.out ?_ ?_ ?_ ?_); (· simp [blk_len]); (· simp [blk_len]); (· simpa using blk_one (mergeF (fun _ => 1) (fun _ => 2) 5))))
  refine (word_nil 0 0 _).mono ?_
  rintro e wx ⟨rfl, rfl⟩
  go_wp2_with fail
  refine (block_nil 0 _).mono ?_
  rintro e w5 ⟨rfl, hb5⟩
  have B5 := hide ((below_then B4.out hb5).alloc (Nat.le_trans B4.out.size hb5.size) (.cells (blk (fun _ => 0)).toArray 36))
  have R5 := hide ((R0.out.of_block (hb5.block _ R0.out.lt)).alloc (.cells (blk (fun _ => 0)).toArray 36))
  clear hb5 B4 R0
  go_wp2_with (first
    | ((with_reducible refine Arr.wpList_alloc_zero rfl 36 (by rfl) _ _ info36' w5.heap.size rfl ?_))
    | ((with_reducible refine Arr.wpList_store_last rfl 36 _ _ rfl _ _ w5.heap.size rfl rfl rfl HI.out ?_ ?_ ?_ ?_); (· simp [blk_len]); (· simp [blk_len]); (· simpa using blk_one (fun _ => 0))))
  refine (works_any _).mono ?_
  rintro e w6 ⟨rfl, hb6⟩
  have B6 := hide (below_then B5.out hb6)
  have R6 := hide (R5.out.of_block (hb6.block _ R5.out.lt))
  clear hb6 B5 R5
  have c0 := R6.out.cell (show 0 < 16 by omega)
  have c1 := R6.out.cell (show 1 < 16 by omega)
  have c2 := R6.out.cell (show 2 < 16 by omega)
  rw [show mergeF (fun _ => 1) (fun _ => 2) 5 0 = 2 by decide] at c0
  rw [show mergeF (fun _ => 1) (fun _ => 2) 5 1 = 1 by decide] at c1
  rw [show mergeF (fun _ => 1) (fun _ => 2) 5 2 = 2 by decide] at c2
  go_wp2_with fail
  refine (setword_nil 0 0 0 _).mono ?_
  rintro e wx ⟨rfl, rfl⟩
  clear c0 c1 c2
  go_wp2_with (first
    | ((refine load_blk_g (by rfl) 36 (.tmp 7) rfl w4.heap.size rfl R6.out hu HI.out ?_)))
  refine (setblock_nil 0 _ _).mono ?_
  rintro e w7 ⟨rfl, hb7⟩
  go_wp2_with fail
  refine (blocks_nil _).mono ?_
  rintro e wx ⟨rfl, rfl⟩
  go_wp2_with fail
  refine (copy_nil _).mono ?_
  rintro e wx ⟨rfl, rfl⟩
  go_wp2
  go_ret
  exact ⟨rfl, below_then B6.out hb7⟩
end Go.Proofs.Ytmdacnegiilgfaa.Known
