/-
  StepKnown walked: the document's examples. It returns true.
-/
import Derived.Test.YticlojpdcdkdgaaDoorWorks
namespace Go.Proofs.YticlojpdcdkdgaaDoor.Laws
open Go.RowKit Base Blks CodePlain CodeBits CodeTab Regs DoSt DoAll AddrOf Works
set_option linter.unusedVariables false
set_option linter.unusedSimpArgs false
set_option maxRecDepth 100000

def g2 : Nat → Int := fun j => if j = 1 then 5 else if j = 2 then 100 else 0
/-- The registers in a block of the law's own. -/
structure KSt (w0 w : World) (N : Nat) : Prop where
  regs : BlkAt w N 23 g2
  tab : Tab w
  bel : Below w0.heap.size w0 w
theorem KSt.below {w0 w w' : World} {N : Nat} (h : KSt w0 w N) (hb : Below w.heap.size w w') : KSt w0 w' N :=
  ⟨h.regs.of_block (hb.block _ h.regs.lt), h.tab.below hb, below_then h.bel hb⟩
set_option maxHeartbeats 1000000 in
theorem known (w : World) (hT : Tab w) : Calls Tryd.prog 6 #[] w fun e w' => e = .returned (.bool true) ∧ Below w.heap.size w w' := by
  have hu := Tryd.underlying23
  have HI := hide (zero_of_info (P := Tryd.prog) infoR).2
  have H1 := hide (fun w hT => do_any 13 1 1 0 (-3) 10 g2 (by omega) w hT)
  have H2 := hide (fun w hT => do_any 14 1 1 0 (-3) 10 g2 (by omega) w hT)
  have H3 := hide (fun w hT => addr_any 9 1 2 0 (-4) g2 (by omega) w hT)
  have H4 := hide (fun w hT => do_any 0 0 0 0 0 10 g2 (by omega) w hT)
  rw [show doT 13 1 1 0 (-3) 10 g2 = 8 by decide, show doE 13 1 1 0 (-3) 10 = 0 by decide] at H1
  rw [show doT 14 1 1 0 (-3) 10 g2 = 11 by decide, show doE 14 1 1 0 (-3) 10 = 0 by decide] at H2
  rw [show addrX 9 1 2 0 (-4) g2 = 96 by decide, show addrE 9 1 2 0 (-4) = 0 by decide] at H3
  rw [show doT 0 0 0 0 0 10 g2 = 0 by decide, show doE 0 0 0 0 0 10 = 4 by decide] at H4
  generalize doF 13 1 1 0 (-3) 10 g2 = F1 at *
  generalize doF 14 1 1 0 (-3) 10 g2 = F2 at *
  generalize doF 0 0 0 0 0 10 g2 = F4 at *
  have S0 : KSt w (w.alloc (.cells (blk g2).toArray 23)) w.heap.size := ⟨blk_new w 23 g2, hT.below ((Below.refl _ _).alloc (Nat.le_refl _) _), (Below.refl _ _).alloc (Nat.le_refl _) _⟩
  clear hT
  unfold code5 at *
  go_enter Tryd.func6, Tryd.ntmps6
  go_wp2_with (first
    | ((with_reducible refine Great.wpList_readTo rfl (some 13) rfl (.agg (blk g2).toArray) ?_ ?_); (· as_aux_lemma => kernel_rfl))
    | ((with_reducible refine Arr.wpList_alloc_zero rfl 23 (by rfl) _ _ infoR w.heap.size rfl ?_))
    | ((with_reducible refine Arr.wpList_store_last rfl 23 (.tmp 1) _ rfl _ _ w.heap.size rfl rfl rfl HI.out ?_ ?_ ?_ ?_); (· simp [blk_len]); (· simp [blk_len]); (· simpa using blk_one g2))
    | ((refine load_blk rfl 23 (.tmp 1) rfl w.heap.size rfl S0.regs hu HI.out ?_)))
  refine (H1.out _ S0.tab).mono ?_
  rintro e w1 ⟨rfl, hb1⟩
  have S1 := (S0.below hb1).below ((Below.refl w1.heap.size w1).alloc (Nat.le_refl _) (.cells (blk F1).toArray 23))
  clear hb1 S0
  go_wp2_with (first
    | ((with_reducible refine Arr.wpList_alloc_zero rfl 23 (by rfl) _ _ infoR w1.heap.size rfl ?_))
    | ((with_reducible refine Arr.wpList_store_last rfl 23 (.tmp 2) _ rfl _ _ w1.heap.size rfl rfl rfl HI.out ?_ ?_ ?_ ?_); (· simp [blk_len]); (· simp [blk_len]); (· simpa using blk_one F1))
    | ((refine load_blk rfl 23 (.tmp 1) rfl w.heap.size rfl S1.regs hu HI.out ?_)))
  refine (H2.out _ S1.tab).mono ?_
  rintro e w2 ⟨rfl, hb2⟩
  have S2 := (S1.below hb2).below ((Below.refl w2.heap.size w2).alloc (Nat.le_refl _) (.cells (blk F2).toArray 23))
  clear hb2 S1
  go_wp2_with (first
    | ((with_reducible refine Arr.wpList_alloc_zero rfl 23 (by rfl) _ _ infoR w2.heap.size rfl ?_))
    | ((with_reducible refine Arr.wpList_store_last rfl 23 (.tmp 5) _ rfl _ _ w2.heap.size rfl rfl rfl HI.out ?_ ?_ ?_ ?_); (· simp [blk_len]); (· simp [blk_len]); (· simpa using blk_one F2))
    | ((refine load_blk rfl 23 (.tmp 1) rfl w.heap.size rfl S2.regs hu HI.out ?_)))
  refine (H3.out _ S2.tab).mono ?_
  rintro e w3 ⟨rfl, hb3⟩
  have S3 := S2.below hb3
  clear hb3 S2
  go_wp2_with (first
    | ((refine load_blk rfl 23 (.tmp 1) rfl w.heap.size rfl S3.regs hu HI.out ?_)))
  refine (H4.out _ S3.tab).mono ?_
  rintro e w4 ⟨rfl, hb4⟩
  have S4 := (S3.below hb4).below ((Below.refl w4.heap.size w4).alloc (Nat.le_refl _) (.cells (blk F4).toArray 23))
  clear hb4 S3
  go_wp2_with (first
    | ((with_reducible refine Arr.wpList_alloc_zero rfl 23 (by rfl) _ _ infoR w4.heap.size rfl ?_))
    | ((with_reducible refine Arr.wpList_store_last rfl 23 (.tmp 10) _ rfl _ _ w4.heap.size rfl rfl rfl HI.out ?_ ?_ ?_ ?_); (· simp [blk_len]); (· simp [blk_len]); (· simpa using blk_one F4)))
  refine (works_any _ S4.tab).mono ?_
  rintro e w5 ⟨rfl, hb5⟩
  go_wp2
  go_ret
  exact ⟨rfl, below_then S4.bel hb5⟩
end Go.Proofs.YticlojpdcdkdgaaDoor.Laws
