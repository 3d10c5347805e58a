/-
  'works' of the laws of the layer 'step' walked; StepDoes.
-/
import Derived.Test.YticlojpdcdkdgaaDoorDoAll
import Derived.Test.YticlojpdcdkdgaaDoorAddr
namespace Go.Proofs.YticlojpdcdkdgaaDoor.Works
open Go.RowKit Base Blks CodePlain CodeBits CodeTab Regs DoSt DoAll AddrOf
set_option linter.unusedVariables false
set_option linter.unusedSimpArgs false
set_option maxRecDepth 100000

def g0 : Nat → Int := fun j => if j = 1 then 5 else if j = 2 then 7 else 0
def g1 : Nat → Int := fun j => if j = 1 then 5 else if j = 2 then 7 else if j = 3 then 4294967294 else 0
theorem do_g0 : blk (doF 2 3 1 2 0 10 g0) = blk g1 := blk_congr fun j hj => by
  have : j = 0 ∨ j = 1 ∨ j = 2 ∨ j = 3 ∨ j = 4 ∨ j = 5 ∨ j = 6 ∨ j = 7 ∨ j = 8 ∨ j = 9 ∨ j = 10 ∨ j = 11 ∨ j = 12 ∨ j = 13 ∨ j = 14 ∨ j = 15 := by omega
  rcases this with h | h | h | h | h | h | h | h | h | h | h | h | h | h | h | h <;> subst h <;> decide
theorem infoE : (Tryd.prog.info? 22).isSome = true := by kernel_rfl
theorem eqR (f g : Nat → Int) (w : World) : (Op.equalIn 10000 23 (.agg (blk f).toArray) (.agg (blk g).toArray)).run Tryd.prog w = .ok (eqB f g) w := by
  cases hi : Tryd.prog.info? 22 with
  | none => have := infoE; rw [hi] at this; cases this
  | some i => exact run_eql_blk Tryd.underlying23 hi (by kernel_rfl) Tryd.underlying22 f g w
theorem eqR_same (f : Nat → Int) (w : World) : (Op.equalIn 10000 23 (.agg (blk f).toArray) (.agg (blk f).toArray)).run Tryd.prog w = .ok true w := by
  rw [eqR, eqB_true (fun _ _ => rfl)]

theorem works_any (w : World) (hT : Tab w) : Calls Tryd.prog 12 #[] w fun e w' => e = .returned (.bool true) ∧ Below w.heap.size w w' := by
  have hu := Tryd.underlying23
  have HI := hide (zero_of_info (P := Tryd.prog) infoR).2
  have HD := hide (fun w hT => do_any 2 3 1 2 0 10 g0 (by omega) w hT)
  rw [do_g0, show doT 2 3 1 2 0 10 g0 = 11 by decide, show doE 2 3 1 2 0 10 = 0 by decide] at HD
  have hq := eqR_same g1
  have HT := hide hT
  clear hT
  unfold code5 at HD
  go_enter Tryd.func12, Tryd.ntmps12
  go_wp2_with (first
    | ((with_reducible refine Great.wpList_readTo rfl (some 5) rfl (.agg (blk g0).toArray) ?_ ?_); (· as_aux_lemma => kernel_rfl)))
  refine (HD.out _ HT.out).mono ?_
  rintro e w1 ⟨rfl, hb1⟩
  have R1 := hide (blk_new w1 23 g1)
  have B1 := hide (hb1.alloc hb1.size (.cells (blk g1).toArray 23))
  clear hb1
  go_wp2_with (first
    | ((with_reducible refine Arr.wpList_alloc_zero rfl 23 (by rfl) _ _ infoR w1.heap.size rfl ?_))
    | ((with_reducible refine Arr.wpList_store_last rfl 23 _ _ rfl _ _ w1.heap.size rfl rfl rfl HI.out ?_ ?_ ?_ ?_); (· simp [blk_len]); (· simp [blk_len]); (· simpa using blk_one g1))
    | ((with_reducible refine Great.wpList_readTo rfl (some 12) rfl (.agg (blk g1).toArray) ?_ ?_); (· as_aux_lemma => kernel_rfl))
    | ((refine load_blk rfl 23 (.tmp 1) rfl w1.heap.size rfl R1.out hu HI.out ?_)))
  go_ret
  exact ⟨rfl, B1.out⟩

/-- What a law carries beside the two blocks: a result in a block of its own. -/
theorem does (k : Nat) (a b c n at_ : Int) (f : Nat → Int) (hk : k ≤ 255) (w : World) (hT : Tab w) :
    Calls Tryd.prog 7 #[.agg (blk f).toArray, .int .i64 at_, code5 k a b c n] w fun e w' => e = .returned (.bool true) ∧ Below w.heap.size w w' := by
  have hu := Tryd.underlying23
  have HI := hide (zero_of_info (P := Tryd.prog) infoR).2
  have HD := hide (fun w hT => do_any k a b c n at_ f hk w hT)
  have HR := hide (fun w hT => doR_any k a b c n at_ f hk w hT)
  have HA := hide (fun w hT => addr_any k a b c n f hk w hT)
  have HB := hide (fun w hT => addrR_any k a b c n f hk w hT)
  have S0 := ASt.new w hT f #[.int .u8 (k : Int), .int .i64 a, .int .i64 b, .int .i64 c, .int .i64 n]
  clear hT
  unfold code5 at *
  generalize doF k a b c n at_ f = G at *
  generalize doT k a b c n at_ f = t at *
  generalize doE k a b c n at_ = er at *
  generalize addrX k a b c n f = x at *
  generalize addrE k a b c n = ea at *
  have hq := eqR_same G
  have R0 := hide (row_range S0.regs)
  go_enter Tryd.func7, Tryd.ntmps7
  go_wp2_with (first
    | ((refine load_blk rfl 23 (.tmp 3) rfl w.heap.size rfl S0.regs hu HI.out ?_)))
  refine (HD.out _ S0.tab).mono ?_
  rintro e w1 ⟨rfl, hb1⟩
  have S1 := (S0.below hb1).below ((Below.refl w1.heap.size w1).alloc (Nat.le_refl _) (.cells (blk G).toArray 23))
  have G1 := hide (blk_new w1 23 G)
  have hc := c5_of S1.code
  clear hb1 S0 R0
  go_wp2_with (first
    | ((with_reducible refine Arr.wpList_alloc_zero rfl 23 (by rfl) _ _ infoR w1.heap.size rfl ?_))
    | ((with_reducible refine Arr.wpList_store_last rfl 23 (.tmp 7) _ rfl _ _ w1.heap.size rfl rfl rfl HI.out ?_ ?_ ?_ ?_); (· simp [blk_len]); (· simp [blk_len]); (· simpa using blk_one G))
    | ((refine load_blk rfl 23 (.tmp 3) rfl w.heap.size rfl S1.regs hu HI.out ?_)))
  clear hc
  refine (HR.out _ S1.tab).mono ?_
  rintro e w2 ⟨rfl, hb2⟩
  have S2 := (S1.below hb2).below ((Below.refl w2.heap.size w2).alloc (Nat.le_refl _) (.cells (blk G).toArray 23))
  have G2 := hide (blk_new w2 23 G)
  have G1b := hide ((G1.out.of_block (hb2.block _ G1.out.lt)).alloc (.cells (blk G).toArray 23))
  have hc := c5_of S2.code
  clear hb2 S1 G1
  go_wp2_with (first
    | ((with_reducible refine Arr.wpList_alloc_zero rfl 23 (by rfl) _ _ infoR w2.heap.size rfl ?_))
    | ((with_reducible refine Arr.wpList_store_last rfl 23 (.tmp 10) _ rfl _ _ w2.heap.size rfl rfl rfl HI.out ?_ ?_ ?_ ?_); (· simp [blk_len]); (· simp [blk_len]); (· simpa using blk_one G))
    | ((refine load_blk rfl 23 (.tmp 7) rfl w1.heap.size rfl G1b.out hu HI.out ?_))
    | ((refine load_blk rfl 23 (.tmp 10) rfl w2.heap.size rfl G2.out hu HI.out ?_))
    | ((refine load_blk rfl 23 (.tmp 3) rfl w.heap.size rfl S2.regs hu HI.out ?_)))
  clear hc
  refine (HA.out _ S2.tab).mono ?_
  rintro e w3 ⟨rfl, hb3⟩
  have S3 := S2.below hb3
  have hc := c5_of S3.code
  clear hb3 S2 G1b G2
  go_wp2_with (first
    | ((refine load_blk rfl 23 (.tmp 3) rfl w.heap.size rfl S3.regs hu HI.out ?_)))
  clear hc
  refine (HB.out _ S3.tab).mono ?_
  rintro e w4 ⟨rfl, hb4⟩
  have S4 := S3.below hb4
  clear hb4 S3
  go_wp2_with fail
  refine (works_any _ S4.tab).mono ?_
  rintro e w5 ⟨rfl, hb5⟩
  go_wp2
  go_ret
  exact ⟨rfl, below_then S4.bel hb5⟩
end Go.Proofs.YticlojpdcdkdgaaDoor.Works
