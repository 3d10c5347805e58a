/-
  StepGoes walked: an instruction that is no branch goes on at the next place; a branch goes there, or N beyond. It returns true.
-/
import Derived.Test.YticlojpdcdkdgaaDoorWorks
namespace Go.Proofs.YticlojpdcdkdgaaDoor.Goes
open Go.RowKit Base Blks CodePlain CodeBits CodeTab Regs DoSt DoAll AddrOf Works
set_option linter.unusedVariables false
set_option linter.unusedSimpArgs false
set_option maxRecDepth 100000
set_option maxHeartbeats 1000000

theorem set0 {w0 w : World} {F : Nat → Int} {cs : Array Value} (h : ASt w0 w F cs) (hg : 0 < w0.heap.size) : ASt w0 (w.setCell ⟨w0.heap.size, 0, none⟩ (.int .u32 0)) (zf F) cs :=
  ⟨row_set h.regs 0 0, h.code.far (p := ⟨w0.heap.size, 0, none⟩) (by simp) _, fun k hk => (World.cell?_setCell_other _ _ _ _ (fun e => by injection e with e1; omega)).trans (h.tab k hk), h.bel.setCell (p := ⟨w0.heap.size, 0, none⟩) (Nat.le_refl _) _⟩

theorem err (k : Nat) (a b c n at_ : Int) (f G : Nat → Int) (t er : Int) (he : (er != 0) = true) (w : World) (hT : Tab w)
    (HD : Hid (∀ w, Tab w → Calls Tryd.prog 13 #[.agg (blk f).toArray, .int .i64 at_, code5 k a b c n] w fun e w' => e = .returned (.tuple #[.agg (blk G).toArray, .int .i64 t, .int .i64 er]) ∧ Below w.heap.size w w')) :
    Calls Tryd.prog 5 #[.agg (blk f).toArray, .int .i64 at_, code5 k a b c n] w fun e w' => e = .returned (.bool true) ∧ Below w.heap.size w w' := by
  have hu := Tryd.underlying23
  have HI := hide (zero_of_info (P := Tryd.prog) infoR).2
  have S0 := ASt.new w hT f #[.int .u8 (k : Int), .int .i64 a, .int .i64 b, .int .i64 c, .int .i64 n]
  clear hT
  unfold code5 at *
  go_enter Tryd.func5, Tryd.ntmps5
  go_wp2_with (first
    | ((refine load_blk rfl 23 (.tmp 3) rfl w.heap.size rfl S0.regs hu HI.out ?_)))
  refine (HD.out _ S0.tab).mono ?_
  rintro e w1 ⟨rfl, hb1⟩
  have S1 := (S0.below hb1).below ((Below.refl w1.heap.size w1).alloc (Nat.le_refl _) (.cells (blk G).toArray 23))
  clear hb1 S0
  go_wp2_with (first
    | ((with_reducible refine Arr.wpList_alloc_zero rfl 23 (by rfl) _ _ infoR w1.heap.size rfl ?_))
    | ((with_reducible refine Arr.wpList_store_last rfl 23 (.tmp 7) _ rfl _ _ w1.heap.size rfl rfl rfl HI.out ?_ ?_ ?_ ?_); (· simp [blk_len]); (· simp [blk_len]); (· simpa using blk_one G)))
  refine (works_any _ S1.tab).mono ?_
  rintro e w5 ⟨rfl, hb5⟩
  go_wp2
  go_ret
  exact ⟨rfl, below_then S1.bel hb5⟩
theorem jump (a b c n at_ : Int) (f G : Nat → Int) (h0 : 0 ≤ at_) (h1 : at_ ≤ 1024) (hn0 : -2097152 ≤ n) (hn1 : n < 2097152) (w : World) (hT : Tab w)
    (HD : Hid (∀ w, Tab w → Calls Tryd.prog 13 #[.agg (blk f).toArray, .int .i64 at_, code5 16 a b c n] w fun e w' => e = .returned (.tuple #[.agg (blk G).toArray, .int .i64 (at_ + 1 + n), .int .i64 0]) ∧ Below w.heap.size w w')) :
    Calls Tryd.prog 5 #[.agg (blk f).toArray, .int .i64 at_, code5 16 a b c n] w fun e w' => e = .returned (.bool true) ∧ Below w.heap.size w w' := by
  have hu := Tryd.underlying23
  have HI := hide (zero_of_info (P := Tryd.prog) infoR).2
  have S0 := ASt.new w hT f #[.int .u8 16, .int .i64 a, .int .i64 b, .int .i64 c, .int .i64 n]
  clear hT
  unfold code5 at *
  go_enter Tryd.func5, Tryd.ntmps5
  go_wp2_with (first
    | ((refine load_blk rfl 23 (.tmp 3) rfl w.heap.size rfl S0.regs hu HI.out ?_)))
  refine (HD.out _ S0.tab).mono ?_
  rintro e w1 ⟨rfl, hb1⟩
  have S1 := (S0.below hb1).below ((Below.refl w1.heap.size w1).alloc (Nat.le_refl _) (.cells (blk G).toArray 23))
  have hc := c5_of S1.code
  clear hb1 S0
  go_wp2_with (first
    | ((with_reducible refine Arr.wpList_alloc_zero rfl 23 (by rfl) _ _ infoR w1.heap.size rfl ?_))
    | ((with_reducible refine Arr.wpList_store_last rfl 23 (.tmp 7) _ rfl _ _ w1.heap.size rfl rfl rfl HI.out ?_ ?_ ?_ ?_); (· simp [blk_len]); (· simp [blk_len]); (· simpa using blk_one G)))
  refine (works_any _ S1.tab).mono ?_
  rintro e w5 ⟨rfl, hb5⟩
  go_wp2
  go_ret
  exact ⟨rfl, below_then S1.bel hb5⟩
theorem other (k : Nat) (a b c n at_ : Int) (f G : Nat → Int) (h0 : 0 ≤ at_) (h1 : at_ ≤ 1024) (e16 : ((k : Int) == 16) = false) (e13 : ((k : Int) == 13) = false) (e14 : ((k : Int) == 14) = false) (e15 : ((k : Int) == 15) = false) (w : World) (hT : Tab w)
    (HD : Hid (∀ w, Tab w → Calls Tryd.prog 13 #[.agg (blk f).toArray, .int .i64 at_, code5 k a b c n] w fun e w' => e = .returned (.tuple #[.agg (blk G).toArray, .int .i64 (at_ + 1), .int .i64 0]) ∧ Below w.heap.size w w')) :
    Calls Tryd.prog 5 #[.agg (blk f).toArray, .int .i64 at_, code5 k a b c n] w fun e w' => e = .returned (.bool true) ∧ Below w.heap.size w w' := by
  have hu := Tryd.underlying23
  have HI := hide (zero_of_info (P := Tryd.prog) infoR).2
  have S0 := ASt.new w hT f #[.int .u8 (k : Int), .int .i64 a, .int .i64 b, .int .i64 c, .int .i64 n]
  clear hT
  unfold code5 at *
  go_enter Tryd.func5, Tryd.ntmps5
  go_wp2_with (first
    | ((refine load_blk rfl 23 (.tmp 3) rfl w.heap.size rfl S0.regs hu HI.out ?_)))
  refine (HD.out _ S0.tab).mono ?_
  rintro e w1 ⟨rfl, hb1⟩
  have S1 := (S0.below hb1).below ((Below.refl w1.heap.size w1).alloc (Nat.le_refl _) (.cells (blk G).toArray 23))
  have hc := c5_of S1.code
  clear hb1 S0
  go_wp2_with (first
    | ((with_reducible refine Arr.wpList_alloc_zero rfl 23 (by rfl) _ _ infoR w1.heap.size rfl ?_))
    | ((with_reducible refine Arr.wpList_store_last rfl 23 (.tmp 7) _ rfl _ _ w1.heap.size rfl rfl rfl HI.out ?_ ?_ ?_ ?_); (· simp [blk_len]); (· simp [blk_len]); (· simpa using blk_one G)))
  refine (works_any _ S1.tab).mono ?_
  rintro e w5 ⟨rfl, hb5⟩
  go_wp2
  go_ret
  exact ⟨rfl, below_then S1.bel hb5⟩
theorem branch (k : Nat) (hk : k = 13 ∨ k = 14 ∨ k = 15) (a b c n at_ t : Int) (f : Nat → Int) (h0 : 0 ≤ at_) (h1 : at_ ≤ 1024) (hn0 : -2097152 ≤ n) (hn1 : n < 2097152) (q : Bool) (ht1 : (t == at_ + 1) = q) (ht2 : q = false → (t == at_ + 1 + n) = true) (w : World) (hT : Tab w)
    (HD : Hid (∀ w, Tab w → Calls Tryd.prog 13 #[.agg (blk f).toArray, .int .i64 at_, code5 k a b c n] w fun e w' => e = .returned (.tuple #[.agg (blk (zf f)).toArray, .int .i64 t, .int .i64 0]) ∧ Below w.heap.size w w')) :
    Calls Tryd.prog 5 #[.agg (blk f).toArray, .int .i64 at_, code5 k a b c n] w fun e w' => e = .returned (.bool true) ∧ Below w.heap.size w w' := by
  have hu := Tryd.underlying23
  have HI := hide (zero_of_info (P := Tryd.prog) infoR).2
  have S0 := ASt.new w hT f #[.int .u8 (k : Int), .int .i64 a, .int .i64 b, .int .i64 c, .int .i64 n]
  have hg := hT.lt
  have hq := eqR_same (zf f)
  clear hT
  unfold code5 at *
  cases q
  · have ht3 := ht2 rfl
    clear ht2
    rcases hk with rfl | rfl | rfl
    all_goals
      go_enter Tryd.func5, Tryd.ntmps5
      go_wp2_with (first
        | ((refine load_blk rfl 23 (.tmp 3) rfl w.heap.size rfl S0.regs hu HI.out ?_)))
      refine (HD.out _ S0.tab).mono ?_
      rintro e w1 ⟨rfl, hb1⟩
      have S1 := (S0.below hb1).below ((Below.refl w1.heap.size w1).alloc (Nat.le_refl _) (.cells (blk (zf f)).toArray 23))
      have S2 := (set0 (S0.below hb1) hg).below ((Below.refl _ _).alloc (Nat.le_refl _) (.cells (blk (zf f)).toArray 23))
      have hc2 := c5_of S2.code
      have c0 := S1.regs.cell (show 0 < 16 by omega)
      have f0 := S1.regs.frozen 0
      have hc := c5_of S1.code
      have hz := (S0.below hb1).regs.lt
      have hsz : (w1.setCell ⟨w.heap.size, 0, none⟩ (.int .u32 0)).heap.size = w1.heap.size := by simp [World.setCell]
      have G1 := blk_new (w1.setCell ⟨w.heap.size, 0, none⟩ (.int .u32 0)) 23 (zf f)
      rw [hsz] at G1
      have G2 := hide G1
      clear hsz G1
      clear hb1 S0
      go_wp2_with (first
        | ((with_reducible refine Arr.wpList_alloc_zero rfl 23 (by rfl) _ _ infoR w1.heap.size rfl ?_))
        | ((with_reducible refine Arr.wpList_store_last rfl 23 (.tmp 7) _ rfl _ _ w1.heap.size rfl rfl rfl HI.out ?_ ?_ ?_ ?_); (· simp [blk_len]); (· simp [blk_len]); (· simpa using blk_one (zf f)))
        | ((refine load_blk_g (by rfl) 23 (.tmp 3) rfl w.heap.size rfl S2.regs hu HI.out ?_))
        | ((refine load_blk_g (by rfl) 23 (.tmp 7) rfl w1.heap.size rfl G2.out hu HI.out ?_)))
      refine (works_any _ S2.tab).mono ?_
      rintro e w5 ⟨rfl, hb5⟩
      go_wp2
      go_ret
      exact ⟨rfl, below_then S2.bel hb5⟩
  · clear ht2
    rcases hk with rfl | rfl | rfl
    all_goals
      go_enter Tryd.func5, Tryd.ntmps5
      go_wp2_with (first
        | ((refine load_blk rfl 23 (.tmp 3) rfl w.heap.size rfl S0.regs hu HI.out ?_)))
      refine (HD.out _ S0.tab).mono ?_
      rintro e w1 ⟨rfl, hb1⟩
      have S1 := (S0.below hb1).below ((Below.refl w1.heap.size w1).alloc (Nat.le_refl _) (.cells (blk (zf f)).toArray 23))
      have S2 := (set0 (S0.below hb1) hg).below ((Below.refl _ _).alloc (Nat.le_refl _) (.cells (blk (zf f)).toArray 23))
      have hc2 := c5_of S2.code
      have c0 := S1.regs.cell (show 0 < 16 by omega)
      have f0 := S1.regs.frozen 0
      have hc := c5_of S1.code
      have hz := (S0.below hb1).regs.lt
      have hsz : (w1.setCell ⟨w.heap.size, 0, none⟩ (.int .u32 0)).heap.size = w1.heap.size := by simp [World.setCell]
      have G1 := blk_new (w1.setCell ⟨w.heap.size, 0, none⟩ (.int .u32 0)) 23 (zf f)
      rw [hsz] at G1
      have G2 := hide G1
      clear hsz G1
      clear hb1 S0
      go_wp2_with (first
        | ((with_reducible refine Arr.wpList_alloc_zero rfl 23 (by rfl) _ _ infoR w1.heap.size rfl ?_))
        | ((with_reducible refine Arr.wpList_store_last rfl 23 (.tmp 7) _ rfl _ _ w1.heap.size rfl rfl rfl HI.out ?_ ?_ ?_ ?_); (· simp [blk_len]); (· simp [blk_len]); (· simpa using blk_one (zf f)))
        | ((refine load_blk_g (by rfl) 23 (.tmp 3) rfl w.heap.size rfl S2.regs hu HI.out ?_))
        | ((refine load_blk_g (by rfl) 23 (.tmp 7) rfl w1.heap.size rfl G2.out hu HI.out ?_)))
      refine (works_any _ S2.tab).mono ?_
      rintro e w5 ⟨rfl, hb5⟩
      go_wp2
      go_ret
      exact ⟨rfl, below_then S2.bel hb5⟩

theorem goes (k : Nat) (a b c n at_ : Int) (f : Nat → Int) (hk : k ≤ 255) (w : World) (hT : Tab w) :
    Calls Tryd.prog 5 #[.agg (blk f).toArray, .int .i64 at_, code5 k a b c n] w fun e w' => e = .returned (.bool true) ∧ Below w.heap.size w w' := by
  have HD := fun w hT => do_any k a b c n at_ f hk w hT
  cases hd : doneB k a b c n at_
  · refine err k a b c n at_ f _ _ _ ?_ w hT (hide HD)
    unfold doE
    rw [hd]
    cases okD k a b c n at_ <;> decide
  · have hf := fin hd f
    rw [hf.1, hf.2.1, hf.2.2] at HD
    have hd2 := hd
    simp only [doneB, okD, Bool.and_eq_true, decide_eq_true_eq] at hd2
    obtain ⟨⟨hm, h0, h1⟩, hi⟩ := hd2
    obtain ⟨hn0, hn1⟩ := n_bd hm
    by_cases e16 : k = 16
    · subst e16
      exact jump a b c n at_ f _ h0 h1 hn0 hn1 w hT (hide HD)
    by_cases eb : k = 13 ∨ k = 14 ∨ k = 15
    · have ho : blk (putF (zf f) a (outV k (zf f) a b c n)) = blk (zf f) := by
        rcases eb with rfl | rfl | rfl <;> exact put_get (zf f) a
      rw [ho] at HD
      by_cases hg : goesB k (zf f) a b = true
      · rw [if_pos hg] at HD
        by_cases hz : n = 0
        · exact branch k eb a b c n at_ _ f h0 h1 hn0 hn1 true (by rw [beq_iff_eq]; omega) (fun e => by cases e) w hT (hide HD)
        · exact branch k eb a b c n at_ _ f h0 h1 hn0 hn1 false (by rw [beq_eq_false_iff_ne]; omega) (fun _ => by rw [beq_iff_eq]) w hT (hide HD)
      · rw [if_neg hg] at HD
        exact branch k eb a b c n at_ _ f h0 h1 hn0 hn1 true (by rw [beq_iff_eq]) (fun e => by cases e) w hT (hide HD)
    · have hg : goesB k (zf f) a b = false := by
        unfold goesB
        split <;> first | rfl | omega
      rw [if_neg (by rw [hg]; decide)] at HD
      exact other k a b c n at_ f _ h0 h1 (by rw [beq_eq_false_iff_ne]; omega) (by rw [beq_eq_false_iff_ne]; omega) (by rw [beq_eq_false_iff_ne]; omega) (by rw [beq_eq_false_iff_ne]; omega) w hT (hide HD)
end Go.Proofs.YticlojpdcdkdgaaDoor.Goes
