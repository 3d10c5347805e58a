/-
  StepOne walked: an instruction makes at most one register another one, and the register 0 never. It returns true.
-/
import Derived.Test.YticlojpdcdkdgaaDoorGoes
namespace Go.Proofs.YticlojpdcdkdgaaDoor.One
open Go.RowKit Base Blks CodePlain CodeBits CodeTab Regs DoSt DoAll AddrOf Works Goes
set_option linter.unusedVariables false
set_option linter.unusedSimpArgs false
set_option maxRecDepth 100000
set_option maxHeartbeats 1000000

/-- How many registers below i are another one. -/
def diff (G F : Nat → Int) (i : Nat) : Nat := ((List.range i).filter fun j => decide (G j ≠ F j)).length
theorem diff_succ (G F : Nat → Int) (i : Nat) : diff G F (i + 1) = diff G F i + (if G i = F i then 0 else 1) := by
  unfold diff
  rw [List.range_succ, List.filter_append]
  by_cases h : G i = F i <;> simp [h]
theorem diff_le (F : Nat → Int) (a x : Int) : ∀ i, diff (putF F a x) F i ≤ if a.toNat < i then 1 else 0
  | 0 => by simp [diff]
  | i + 1 => by
    have ih := diff_le F a x i
    rw [diff_succ]
    by_cases e : i = a.toNat
    · subst e
      rw [if_neg (by omega)] at ih
      rw [if_pos (show a.toNat < a.toNat + 1 by omega)]
      split <;> omega
    · have hs : putF F a x i = F i := by
        unfold putF
        split
        · show (if i = a.toNat then x else F i) = F i
          rw [if_neg e]
        · rfl
      rw [if_pos hs]
      by_cases h : a.toNat < i
      · rw [if_pos h] at ih
        rw [if_pos (show a.toNat < i + 1 by omega)]
        omega
      · rw [if_neg h] at ih
        rw [if_neg (show ¬ a.toNat < i + 1 by omega)]
        omega
theorem differs {F : Nat → Int} {a x : Int} {i : Nat} (h : putF F a x i ≠ F i) : a = (i : Int) := by
  unfold putF at h
  by_cases hr : isReg a = true
  · rw [if_pos hr] at h
    by_cases e : i = a.toNat
    · have := isReg_iff.1 hr
      omega
    · rw [if_neg e] at h
      exact absurd rfl h
  · rw [if_neg hr] at h
    exact absurd rfl h
theorem zero_keeps (f : Nat → Int) (a x : Int) : putF (zf f) a x 0 = 0 := by
  by_cases h : putF (zf f) a x 0 = zf f 0
  · rw [h]; rfl
  · have h2 := differs h
    unfold putF at h
    rw [if_neg (by rw [isReg_iff]; omega)] at h
    exact absurd rfl h

theorem err (k : Nat) (a b c n at_ : Int) (f : Nat → Int) (er : Int) (he : (er != 0) = true) (w : World) (hT : Tab w)
    (HD : Hid (∀ w, Tab w → Calls Tryd.prog 13 #[.agg (blk f).toArray, .int .i64 at_, code5 k a b c n] w fun e w' => e = .returned (.tuple #[.agg (blk (fun _ => 0)).toArray, .int .i64 0, .int .i64 er]) ∧ Below w.heap.size w w')) :
    Calls Tryd.prog 4 #[.agg (blk f).toArray, .int .i64 at_, code5 k a b c n] w fun e w' => e = .returned (.bool true) ∧ Below w.heap.size w w' := by
  have hu := Tryd.underlying23
  have HI := hide (zero_of_info (P := Tryd.prog) infoR).2
  have S0 := ASt.new w hT f #[.int .u8 (k : Int), .int .i64 a, .int .i64 b, .int .i64 c, .int .i64 n]
  have hq := eqR_same (fun _ => 0)
  clear hT
  unfold code5 at *
  go_enter Tryd.func4, Tryd.ntmps4
  go_wp2_with (first
    | ((refine load_blk rfl 23 (.tmp 3) rfl w.heap.size rfl S0.regs hu HI.out ?_)))
  refine (HD.out _ S0.tab).mono ?_
  rintro e w1 ⟨rfl, hb1⟩
  have S1 := (S0.below hb1).below ((Below.refl w1.heap.size w1).alloc (Nat.le_refl _) (.cells (blk (fun _ => 0)).toArray 23))
  have G1 := hide (blk_new w1 23 (fun _ => 0))
  clear hb1 S0
  go_wp2_with (first
    | ((with_reducible refine Arr.wpList_alloc_zero rfl 23 (by rfl) _ _ infoR w1.heap.size rfl ?_))
    | ((with_reducible refine Arr.wpList_store_last rfl 23 (.tmp 7) _ rfl _ _ w1.heap.size rfl rfl rfl HI.out ?_ ?_ ?_ ?_); (· simp [blk_len]); (· simp [blk_len]); (· simpa using blk_one (fun _ => 0)))
    | ((refine load_blk rfl 23 (.tmp 7) rfl w1.heap.size rfl G1.out hu HI.out ?_))
    | ((with_reducible refine Great.wpList_readTo rfl (some 23) rfl (.agg (blk (fun _ => 0)).toArray) ?_ ?_); (· as_aux_lemma => kernel_rfl)))
  refine (works_any _ S1.tab).mono ?_
  rintro e w5 ⟨rfl, hb5⟩
  go_wp2
  go_ret
  exact ⟨rfl, below_then S1.bel hb5⟩

theorem good (k : Nat) (a b c n at_ t x : Int) (f : Nat → Int) (hr : 0 ≤ a ∧ a < 16) (w : World) (hT : Tab w)
    (HD : Hid (∀ w, Tab w → Calls Tryd.prog 13 #[.agg (blk f).toArray, .int .i64 at_, code5 k a b c n] w fun e w' => e = .returned (.tuple #[.agg (blk (putF (zf f) a x)).toArray, .int .i64 t, .int .i64 0]) ∧ Below w.heap.size w w')) :
    Calls Tryd.prog 4 #[.agg (blk f).toArray, .int .i64 at_, code5 k a b c n] w fun e w' => e = .returned (.bool true) ∧ Below w.heap.size w w' := by
  have hu := Tryd.underlying23
  have HI := hide (zero_of_info (P := Tryd.prog) infoR).2
  have S0 := ASt.new w hT f #[.int .u8 (k : Int), .int .i64 a, .int .i64 b, .int .i64 c, .int .i64 n]
  have hg := hT.lt
  have HLE := hide (fun i => diff_le (zf f) a x i)
  have HDF := hide (fun i => differs (F := zf f) (a := a) (x := x) (i := i))
  have HZ := hide (zero_keeps f a x)
  have HR := hide hr
  clear hT hr
  generalize putF (zf f) a x = G at *
  unfold code5 at *
  go_enter Tryd.func4, Tryd.ntmps4
  go_wp2_with (first
    | ((refine load_blk rfl 23 (.tmp 3) rfl w.heap.size rfl S0.regs hu HI.out ?_)))
  refine (HD.out _ S0.tab).mono ?_
  rintro e w1 ⟨rfl, hb1⟩
  have S1 := (S0.below hb1).below ((Below.refl w1.heap.size w1).alloc (Nat.le_refl _) (.cells (blk G).toArray 23))
  have S2 := set0 S1 hg
  have hz := (S0.below hb1).regs.lt
  have c0 := S1.regs.cell (show 0 < 16 by omega)
  have f0 := S1.regs.frozen 0
  have G2 := hide ((blk_new w1 23 G).setOther (a := ⟨w.heap.size, 0, none⟩) (by simp; omega) (.int .u32 0))
  have SH := hide S2
  clear hz hb1 S0 S1 S2
  go_wp2_with (first
    | ((with_reducible refine Arr.wpList_alloc_zero rfl 23 (by rfl) _ _ infoR w1.heap.size rfl ?_))
    | ((with_reducible refine Arr.wpList_store_last rfl 23 (.tmp 7) _ rfl _ _ w1.heap.size rfl rfl rfl HI.out ?_ ?_ ?_ ?_); (· simp [blk_len]); (· simp [blk_len]); (· simpa using blk_one G)))
  clear c0 f0
  go_loopw [10, 33] (fun o i wr => ∃ j : Nat, j ≤ 16 ∧ o = .int .i64 (diff G (zf f) j) ∧ i = .int .i64 j ∧ Hid (ASt w wr (zf f) #[.int .u8 (k : Int), .int .i64 a, .int .i64 b, .int .i64 c, .int .i64 n]) ∧ Hid (BlkAt wr w1.heap.size 23 G)) (fun _ i _ => 16 - (intOf i).toNat)
  case atStart => exact ⟨0, by omega, rfl, rfl, SH, G2⟩
  case round =>
    clear SH G2
    obtain ⟨j, hj, rfl, rfl, hS, hG⟩ := hrel
    by_cases hlt : j < 16
    · have hj1 : (j : Int) < 16 := by omega
      have hj0 : (0 : Int) ≤ (j : Int) := by omega
      have HS := hide (diff_succ G (zf f) j)
      have hle := HLE.out j
      have hd1 : diff G (zf f) j ≤ 1 := by split at hle <;> omega
      have cG := hG.out.cell hlt
      have cF := hS.out.regs.cell hlt
      have hc := c5_of hS.out.code
      have S3 := hide hS.out.drew
      have G3 : Hid (BlkAt wr.drew w1.heap.size 23 G) := hG
      clear hle
      by_cases e : G j = zf f j
      · rw [if_pos e] at HS
        have he : (G j != zf f j) = false := by rw [bne_eq_false_iff_eq]; exact e
        clear e
        go_wp2_with fail
        go_region
        go_wp2
        go_roundw
        case rel => exact ⟨j + 1, by omega, by rw [HS.out]; rfl, by go_num, S3, G3⟩
        case measure => simp [intOf]; omega
      · rw [if_neg e] at HS
        have he : (G j != zf f j) = true := by rw [bne_iff_ne]; exact e
        have ha := HDF.out j e
        have hna : ((j : Int) != a) = false := by rw [bne_eq_false_iff_eq]; exact ha.symm
        have HA := hide ha
        clear e ha
        go_wp2_with fail
        go_region
        go_wp2
        go_roundw
        case rel => exact ⟨j + 1, by omega, by rw [HS.out, Int.natCast_add]; rfl, by go_num, S3, G3⟩
        case measure => simp [intOf]; omega
    · have h16 : j = 16 := by omega
      have hj1 : ¬ ((j : Int) < 16) := by omega
      have hle := HLE.out j
      have hd1 : ((diff G (zf f) j : Nat) : Int) ≤ 1 := by split at hle <;> omega
      have c0 := hG.out.cell (show 0 < 16 by omega)
      rw [HZ.out] at c0
      clear hle h16
      go_wp2_with fail
      refine (works_any _ hS.out.tab).mono ?_
      rintro e w5 ⟨rfl, hb5⟩
      go_wp2
      go_ret
      exact ⟨rfl, below_then hS.out.bel hb5⟩

theorem one (k : Nat) (a b c n at_ : Int) (f : Nat → Int) (hk : k ≤ 255) (w : World) (hT : Tab w) :
    Calls Tryd.prog 4 #[.agg (blk f).toArray, .int .i64 at_, code5 k a b c n] w fun e w' => e = .returned (.bool true) ∧ Below w.heap.size w w' := by
  have HD := fun w hT => do_any k a b c n at_ f hk w hT
  cases hd : doneB k a b c n at_
  · have h1 : doF k a b c n at_ f = (fun _ => 0) ∧ doT k a b c n at_ f = 0 := by simp [doF, doT, hd]
    rw [h1.1, h1.2] at HD
    refine err k a b c n at_ f _ ?_ w hT (hide HD)
    unfold doE
    rw [hd]
    cases okD k a b c n at_ <;> decide
  · have hf := fin hd f
    rw [hf.1, hf.2.1, hf.2.2] at HD
    have hd2 := hd
    simp only [doneB, okD, Bool.and_eq_true, decide_eq_true_eq] at hd2
    obtain ⟨⟨hm, h0, h1⟩, hi⟩ := hd2
    exact good k a b c n at_ _ _ f (mayP_of hm).1 w hT (hide HD)
end Go.Proofs.YticlojpdcdkdgaaDoor.One
