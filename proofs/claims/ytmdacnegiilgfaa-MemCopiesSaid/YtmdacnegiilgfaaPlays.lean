/-
  MemPlays walked: any calls, each answer of the program's memory is the reference's; at the end all blocks are. It returns true.
-/
import Derived.Test.YtmdacnegiilgfaaRefBlk
import Derived.Test.YtmdacnegiilgfaaCopy
import Derived.Test.YtmdacnegiilgfaaOther
import Derived.Deep.RegionHeld3
namespace Go.Proofs.Ytmdacnegiilgfaa.Plays
open Go.RowKit Base Mem Blks Merge Merges Block Opens Other
set_option linter.unusedVariables false
set_option maxRecDepth 100000

theorem long (A : Option Addr) (n c : Nat) (blocks : Int) (hn : n ≤ maxLen) (h : 400 < n) (w : World) :
    Calls Try.prog 7 #[.int .i64 blocks, .slice A n c] w fun e w' => e = .returned (.bool true) ∧ Below w.heap.size w w' := by
  unfold maxLen at hn
  go_enter Try.func7, Try.ntmps7
  go_wp2_with fail
  refine (works_any _).mono ?_
  rintro e w1 ⟨rfl, hb1⟩
  go_wp2
  go_ret
  exact ⟨rfl, hb1⟩
theorem none_ (A : Option Addr) (n c : Nat) (blocks : Int) (h : n ≤ 400) (hb : blocks < 1 ∨ 256 < blocks) (w : World) :
    Calls Try.prog 7 #[.int .i64 blocks, .slice A n c] w fun e w' => e = .returned (.bool true) ∧ Below w.heap.size w w' := by
  have HB := hide hb
  clear hb
  go_enter Try.func7, Try.ntmps7
  go_wp2_with fail
  refine (New_no blocks HB.out _).mono ?_
  rintro e w1 ⟨rfl, rfl⟩
  go_wp2_with fail
  refine (RefMem.New_no blocks HB.out _).mono ?_
  rintro e w1 ⟨rfl, rfl⟩
  go_wp2_with fail
  refine (works_any _).mono ?_
  rintro e w1 ⟨rfl, hb1⟩
  go_wp2
  go_ret
  exact ⟨rfl, hb1⟩

theorem range_next4 {w w' : World} {B : Nat} {c0 c1 c2 c3 : Value} (h : w.cell? ⟨B, 0, none⟩ = some c0 ∧ w.cell? ⟨B, 1, none⟩ = some c1 ∧ w.cell? ⟨B, 2, none⟩ = some c2 ∧ w.cell? ⟨B, 3, none⟩ = some c3) (e : w'.heap[B]? = w.heap[B]?) :
    w'.cell? ⟨B, 0, none⟩ = some c0 ∧ w'.cell? ⟨B, 1, none⟩ = some c1 ∧ w'.cell? ⟨B, 2, none⟩ = some c2 ∧ w'.cell? ⟨B, 3, none⟩ = some c3 :=
  ⟨(World.cell?_of_block (w := w) e).trans h.1, (World.cell?_of_block (w := w) e).trans h.2.1, (World.cell?_of_block (w := w) e).trans h.2.2.1, (World.cell?_of_block (w := w) e).trans h.2.2.2⟩

theorem cells4 {w : World} {B : Nat} {c0 c1 c2 c3 : Value} (h : Hid (Blk w B 30 #[c0, c1, c2, c3])) :
    w.cell? ⟨B, 0, none⟩ = some c0 ∧ w.cell? ⟨B, 1, none⟩ = some c1 ∧ w.cell? ⟨B, 2, none⟩ = some c2 ∧ w.cell? ⟨B, 3, none⟩ = some c3 :=
  ⟨h.out.cell 0, h.out.cell 1, h.out.cell 2, h.out.cell 3⟩
/-- The state of a round: both memories, the other blocks, what was there before. -/
def St (w0 w : World) (p D r RD nb : Nat) (F G : Nat → Int) (B : Nat) (cs : Array Value) : Prop :=
  MemAt w p D nb F ∧ RefMem.RefAt w r RD nb G ∧ Below w0.heap.size w0 w ∧ Blk w B 30 cs ∧ (p ≠ r ∧ p ≠ RD ∧ D ≠ r ∧ D ≠ RD ∧ w0.heap.size ≤ p ∧ w0.heap.size ≤ D) ∧ w0.heap.size ≤ r ∧ w0.heap.size ≤ RD ∧ B ≠ D ∧ B ≠ RD ∧ B ≠ p ∧ B ≠ r
theorem St.drew {w0 w : World} {p D r RD nb : Nat} {F G : Nat → Int} {B : Nat} {cs : Array Value} (h : Hid (St w0 w p D r RD nb F G B cs)) : Hid (St w0 w.drew p D r RD nb F G B cs) :=
  hide ⟨h.out.1, h.out.2.1, h.out.2.2.1.drew, h.out.2.2.2⟩
theorem St.below {w0 w w' : World} {p D r RD nb : Nat} {F G : Nat → Int} {B : Nat} {cs : Array Value} (h : Hid (St w0 w p D r RD nb F G B cs)) (hb : Below w.heap.size w w') : Hid (St w0 w' p D r RD nb F G B cs) :=
  hide ⟨h.out.1.below hb, h.out.2.1.below hb, below_then h.out.2.2.1 hb, h.out.2.2.2.1.below hb h.out.2.2.2.1.lt, h.out.2.2.2.2⟩
theorem St.setM {w0 w w' : World} {p D r RD nb : Nat} {F F' G : Nat → Int} {B : Nat} {cs : Array Value} (h : Hid (St w0 w p D r RD nb F G B cs)) (hM : MemAt w' p D nb F') (hg : w.grownBy w' (some D)) : Hid (St w0 w' p D r RD nb F' G B cs) := by
  obtain ⟨h1, h2, h3, h4, ⟨s1, s2, s3, s4, s5, s6⟩, h6, h7, h8, h9, h10⟩ := h.out
  exact hide ⟨hM, h2.other hg (Ne.symm s3) (Ne.symm s4), h3.grown hg h3.size (by intro k hk; cases hk; exact s6), h4.grown hg (by intro e; injection e with e; exact h8 e), ⟨s1, s2, s3, s4, s5, s6⟩, h6, h7, h8, h9, h10⟩
theorem St.setR {w0 w w' : World} {p D r RD nb : Nat} {F G G' : Nat → Int} {B : Nat} {cs : Array Value} (h : Hid (St w0 w p D r RD nb F G B cs)) (hM : RefMem.RefAt w' r RD nb G') (hg : w.grownBy w' (some RD)) : Hid (St w0 w' p D r RD nb F G' B cs) := by
  obtain ⟨h1, h2, h3, h4, ⟨s1, s2, s3, s4, s5, s6⟩, h6, h7, h8, h9, h10⟩ := h.out
  exact hide ⟨h1.other hg s2 s4, hM, h3.grown hg h3.size (by intro k hk; cases hk; exact h7), h4.grown hg (by intro e; injection e with e; exact h9 e), ⟨s1, s2, s3, s4, s5, s6⟩, h6, h7, h8, h9, h10⟩
theorem St.cells {w0 w : World} {p D r RD nb : Nat} {F G : Nat → Int} {B : Nat} {c0 c1 c2 c3 : Value} (h : Hid (St w0 w p D r RD nb F G B #[c0, c1, c2, c3])) :
    w.cell? ⟨B, 0, none⟩ = some c0 ∧ w.cell? ⟨B, 1, none⟩ = some c1 ∧ w.cell? ⟨B, 2, none⟩ = some c2 ∧ w.cell? ⟨B, 3, none⟩ = some c3 := cells4 (hide h.out.2.2.2.1)
theorem St.mem {w0 w : World} {p D r RD nb : Nat} {F G : Nat → Int} {B : Nat} {cs : Array Value} (h : Hid (St w0 w p D r RD nb F G B cs)) : MemAt w p D nb F := h.out.1
theorem St.ref {w0 w : World} {p D r RD nb : Nat} {F G : Nat → Int} {B : Nat} {cs : Array Value} (h : Hid (St w0 w p D r RD nb F G B cs)) : RefMem.RefAt w r RD nb G := h.out.2.1
theorem St.bel {w0 w : World} {p D r RD nb : Nat} {F G : Nat → Int} {B : Nat} {cs : Array Value} (h : Hid (St w0 w p D r RD nb F G B cs)) : Below w0.heap.size w0 w := h.out.2.2.1

set_option maxHeartbeats 4000000 in
theorem short (A : Option Addr) (n c nb : Nat) (h : n ≤ 400) (h1 : 1 ≤ nb) (h2 : nb ≤ 256) (s0 s1 s2 s3 : Nat → Int) (w : World) (hR : Rows4 w w.heap.size .i64 .i64 .i64 .u32 A n s0 s1 s2 s3) :
    Calls Try.prog 7 #[.int .i64 (nb : Int), .slice A n c] w fun e w' => e = .returned (.bool true) ∧ Below w.heap.size w w' := by
  have HR := hide hR
  clear hR
  go_enter Try.func7, Try.ntmps7
  go_wp2_with fail
  refine (New_ok nb h1 h2 w).mono ?_
  rintro e w1 ⟨rfl, hM1, hb1⟩
  have HM1 := hide hM1
  have HB1 := hide hb1
  clear hM1 hb1
  obtain ⟨D, hD⟩ : ∃ D, D = w.heap.size := ⟨_, rfl⟩
  obtain ⟨p, hp⟩ : ∃ p, p = w.heap.size + 1 := ⟨_, rfl⟩
  rw [← hp, ← hD] at HM1
  have HD := hide hD
  have HP := hide hp
  go_wp2_with fail
  rw [← hp]
  clear hp hD
  refine (RefMem.New_ok nb h1 h2 w1).mono ?_
  rintro e w2 ⟨rfl, hR2, hb2⟩
  have hpl : p < w1.heap.size := block_lt_of_cell HM1.out.2.2.1.choose_spec.2
  have hDl : D < w1.heap.size := HM1.out.2.2.2.lt
  obtain ⟨RD, hRD⟩ : ∃ RD, RD = w1.heap.size := ⟨_, rfl⟩
  obtain ⟨r, hr⟩ : ∃ r, r = w1.heap.size + 1 := ⟨_, rfl⟩
  rw [← hr, ← hRD] at hR2
  have HR2 := hide hR2
  have HM2 := hide (HM1.out.below hb2)
  have HB2 := hide (below_then HB1.out hb2)
  have HSEP : Hid (p ≠ r ∧ p ≠ RD ∧ D ≠ r ∧ D ≠ RD ∧ w.heap.size ≤ p ∧ w.heap.size ≤ D) := hide (by have := HD.out; have := HP.out; omega)
  have HSEPR : Hid (w.heap.size ≤ r ∧ w.heap.size ≤ RD) := hide (by have := HD.out; have := HP.out; omega)
  rw [← hr]
  clear hr hRD hR2 hb2 hpl hDl HM1 HB1 HD HP
  go_wp2_with fail
  go_loopw [5, 6, 8, 51] (fun m e f i wr => ∃ (j p D : Nat) (F : Nat → Int) (x : Int), j ≤ n ∧ m = .pointer (some ⟨p, 0, none⟩) ∧ e = .int .i64 x ∧ f = .int .i64 x ∧ i = .int .i64 j ∧ Hid (MemAt wr p D nb F) ∧ Hid (RefMem.RefAt wr r RD nb F) ∧ Hid (p ≠ r ∧ p ≠ RD ∧ D ≠ r ∧ D ≠ RD ∧ w.heap.size ≤ p ∧ w.heap.size ≤ D) ∧ Hid (Below w.heap.size w wr)) (fun _ _ _ i _ => n - (intOf i).toNat)
  case atStart => exact ⟨0, p, D, fun _ => 0, 0, by omega, rfl, rfl, rfl, rfl, HM2, HR2, HSEP, HB2⟩
  case round =>
    clear HM2 HR2 HSEP HB2
    obtain ⟨j, p, D, F, x, hj, rfl, rfl, rfl, rfl, hM, hQ, hS, hB⟩ := hrel
    by_cases hlt : j < n
    · obtain ⟨bb, off, rfl, hbb, hcs⟩ := (Rows4.below HR.out hB.out).1 (by omega)
      obtain ⟨q0, q1, q2, q3⟩ := hcs j hlt
      clear hcs
      have hsz := hB.out.size
      have hpl : p < wr.heap.size := block_lt_of_cell hM.out.2.2.1.choose_spec.2
      have hDl : D < wr.heap.size := hM.out.2.2.2.lt
      have hrl : r < wr.heap.size := block_lt_of_cell hQ.out.2.2.1
      have hRl : RD < wr.heap.size := hQ.out.2.2.2.lt
      have S0 : Hid (St w (wr.alloc (.cells #[.int .i64 (s0 j), .int .i64 (s1 j), .int .i64 (s2 j), .int .u32 (s3 j)] 30)) p D r RD nb F F wr.heap.size #[.int .i64 (s0 j), .int .i64 (s1 j), .int .i64 (s2 j), .int .u32 (s3 j)]) := by
        have hb0 := (Below.refl wr.heap.size wr).alloc (Nat.le_refl _) (.cells #[.int .i64 (s0 j), .int .i64 (s1 j), .int .i64 (s2 j), .int .u32 (s3 j)] 30)
        exact hide ⟨hM.out.below hb0, hQ.out.below hb0, below_then hB.out hb0, Blk.new wr 30 _, hS.out, HSEPR.out.1, HSEPR.out.2, by omega, by omega, by omega, by omega⟩
      clear hM hQ hB
      generalize s0 j = o0 at *
      generalize s1 j = o1 at *
      generalize s2 j = o2 at *
      generalize s3 j = o3 at *
      have hn1 : (j : Int) < (n : Int) := by omega
      by_cases k0 : o0 = 0
      · subst k0
        have S1 := St.drew S0
        have hc := St.cells S1
        generalize errOf nb o1 o2 = er at *
        go_wp2_with fail
        go_region_held3 (fun w' => (w'.cell? ⟨wr.heap.size, 0, none⟩ = some (.int .i64 0) ∧ w'.cell? ⟨wr.heap.size, 1, none⟩ = some (.int .i64 o1) ∧ w'.cell? ⟨wr.heap.size, 2, none⟩ = some (.int .i64 o2) ∧ w'.cell? ⟨wr.heap.size, 3, none⟩ = some (.int .u32 o3))) (first | exact hc | exact St.cells (by assumption))
          (first | (go_at_call 12; refine (SetWord_any p D nb F o1 o2 o3 _ (St.mem (by assumption))).mono ?_; rintro e wm ⟨rfl, hMm, hgm⟩; have Sm := St.setM (by assumption) hMm hgm; clear hMm hgm) | (go_at_call 19; refine (RefMem.SetWord_any r RD nb F o1 o2 o3 _ (St.ref (by assumption))).mono ?_; rintro e wq ⟨rfl, hMq, hgq⟩; have Sq := St.setR (by assumption) hMq hgq; clear hMq hgq))
        all_goals
          clear hc S0 S1
          go_wp2_with fail
          go_roundw
          case rel => exact ⟨j + 1, p, D, upd F nb o1 o2 o3, _, by omega, rfl, rfl, rfl, by go_num, hide (St.mem (by assumption)), hide (St.ref (by assumption)), hS, hide (St.bel (by assumption))⟩
          case measure => simp [intOf]; omega
      by_cases k1 : o0 = 1
      · subst k1
        have hW1 := hide (Word_any p D nb F o1 o2 _ (St.mem S0))
        have hW2 := hide (RefMem.Word_any r RD nb F o1 o2 _ (St.ref S0))
        generalize getOf F nb o1 o2 = v at *
        generalize errOf nb o1 o2 = er at *
        go_wp2_with fail
        refine hW1.out.mono ?_
        rintro e wx ⟨rfl, rfl⟩
        go_wp2_with fail
        refine hW2.out.mono ?_
        rintro e wx ⟨rfl, rfl⟩
        go_wp2_with fail
        go_roundw
        case rel => exact ⟨j + 1, p, D, F, er, by omega, rfl, rfl, rfl, by go_num, hide S0.out.1, hide S0.out.2.1, hS, hide S0.out.2.2.1⟩
        case measure => simp [intOf]; omega
      by_cases k2 : o0 = 2
      · subst k2
        have S1 := St.drew S0
        have hc := St.cells S1
        generalize errOf nb o1 0 = er at *
        go_wp2_with fail
        go_region_held3 (fun w' => (w'.cell? ⟨wr.heap.size, 0, none⟩ = some (.int .i64 2) ∧ w'.cell? ⟨wr.heap.size, 1, none⟩ = some (.int .i64 o1) ∧ w'.cell? ⟨wr.heap.size, 2, none⟩ = some (.int .i64 o2) ∧ w'.cell? ⟨wr.heap.size, 3, none⟩ = some (.int .u32 o3))) (first | exact hc | exact St.cells (by assumption))
          (first | (go_at_call 21; refine (RefBlk.all_any o3 _).mono ?_; rintro e wa ⟨rfl, hba⟩; have Sa := St.below (by assumption) hba; clear hba) | (go_at_call 16; refine (setblock_any p D nb F (fun _ => o3) o1 _ (St.mem (by assumption))).mono ?_; rintro e wm ⟨rfl, hMm, hgm⟩; have Sm := St.setM (by assumption) hMm hgm; clear hMm hgm) | (go_at_call 22; refine (RefBlk.setblock_any r RD nb F (fun _ => o3) o1 _ (St.ref (by assumption))).mono ?_; rintro e wq ⟨rfl, hMq, hgq⟩; have Sq := St.setR (by assumption) hMq hgq; clear hMq hgq))
        all_goals
          clear hc S0 S1
          go_wp2_with fail
          go_roundw
          case rel => exact ⟨j + 1, p, D, putBlk F nb o1 (fun _ => o3), _, by omega, rfl, rfl, rfl, by go_num, hide (St.mem (by assumption)), hide (St.ref (by assumption)), hS, hide (St.bel (by assumption))⟩
          case measure => simp [intOf]; omega
      by_cases k3 : o0 = 3
      · subst k3
        have hW1 := hide (block_any p D nb F o1 _ (St.mem S0))
        have hW2 := hide (fun w (h : RefMem.RefAt w r RD nb F) => RefBlk.block_any r RD nb F o1 w h)
        have hu := Try.underlying36
        have HI := hide (zero_of_info (P := Try.prog) info36').2
        have hq : ∀ w, (Op.equalIn 10000 36 (.agg (blk (getBlk F nb o1)).toArray) (.agg (blk (getBlk F nb o1)).toArray)).run Try.prog w = .ok true w := fun w => by rw [eq36, eqB_true (fun _ _ => rfl)]
        generalize getBlk F nb o1 = v at *
        generalize errOf nb o1 0 = er at *
        go_wp2_with fail
        refine hW1.out.mono ?_
        rintro e w3 ⟨rfl, hb3⟩
        have S3 := St.below (St.below S0 hb3) ((Below.refl w3.heap.size w3).alloc (Nat.le_refl _) (.cells (blk v).toArray 36))
        have C3 := hide (blk_new w3 36 v)
        have hc := St.cells S3
        clear hb3
        go_wp2_with (first
          | ((with_reducible refine Arr.wpList_alloc_zero rfl 36 (by rfl) _ _ info36' w3.heap.size rfl ?_))
          | ((with_reducible refine Arr.wpList_store_last rfl 36 _ _ rfl _ _ w3.heap.size rfl rfl rfl HI.out ?_ ?_ ?_ ?_); (· simp [blk_len]); (· simp [blk_len]); (· simpa using blk_one v)))
        clear hc
        refine (hW2.out _ (St.ref S3)).mono ?_
        rintro e w5 ⟨rfl, hb5⟩
        have S5 := St.below (St.below S3 hb5) ((Below.refl w5.heap.size w5).alloc (Nat.le_refl _) (.cells (blk v).toArray 36))
        have C5 := hide (blk_new w5 36 v)
        have C4 := hide ((C3.out.of_block (hb5.block _ C3.out.lt)).alloc (.cells (blk v).toArray 36))
        clear hb5
        go_wp2_with (first
          | ((with_reducible refine Arr.wpList_alloc_zero rfl 36 (by rfl) _ _ info36' w5.heap.size rfl ?_))
          | ((with_reducible refine Arr.wpList_store_last rfl 36 _ _ rfl _ _ w5.heap.size rfl rfl rfl HI.out ?_ ?_ ?_ ?_); (· simp [blk_len]); (· simp [blk_len]); (· simpa using blk_one v))
          | ((refine load_blk rfl 36 (.tmp 15) rfl w3.heap.size rfl C4.out hu HI.out ?_))
          | ((refine load_blk rfl 36 (.tmp 17) rfl w5.heap.size rfl C5.out hu HI.out ?_)))
        go_roundw
        case rel => exact ⟨j + 1, p, D, F, er, by omega, rfl, rfl, rfl, by go_num, hide S5.out.1, hide S5.out.2.1, hS, hide S5.out.2.2.1⟩
        case measure => simp [intOf]; omega
      by_cases k4 : o0 = 4
      · subst k4
        have f4 : (99 : Int) = 99 := rfl
        go_wp2_with fail
        refine (Copy.copy_any p D nb F _ h1 (St.mem S0)).mono ?_
        rintro e w3 ⟨p', D', rfl, hp', hD', hM3, hb3⟩
        have S3 := St.below S0 hb3
        have M3 := hide hM3
        have hz : wr.heap.size < (wr.alloc (.cells #[.int .i64 4, .int .i64 o1, .int .i64 o2, .int .u32 o3] 30)).heap.size := by simp
        have hp2 := hide hp'
        have hD2 := hide hD'
        have hz2 := hide hz
        clear hM3 hb3 hp' hD' hz f4
        have hSW := hide (SetWord_any p D nb F 0 0 99 _ (St.mem S3))
        generalize errOf nb 0 0 = er at *
        go_wp2_with fail
        refine hSW.out.mono ?_
        rintro e w4 ⟨rfl, hM4, hg4⟩
        have S4 := St.setM S3 hM4 hg4
        have M4 := hide (M3.out.other hg4 (by have := hp2.out; have := hz2.out; omega) (by have := hD2.out; have := hz2.out; omega))
        have hSEP' : Hid (p' ≠ r ∧ p' ≠ RD ∧ D' ≠ r ∧ D' ≠ RD ∧ w.heap.size ≤ p' ∧ w.heap.size ≤ D') := hide (by have := hp2.out; have := hD2.out; have := hz2.out; omega)
        clear hM4 hg4
        go_wp2_with fail
        go_roundw
        case rel => exact ⟨j + 1, p', D', F, _, by omega, rfl, rfl, rfl, by go_num, M4, hide S4.out.2.1, hSEP', hide S4.out.2.2.1⟩
        case measure => simp [intOf]; omega
      · have f0 : (o0 == 0) = false := by rw [beq_eq_false_iff_ne]; exact k0
        have f1 : (o0 == 1) = false := by rw [beq_eq_false_iff_ne]; exact k1
        have f2 : (o0 == 2) = false := by rw [beq_eq_false_iff_ne]; exact k2
        have f3 : (o0 == 3) = false := by rw [beq_eq_false_iff_ne]; exact k3
        have f4 : (o0 == 4) = false := by rw [beq_eq_false_iff_ne]; exact k4
        clear k0 k1 k2 k3 k4
        go_wp2_with fail
        go_roundw
        case rel => exact ⟨j + 1, p, D, F, x, by omega, rfl, rfl, rfl, by go_num, hide S0.out.1, hide S0.out.2.1, hS, hide S0.out.2.2.1⟩
        case measure => simp [intOf]; omega
    · obtain ⟨wo, rfl⟩ : ∃ wo : World, wo = wr := ⟨_, rfl⟩
      have hn1 : ¬ ((j : Int) < (n : Int)) := by omega
      go_wp2_with fail
      go_loopw [149] (fun i wr => ∃ b : Nat, b ≤ nb ∧ i = .int .i64 b ∧ Hid (MemAt wr p D nb F) ∧ Hid (RefMem.RefAt wr r RD nb F) ∧ Hid (Below w.heap.size w wr)) (fun i _ => nb - (intOf i).toNat)
      case atStart => exact ⟨0, by omega, rfl, hM, hQ, hB⟩
      case round =>
        clear hM hQ hB
        obtain ⟨b, hb, rfl, hM, hQ, hB⟩ := hrel
        by_cases hlt : b < nb
        · have hi : inr nb (b : Int) 0 = true := inr_iff.2 ⟨by omega, by omega, by omega, by omega⟩
          have hW1 := block_any p D nb F (b : Int) _ hM.out
          have hW2 := fun w (h : RefMem.RefAt w r RD nb F) => RefBlk.block_any r RD nb F (b : Int) w h
          rw [show errOf nb (b : Int) 0 = 0 by simp [errOf, hi]] at hW1 hW2
          have hW1 := hide hW1
          have hW2 := hide hW2
          have hu := Try.underlying36
          have HI := hide (zero_of_info (P := Try.prog) info36').2
          have hq : ∀ w, (Op.equalIn 10000 36 (.agg (blk (getBlk F nb b)).toArray) (.agg (blk (getBlk F nb b)).toArray)).run Try.prog w = .ok true w := fun w => by rw [eq36, eqB_true (fun _ _ => rfl)]
          generalize getBlk F nb (b : Int) = v at *
          clear hi
          have hblt : (b : Int) < (nb : Int) := by omega
          go_wp2_with fail
          refine hW1.out.mono ?_
          rintro e w3 ⟨rfl, hb3⟩
          have M3 := hide ((hM.out.below hb3).below ((Below.refl w3.heap.size w3).alloc (Nat.le_refl _) (.cells (blk v).toArray 36)))
          have Q3 := hide ((hQ.out.below hb3).below ((Below.refl w3.heap.size w3).alloc (Nat.le_refl _) (.cells (blk v).toArray 36)))
          have B3 := hide (below_then (below_then hB.out hb3) ((Below.refl w3.heap.size w3).alloc (Nat.le_refl _) (.cells (blk v).toArray 36)))
          have C3 := hide (blk_new w3 36 v)
          clear hb3
          go_wp2_with (first
            | ((with_reducible refine Arr.wpList_alloc_zero rfl 36 (by rfl) _ _ info36' w3.heap.size rfl ?_))
            | ((with_reducible refine Arr.wpList_store_last rfl 36 _ _ rfl _ _ w3.heap.size rfl rfl rfl HI.out ?_ ?_ ?_ ?_); (· simp [blk_len]); (· simp [blk_len]); (· simpa using blk_one v)))
          refine (hW2.out _ Q3.out).mono ?_
          rintro e w5 ⟨rfl, hb5⟩
          have M5 := hide ((M3.out.below hb5).below ((Below.refl w5.heap.size w5).alloc (Nat.le_refl _) (.cells (blk v).toArray 36)))
          have Q5 := hide ((Q3.out.below hb5).below ((Below.refl w5.heap.size w5).alloc (Nat.le_refl _) (.cells (blk v).toArray 36)))
          have B5 := hide (below_then (below_then B3.out hb5) ((Below.refl w5.heap.size w5).alloc (Nat.le_refl _) (.cells (blk v).toArray 36)))
          have C5 := hide (blk_new w5 36 v)
          have C4 := hide ((C3.out.of_block (hb5.block _ C3.out.lt)).alloc (.cells (blk v).toArray 36))
          clear hb5
          go_wp2_with (first
            | ((with_reducible refine Arr.wpList_alloc_zero rfl 36 (by rfl) _ _ info36' w5.heap.size rfl ?_))
            | ((with_reducible refine Arr.wpList_store_last rfl 36 _ _ rfl _ _ w5.heap.size rfl rfl rfl HI.out ?_ ?_ ?_ ?_); (· simp [blk_len]); (· simp [blk_len]); (· simpa using blk_one v))
            | ((refine load_blk rfl 36 (.tmp 21) rfl w3.heap.size rfl C4.out hu HI.out ?_))
            | ((refine load_blk rfl 36 (.tmp 23) rfl w5.heap.size rfl C5.out hu HI.out ?_)))
          go_roundw
          case rel => exact ⟨b + 1, by omega, by go_num, M5, Q5, B5⟩
          case measure => simp [intOf]; omega
        · have hblt : ¬ ((b : Int) < (nb : Int)) := by omega
          go_wp2_with fail
          refine (works_any _).mono ?_
          rintro e w7 ⟨rfl, hb7⟩
          go_wp2
          go_ret
          exact ⟨rfl, below_then hB.out hb7⟩

theorem plays (A : Option Addr) (n c : Nat) (blocks : Int) (hn : n ≤ maxLen) (s0 s1 s2 s3 : Nat → Int) (w : World) (hR : Rows4 w w.heap.size .i64 .i64 .i64 .u32 A n s0 s1 s2 s3) :
    Calls Try.prog 7 #[.int .i64 blocks, .slice A n c] w fun e w' => e = .returned (.bool true) ∧ Below w.heap.size w w' := by
  by_cases h : n ≤ 400
  · by_cases hb : blocks < 1 ∨ 256 < blocks
    · exact none_ A n c blocks h hb w
    · obtain ⟨nb, rfl⟩ := Int.eq_ofNat_of_zero_le (show 0 ≤ blocks by omega)
      exact short A n c nb h (by omega) (by omega) s0 s1 s2 s3 w hR
  · exact long A n c blocks hn (by omega) w
end Go.Proofs.Ytmdacnegiilgfaa.Plays
