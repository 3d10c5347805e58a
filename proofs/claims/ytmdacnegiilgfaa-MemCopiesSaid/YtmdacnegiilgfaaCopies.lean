/-
  MemCopies walked: a copy and what it was made of go on apart. It returns true.
-/
import Derived.Test.YtmdacnegiilgfaaPlays
namespace Go.Proofs.Ytmdacnegiilgfaa.Copies
open Go.RowKit Base Mem Blks Merge Merges Block Opens Other
set_option linter.unusedVariables false
set_option maxRecDepth 100000
set_option linter.unusedSimpArgs false

theorem long1 (A C : Option Addr) (n c m d : Nat) (hn : n ≤ maxLen) (hm : m ≤ maxLen) (h : 300 < n) (w : World) :
    Calls Try.prog 8 #[.slice A n c, .slice C m d] w fun e w' => e = .returned (.bool true) ∧ Below w.heap.size w w' := by
  unfold maxLen at hn hm
  go_enter Try.func8, Try.ntmps8
  go_wp2_with fail
  refine (works_any _).mono ?_
  rintro e w1 ⟨rfl, hb1⟩
  go_wp2
  go_ret
  exact ⟨rfl, hb1⟩
theorem long2 (A C : Option Addr) (n c m d : Nat) (hn : n ≤ 300) (hm : m ≤ maxLen) (h : 300 < m) (w : World) :
    Calls Try.prog 8 #[.slice A n c, .slice C m d] w fun e w' => e = .returned (.bool true) ∧ Below w.heap.size w w' := by
  unfold maxLen at hm
  go_enter Try.func8, Try.ntmps8
  go_wp2_with fail
  refine (works_any _).mono ?_
  rintro e w1 ⟨rfl, hb1⟩
  go_wp2
  go_ret
  exact ⟨rfl, hb1⟩

/-- Four blocks as one array: the words in a row. -/
def wasL (F : Nat → Int) (k : Nat) : List Value := (List.range 64).map fun i => .int .u32 (if i < k * 16 then F i else 0)
theorem wasL_get (F : Nat → Int) (k : Nat) {i : Nat} (h : i < 64) : (wasL F k)[i]? = some (.int .u32 (if i < k * 16 then F i else 0)) := by simp [wasL, h]
theorem info50 : (Try.prog.info? 50).map (fun i => (i.zero, i.size)) = some (some (.agg (wasL (fun _ => 0) 0).toArray), 64) := by kernel_rfl
def wasF (F : Nat → Int) (k i : Nat) : Value := .int .u32 (if i < k * 16 then F i else 0)
theorem was_row {w : World} {B k : Nat} {F : Nat → Int} (h : w.rowIs B 50 64 (wasF F k)) (hk : k < 4) : (w.setCells B (k * 16) (blk (getBlk F 4 (k : Int)))).rowIs B 50 64 (wasF F (k + 1)) := by
  refine (rows_setCells (blk (getBlk F 4 (k : Int))) (k * 16) w _ h).congr fun i hi => ?_
  have hin : inr 4 (k : Int) 0 = true := inr_iff.2 ⟨by omega, by omega, by omega, by omega⟩
  rw [blk_len]
  unfold wasF
  by_cases e : k * 16 ≤ i ∧ i < k * 16 + 16
  · rw [if_pos e, List.getD_eq_getElem?_getD, blk_get _ (by omega), if_pos (by omega)]
    simp only [Option.getD_some, getBlk, hin, if_true, part16, Int.toNat_natCast]
    congr 2
    omega
  · rw [if_neg e]
    by_cases e2 : i < k * 16
    · rw [if_pos e2, if_pos (by omega)]
    · rw [if_neg e2, if_neg (by omega)]
theorem was_range {w : World} {B k : Nat} {F : Nat → Int} (h : w.rowIs B 50 64 (wasF F 4)) (hk : k < 4) : w.rangeAt B (k * 16) (blk (getBlk F 4 (k : Int))) := fun j v hv => by
  have hin : inr 4 (k : Int) 0 = true := inr_iff.2 ⟨by omega, by omega, by omega, by omega⟩
  have hj : j < 16 := by
    have := (List.getElem?_eq_some_iff.1 hv).1
    rwa [blk_len] at this
  rw [blk_get _ hj] at hv
  rw [h.cell (by omega), ← hv]
  unfold wasF
  rw [if_pos (by omega)]
  simp only [getBlk, hin, if_true, part16, Int.toNat_natCast]
theorem was_there {w : World} {B k : Nat} {f : Nat → Value} (h : w.rowIs B 50 64 f) (hk : k < 4) : w.there B (k * 16) 16 := fun j hj => by
  exact ⟨by rw [h.cell (by omega)]; rfl, h.frozen _⟩
theorem was_new (w : World) (F : Nat → Int) : (w.alloc (.cells (wasL (fun _ => 0) 0).toArray 50)).rowIs w.heap.size 50 64 (wasF F 0) := by
  have h := World.rowIs_alloc w (wasL (fun _ => 0) 0).toArray 50 (wasF F 0) (fun i hi => by
    have : i < 64 := by simpa [wasL] using hi
    simp [wasL, wasF, this])
  simpa [wasL] using h
theorem rowIs_grown {w w' : World} {b n : Nat} {t : TypeId} {f : Nat → Value} {g : Nat} (h : w.rowIs b t n f) (hb : w.grownBy w' (some g)) (hg : b ≠ g) : w'.rowIs b t n f :=
  h.of_block (hb.block _ h.lt (fun e => hg (by injection e)))

set_option maxHeartbeats 4000000 in
theorem short (A C : Option Addr) (n c m d : Nat) (hn : n ≤ 300) (hm : m ≤ 300) (s0 s1 s2 s3 r0 r1 r2 r3 : Nat → Int) (w : World)
    (hR : Rows4 w w.heap.size .i64 .i64 .i64 .u32 A n s0 s1 s2 s3) (hT : Rows4 w w.heap.size .i64 .i64 .i64 .u32 C m r0 r1 r2 r3) :
    Calls Try.prog 8 #[.slice A n c, .slice C m d] w fun e w' => e = .returned (.bool true) ∧ Below w.heap.size w w' := by
  have HR := hide hR
  have HT := hide hT
  clear hR hT
  go_enter Try.func8, Try.ntmps8
  go_wp2_with fail
  refine (New_ok 4 (by omega) (by omega) w).mono ?_
  rintro e w1 ⟨rfl, hM1, hb1⟩
  have HM1 := hide hM1
  have HB1 := hide hb1
  clear hM1 hb1
  obtain ⟨D, hD⟩ : ∃ D, D = w.heap.size := ⟨_, rfl⟩
  obtain ⟨p, hp⟩ : ∃ p, p = w.heap.size + 1 := ⟨_, rfl⟩
  rw [← hp, ← hD] at HM1
  have HDP : Hid (w.heap.size ≤ D ∧ w.heap.size ≤ p) := hide (by omega)
  go_wp2_with fail
  rw [← hp]
  clear hp hD
  go_loopw [34] (fun i wr => ∃ (j : Nat) (F : Nat → Int), j ≤ n ∧ i = .int .i64 j ∧ Hid (MemAt wr p D 4 F) ∧ Hid (Below w.heap.size w wr)) (fun i _ => n - (intOf i).toNat)
  case atStart => exact ⟨0, fun _ => 0, by omega, rfl, HM1, HB1⟩
  case round =>
    clear HM1 HB1
    obtain ⟨j, F, hj, rfl, hM, hB⟩ := hrel
    by_cases hlt : j < n
    · obtain ⟨bb, off, rfl, hbb, hcs⟩ := (Rows4.below HR.out hB.out).1 (by omega)
      obtain ⟨q0, q1, q2, q3⟩ := hcs j hlt
      clear hcs
      have hsz := hB.out.size
      go_wp2_with fail
      refine (SetWord_any p D 4 F _ _ _ _ (hM.out.below ((Below.refl _ _).alloc (Nat.le_refl _) _))).mono ?_
      rintro e w2 ⟨rfl, hM2, hg2⟩
      have hB2 := hide ((hB.out.alloc hsz _).grown hg2 (by simp; omega) (by intro g hg; cases hg; exact HDP.out.1))
      have hM2 := hide hM2
      clear hg2
      go_wp2_with fail
      go_roundw
      case rel => exact ⟨j + 1, _, by omega, by go_num, hM2, hB2⟩
      case measure => simp [intOf]; omega
    · obtain ⟨wo, rfl⟩ : ∃ wo : World, wo = wr := ⟨_, rfl⟩
      have hn1 : ¬ ((j : Int) < (n : Int)) := by omega
      go_wp2_with fail
      refine (Copy.copy_any p D 4 F _ (by omega) hM.out).mono ?_
      rintro e w3 ⟨p', D', rfl, hp', hD', hM3, hb3⟩
      have M3 := hide (hM.out.below hb3)
      have N3 := hide hM3
      have B3 := hide (below_then hB.out hb3)
      have hpl : p < wo.heap.size := block_lt_of_cell hM.out.2.2.1.choose_spec.2
      have hDl : D < wo.heap.size := hM.out.2.2.2.lt
      have HS : Hid (p ≠ p' ∧ p ≠ D' ∧ D ≠ p' ∧ D ≠ D' ∧ w.heap.size ≤ p' ∧ w.heap.size ≤ D') := hide (by have := hB.out.size; omega)
      clear hM3 hb3 hp' hD' hpl hDl hM hB
      go_wp2_with (first | ((with_reducible refine Arr.wpList_alloc_zero rfl 50 (by rfl) _ _ info50 w3.heap.size rfl ?_)))
      have R4 := hide (was_new w3 F)
      have M4 := hide (M3.out.below ((Below.refl w3.heap.size w3).alloc (Nat.le_refl _) (.cells (wasL (fun _ => 0) 0).toArray 50)))
      have N4 := hide (N3.out.below ((Below.refl w3.heap.size w3).alloc (Nat.le_refl _) (.cells (wasL (fun _ => 0) 0).toArray 50)))
      have B4 := hide (B3.out.alloc B3.out.size (.cells (wasL (fun _ => 0) 0).toArray 50))
      have hBW : Hid (w.heap.size ≤ w3.heap.size ∧ w3.heap.size ≠ p ∧ w3.heap.size ≠ D ∧ w3.heap.size ≠ p' ∧ w3.heap.size ≠ D') := hide (by
        have e1 : p < w3.heap.size := block_lt_of_cell M3.out.2.2.1.choose_spec.2
        have e2 : D < w3.heap.size := M3.out.2.2.2.lt
        have e3 : p' < w3.heap.size := block_lt_of_cell N3.out.2.2.1.choose_spec.2
        have e4 : D' < w3.heap.size := N3.out.2.2.2.lt
        have := B3.out.size
        omega)
      obtain ⟨BW, hBWe⟩ : ∃ BW, BW = w3.heap.size := ⟨_, rfl⟩
      rw [← hBWe] at R4 hBW ⊢
      clear hBWe M3 N3 B3
      have hi50 := (zero_of_info (P := Try.prog) info50).2
      go_loopw [49] (fun i wr => ∃ b : Nat, b ≤ 4 ∧ i = .int .i64 b ∧ Hid (MemAt wr p D 4 F) ∧ Hid (MemAt wr p' D' 4 F) ∧ Hid (wr.rowIs BW 50 64 (wasF F b)) ∧ Hid (Below w.heap.size w wr)) (fun i _ => 4 - (intOf i).toNat)
      case atStart => exact ⟨0, by omega, rfl, M4, N4, R4, B4⟩
      case round =>
        clear M4 N4 R4 B4
        obtain ⟨b, hb, rfl, hM, hN, hW, hB⟩ := hrel
        by_cases hlt : b < 4
        · have hblt : (b : Int) < 4 := by omega
          have hW1 := hide (block_any p D 4 F (b : Int) _ hM.out)
          have HI := hide (zero_of_info (P := Try.prog) info36').2
          go_wp2_with fail
          refine hW1.out.mono ?_
          rintro e w5 ⟨rfl, hb5⟩
          have hlw := hW.out.lt
          have hW5 := hW.out.of_block (hb5.block _ hlw)
          have hM5 := hM.out.below hb5
          have hN5 := hN.out.below hb5
          have HTH := hide (was_there hW5 hlt)
          have hg6 := hide (only_setCells (a := w5) (w := w5) (D := BW) (blk (getBlk F 4 (b : Int))) (b * 16) w5 (World.grownBy.refl w5 _))
          have R6 := hide (was_row hW5 hlt)
          have M6 := hide (hM5.other hg6.out (Ne.symm hBW.out.2.1) (Ne.symm hBW.out.2.2.1))
          have N6 := hide (hN5.other hg6.out (Ne.symm hBW.out.2.2.2.1) (Ne.symm hBW.out.2.2.2.2))
          have B6 := hide ((below_then hB.out hb5).grown hg6.out (below_then hB.out hb5).size (by intro k hk; cases hk; exact hBW.out.1))
          have HO := hide (all_oneCell_toArray (blk_one (getBlk F 4 (b : Int))))
          clear hb5 hW5 hM5 hN5 hM hN hW hB hlw
          go_wp2_with (first
            | ((with_reducible refine wpList_store_mid rfl 36 (.tmp 59) (.tmp 57) rfl BW (b * 16) (blk (getBlk F 4 (b : Int))).toArray ?_ ?_ ?_ ?_ HO.out ?_); (· rfl); (· rfl); (· simpa [blk_len] using HTH.out); (· rw [HI.out]; simp [blk_len])))
          go_roundw
          case rel => exact ⟨b + 1, by omega, by go_num, M6, N6, R6, B6⟩
          case measure => simp [intOf]; omega
        · have hb4 : b = 4 := by omega
          rw [hb4] at hW
          clear hb4
          have hn2 : ¬ ((b : Int) < 4) := by omega
          obtain ⟨wo, rfl⟩ : ∃ wo : World, wo = wr := ⟨_, rfl⟩
          go_wp2_with fail
          go_loopw [63] (fun i wr => ∃ (l : Nat) (G : Nat → Int), l ≤ m ∧ i = .int .i64 l ∧ Hid (MemAt wr p D 4 F) ∧ Hid (MemAt wr p' D' 4 G) ∧ Hid (wr.rowIs BW 50 64 (wasF F 4)) ∧ Hid (Below w.heap.size w wr)) (fun i _ => m - (intOf i).toNat)
          case atStart => exact ⟨0, F, by omega, rfl, hM, hN, hW, hB⟩
          case round =>
            clear hM hN hW hB
            obtain ⟨l, G, hl, rfl, hM, hN, hW, hB⟩ := hrel
            by_cases hlt : l < m
            · obtain ⟨bb, off, rfl, hbb, hcs⟩ := (Rows4.below HT.out hB.out).1 (by omega)
              obtain ⟨q0, q1, q2, q3⟩ := hcs l hlt
              clear hcs
              have hsz := hB.out.size
              have hlm : (l : Int) < (m : Int) := by omega
              generalize r0 l = o0 at *
              generalize r1 l = o1 at *
              generalize r2 l = o2 at *
              generalize r3 l = o3 at *
              have hb0 := (Below.refl wr.heap.size wr).alloc (Nat.le_refl _) (.cells #[.int .i64 o0, .int .i64 o1, .int .i64 o2, .int .u32 o3] 30)
              have M0 := hide (hM.out.below hb0)
              have N0 := hide (hN.out.below hb0)
              have W0 := hide (hW.out.of_block (hb0.block _ hW.out.lt))
              have B0 := hide (below_then hB.out hb0)
              have C0 := hide (Blk.new wr 30 #[.int .i64 o0, .int .i64 o1, .int .i64 o2, .int .u32 o3])
              have hDl : D' < wr.heap.size := hN.out.2.2.2.lt
              clear hb0 hM hN hW hB
              go_wp2_with fail
              refine (SetWord_any p' D' 4 G _ _ _ _ N0.out).mono ?_
              rintro e w5 ⟨rfl, hN5, hg5⟩
              have N5 := hide hN5
              have M5 := hide (M0.out.other hg5 HS.out.2.1 HS.out.2.2.2.1)
              have W5 := hide (rowIs_grown W0.out hg5 hBW.out.2.2.2.2)
              have B5 := hide (B0.out.grown hg5 B0.out.size (by intro k hk; cases hk; exact HS.out.2.2.2.2.2))
              have C5 := hide (C0.out.grown hg5 (by intro e; injection e with e; omega))
              clear hN5 hg5 M0 N0 W0 B0 C0 q0 q1 q2 q3
              have hc : w5.cell? ⟨wr.heap.size, 0, none⟩ = some (.int .i64 o0) ∧ w5.cell? ⟨wr.heap.size, 1, none⟩ = some (.int .i64 o1) ∧ w5.cell? ⟨wr.heap.size, 2, none⟩ = some (.int .i64 o2) ∧ w5.cell? ⟨wr.heap.size, 3, none⟩ = some (.int .u32 o3) := ⟨C5.out.cell 0, C5.out.cell 1, C5.out.cell 2, C5.out.cell 3⟩
              generalize errOf 4 o1 o2 = er at *
              go_wp2_with fail
              go_region_held3 (fun w' => (w'.cell? ⟨wr.heap.size, 0, none⟩ = some (.int .i64 o0) ∧ w'.cell? ⟨wr.heap.size, 1, none⟩ = some (.int .i64 o1) ∧ w'.cell? ⟨wr.heap.size, 2, none⟩ = some (.int .i64 o2) ∧ w'.cell? ⟨wr.heap.size, 3, none⟩ = some (.int .u32 o3))) (first | exact hc | exact Plays.cells4 (by assumption))
                (first | (go_at_call 21; refine (RefBlk.all_any o3 _).mono ?_; rintro e wa ⟨rfl, hba⟩; have C6 := hide (Blk.below (w := w5.drew) C5.out hba C5.out.lt)) | (go_at_call 16; refine (setblock_any p' D' 4 _ (fun _ => o3) o1 _ (MemAt.below (w := w5.drew) N5.out hba)).mono ?_; rintro e wm ⟨rfl, hN7, hg7⟩; have C7 := hide (Blk.grown C6.out hg7 (by intro e; injection e with e; omega))))
              have N7 := hide hN7
              have M7 := hide ((MemAt.below (w := w5.drew) M5.out hba).other hg7 HS.out.2.1 HS.out.2.2.2.1)
              have W7 := hide (rowIs_grown (World.rowIs.of_block (w := w5.drew) W5.out (hba.block _ W5.out.lt)) hg7 hBW.out.2.2.2.2)
              have hB6 : Below w.heap.size w wa := below_then (w1 := w5.drew) B5.out.drew hba
              have B7 := hide (hB6.grown hg7 hB6.size (by intro k hk; cases hk; exact HS.out.2.2.2.2.2))
              clear hN7 hg7 hba hc
              go_wp2_with fail
              go_roundw
              case rel => exact ⟨l + 1, _, by omega, by go_num, M7, N7, W7, B7⟩
              case measure => simp [intOf]; omega
            · obtain ⟨wo, rfl⟩ : ∃ wo : World, wo = wr := ⟨_, rfl⟩
              have hlm : ¬ ((l : Int) < (m : Int)) := by omega
              go_wp2_with fail
              go_loopw [83] (fun i wr => ∃ b : Nat, b ≤ 4 ∧ i = .int .i64 b ∧ Hid (MemAt wr p D 4 F) ∧ Hid (MemAt wr p' D' 4 G) ∧ Hid (wr.rowIs BW 50 64 (wasF F 4)) ∧ Hid (Below w.heap.size w wr)) (fun i _ => 4 - (intOf i).toNat)
              case atStart => exact ⟨0, by omega, rfl, hM, hN, hW, hB⟩
              case round =>
                clear hM hN hW hB
                obtain ⟨b, hb, rfl, hM, hN, hW, hB⟩ := hrel
                by_cases hlt : b < 4
                · have hblt : (b : Int) < 4 := by omega
                  have hb0 : (0 : Int) ≤ (b : Int) := by omega
                  have hW1 := hide (block_any p D 4 F (b : Int) _ hM.out)
                  have HI := hide (zero_of_info (P := Try.prog) info36').2
                  have hu := Try.underlying36
                  have hs1 := size36 (getBlk F 4 (b : Int))
                  have hq : ∀ w, (Op.equalIn 10000 36 (.agg (blk (getBlk F 4 (b : Int))).toArray) (.agg (blk (getBlk F 4 (b : Int))).toArray)).run Try.prog w = .ok true w := fun w => by rw [eq36, eqB_true (fun _ _ => rfl)]
                  go_wp2_with fail
                  refine hW1.out.mono ?_
                  rintro e w5 ⟨rfl, hb5⟩
                  have hb6 := hide (hb5.trans (((Below.refl w5.heap.size w5).alloc (Nat.le_refl _) (.cells (blk (getBlk F 4 (b : Int))).toArray 36)).mono hb5.size))
                  have M6 := hide (hM.out.below hb6.out)
                  have N6 := hide (hN.out.below hb6.out)
                  have W6 := hide (hW.out.of_block (hb6.out.block _ hW.out.lt))
                  have B6 := hide (below_then hB.out hb6.out)
                  have G6 := hide (was_range W6.out hlt)
                  have C6 := hide (row_range (blk_new w5 36 (getBlk F 4 (b : Int))))
                  clear hb5 hM hN hW hB hb6
                  generalize getBlk F 4 (b : Int) = v at *
                  go_wp2_with (first
                    | ((with_reducible refine Arr.wpList_alloc_zero rfl 36 (by rfl) _ _ info36' w5.heap.size rfl ?_))
                    | ((with_reducible refine Arr.wpList_store_last rfl 36 _ _ rfl _ _ w5.heap.size rfl rfl rfl HI.out ?_ ?_ ?_ ?_); (· simp [blk_len]); (· simp [blk_len]); (· simpa using blk_one v)))
                  refine wp_region_held_drew (S := fun w' => w'.rangeAt w5.heap.size 0 (blk v) ∧ w'.rangeAt BW (b * 16) (blk v)) (by kernel_rfl) ⟨C6.out, G6.out⟩ (fun hH0 => ?_)
                  refine wpAnyH_take (i := 0) (v := _) rfl (by kernel_rfl) (by kernel_rfl) (by kernel_rfl) (fun _ _ _ h => h) (yieldsIf_load_mid (by rfl) _ _ rfl _ _ rfl _ _ (fun w h => h.1) hu rfl hs1) hH0 ?_
                  simp only [Act.put, List.getElem_toArray, List.getElem_cons_zero, List.getElem_cons_succ, List.setIfInBounds_toArray, List.set_cons_zero, List.set_cons_succ]
                  refine wpAnyH_take (i := 1) (v := ?_) rfl (by kernel_rfl) (by kernel_rfl) (by kernel_rfl) (fun _ _ _ h => h) (Or.inl ⟨by rfl, fun w hSw => ?_⟩) hH0 ?_
                  rotate_left
                  · clear hSw
                    go_simp
                    try with_reducible rfl
                  simp only [Act.put, List.getElem_toArray, List.getElem_cons_zero, List.getElem_cons_succ, List.setIfInBounds_toArray, List.set_cons_zero, List.set_cons_succ]
                  refine wpAnyH_take (i := 2) (v := ?_) rfl (by kernel_rfl) (by kernel_rfl) (by kernel_rfl) (fun _ _ _ h => h) (Or.inl ⟨by rfl, fun w hSw => ?_⟩) hH0 ?_
                  rotate_left
                  · clear hSw
                    go_simp
                    try with_reducible rfl
                  simp only [Act.put, List.getElem_toArray, List.getElem_cons_zero, List.getElem_cons_succ, List.setIfInBounds_toArray, List.set_cons_zero, List.set_cons_succ]
                  refine wpAnyH_take (i := 3) (v := _) rfl (by kernel_rfl) (by kernel_rfl) (by kernel_rfl) (fun _ _ _ h => h) (yieldsIf_load_mid (by rfl) _ _ rfl _ _ rfl _ _ (fun w h => h.2) hu rfl hs1) hH0 ?_
                  simp only [Act.put, List.getElem_toArray, List.getElem_cons_zero, List.getElem_cons_succ, List.setIfInBounds_toArray, List.set_cons_zero, List.set_cons_succ]
                  refine wpAnyH_take (i := 4) (v := ?_) rfl (by kernel_rfl) (by kernel_rfl) (by kernel_rfl) (fun _ _ _ h => h) (Or.inl ⟨by rfl, fun w hSw => ?_⟩) hH0 ?_
                  rotate_left
                  · clear hSw
                    go_simp
                    try with_reducible rfl
                  simp only [Act.put, List.getElem_toArray, List.getElem_cons_zero, List.setIfInBounds_toArray, List.set_cons_zero, List.set_cons_succ]
                  refine wpAnyH_done (by kernel_rfl) ?_ _
                  clear hH0
                  go_wp2_with fail
                  go_roundw
                  case rel => exact ⟨b + 1, by omega, by go_num, M6, N6, W6, hide B6.out.drew⟩
                  case measure => simp [intOf]; omega
                · have hblt : ¬ ((b : Int) < 4) := by omega
                  go_wp2_with fail
                  refine (Blocks_any p' D' 4 G _ hN.out).mono ?_
                  rintro e wx ⟨rfl, rfl⟩
                  go_wp2_with fail
                  refine (works_any _).mono ?_
                  rintro e w7 ⟨rfl, hb7⟩
                  go_wp2
                  go_ret
                  exact ⟨rfl, below_then hB.out hb7⟩

theorem copies (A C : Option Addr) (n c m d : Nat) (hn : n ≤ maxLen) (hm : m ≤ maxLen) (s0 s1 s2 s3 r0 r1 r2 r3 : Nat → Int) (w : World)
    (hR : Rows4 w w.heap.size .i64 .i64 .i64 .u32 A n s0 s1 s2 s3) (hT : Rows4 w w.heap.size .i64 .i64 .i64 .u32 C m r0 r1 r2 r3) :
    Calls Try.prog 8 #[.slice A n c, .slice C m d] w fun e w' => e = .returned (.bool true) ∧ Below w.heap.size w w' := by
  by_cases h : n ≤ 300
  · by_cases h2 : m ≤ 300
    · exact short A C n c m d h h2 s0 s1 s2 s3 r0 r1 r2 r3 w hR hT
    · exact long2 A C n c m d h hm (by omega) w
  · exact long1 A C n c m d hn hm (by omega) w
end Go.Proofs.Ytmdacnegiilgfaa.Copies
