/-
  MemBlocks walked: a block is its words; merged with all its words it is the other one, with none it is itself. It returns true.
-/
import Derived.Test.YtmdacnegiilgfaaBlock
import Derived.Outline
namespace Go.Proofs.Ytmdacnegiilgfaa.Blocks
open Go.RowKit Base Mem Blks Merge Merges Block
set_option linter.unusedVariables false
set_option linter.unusedSimpArgs false

theorem merge_ones (f g : Nat → Int) : eqB (mergeF f g 65535) g = true := eqB_true fun j hj => by
  unfold mergeF
  have e : bit 65535 j = true := by
    have : j = 0 ∨ j = 1 ∨ j = 2 ∨ j = 3 ∨ j = 4 ∨ j = 5 ∨ j = 6 ∨ j = 7 ∨ j = 8 ∨ j = 9 ∨ j = 10 ∨ j = 11 ∨ j = 12 ∨ j = 13 ∨ j = 14 ∨ j = 15 := by omega
    rcases this with h | h | h | h | h | h | h | h | h | h | h | h | h | h | h | h <;> rw [h] <;> decide
  rw [if_pos e]
theorem merge_none (f g : Nat → Int) : eqB (mergeF f g 0) f = true := eqB_true fun j hj => by
  unfold mergeF
  have e : bit 0 j = false := by
    unfold bit
    rw [Int.zero_ediv]
    rfl
  rw [e]
  simp
theorem part_blk (F : Nat → Int) {i : Nat} (hi : i < 16) (w : World) : (part 23 (blk F).toArray i).run Try.prog w = .ok (.int .u32 (F i)) w := by
  have hagg : (isAgg 23).run Try.prog w = .ok false w := by
    unfold isAgg
    rw [Sem.run_bind, run_underlying Try.underlying23 w]
    simp
  unfold part
  simp [Sem.run_bind, hagg, blk_get F hi]
theorem index_blk (f : Nat → Int) {k : Nat} (hk : k < 16) (w : World) : (Instr.index 36 (.agg (blk f).toArray) (.int .i64 (k : Int))).run Try.prog w = .ok (.int .u32 (f k)) w := by
  obtain ⟨i, hi⟩ := info23
  have hs : i.size = 1 := by
    have := cells23
    simpa [Program.cellsOf, hi] using this
  have hp := part_blk f hk w
  have h0 : (0 : Int) ≤ (k : Int) ∧ (k : Int) < 16 := by omega
  simp [Instr.index, asIntOf, run_underlying Try.underlying36, h0, sizeOf, typeInfo, hi, hs, hp]
  intro h
  omega

def over (a : Nat) (f g : Nat → Int) (k i : Nat) : Int := if a ≤ i ∧ i < a + 16 then (if i - a < k then g (i - a) else f (i - a)) else 0
theorem idx_add {b : Int} (h0 : 0 ≤ b) (k : Nat) : idx b k = idx b 0 + k := by
  simp only [idx]
  omega
theorem over_get {b : Int} (hb : inr 4 b 0 = true) (f g : Nat → Int) {k : Nat} (hk : k < 16) : getOf (over (idx b 0) f g k) 4 b k = f k := by
  have h := inr_iff.1 hb
  have h2 : inr 4 b k = true := inr_iff.2 ⟨h.1, h.2.1, by omega, by omega⟩
  simp only [getOf, h2, if_true, over, idx_add h.1 k]
  rw [if_pos (by omega), if_neg (by omega)]
  congr 1
  omega
theorem over_upd {b : Int} (hb : inr 4 b 0 = true) (f g : Nat → Int) {k : Nat} (hk : k < 16) : upd (over (idx b 0) f g k) 4 b k (g k) = over (idx b 0) f g (k + 1) := by
  have h := inr_iff.1 hb
  have h2 : inr 4 b k = true := inr_iff.2 ⟨h.1, h.2.1, by omega, by omega⟩
  funext i
  simp only [upd, h2, true_and, over, idx_add h.1 k]
  by_cases e : i = idx b 0 + k
  · subst e
    rw [if_pos rfl, if_pos (by omega), if_pos (by omega)]
    congr 1
    omega
  · rw [if_neg e]
    by_cases e2 : idx b 0 ≤ i ∧ i < idx b 0 + 16
    · rw [if_pos e2, if_pos e2]
      by_cases e3 : i - idx b 0 < k
      · rw [if_pos e3, if_pos (by omega)]
      · rw [if_neg e3, if_neg (by omega)]
    · rw [if_neg e2, if_neg e2]
theorem over_zero {b : Int} (hb : inr 4 b 0 = true) (f g : Nat → Int) : putBlk (fun _ => 0) 4 b f = over (idx b 0) f g 0 := by
  funext i
  simp [putBlk, hb, over, idx]
theorem over_all {b : Int} (hb : inr 4 b 0 = true) (f g : Nat → Int) {j : Nat} (hj : j < 16) : getBlk (over (idx b 0) f g 16) 4 b j = g j := by
  have e : b.toNat * 16 + (0 : Int).toNat = b.toNat * 16 := by simp
  simp only [getBlk, hb, if_true, part16, over, idx, e]
  rw [if_pos (by omega), if_pos (by omega)]
  congr 1
  omega
theorem range_grown {w w' : World} {b o D : Nat} {cs : List Value} (h : w.rangeAt b o cs) (hb : w.grownBy w' (some D)) (hD : b ≠ D) : w'.rangeAt b o cs := fun j v hv =>
  (World.cell?_of_block (w := w) (hb.block b (block_lt_of_cell (h j v hv)) (fun e => hD (by injection e)))).trans (h j v hv)
set_option maxHeartbeats 1000000 in
theorem blocks (f g : Nat → Int) (at_ : Int) (w : World) :
    Calls Try.prog 6 #[.agg (blk f).toArray, .agg (blk g).toArray, .int .i64 at_] w fun e w' => e = .returned (.bool true) ∧ Below w.heap.size w w' := by
  have hgd := guard36
  have hu := Try.underlying36
  have hs1 := size36 f
  have hs2 := size36 g
  have M1 := hide (fun w1 => merge_any f g 65535 (by omega) (by omega) w1)
  have M2 := hide (fun w1 => merge_any f g 0 (by omega) (by omega) w1)
  have hq1 : ∀ w, (Op.equalIn 10000 36 (.agg (blk (mergeF f g 65535)).toArray) (.agg (blk g).toArray)).run Try.prog w = .ok true w := fun w => by rw [eq36, merge_ones f g]
  have hq2 : ∀ w, (Op.equalIn 10000 36 (.agg (blk (mergeF f g 0)).toArray) (.agg (blk f).toArray)).run Try.prog w = .ok true w := fun w => by rw [eq36, merge_none f g]
  have B0 := hide ((blk_new w 36 f).alloc (.cells (blk g).toArray 36))
  have B1 : Hid (BlkAt ((w.alloc (.cells (blk f).toArray 36)).alloc (.cells (blk g).toArray 36)) (w.heap.size + 1) 36 g) := by
    have h := blk_new (w.alloc (.cells (blk f).toArray 36)) 36 g
    rw [World.size_alloc] at h
    exact h
  have W0 := hide (((Below.refl w.heap.size w).alloc (Nat.le_refl _) (.cells (blk f).toArray 36)).alloc (by simp) (.cells (blk g).toArray 36))
  go_enter Try.func6, Try.ntmps6
  go_wp2_with fail
  refine (New_ok 4 (by omega) (by omega) _).mono ?_
  rintro e w1 ⟨rfl, hM1, hb1⟩
  obtain ⟨p, hp⟩ : ∃ p, p = ((w.alloc (.cells (blk f).toArray 36)).alloc (.cells (blk g).toArray 36)).heap.size + 1 := ⟨_, rfl⟩
  obtain ⟨D, hD⟩ : ∃ D, D = ((w.alloc (.cells (blk f).toArray 36)).alloc (.cells (blk g).toArray 36)).heap.size := ⟨_, rfl⟩
  rw [← hp, ← hD] at hM1
  have hDge : w.heap.size ≤ D := by rw [hD]; simp; omega
  have hDne : w.heap.size + 1 < D := by rw [hD]; simp
  rw [← hp]
  clear hp hD
  have S1 := (⟨range_next (row_range B0.out) hb1, range_next (row_range B1.out) hb1, hM1, W0.out.trans (hb1.mono (by simp; omega))⟩ : (w1.rangeAt w.heap.size 0 (blk f) ∧ w1.rangeAt (w.heap.size + 1) 0 (blk g) ∧ MemAt w1 p D 4 (fun _ => 0) ∧ Below w.heap.size w w1))
  have HS1 := hide S1
  clear S1 hM1 hb1
  go_wp2_with fail
  have hnext : ∀ (u1 u2 : World), Below u1.heap.size u1 u2 → (u1.rangeAt w.heap.size 0 (blk f) ∧ u1.rangeAt (w.heap.size + 1) 0 (blk g) ∧ MemAt u1 p D 4 (fun _ => 0) ∧ Below w.heap.size w u1) → (u2.rangeAt w.heap.size 0 (blk f) ∧ u2.rangeAt (w.heap.size + 1) 0 (blk g) ∧ MemAt u2 p D 4 (fun _ => 0) ∧ Below w.heap.size w u2) :=
    fun u1 u2 hb h => ⟨range_next h.1 hb, range_next h.2.1 hb, MemAt.below h.2.2.1 hb, h.2.2.2.trans (hb.mono h.2.2.2.size)⟩
  refine wp_region_held_drew (S := fun w' => w'.rangeAt w.heap.size 0 (blk f) ∧ w'.rangeAt (w.heap.size + 1) 0 (blk g) ∧ MemAt w' p D 4 (fun _ => 0) ∧ Below w.heap.size w w') (by kernel_rfl) ⟨HS1.out.1, HS1.out.2.1, HS1.out.2.2.1, HS1.out.2.2.2.drew⟩ (fun hH0 => ?_)
  refine wpAnyH_take (i := 0) (v := ?_) rfl (by kernel_rfl) (by kernel_rfl) (by kernel_rfl) (fun _ _ _ h => h) (Or.inl ⟨by rfl, fun w hSw => ?_⟩) hH0 ?_
  rotate_left
  · clear hSw
    go_simp
    try with_reducible rfl
  try simp only [Act.put, List.getElem_toArray, List.getElem_cons_zero, List.getElem_cons_succ, List.setIfInBounds_toArray, List.set_cons_zero, List.set_cons_succ]
  refine wpAnyH_take (i := 1) (v := ?_) rfl (by kernel_rfl) (by kernel_rfl) (by kernel_rfl) (fun _ _ _ h => h) (Or.inl ⟨by rfl, fun w hSw => ?_⟩) hH0 ?_
  rotate_left
  · clear hSw
    go_simp
    try with_reducible rfl
  try simp only [Act.put, List.getElem_toArray, List.getElem_cons_zero, List.getElem_cons_succ, List.setIfInBounds_toArray, List.set_cons_zero, List.set_cons_succ]
  refine wpAnyH_take (i := 2) (v := ?_) rfl (by kernel_rfl) (by kernel_rfl) (by kernel_rfl) (fun _ _ _ h => h) (Or.inl ⟨by rfl, fun w hSw => ?_⟩) hH0 ?_
  rotate_left
  · clear hSw
    go_simp
    try with_reducible rfl
  try simp only [Act.put, List.getElem_toArray, List.getElem_cons_zero, List.getElem_cons_succ, List.setIfInBounds_toArray, List.set_cons_zero, List.set_cons_succ]
  refine wpAnyH_take (i := 3) (v := _) rfl (by kernel_rfl) (by kernel_rfl) (by kernel_rfl) (fun _ _ _ h => h) (yieldsIf_load_mid (by rfl) _ _ rfl _ _ rfl _ _ (fun w h => h.1) hu rfl hs1) hH0 ?_
  try simp only [Act.put, List.getElem_toArray, List.getElem_cons_zero, List.getElem_cons_succ, List.setIfInBounds_toArray, List.set_cons_zero, List.set_cons_succ]
  refine wpAnyH_take (i := 4) (v := _) rfl (by kernel_rfl) (by kernel_rfl) (by kernel_rfl) (fun _ _ _ h => h) (yieldsIf_load_mid (by rfl) _ _ rfl _ _ rfl _ _ (fun w h => h.2.1) hu rfl hs2) hH0 ?_
  try simp only [Act.put, List.getElem_toArray, List.getElem_cons_zero, List.getElem_cons_succ, List.setIfInBounds_toArray, List.set_cons_zero, List.set_cons_succ]
  refine wpAnyH_take (i := 6) (v := _) rfl (by kernel_rfl) (by kernel_rfl) (by kernel_rfl) (fun _ _ _ h => h) (yieldsIf_load_mid (by rfl) _ _ rfl _ _ rfl _ _ (fun w h => h.2.1) hu rfl hs2) hH0 ?_
  try simp only [Act.put, List.getElem_toArray, List.getElem_cons_zero, List.getElem_cons_succ, List.setIfInBounds_toArray, List.set_cons_zero, List.set_cons_succ]
  refine wpAnyH_ready (rs := [5]) (by kernel_rfl) (by simp) ?_
  refine AllReadyH.cons (o := _) rfl (fun K hK => ?_) AllReadyH.nil
  go_simp
  refine (M1.out _).mono ?_
  rintro e wc1 ⟨rfl, hc1⟩
  refine hK.out _ _ (hnext _ _ hc1 hH0) (fun hH1 => ?_)
  clear hK K
  try simp only [Act.put, List.getElem_toArray, List.getElem_cons_zero, List.getElem_cons_succ, List.setIfInBounds_toArray, List.set_cons_zero, List.set_cons_succ]
  refine wpAnyH_take (i := 7) (v := ?_) rfl (by kernel_rfl) (by kernel_rfl) (by kernel_rfl) (fun _ _ _ h => h) (Or.inl ⟨by rfl, fun w hSw => ?_⟩) hH1 ?_
  rotate_left
  · clear hSw
    go_simp
    try with_reducible rfl
  try simp only [Act.put, List.getElem_toArray, List.getElem_cons_zero, List.getElem_cons_succ, List.setIfInBounds_toArray, List.set_cons_zero, List.set_cons_succ]
  refine wpAnyH_take (i := 8) (v := ?_) rfl (by kernel_rfl) (by kernel_rfl) (by kernel_rfl) (fun _ _ _ h => h) (Or.inl ⟨by rfl, fun w hSw => ?_⟩) hH1 ?_
  rotate_left
  · clear hSw
    go_simp
    try with_reducible rfl
  try simp only [Act.put, List.getElem_toArray, List.getElem_cons_zero, List.getElem_cons_succ, List.setIfInBounds_toArray, List.set_cons_zero, List.set_cons_succ]
  refine wpAnyH_take (i := 9) (v := ?_) rfl (by kernel_rfl) (by kernel_rfl) (by kernel_rfl) (fun _ _ _ h => h) (Or.inl ⟨by rfl, fun w hSw => ?_⟩) hH1 ?_
  rotate_left
  · clear hSw
    go_simp
    try with_reducible rfl
  try simp only [Act.put, List.getElem_toArray, List.getElem_cons_zero, List.getElem_cons_succ, List.setIfInBounds_toArray, List.set_cons_zero, List.set_cons_succ]
  refine wpAnyH_take (i := 10) (v := _) rfl (by kernel_rfl) (by kernel_rfl) (by kernel_rfl) (fun _ _ _ h => h) (yieldsIf_load_mid (by rfl) _ _ rfl _ _ rfl _ _ (fun w h => h.1) hu rfl hs1) hH1 ?_
  try simp only [Act.put, List.getElem_toArray, List.getElem_cons_zero, List.getElem_cons_succ, List.setIfInBounds_toArray, List.set_cons_zero, List.set_cons_succ]
  refine wpAnyH_take (i := 11) (v := _) rfl (by kernel_rfl) (by kernel_rfl) (by kernel_rfl) (fun _ _ _ h => h) (yieldsIf_load_mid (by rfl) _ _ rfl _ _ rfl _ _ (fun w h => h.2.1) hu rfl hs2) hH1 ?_
  try simp only [Act.put, List.getElem_toArray, List.getElem_cons_zero, List.getElem_cons_succ, List.setIfInBounds_toArray, List.set_cons_zero, List.set_cons_succ]
  refine wpAnyH_take (i := 13) (v := _) rfl (by kernel_rfl) (by kernel_rfl) (by kernel_rfl) (fun _ _ _ h => h) (yieldsIf_load_mid (by rfl) _ _ rfl _ _ rfl _ _ (fun w h => h.1) hu rfl hs1) hH1 ?_
  try simp only [Act.put, List.getElem_toArray, List.getElem_cons_zero, List.getElem_cons_succ, List.setIfInBounds_toArray, List.set_cons_zero, List.set_cons_succ]
  refine wpAnyH_ready (rs := [12]) (by kernel_rfl) (by simp) ?_
  refine AllReadyH.cons (o := _) rfl (fun K hK => ?_) AllReadyH.nil
  go_simp
  refine (M2.out _).mono ?_
  rintro e wc2 ⟨rfl, hc2⟩
  refine hK.out _ _ (hnext _ _ hc2 hH1) (fun hH2 => ?_)
  clear hK K
  try simp only [Act.put, List.getElem_toArray, List.getElem_cons_zero, List.getElem_cons_succ, List.setIfInBounds_toArray, List.set_cons_zero, List.set_cons_succ]
  refine wpAnyH_take (i := 14) (v := ?_) rfl (by kernel_rfl) (by kernel_rfl) (by kernel_rfl) (fun _ _ _ h => h) (Or.inl ⟨by rfl, fun w hSw => ?_⟩) hH2 ?_
  rotate_left
  · clear hSw
    go_simp
    try with_reducible rfl
  try simp only [Act.put, List.getElem_toArray, List.getElem_cons_zero, List.getElem_cons_succ, List.setIfInBounds_toArray, List.set_cons_zero, List.set_cons_succ]
  refine wpAnyH_take (i := 15) (v := ?_) rfl (by kernel_rfl) (by kernel_rfl) (by kernel_rfl) (fun _ _ _ h => h) (Or.inl ⟨by rfl, fun w hSw => ?_⟩) hH2 ?_
  rotate_left
  · clear hSw
    go_simp
    try with_reducible rfl
  try simp only [Act.put, List.getElem_toArray, List.getElem_cons_zero, List.getElem_cons_succ, List.setIfInBounds_toArray, List.set_cons_zero, List.set_cons_succ]
  refine wpAnyH_done (by kernel_rfl) ?_ _
  have HS2 := hide hH2
  clear hH2 HS1 hnext
  have hio : inr 4 at_ 0 = (decide (0 ≤ at_) && decide (at_ < 4)) := by simp [inr]
  by_cases g1 : at_ < 0
  · have d1 := hide (decide_eq_true g1)
    have z1 : errOf 4 at_ 0 = 5 := by
      have hn : ¬ (0 ≤ at_) := by omega
      simp [errOf, hio, hn]
    go_wp2_with (first
      | ((refine wpList_load_mid rfl 36 _ rfl w.heap.size 0 rfl (blk f) _ HS2.out.1 hu rfl hs1 ?_)))
    refine (setblock_any p D 4 (fun _ => 0) f at_ wc2 HS2.out.2.2.1).mono ?_
    rintro e w3 ⟨rfl, hM3, hg3⟩
    rw [z1]
    have W3 := hide hg3
    clear hg3 hM3
    go_wp2_with fail
    refine (works_any _).mono ?_
    rintro e w4 ⟨rfl, hb4⟩
    go_wp2
    go_ret
    exact ⟨rfl, below_then (HS2.out.2.2.2.grown W3.out HS2.out.2.2.2.size (by intro k hk; cases hk; exact hDge)) hb4⟩
  · have d1 := hide (decide_eq_false g1)
    by_cases g2 : 3 < at_
    · have d2 := hide (decide_eq_true g2)
      have z1 : errOf 4 at_ 0 = 5 := by
        have hn : ¬ (at_ < 4) := by omega
        simp [errOf, hio, hn]
      go_wp2_with (first
        | ((refine wpList_load_mid rfl 36 _ rfl w.heap.size 0 rfl (blk f) _ HS2.out.1 hu rfl hs1 ?_)))
      refine (setblock_any p D 4 (fun _ => 0) f at_ wc2 HS2.out.2.2.1).mono ?_
      rintro e w3 ⟨rfl, hM3, hg3⟩
      rw [z1]
      have W3 := hide hg3
      clear hg3 hM3
      go_wp2_with fail
      refine (works_any _).mono ?_
      rintro e w4 ⟨rfl, hb4⟩
      go_wp2
      go_ret
      exact ⟨rfl, below_then (HS2.out.2.2.2.grown W3.out HS2.out.2.2.2.size (by intro k hk; cases hk; exact hDge)) hb4⟩
    · have d2 := hide (decide_eq_false g2)
      have hin : inr 4 at_ 0 = true := by
        rw [hio, decide_eq_true (show 0 ≤ at_ by omega), decide_eq_true (show at_ < 4 by omega)]
        rfl
      have z1 : errOf 4 at_ 0 = 0 := by simp [errOf, hin]
      go_wp2_with (first
        | ((refine wpList_load_mid rfl 36 _ rfl w.heap.size 0 rfl (blk f) _ HS2.out.1 hu rfl hs1 ?_)))
      refine (setblock_any p D 4 (fun _ => 0) f at_ wc2 HS2.out.2.2.1).mono ?_
      rintro e w3 ⟨rfl, hM3, hg3⟩
      rw [z1]
      have R3 := hide (hg3)
      have M3 := hide hM3
      clear hg3 hM3
      go_wp2_with (first
        | ((refine wpList_load_mid rfl 36 _ rfl w.heap.size 0 rfl (blk f) _ (range_grown HS2.out.1 R3.out (by omega)) hu rfl hs1 ?_)))
      have M0 := hide (over_zero hin f g ▸ M3.out)
      have G3 := hide (range_grown HS2.out.2.1 R3.out (by omega))
      have W3 := hide (HS2.out.2.2.2.grown R3.out HS2.out.2.2.2.size (by intro k hk; cases hk; exact hDge))
      clear M3 R3 HS2
      have hz : ∀ k : Nat, k < 16 → errOf 4 at_ (k : Int) = 0 := fun k hk => by
        have h := inr_iff.1 hin
        have h2 : inr 4 at_ (k : Int) = true := inr_iff.2 ⟨h.1, h.2.1, by omega, by omega⟩
        simp [errOf, h2]
      have HZ := hide hz
      have HIN := hide hin
      have Z1 := hide z1
      clear hz hin z1
      go_loopw [54] (fun i wr => ∃ k : Nat, k ≤ 16 ∧ i = .int .i64 k ∧ Hid (MemAt wr p D 4 (over (idx at_ 0) f g k)) ∧ Hid (wr.rangeAt (w.heap.size + 1) 0 (blk g)) ∧ Hid (Below w.heap.size w wr)) (fun i _ => 16 - (intOf i).toNat)
      case atStart => exact ⟨0, by omega, rfl, M0, G3, W3⟩
      case round =>
        obtain ⟨k, hk, rfl, hM, hG, hW⟩ := hrel
        by_cases hlt : k < 16
        · have hix := fun w => index_blk f hlt w
          have hwd := Word_any p D 4 _ at_ (k : Int) wr hM.out
          rw [over_get HIN.out f g hlt, HZ.out k hlt] at hwd
          have hsw := SetWord_any p D 4 _ at_ (k : Int) (g k) wr hM.out
          rw [over_upd HIN.out f g hlt, HZ.out k hlt] at hsw
          have HWD := hide hwd
          have HSW := hide hsw
          clear hwd hsw
          have c1 : wr.cell? ⟨w.heap.size + 1, k, none⟩ = some (.int .u32 (g k)) := by
            have := hG.out k (.int .u32 (g k)) (blk_get g hlt)
            rwa [Nat.zero_add] at this
          go_wp2_with fail
          refine HWD.out.mono ?_
          rintro e wx ⟨rfl, rfl⟩
          go_wp2_with fail
          refine HSW.out.mono ?_
          rintro e w5 ⟨rfl, hM5, hg5⟩
          have M5 := hide hM5
          have G5 := hide (range_grown hG.out hg5 (by omega))
          have W5 := hide (hW.out.grown hg5 hW.out.size (by intro k hk; cases hk; exact hDge))
          clear hM5 hg5
          go_wp2_with fail
          go_roundw
          case rel => exact ⟨k + 1, by omega, by go_num, M5, G5, W5⟩
          case measure => simp [intOf]; omega
        · have hk16 : k = 16 := by omega
          subst hk16
          have hbk := block_any p D 4 _ at_ wr hM.out
          rw [Z1.out, blk_congr (fun j hj => over_all HIN.out f g hj)] at hbk
          have HBK := hide hbk
          clear hbk
          have hq3 : ∀ w, (Op.equalIn 10000 36 (.agg (blk g).toArray) (.agg (blk g).toArray)).run Try.prog w = .ok true w := fun w => by rw [eq36, eqB_true (fun _ _ => rfl)]
          have HI := hide (zero_of_info (P := Try.prog) info36').2
          go_wp2_with fail
          refine HBK.out.mono ?_
          rintro e w6 ⟨rfl, hb6⟩
          have G6 := hide (range_next (range_next hG.out hb6) ((Below.refl w6.heap.size w6).alloc (Nat.le_refl _) (.cells (blk g).toArray 36)))
          have C6 := hide (row_range (blk_new w6 36 g))
          have W6 := hide ((hW.out.trans (hb6.mono hW.out.size)).alloc (Nat.le_trans hW.out.size hb6.size) (.cells (blk g).toArray 36))
          clear hb6
          go_wp2_with (first
            | ((with_reducible refine Arr.wpList_alloc_zero rfl 36 (by rfl) _ _ info36' w6.heap.size rfl ?_))
            | ((with_reducible refine Arr.wpList_store_last rfl 36 _ _ rfl _ _ w6.heap.size rfl rfl rfl HI.out ?_ ?_ ?_ ?_); (· simp [blk_len]); (· simp [blk_len]); (· simpa using blk_one g))
            | ((refine wpList_load_mid rfl 36 (.tmp 13) rfl w6.heap.size 0 rfl (blk g) _ C6.out hu rfl hs2 ?_))
            | ((refine wpList_load_mid rfl 36 (.tmp 4) rfl (w.heap.size + 1) 0 rfl (blk g) _ G6.out hu rfl hs2 ?_)))
          refine (works_any _).mono ?_
          rintro e w7 ⟨rfl, hb7⟩
          go_wp2
          go_ret
          exact ⟨rfl, below_then W6.out hb7⟩
end Go.Proofs.Ytmdacnegiilgfaa.Blocks
