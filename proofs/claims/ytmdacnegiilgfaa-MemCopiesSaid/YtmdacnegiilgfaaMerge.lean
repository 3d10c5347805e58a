/-
  Merge walked, the program's and the reference's: of two blocks the one that takes the words of the second where a bit is set.
-/
import Derived.Test.YtmdacnegiilgfaaMem
import Derived.Test.YtmdacnegiilgfaaBlks
import Derived.Test.YtmdacnegiilgfaaArr
namespace Go.Proofs.Ytmdacnegiilgfaa.Merge
open Go.RowKit Base Mem Blks
set_option linter.unusedVariables false

/-- Whether a word is one of the words. -/
def bit (m : Int) (j : Nat) : Bool := decide (m / 2 ^ j % 2 = 1)
def mergeF (f g : Nat → Int) (m : Int) : Nat → Int := fun j => if bit m j = true then g j else f j
/-- Merged as far as i. -/
def mergeK (f g : Nat → Int) (m : Int) (i : Nat) : Nat → Int := fun j => if j < i ∧ bit m j = true then g j else f j

theorem bit_and {m : Int} (h0 : 0 ≤ m) (h1 : m ≤ 65535) (j : Nat) (hj : j < 16) : (bits .and .u16 (m / 2 ^ j) 1 == 1) = bit m j := by
  have hd : 0 ≤ m / 2 ^ j ∧ m / 2 ^ j ≤ 65535 := by
    constructor
    · exact Int.ediv_nonneg h0 (Int.le_of_lt (Int.pow_pos (by omega)))
    · exact Int.le_trans (Int.ediv_le_self _ h0) h1
  rw [u16_and _ _ hd.1 (by omega) (by omega) (by omega)]
  unfold bit
  rw [show (1 : Int).toNat = 1 from rfl, nat_mask1]
  rw [Bool.eq_iff_iff, beq_iff_eq, decide_eq_true_iff]
  omega

theorem mergeK_miss {f g : Nat → Int} {m : Int} {k : Nat} (hb : bit m k = false) (j : Nat) : mergeK f g m k j = mergeK f g m (k + 1) j := by
  unfold mergeK
  by_cases e : j = k
  · subst e; simp [hb]
  · have : (j < k ∧ bit m j = true) ↔ (j < k + 1 ∧ bit m j = true) := ⟨fun h => ⟨by omega, h.2⟩, fun h => ⟨by omega, h.2⟩⟩
    simp only [this]
theorem mergeK_hit {f g : Nat → Int} {m : Int} {k : Nat} (hb : bit m k = true) (j : Nat) : (if j = k then g k else mergeK f g m k j) = mergeK f g m (k + 1) j := by
  unfold mergeK
  by_cases e : j = k
  · subst e; simp [hb]
  · have : (j < k ∧ bit m j = true) ↔ (j < k + 1 ∧ bit m j = true) := ⟨fun h => ⟨by omega, h.2⟩, fun h => ⟨by omega, h.2⟩⟩
    simp only [this, e, if_false]
theorem mergeK_all {f g : Nat → Int} {m : Int} (j : Nat) (hj : j < 16) : mergeK f g m 16 j = mergeF f g m j := by
  unfold mergeK mergeF
  simp [hj]
theorem pow_step {m : Int} (h0 : 0 ≤ m) (h1 : m ≤ 65535) (k : Nat) : 0 ≤ m / 2 ^ k ∧ m / 2 ^ k ≤ 65535 ∧ m / 2 ^ k / 2 = m / 2 ^ (k + 1) :=
  ⟨Int.ediv_nonneg h0 (Int.le_of_lt (Int.pow_pos (by omega))), Int.le_trans (Int.ediv_le_self _ h0) h1, by rw [Int.pow_succ, Int.ediv_ediv_of_nonneg (Int.le_of_lt (Int.pow_pos (by omega)))]⟩
theorem info36' : (Try.prog.info? 36).map (fun i => (i.zero, i.size)) = some (some (.agg (blk (fun _ => 0)).toArray), 16) := by kernel_rfl
theorem merge_any (f g : Nat → Int) (m : Int) (hm0 : 0 ≤ m) (hm1 : m ≤ 65535) (w : World) :
    Calls Try.prog 14 #[.agg (blk f).toArray, .agg (blk g).toArray, .int .u16 m] w fun e w' => e = .returned (.agg (blk (mergeF f g m)).toArray) ∧ Below w.heap.size w w' := by
  go_enter Try.func14, Try.ntmps14
  go_wp2_with (first | ((with_reducible refine Arr.wpList_alloc_zero rfl 36 rfl _ _ info36' (w.heap.size + 1 + 1) ?_ ?_); (· simp)))
  go_loopw [8] (fun i wr => ∃ k : Nat, k ≤ 16 ∧ i = .int .i64 k ∧ Hid (BlkAt wr w.heap.size 36 (mergeK f g m k)) ∧ Hid (BlkAt wr (w.heap.size + 1) 36 g) ∧ Hid (BlkAt wr (w.heap.size + 1 + 1) 36 (fun _ => 0)) ∧ Hid (Below w.heap.size w wr)) (fun i _ => 16 - (intOf i).toNat)
  case atStart =>
    refine ⟨0, by omega, rfl, hide ?_, hide ?_, hide ?_, hide ((((Below.refl _ _).alloc (Nat.le_refl _) _).alloc (by simp) _).alloc (by simp; omega) _)⟩
    · exact (((blk_new w 36 f).congr (fun j _ => by simp [mergeK])).alloc _).alloc _
    · have h := blk_new (w.alloc (.cells (blk f).toArray 36)) 36 g
      rw [World.size_alloc] at h
      exact h.alloc _
    · have h := blk_new ((w.alloc (.cells (blk f).toArray 36)).alloc (.cells (blk g).toArray 36)) 36 (fun _ => 0)
      rw [World.size_alloc, World.size_alloc] at h
      exact h
  case round =>
    obtain ⟨k, hk, rfl, hA, hB, hC, hW⟩ := hrel
    by_cases hlt : k < 16
    · have hb := bit_and hm0 hm1 k hlt
      cases hbk : bit m k
      · rw [hbk] at hb
        have hA2 : Hid (BlkAt wr w.heap.size 36 (mergeK f g m (k + 1))) := hA.out.congr fun j _ => by rw [mergeK_miss hbk j]
        clear hbk
        go_wp2
        go_roundw
        case rel => exact ⟨k + 1, by omega, by go_num, hA2, hB, hC, hW⟩
        case measure => simp [intOf]; omega
      · rw [hbk] at hb
        have c1 := hB.out.cell hlt
        have c2 := hA.out.cell hlt
        have c3 := hA.out.frozen k
        have hA2 : Hid (BlkAt (wr.setCell ⟨w.heap.size, k, none⟩ (.int .u32 (g k))) w.heap.size 36 (mergeK f g m (k + 1))) := (row_set hA.out k (g k)).congr fun j _ => by
          show Value.int .u32 (if j = k then g k else mergeK f g m k j) = _
          rw [mergeK_hit hbk j]
        have hB2 := hide (hB.out.setOther (a := ⟨w.heap.size, k, none⟩) (by simp) (.int .u32 (g k)))
        have hC2 := hide (hC.out.setOther (a := ⟨w.heap.size, k, none⟩) (by simp; omega) (.int .u32 (g k)))
        have hW2 := hide (hW.out.setCell (p := ⟨w.heap.size, k, none⟩) (by simp) (.int .u32 (g k)))
        clear hbk
        go_wp2
        go_roundw
        case rel => exact ⟨k + 1, by omega, by go_num, hA2, hB2, hC2, hW2⟩
        case measure => simp [intOf]; omega
    · have hk16 : k = 16 := by omega
      subst hk16
      have hA' : BlkAt wr w.heap.size 36 (mergeF f g m) := hA.out.congr fun j hj => by rw [mergeK_all j hj]
      have HA := hide hA'
      clear hA hA'
      have hi := (zero_of_info (P := Try.prog) info36').2
      have HI := hide hi
      clear hi
      go_wp2_with (first
        | ((with_reducible refine load_blk rfl 36 _ rfl w.heap.size rfl HA.out Try.underlying36 HI.out ?_))
        | ((with_reducible refine store_blk rfl 36 _ _ rfl (w.heap.size + 1 + 1) rfl (mergeF f g m) rfl hC.out HI.out ?_)))
      exact bodyPost_ret (v := .agg (blk (mergeF f g m)).toArray) (ret_blk (b := w.heap.size + 1 + 1) Try.results14 rfl (row_setCells hC.out _) Try.underlying36 HI.out) rfl ⟨rfl, below_setCells _ _ _ hW.out (by omega)⟩
theorem mergeR_any (f g : Nat → Int) (m : Int) (hm0 : 0 ≤ m) (hm1 : m ≤ 65535) (w : World) :
    Calls Try.prog 15 #[.agg (blk f).toArray, .agg (blk g).toArray, .int .u16 m] w fun e w' => e = .returned (.agg (blk (mergeF f g m)).toArray) ∧ Below w.heap.size w w' := by
  go_enter Try.func15, Try.ntmps15
  go_wp2_with (first | ((with_reducible refine Arr.wpList_alloc_zero rfl 36 rfl _ _ info36' (w.heap.size + 1 + 1) ?_ ?_); (· simp)))
  go_loopw [7, 8] (fun u i wr => ∃ k : Nat, k ≤ 16 ∧ u = .int .i64 (m / 2 ^ k) ∧ i = .int .i64 k ∧ Hid (BlkAt wr w.heap.size 36 (mergeK f g m k)) ∧ Hid (BlkAt wr (w.heap.size + 1) 36 g) ∧ Hid (BlkAt wr (w.heap.size + 1 + 1) 36 (fun _ => 0)) ∧ Hid (Below w.heap.size w wr)) (fun _ i _ => 16 - (intOf i).toNat)
  case atStart =>
    refine ⟨0, by omega, by simp, rfl, hide ?_, hide ?_, hide ?_, hide ((((Below.refl _ _).alloc (Nat.le_refl _) _).alloc (by simp) _).alloc (by simp; omega) _)⟩
    · exact (((blk_new w 36 f).congr (fun j _ => by simp [mergeK])).alloc _).alloc _
    · have h := blk_new (w.alloc (.cells (blk f).toArray 36)) 36 g
      rw [World.size_alloc] at h
      exact h.alloc _
    · have h := blk_new ((w.alloc (.cells (blk f).toArray 36)).alloc (.cells (blk g).toArray 36)) 36 (fun _ => 0)
      rw [World.size_alloc, World.size_alloc] at h
      exact h
  case round =>
    obtain ⟨k, hk, rfl, rfl, hA, hB, hC, hW⟩ := hrel
    have hq := pow_step hm0 hm1 k
    obtain ⟨hq0, hq1, hq2⟩ := hq
    have HQ2 := hide hq2
    clear hq2
    by_cases hlt : k < 16
    · have hb : (m / 2 ^ k % 2 == 1) = bit m k := by unfold bit; rw [Bool.eq_iff_iff, beq_iff_eq, decide_eq_true_iff]
      cases hbk : bit m k
      · rw [hbk] at hb
        have hA2 : Hid (BlkAt wr w.heap.size 36 (mergeK f g m (k + 1))) := hA.out.congr fun j _ => by rw [mergeK_miss hbk j]
        clear hbk
        go_wp2
        go_roundw
        case rel => exact ⟨k + 1, by omega, by rw [← HQ2.out], by go_num, hA2, hB, hC, hW⟩
        case measure => simp [intOf]; omega
      · rw [hbk] at hb
        have c1 := hB.out.cell hlt
        have c2 := hA.out.cell hlt
        have c3 := hA.out.frozen k
        have hA2 : Hid (BlkAt (wr.setCell ⟨w.heap.size, k, none⟩ (.int .u32 (g k))) w.heap.size 36 (mergeK f g m (k + 1))) := (row_set hA.out k (g k)).congr fun j _ => by
          show Value.int .u32 (if j = k then g k else mergeK f g m k j) = _
          rw [mergeK_hit hbk j]
        have hB2 := hide (hB.out.setOther (a := ⟨w.heap.size, k, none⟩) (by simp) (.int .u32 (g k)))
        have hC2 := hide (hC.out.setOther (a := ⟨w.heap.size, k, none⟩) (by simp; omega) (.int .u32 (g k)))
        have hW2 := hide (hW.out.setCell (p := ⟨w.heap.size, k, none⟩) (by simp) (.int .u32 (g k)))
        clear hbk
        go_wp2
        go_roundw
        case rel => exact ⟨k + 1, by omega, by rw [← HQ2.out], by go_num, hA2, hB2, hC2, hW2⟩
        case measure => simp [intOf]; omega
    · have hk16 : k = 16 := by omega
      subst hk16
      have hA' : BlkAt wr w.heap.size 36 (mergeF f g m) := hA.out.congr fun j hj => by rw [mergeK_all j hj]
      have HA := hide hA'
      clear hA hA'
      have hi := (zero_of_info (P := Try.prog) info36').2
      have HI := hide hi
      clear hi
      go_wp2_with (first
        | ((with_reducible refine load_blk rfl 36 _ rfl w.heap.size rfl HA.out Try.underlying36 HI.out ?_))
        | ((with_reducible refine store_blk rfl 36 _ _ rfl (w.heap.size + 1 + 1) rfl (mergeF f g m) rfl hC.out HI.out ?_)))
      exact bodyPost_ret (v := .agg (blk (mergeF f g m)).toArray) (ret_blk (b := w.heap.size + 1 + 1) Try.results15 rfl (row_setCells hC.out _) Try.underlying36 HI.out) rfl ⟨rfl, below_setCells _ _ _ hW.out (by omega)⟩
end Go.Proofs.Ytmdacnegiilgfaa.Merge
