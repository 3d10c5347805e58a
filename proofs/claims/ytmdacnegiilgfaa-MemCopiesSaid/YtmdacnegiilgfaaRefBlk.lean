/-
  The law's 'all', the reference's Block and SetBlock walked, at any memory, any block.
-/
import Derived.Test.YtmdacnegiilgfaaRefMem
import Derived.BigQuiet
namespace Go.Proofs.Ytmdacnegiilgfaa.RefBlk
open Go.RowKit Base Mem Blks Merge Block RefMem
set_option linter.unusedVariables false

theorem all_any (x : Int) (w : World) :
    Calls Try.prog 21 #[.int .u32 x] w fun e w' => e = .returned (.agg (blk (fun _ => x)).toArray) ∧ Below w.heap.size w w' := by
  go_enter Try.func21, Try.ntmps21
  go_wp2_with (first | ((with_reducible refine Arr.wpList_alloc_zero rfl 36 (by rfl) _ _ info36' w.heap.size rfl ?_)) | ((with_reducible refine Arr.wpList_alloc_zero rfl 36 (by rfl) _ _ info36' (w.heap.size + 1) ?_ ?_); (· simp)))
  go_loopw [5] (fun i wr => ∃ k : Nat, k ≤ 16 ∧ i = .int .i64 k ∧ Hid (BlkAt wr (w.heap.size + 1) 36 (fun j => if j < k then x else 0)) ∧ Hid (BlkAt wr w.heap.size 36 (fun _ => 0)) ∧ Hid (Below w.heap.size w wr)) (fun i _ => 16 - (intOf i).toNat)
  case atStart =>
    refine ⟨0, by omega, rfl, hide ?_, hide ((blk_new w 36 (fun _ => 0)).alloc _), hide (((Below.refl _ _).alloc (Nat.le_refl _) _).alloc (by simp) _)⟩
    have h := blk_new (w.alloc (.cells (blk (fun _ => 0)).toArray 36)) 36 (fun _ => 0)
    rw [World.size_alloc] at h
    exact h.congr fun j _ => by simp
  case round =>
    obtain ⟨k, hk, rfl, hA, hB, hW⟩ := hrel
    by_cases hlt : k < 16
    · have c2 := hA.out.cell hlt
      have c3 := hA.out.frozen k
      have hA2 : Hid (BlkAt (wr.setCell ⟨w.heap.size + 1, k, none⟩ (.int .u32 x)) (w.heap.size + 1) 36 (fun j => if j < k + 1 then x else 0)) := (row_set hA.out k x).congr fun j _ => by
        show Value.int .u32 (if j = k then x else if j < k then x else 0) = Value.int .u32 (if j < k + 1 then x else 0)
        by_cases e : j = k
        · subst e; simp
        · by_cases e2 : j < k
          · rw [if_neg e, if_pos e2, if_pos (by omega)]
          · rw [if_neg e, if_neg e2, if_neg (by omega)]
      have hB2 := hide (hB.out.setOther (a := ⟨w.heap.size + 1, k, none⟩) (by simp) (.int .u32 x))
      have hW2 := hide (hW.out.setCell (p := ⟨w.heap.size + 1, k, none⟩) (by simp) (.int .u32 x))
      go_wp2
      go_roundw
      case rel => exact ⟨k + 1, by omega, by go_num, hA2, hB2, hW2⟩
      case measure => simp [intOf]; omega
    · have hk16 : k = 16 := by omega
      subst hk16
      have hA' : BlkAt wr (w.heap.size + 1) 36 (fun _ => x) := hA.out.congr fun j hj => by simp [hj]
      have HA := hide hA'
      clear hA hA'
      have hi := (zero_of_info (P := Try.prog) info36').2
      have HI := hide hi
      clear hi
      go_wp2_with (first
        | ((with_reducible refine load_blk rfl 36 _ rfl (w.heap.size + 1) rfl HA.out Try.underlying36 HI.out ?_))
        | ((with_reducible refine store_blk rfl 36 _ _ rfl w.heap.size rfl (fun _ => x) rfl hB.out HI.out ?_)))
      exact bodyPost_ret (v := .agg (blk (fun _ => x)).toArray) (ret_blk (b := w.heap.size) Try.results21 rfl (row_setCells hB.out _) Try.underlying36 HI.out) rfl ⟨rfl, below_setCells _ _ _ hW.out (by omega)⟩

theorem partR_ok (f : Nat → Int) (b : Int) (k : Nat) (j : Nat) : (if j = k then part16 f b k else if j < k then part16 f b j else 0) = if j < k + 1 then part16 f b j else 0 := by
  by_cases e : j = k
  · subst e; simp
  · by_cases e2 : j < k
    · rw [if_neg e, if_pos e2, if_pos (by omega)]
    · rw [if_neg e, if_neg e2, if_neg (by omega)]
theorem block_any (p D nb : Nat) (f : Nat → Int) (b : Int) (w : World) (h : RefAt w p D nb f) :
    Calls Try.prog 23 #[.pointer (some ⟨p, 0, none⟩), .int .i64 b] w fun e w' => e = .returned (.tuple #[.agg (blk (getBlk f nb b)).toArray, .int .i64 (errOf nb b 0)]) ∧ Below w.heap.size w w' := by
  have hu := Try.underlying36
  have hi36 := (zero_of_info (P := Try.prog) info36').2
  have HI := hide hi36
  clear hi36
  have hplt := block_lt_of_cell h.2.2.1
  have hDlt := h.2.2.2.lt
  have hM : RefAt ((w.alloc (.cells (blk (fun _ => 0)).toArray 36)).alloc (.cells (blk (fun _ => 0)).toArray 36)) p D nb f := h.below (((Below.refl _ _).alloc (Nat.le_refl _) _).alloc (by simp) _)
  have Z1 := hide ((blk_new w 36 (fun _ => 0)).alloc (.cells (blk (fun _ => 0)).toArray 36))
  have Z2 : Hid (BlkAt ((w.alloc (.cells (blk (fun _ => 0)).toArray 36)).alloc (.cells (blk (fun _ => 0)).toArray 36)) (w.heap.size + 1) 36 (fun _ => 0)) := by
    have h := blk_new (w.alloc (.cells (blk (fun _ => 0)).toArray 36)) 36 (fun _ => 0)
    rw [World.size_alloc] at h
    exact h
  have W0 := hide (((Below.refl w.heap.size w).alloc (Nat.le_refl _) (.cells (blk (fun _ => 0)).toArray 36)).alloc (by simp) (.cells (blk (fun _ => 0)).toArray 36))
  have A := hide (place_any p D nb f b 0 _ hM)
  cases hi : inr nb b 0
  · have he : errOf nb b 0 = 5 := by simp [errOf, hi]
    have hg : blk (getBlk f nb b) = blk (fun _ => 0) := blk_congr fun j _ => by simp [getBlk, hi]
    have hp : placeI nb b 0 = -1 := by simp [placeI, hi]
    rw [he, hg]
    rw [hp] at A
    clear he hg hi hM h hp
    go_enter Try.func23, Try.ntmps23
    go_wp2_with (first
      | ((with_reducible refine Arr.wpList_alloc_zero rfl 36 (by rfl) _ _ info36' w.heap.size rfl ?_))
      | ((with_reducible refine Arr.wpList_alloc_zero rfl 36 (by rfl) _ _ info36' (w.heap.size + 1) ?_ ?_); (· simp))
      | ((with_reducible refine Great.wpList_readTo rfl (some 9) rfl (.agg (blk (fun _ => 0)).toArray) ?_ ?_); (· as_aux_lemma => kernel_rfl))
      | ((with_reducible refine Arr.wpList_store_last rfl 36 _ _ rfl _ _ (w.heap.size + 1) ?_ rfl rfl HI.out ?_ ?_ ?_ ?_); (· simp); (· simp [blk_len]); (· simp [blk_len]); (· simpa using blk_one (fun _ => 0)))
      | (go_at_call 27; refine A.out.mono ?_; rintro e wx ⟨rfl, rfl⟩)
      | ((with_reducible refine load_blk rfl 36 _ rfl (w.heap.size + 1) rfl Z2.out hu HI.out ?_))
      | ((with_reducible refine store_blk rfl 36 _ _ rfl w.heap.size rfl (fun _ => 0) rfl Z1.out HI.out ?_)))
    exact bodyPost_ret (v := .tuple #[.agg (blk (fun _ => 0)).toArray, .int .i64 5]) (ret_blk2 (b := w.heap.size) Try.results23 rfl (row_setCells Z1.out _) hu HI.out) rfl
      ⟨rfl, below_setCells _ _ _ W0.out (Nat.le_refl _)⟩
  · have he : errOf nb b 0 = 0 := by simp [errOf, hi]
    have hg : blk (getBlk f nb b) = blk (part16 f b) := blk_congr fun j _ => by simp [getBlk, hi]
    have hp : placeI nb b 0 = (idx b 0 : Int) := by simp [placeI, hi]
    rw [he, hg]
    rw [hp] at A
    have hx : idx b 0 = b.toNat * 16 := by simp [idx]
    have hin := inr_iff.1 hi
    have hlim : idx b 0 + 16 ≤ nb * 16 := by omega
    have hN := hM.1
    have hcells : ∀ j, j < 16 → part16 f b j = f (idx b 0 + j) := fun j _ => by rw [hx]; rfl
    have HC := hide hcells
    have HM := hide hM
    generalize idx b 0 = i0 at *
    clear he hg hi hM h hp hx hin hcells
    go_enter Try.func23, Try.ntmps23
    go_wp2_with (first
      | ((with_reducible refine Arr.wpList_alloc_zero rfl 36 (by rfl) _ _ info36' w.heap.size rfl ?_))
      | ((with_reducible refine Arr.wpList_alloc_zero rfl 36 (by rfl) _ _ info36' (w.heap.size + 1) ?_ ?_); (· simp))
      | ((with_reducible refine Great.wpList_readTo rfl (some 9) rfl (.agg (blk (fun _ => 0)).toArray) ?_ ?_); (· as_aux_lemma => kernel_rfl))
      | ((with_reducible refine Arr.wpList_store_last rfl 36 _ _ rfl _ _ (w.heap.size + 1) ?_ rfl rfl HI.out ?_ ?_ ?_ ?_); (· simp); (· simp [blk_len]); (· simp [blk_len]); (· simpa using blk_one (fun _ => 0)))
      | (go_at_call 27; refine A.out.mono ?_; rintro e wx ⟨rfl, rfl⟩))
    go_loopw [8] (fun i wr => ∃ k : Nat, k ≤ 16 ∧ i = .int .i64 k ∧ Hid (RefAt wr p D nb f) ∧ Hid (BlkAt wr (w.heap.size + 1) 36 (fun j => if j < k then part16 f b j else 0)) ∧ Hid (BlkAt wr w.heap.size 36 (fun _ => 0)) ∧ Hid (Below w.heap.size w wr)) (fun i _ => 16 - (intOf i).toNat)
    case atStart => exact ⟨0, by omega, rfl, HM, hide (Z2.out.congr fun j _ => by simp), Z1, W0⟩
    case round =>
      obtain ⟨k, hk, rfl, hM, hA, hB, hW⟩ := hrel
      by_cases hlt : k < 16
      · have c0 := hM.out.2.2.1
        have c1 := hM.out.2.2.2.cell (show i0 + k < nb * 16 by omega)
        have c2 := hA.out.cell hlt
        have c3 := hA.out.frozen k
        have e1 : ((i0 : Int) + (k : Int)).toNat = i0 + k := by omega
        have hA2 : Hid (BlkAt (wr.setCell ⟨w.heap.size + 1, k, none⟩ (.int .u32 (f (i0 + k)))) (w.heap.size + 1) 36 (fun j => if j < k + 1 then part16 f b j else 0)) := (row_set hA.out k (f (i0 + k))).congr fun j _ => by
          show Value.int .u32 (if j = k then f (i0 + k) else if j < k then part16 f b j else 0) = Value.int .u32 (if j < k + 1 then part16 f b j else 0)
          rw [← HC.out k hlt, partR_ok]
        have hB2 := hide (hB.out.setOther (a := ⟨w.heap.size + 1, k, none⟩) (by simp) (.int .u32 (f (i0 + k))))
        have hM2 : Hid (RefAt (wr.setCell ⟨w.heap.size + 1, k, none⟩ (.int .u32 (f (i0 + k)))) p D nb f) :=
          hM.out.other (only_setCell (g := w.heap.size + 1) (World.grownBy.refl wr _) (.inl rfl) _) (by omega) (by omega)
        have hW2 := hide (hW.out.setCell (p := ⟨w.heap.size + 1, k, none⟩) (by simp) (.int .u32 (f (i0 + k))))
        go_wp2
        go_roundw
        case rel => exact ⟨k + 1, by omega, by go_num, hM2, hA2, hB2, hW2⟩
        case measure => simp [intOf]; omega
      · have hk16 : k = 16 := by omega
        subst hk16
        have hA' : BlkAt wr (w.heap.size + 1) 36 (part16 f b) := hA.out.congr fun j hj => by simp [hj]
        have HA := hide hA'
        clear hA hA'
        go_wp2_with (first
          | ((with_reducible refine load_blk rfl 36 _ rfl (w.heap.size + 1) rfl HA.out hu HI.out ?_))
          | ((with_reducible refine store_blk rfl 36 _ _ rfl w.heap.size rfl (part16 f b) rfl hB.out HI.out ?_)))
        exact bodyPost_ret (v := .tuple #[.agg (blk (part16 f b)).toArray, .int .i64 0]) (ret_blk2 (b := w.heap.size) Try.results23 rfl (row_setCells hB.out _) hu HI.out) rfl
          ⟨rfl, below_setCells _ _ _ hW.out (Nat.le_refl _)⟩

def putK (f : Nat → Int) (i0 : Nat) (g : Nat → Int) (k : Nat) : Nat → Int := fun i => if i0 ≤ i ∧ i < i0 + k then g (i - i0) else f i
theorem putK_step (f : Nat → Int) (i0 : Nat) (g : Nat → Int) (k j : Nat) : (if j = i0 + k then g k else putK f i0 g k j) = putK f i0 g (k + 1) j := by
  unfold putK
  by_cases e : j = i0 + k
  · subst e
    rw [if_pos rfl, if_pos (by omega)]
    congr 1
    omega
  · rw [if_neg e]
    by_cases e2 : i0 ≤ j ∧ j < i0 + k
    · rw [if_pos e2, if_pos (by omega)]
    · rw [if_neg e2, if_neg (by omega)]
theorem setblock_any (p D nb : Nat) (f g : Nat → Int) (b : Int) (w : World) (h : RefAt w p D nb f) :
    Calls Try.prog 22 #[.pointer (some ⟨p, 0, none⟩), .int .i64 b, .agg (blk g).toArray] w fun e w' => e = .returned (.int .i64 (errOf nb b 0)) ∧ RefAt w' p D nb (putBlk f nb b g) ∧ w.grownBy w' (some D) := by
  have hplt := block_lt_of_cell h.2.2.1
  have hDlt := h.2.2.2.lt
  have hM : RefAt (w.alloc (.cells (blk g).toArray 36)) p D nb f := h.below ((Below.refl _ _).alloc (Nat.le_refl _) _)
  have A := hide (place_any p D nb f b 0 _ hM)
  cases hi : inr nb b 0
  · have he : errOf nb b 0 = 5 := by simp [errOf, hi]
    have hp : placeI nb b 0 = -1 := by simp [placeI, hi]
    have HM := hide (hM.congr (f' := putBlk f nb b g) fun i _ => by simp [putBlk, hi])
    rw [he]
    rw [hp] at A
    clear he hi hM h hp
    go_enter Try.func22, Try.ntmps22
    go_wp2_with (go_at_call 27; refine A.out.mono ?_; rintro e wx ⟨rfl, rfl⟩)
    go_ret
    exact ⟨rfl, HM.out, only_of_below ((Below.refl _ _).alloc (Nat.le_refl _) _) _⟩
  · have he : errOf nb b 0 = 0 := by simp [errOf, hi]
    have hp : placeI nb b 0 = (idx b 0 : Int) := by simp [placeI, hi]
    have hx : idx b 0 = b.toNat * 16 := by simp [idx]
    have hin := inr_iff.1 hi
    have hlim : idx b 0 + 16 ≤ nb * 16 := by omega
    have hN := hM.1
    have hput : ∀ i, putK f (idx b 0) g 16 i = putBlk f nb b g i := fun i => by simp [putK, putBlk, hi, hx]
    have HP := hide hput
    have HM := hide (hM.congr (f' := putK f (idx b 0) g 0) fun i _ => by simp only [putK]; rw [if_neg (by omega)])
    have Z := hide (blk_new w 36 g)
    have W0 := hide (only_of_below ((Below.refl w.heap.size w).alloc (Nat.le_refl _) (.cells (blk g).toArray 36)) (some D))
    have hpD := h.2.1
    rw [he]
    rw [hp] at A
    generalize idx b 0 = i0 at *
    clear he hi hM h hp hput hin hx
    go_enter Try.func22, Try.ntmps22
    go_wp2_with (go_at_call 27; refine A.out.mono ?_; rintro e wx ⟨rfl, rfl⟩)
    go_loopw [8] (fun i wr => ∃ k : Nat, k ≤ 16 ∧ i = .int .i64 k ∧ Hid (RefAt wr p D nb (putK f i0 g k)) ∧ Hid (BlkAt wr w.heap.size 36 g) ∧ Hid (w.grownBy wr (some D))) (fun i _ => 16 - (intOf i).toNat)
    case atStart => exact ⟨0, by omega, rfl, HM, Z, W0⟩
    case round =>
      obtain ⟨k, hk, rfl, hM, hA, hW⟩ := hrel
      by_cases hlt : k < 16
      · have c0 := hM.out.2.2.1
        have c1 := hM.out.2.2.2.cell (show i0 + k < nb * 16 by omega)
        have c4 := hM.out.2.2.2.frozen (i0 + k)
        have c2 := hA.out.cell hlt
        have e1 : ((i0 : Int) + (k : Int)).toNat = i0 + k := by omega
        have b1 : (0 : Int) ≤ (i0 : Int) + (k : Int) := by omega
        have b2 : (i0 : Int) + (k : Int) < (nb : Int) * 16 := by omega
        have hM2 : Hid (RefAt (wr.setCell ⟨D, i0 + k, none⟩ (.int .u32 (g k))) p D nb (putK f i0 g (k + 1))) := by
          obtain ⟨q1, q2, q3, q4⟩ := hM.out
          refine ⟨q1, q2, (World.cell?_setCell_other _ _ _ _ (fun e => q2 (by injection e with e1 e2; exact e1.symm))).trans q3, (q4.set _ _).congr fun j _ => ?_⟩
          rw [← putK_step f i0 g k j]
          by_cases e : j = i0 + k <;> simp [e]
        have hA2 := hide (hA.out.setOther (a := ⟨D, i0 + k, none⟩) (by simp; omega) (.int .u32 (g k)))
        have hW2 := hide (only_setCell hW.out (p := ⟨D, i0 + k, none⟩) (.inl rfl) (.int .u32 (g k)))
        go_wp2_with fail
        go_region
        go_wp2
        go_roundw
        case rel => exact ⟨k + 1, by omega, by go_num, hM2, hA2, hide (only_drew hW2.out)⟩
        case measure => simp [intOf]; omega
      · have hk16 : k = 16 := by omega
        subst hk16
        have HM' := hide (hM.out.congr fun i _ => HP.out i)
        clear hM
        go_wp2
        go_ret
        exact ⟨rfl, HM'.out, hW.out⟩
end Go.Proofs.Ytmdacnegiilgfaa.RefBlk
