/-
  The reference's memory: New, place, Block (for another layer's seat).
-/
import Derived.Test.YtnhfbdjjbmhnkaaMBlock
namespace Go.Proofs.Ytnhfbdjjbmhnkaa.MRef
open Go.RowKit Base MMem Blks MBlock
set_option linter.unusedVariables false
set_option linter.unusedSimpArgs false

/-- The reference's memory: its struct lies in block p, its words in block D. -/
def RefAt (w : World) (p D nb : Nat) (f : Nat → Int) : Prop :=
  nb ≤ 256 ∧ p ≠ D ∧ w.cell? ⟨p, 0, none⟩ = some (.slice (some ⟨D, 0, none⟩) (nb * 16) (nb * 16)) ∧ w.rowIs D 36 (nb * 16) (fun i => .int .u32 (f i))

theorem RefAt.below {w w' : World} {p D nb : Nat} {f : Nat → Int} (h : RefAt w p D nb f) (hb : Below w.heap.size w w') : RefAt w' p D nb f := by
  obtain ⟨h1, h2, h3, h4⟩ := h
  exact ⟨h1, h2, (hb.cell (block_lt_of_cell h3)).trans h3, h4.of_block (hb.block _ h4.lt)⟩
theorem RefAt.other {w w' : World} {p D nb g : Nat} {f : Nat → Int} (h : RefAt w p D nb f) (hb : w.grownBy w' (some g)) (hp : p ≠ g) (hD : D ≠ g) : RefAt w' p D nb f := by
  obtain ⟨h1, h2, h3, h4⟩ := h
  exact ⟨h1, h2, (World.cell?_of_block (w := w) (hb.block p (block_lt_of_cell h3) (fun e => hp (by injection e)))).trans h3, h4.of_block (hb.block _ h4.lt (fun e => hD (by injection e)))⟩
theorem RefAt.set {w : World} {p D nb : Nat} {f : Nat → Int} (h : RefAt w p D nb f) {b k : Int} (hi : inr nb b k = true) (x : Int) : RefAt (w.setCell ⟨D, idx b k, none⟩ (.int .u32 x)) p D nb (upd f nb b k x) := by
  obtain ⟨h1, h2, h3, h4⟩ := h
  refine ⟨h1, h2, (World.cell?_setCell_other _ _ _ _ (fun e => h2 (by injection e with e1 e2; exact e1.symm))).trans h3, (h4.set _ _).congr fun i _ => ?_⟩
  by_cases e : i = idx b k <;> simp [upd, hi, e]
theorem RefAt.congr {w : World} {p D nb : Nat} {f f' : Nat → Int} (h : RefAt w p D nb f) (e : ∀ i, i < nb * 16 → f i = f' i) : RefAt w p D nb f' :=
  ⟨h.1, h.2.1, h.2.2.1, h.2.2.2.congr fun i hi => by rw [e i hi]⟩
theorem RefAt.upd_no {w : World} {p D nb : Nat} {f : Nat → Int} (h : RefAt w p D nb f) {b k : Int} (hi : inr nb b k = false) (x : Int) : RefAt w p D nb (upd f nb b k x) := by
  have e : upd f nb b k x = f := by funext i; simp [upd, hi]
  rw [e]; exact h

/-- Where a word lies; -1: there is none. -/
def placeI (nb : Nat) (b k : Int) : Int := if inr nb b k = true then (idx b k : Int) else -1
theorem ret_i {a b : Int} (h : a = b) : Ending.returned (.int .i64 a) = .returned (.int .i64 b) := by rw [h]

theorem place_any (p D nb : Nat) (f : Nat → Int) (b k : Int) (w : World) (h : RefAt w p D nb f) :
    Calls Try.prog 41 #[.pointer (some ⟨p, 0, none⟩), .int .i64 b, .int .i64 k] w fun e w' => e = .returned (.int .i64 (placeI nb b k)) ∧ w = w' := by
  obtain ⟨h1, h2, h3, h4⟩ := h
  have hq : ((nb * 16 : Nat) : Int) / 16 = nb := by omega
  clear h4 h2
  cases hi : inr nb b k
  · have hn : ¬ (0 ≤ b ∧ b < nb ∧ 0 ≤ k ∧ k < 16) := fun e => by rw [inr_iff.2 e] at hi; cases hi
    have hp : placeI nb b k = -1 := by simp [placeI, hi]
    rw [hp]
    clear hi hp
    by_cases t0 : b < 0
    · clear hn
      go_enter Try.func41, Try.ntmps41
      go_wp2
      go_ret
      exact ⟨rfl, rfl⟩
    by_cases t1 : (nb : Int) ≤ b
    · clear hn
      go_enter Try.func41, Try.ntmps41
      go_wp2
      go_ret
      exact ⟨rfl, rfl⟩
    by_cases t2 : k < 0
    · clear hn
      go_enter Try.func41, Try.ntmps41
      go_wp2
      go_ret
      exact ⟨rfl, rfl⟩
    have t3 : 15 < k := by omega
    clear hn
    go_enter Try.func41, Try.ntmps41
    go_wp2
    go_ret
    exact ⟨rfl, rfl⟩
  · obtain ⟨g0, g1, g2, g3⟩ := inr_iff.1 hi
    have g4 : k ≤ 15 := by omega
    have hx : placeI nb b k = 16 * b + k := by
      simp only [placeI, hi, if_true, idx]
      omega
    have HX := hide hx
    clear hi hx
    go_enter Try.func41, Try.ntmps41
    go_wp2
    go_ret
    exact ⟨ret_i HX.out.symm, rfl⟩

theorem rinfo : (Try.prog.info? 36).map (fun i => (i.zero, i.size, i.bytes)) = some (some (.int .u32 0), 1, 4) := by kernel_rfl
theorem zeros_at (n j : Nat) (hj : j < n) : (madeCells #[.int .u32 0] n)[j]? = some (.int .u32 0) := by
  simp only [madeCells, List.size_toArray, List.length_cons, List.length_nil, Array.getElem?_map]
  rw [Array.getElem?_range, if_pos hj]
  simp [Nat.mod_one]
theorem makeR (n : Nat) (hn : n ≤ 256) (W : World) : ∃ Z : Array Value, (∀ j, j < n * 16 → Z[j]? = some (.int .u32 0)) ∧ Z.size = n * 16 ∧
    (Instr.makeSlice 83 (.int .i64 (16 * (n : Int))) (.int .i64 (16 * (n : Int)))).run Try.prog W = .ok (.slice (some ⟨W.heap.size, 0, none⟩) (n * 16) (n * 16)) (W.alloc (.cells Z 36)) := by
  obtain ⟨i0, hi, hz0, hz1, hz2⟩ := info_parts rinfo
  have e : (16 * (n : Int)) = ((n * 16 : Nat) : Int) := by omega
  have h := run_make (P := Try.prog) W 83 36 i0 _ Try.underlying83 hi hz0 .i64 .i64 ((n * 16 : Nat) : Int) ((n * 16 : Nat) : Int) (by omega) (by omega) (by rw [hz2]; omega) (by omega)
  rw [hz1] at h
  rw [e]
  refine ⟨_, fun j hj => zeros_at (n * 16) j hj, size_madeCells _ _, ?_⟩
  simp only [Int.toNat_natCast, Nat.mul_one] at h
  exact h
theorem New_ok (n : Nat) (h0 : 1 ≤ n) (h1 : n ≤ 256) (w : World) :
    Calls Try.prog 22 #[.int .i64 (n : Int)] w fun e w' => e = .returned (.tuple #[.pointer (some ⟨w.heap.size + 1, 0, none⟩), .int .i64 0]) ∧ RefAt w' (w.heap.size + 1) w.heap.size n (fun _ => 0) ∧ Below w.heap.size w w' := by
  obtain ⟨Z, hz, hzs, MK⟩ := makeR n h1 w
  have HZ := hide hz
  have HZS := hide hzs
  clear hz hzs
  go_enter Try.func22, Try.ntmps22
  go_wp2
  go_ret2
  refine ⟨rfl, ⟨h1, by omega, ?_, ?_⟩, ((Below.refl _ _).alloc (Nat.le_refl _) _).alloc (by simp) _⟩
  · simp
  · have r := World.rowIs_alloc w Z 36 (fun i => .int .u32 0) (fun i hi => HZ.out i (by rw [← HZS.out]; exact hi))
    rw [HZS.out] at r
    exact r.alloc _
theorem New_no (n : Int) (h : n < 1 ∨ 256 < n) (w : World) :
    Calls Try.prog 22 #[.int .i64 n] w fun e w' => e = .returned (.tuple #[.pointer none, .int .i64 2]) ∧ w = w' := by
  by_cases t : n < 1
  · clear h
    go_enter Try.func22, Try.ntmps22
    go_wp2
    go_ret2
    exact ⟨rfl, rfl⟩
  · have t2 : 256 < n := by omega
    clear h
    go_enter Try.func22, Try.ntmps22
    go_wp2
    go_ret2
    exact ⟨rfl, rfl⟩

theorem partR_ok (f : Nat → Int) (b : Int) (k : Nat) (j : Nat) : (if j = k then part16 f b k else if j < k then part16 f b j else 0) = if j < k + 1 then part16 f b j else 0 := by
  by_cases e : j = k
  · subst e; simp
  · by_cases e2 : j < k
    · rw [if_neg e, if_pos e2, if_pos (by omega)]
    · rw [if_neg e, if_neg e2, if_neg (by omega)]
theorem block_any (p D nb : Nat) (f : Nat → Int) (b : Int) (w : World) (h : RefAt w p D nb f) :
    Calls Try.prog 28 #[.pointer (some ⟨p, 0, none⟩), .int .i64 b] w fun e w' => e = .returned (.tuple #[.agg (blk (getBlk f nb b)).toArray, .int .i64 (errOf nb b 0)]) ∧ Below w.heap.size w w' := by
  have hu := Try.underlying51
  have hi36 := (zero_of_info (P := Try.prog) info36').2
  have HI := hide hi36
  clear hi36
  have hplt := block_lt_of_cell h.2.2.1
  have hDlt := h.2.2.2.lt
  have hM : RefAt ((w.alloc (.cells (blk (fun _ => 0)).toArray 51)).alloc (.cells (blk (fun _ => 0)).toArray 51)) p D nb f := h.below (((Below.refl _ _).alloc (Nat.le_refl _) _).alloc (by simp) _)
  have Z1 := hide ((blk_new w 51 (fun _ => 0)).alloc (.cells (blk (fun _ => 0)).toArray 51))
  have Z2 : Hid (BlkAt ((w.alloc (.cells (blk (fun _ => 0)).toArray 51)).alloc (.cells (blk (fun _ => 0)).toArray 51)) (w.heap.size + 1) 51 (fun _ => 0)) := by
    have h := blk_new (w.alloc (.cells (blk (fun _ => 0)).toArray 51)) 51 (fun _ => 0)
    rw [World.size_alloc] at h
    exact h
  have W0 := hide (((Below.refl w.heap.size w).alloc (Nat.le_refl _) (.cells (blk (fun _ => 0)).toArray 51)).alloc (by simp) (.cells (blk (fun _ => 0)).toArray 51))
  have A := hide (place_any p D nb f b 0 _ hM)
  cases hi : inr nb b 0
  · have he : errOf nb b 0 = 5 := by simp [errOf, hi]
    have hg : blk (getBlk f nb b) = blk (fun _ => 0) := blk_congr fun j _ => by simp [getBlk, hi]
    have hp : placeI nb b 0 = -1 := by simp [placeI, hi]
    rw [he, hg]
    rw [hp] at A
    clear he hg hi hM h hp
    go_enter Try.func28, Try.ntmps28
    go_wp2_with (first
      | ((with_reducible refine Arr.wpList_alloc_zero rfl 51 (by rfl) _ _ info36' w.heap.size rfl ?_))
      | ((with_reducible refine Arr.wpList_alloc_zero rfl 51 (by rfl) _ _ info36' (w.heap.size + 1) ?_ ?_); (· simp))
      | ((with_reducible refine Great.wpList_readTo rfl (some 9) rfl (.agg (blk (fun _ => 0)).toArray) ?_ ?_); (· as_aux_lemma => kernel_rfl))
      | ((with_reducible refine Arr.wpList_store_last rfl 51 _ _ rfl _ _ (w.heap.size + 1) ?_ rfl rfl HI.out ?_ ?_ ?_ ?_); (· simp); (· simp [blk_len]); (· simp [blk_len]); (· simpa using blk_one (fun _ => 0)))
      | (go_at_call 41; refine A.out.mono ?_; rintro e wx ⟨rfl, rfl⟩)
      | ((with_reducible refine load_blk rfl 51 _ rfl (w.heap.size + 1) rfl Z2.out hu HI.out ?_))
      | ((with_reducible refine store_blk rfl 51 _ _ rfl w.heap.size rfl (fun _ => 0) rfl Z1.out HI.out ?_)))
    exact bodyPost_ret (v := .tuple #[.agg (blk (fun _ => 0)).toArray, .int .i64 5]) (ret_blk2 (b := w.heap.size) Try.results28 rfl (row_setCells Z1.out _) hu HI.out) rfl
      ⟨rfl, below_setCells _ _ _ W0.out (Nat.le_refl _)⟩
  · have he : errOf nb b 0 = 0 := by simp [errOf, hi]
    have hg : blk (getBlk f nb b) = blk (part16 f b) := blk_congr fun j _ => by simp [getBlk, hi]
    have hp : placeI nb b 0 = (idx b 0 : Int) := by simp [placeI, hi]
    rw [he, hg]
    rw [hp] at A
    have hx : idx b 0 = b.toNat * 16 := by simp [idx]
    have hin := inr_iff.1 hi
    have hlim : idx b 0 + 16 ≤ nb * 16 := by omega
    have hN := hM.1
    have hcells : ∀ j, j < 16 → part16 f b j = f (idx b 0 + j) := fun j _ => by rw [hx]; rfl
    have HC := hide hcells
    have HM := hide hM
    generalize idx b 0 = i0 at *
    clear he hg hi hM h hp hx hin hcells
    go_enter Try.func28, Try.ntmps28
    go_wp2_with (first
      | ((with_reducible refine Arr.wpList_alloc_zero rfl 51 (by rfl) _ _ info36' w.heap.size rfl ?_))
      | ((with_reducible refine Arr.wpList_alloc_zero rfl 51 (by rfl) _ _ info36' (w.heap.size + 1) ?_ ?_); (· simp))
      | ((with_reducible refine Great.wpList_readTo rfl (some 9) rfl (.agg (blk (fun _ => 0)).toArray) ?_ ?_); (· as_aux_lemma => kernel_rfl))
      | ((with_reducible refine Arr.wpList_store_last rfl 51 _ _ rfl _ _ (w.heap.size + 1) ?_ rfl rfl HI.out ?_ ?_ ?_ ?_); (· simp); (· simp [blk_len]); (· simp [blk_len]); (· simpa using blk_one (fun _ => 0)))
      | (go_at_call 41; refine A.out.mono ?_; rintro e wx ⟨rfl, rfl⟩))
    go_loopw [8] (fun i wr => ∃ k : Nat, k ≤ 16 ∧ i = .int .i64 k ∧ Hid (RefAt wr p D nb f) ∧ Hid (BlkAt wr (w.heap.size + 1) 51 (fun j => if j < k then part16 f b j else 0)) ∧ Hid (BlkAt wr w.heap.size 51 (fun _ => 0)) ∧ Hid (Below w.heap.size w wr)) (fun i _ => 16 - (intOf i).toNat)
    case atStart => exact ⟨0, by omega, rfl, HM, hide (Z2.out.congr fun j _ => by simp), Z1, W0⟩
    case round =>
      obtain ⟨k, hk, rfl, hM, hA, hB, hW⟩ := hrel
      by_cases hlt : k < 16
      · have c0 := hM.out.2.2.1
        have c1 := hM.out.2.2.2.cell (show i0 + k < nb * 16 by omega)
        have c2 := hA.out.cell hlt
        have c3 := hA.out.frozen k
        have e1 : ((i0 : Int) + (k : Int)).toNat = i0 + k := by omega
        have hA2 : Hid (BlkAt (wr.setCell ⟨w.heap.size + 1, k, none⟩ (.int .u32 (f (i0 + k)))) (w.heap.size + 1) 51 (fun j => if j < k + 1 then part16 f b j else 0)) := (row_set hA.out k (f (i0 + k))).congr fun j _ => by
          show Value.int .u32 (if j = k then f (i0 + k) else if j < k then part16 f b j else 0) = Value.int .u32 (if j < k + 1 then part16 f b j else 0)
          rw [← HC.out k hlt, partR_ok]
        have hB2 := hide (hB.out.setOther (a := ⟨w.heap.size + 1, k, none⟩) (by simp) (.int .u32 (f (i0 + k))))
        have hM2 : Hid (RefAt (wr.setCell ⟨w.heap.size + 1, k, none⟩ (.int .u32 (f (i0 + k)))) p D nb f) :=
          hM.out.other (only_setCell (g := w.heap.size + 1) (World.grownBy.refl wr _) (.inl rfl) _) (by omega) (by omega)
        have hW2 := hide (hW.out.setCell (p := ⟨w.heap.size + 1, k, none⟩) (by simp) (.int .u32 (f (i0 + k))))
        go_wp2
        go_roundw
        case rel => exact ⟨k + 1, by omega, by go_num, hM2, hA2, hB2, hW2⟩
        case measure => simp [intOf]; omega
      · have hk16 : k = 16 := by omega
        subst hk16
        have hA' : BlkAt wr (w.heap.size + 1) 51 (part16 f b) := hA.out.congr fun j hj => by simp [hj]
        have HA := hide hA'
        clear hA hA'
        go_wp2_with (first
          | ((with_reducible refine load_blk rfl 51 _ rfl (w.heap.size + 1) rfl HA.out hu HI.out ?_))
          | ((with_reducible refine store_blk rfl 51 _ _ rfl w.heap.size rfl (part16 f b) rfl hB.out HI.out ?_)))
        exact bodyPost_ret (v := .tuple #[.agg (blk (part16 f b)).toArray, .int .i64 0]) (ret_blk2 (b := w.heap.size) Try.results28 rfl (row_setCells hB.out _) hu HI.out) rfl
          ⟨rfl, below_setCells _ _ _ hW.out (Nat.le_refl _)⟩

end Go.Proofs.Ytnhfbdjjbmhnkaa.MRef
