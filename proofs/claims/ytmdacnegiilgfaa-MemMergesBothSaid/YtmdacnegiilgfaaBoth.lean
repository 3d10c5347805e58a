/-
  MemMergesBoth walked: it returns true at any two blocks, any words.
-/
import Derived.Test.YtmdacnegiilgfaaMerges
namespace Go.Proofs.Ytmdacnegiilgfaa.Both
open Go.RowKit Base Mem Blks Merge Merges
set_option linter.unusedVariables false
set_option linter.unusedSimpArgs false

theorem bit_not {m : Int} (h0 : 0 ≤ m) (h1 : m ≤ 65535) (j : Nat) (hj : j < 16) : bit (65535 - m) j = !bit m j := by
  have e : ∀ k : Fin 16, k.val = j → bit (65535 - m) k.val = !bit m k.val := by
    intro k _
    unfold bit
    have : k.val = 0 ∨ k.val = 1 ∨ k.val = 2 ∨ k.val = 3 ∨ k.val = 4 ∨ k.val = 5 ∨ k.val = 6 ∨ k.val = 7 ∨ k.val = 8 ∨ k.val = 9 ∨ k.val = 10 ∨ k.val = 11 ∨ k.val = 12 ∨ k.val = 13 ∨ k.val = 14 ∨ k.val = 15 := by omega
    rcases this with h | h | h | h | h | h | h | h | h | h | h | h | h | h | h | h
    all_goals
      rw [h, Bool.eq_iff_iff, decide_eq_true_iff, Bool.not_eq_true', decide_eq_false_iff_not]
      simp only [Int.reducePow]
      omega
  exact e ⟨j, hj⟩ rfl
theorem xor_ones {n : Nat} (hn : n < 65536) : 65535 ^^^ n = 65535 - n := by
  have h := BitVec.toNat_not (x := BitVec.ofNat 16 n)
  rw [BitVec.not_def, BitVec.toNat_xor, BitVec.toNat_allOnes, BitVec.toNat_ofNat, Nat.mod_eq_of_lt (by simpa using hn)] at h
  simpa using h
theorem xor_m {m : Int} (h0 : 0 ≤ m) (h1 : m ≤ 65535) : bits BinOp.xor IntKind.u16 (if IntKind.u16.signed = true then -1 else IntKind.u16.max) m = 65535 - m := by
  show bits .xor .u16 65535 m = _
  rw [u16_xor _ _ (by omega) (by omega) h0 (by omega)]
  rw [show (65535 : Int).toNat = 65535 from rfl, xor_ones (by omega)]
  omega
theorem merge_other (f g : Nat → Int) (m : Int) (h0 : 0 ≤ m) (h1 : m ≤ 65535) : eqB (mergeF (mergeF f g m) g (65535 - m)) g = true := eqB_true fun j hj => by
  unfold mergeF
  rw [bit_not h0 h1 j hj]
  cases bit m j <;> simp
theorem merge_again (f g : Nat → Int) (m : Int) : eqB (mergeF (mergeF f g m) g m) (mergeF f g m) = true := eqB_true fun j _ => by
  unfold mergeF
  cases bit m j <;> simp
theorem merge_back (f g : Nat → Int) (m : Int) : eqB (mergeF (mergeF f g m) f m) f = true := eqB_true fun j _ => by
  unfold mergeF
  cases bit m j <;> simp

set_option maxHeartbeats 1000000 in
theorem both (f g : Nat → Int) (m : Int) (hm0 : 0 ≤ m) (hm1 : m ≤ 65535) (w : World) :
    Calls Try.prog 5 #[.agg (blk f).toArray, .agg (blk g).toArray, .int .u16 m] w fun e w' => e = .returned (.bool true) ∧ Below w.heap.size w w' := by
  have hgd := guard36
  have hu := Try.underlying36
  have hi36 := (zero_of_info (P := Try.prog) info36').2
  have HI := hide hi36
  clear hi36
  have hs1 := size36 f
  have hs2 := size36 g
  have hs3 := size36 (mergeF f g m)
  have M1 := hide (fun w1 => merge_any f g m hm0 hm1 w1)
  have M2 := hide (fun w1 => merge_any (mergeF f g m) g (65535 - m) (by omega) (by omega) w1)
  have M3 := hide (fun w1 => merge_any (mergeF f g m) g m hm0 hm1 w1)
  have M4 := hide (fun w1 => merge_any (mergeF f g m) f m hm0 hm1 w1)
  have hq1 : ∀ w, (Op.equalIn 10000 36 (.agg (blk (mergeF (mergeF f g m) g (65535 - m))).toArray) (.agg (blk g).toArray)).run Try.prog w = .ok true w := fun w => by rw [eq36, merge_other f g m hm0 hm1]
  have hq2 : ∀ w, (Op.equalIn 10000 36 (.agg (blk (mergeF (mergeF f g m) g m)).toArray) (.agg (blk (mergeF f g m)).toArray)).run Try.prog w = .ok true w := fun w => by rw [eq36, merge_again f g m]
  have hq3 : ∀ w, (Op.equalIn 10000 36 (.agg (blk (mergeF (mergeF f g m) f m)).toArray) (.agg (blk f).toArray)).run Try.prog w = .ok true w := fun w => by rw [eq36, merge_back f g m]
  have B0 := hide ((blk_new w 36 f).alloc (.cells (blk g).toArray 36))
  have B1 : Hid (BlkAt ((w.alloc (.cells (blk f).toArray 36)).alloc (.cells (blk g).toArray 36)) (w.heap.size + 1) 36 g) := by
    have h := blk_new (w.alloc (.cells (blk f).toArray 36)) 36 g
    rw [World.size_alloc] at h
    exact h
  have W0 := hide (((Below.refl w.heap.size w).alloc (Nat.le_refl _) (.cells (blk f).toArray 36)).alloc (by simp) (.cells (blk g).toArray 36))
  go_enter Try.func5, Try.ntmps5
  go_wp2_with (first
    | ((with_reducible refine load_blk rfl 36 _ rfl w.heap.size rfl B0.out hu HI.out ?_))
    | ((with_reducible refine load_blk rfl 36 _ rfl (w.heap.size + 1) rfl B1.out hu HI.out ?_))
    | (go_at_call 14; refine (M1.out _).mono ?_; rintro e w1 ⟨rfl, hb1⟩)
    | ((with_reducible refine Arr.wpList_alloc_zero rfl 36 rfl _ _ info36' w1.heap.size rfl ?_))
    | ((with_reducible refine Arr.wpList_store_last rfl 36 _ _ rfl _ _ w1.heap.size rfl rfl rfl HI.out ?_ ?_ ?_ ?_); (· simp [blk_len]); (· simp [blk_len]); (· simpa using blk_one (mergeF f g m))))
  try simp only [Act.put, List.getElem_toArray, List.getElem_cons_zero, List.getElem_cons_succ, List.setIfInBounds_toArray, List.set_cons_zero, List.set_cons_succ]
  have hnext : ∀ (u1 u2 : World), Below u1.heap.size u1 u2 → (u1.rangeAt w.heap.size 0 (blk f) ∧ u1.rangeAt (w.heap.size + 1) 0 (blk g) ∧ u1.rangeAt w1.heap.size 0 (blk (mergeF f g m)) ∧ Below w.heap.size w u1) →
      (u2.rangeAt w.heap.size 0 (blk f) ∧ u2.rangeAt (w.heap.size + 1) 0 (blk g) ∧ u2.rangeAt w1.heap.size 0 (blk (mergeF f g m)) ∧ Below w.heap.size w u2) :=
    fun u1 u2 hb h => ⟨range_next h.1 hb, range_next h.2.1 hb, range_next h.2.2.1 hb, h.2.2.2.trans (hb.mono h.2.2.2.size)⟩
  have C0 := row_range B0.out
  have C1 := row_range B1.out
  have hsz := hb1.size
  simp at hsz
  have hS : (w1.alloc (.cells (blk (mergeF f g m)).toArray 36)).drew.rangeAt w.heap.size 0 (blk f) ∧ (w1.alloc (.cells (blk (mergeF f g m)).toArray 36)).drew.rangeAt (w.heap.size + 1) 0 (blk g) ∧
      (w1.alloc (.cells (blk (mergeF f g m)).toArray 36)).drew.rangeAt w1.heap.size 0 (blk (mergeF f g m)) ∧ Below w.heap.size w (w1.alloc (.cells (blk (mergeF f g m)).toArray 36)).drew :=
    ⟨World.rangeAt_alloc (range_next C0 hb1) _, World.rangeAt_alloc (range_next C1 hb1) _, row_range (blk_new w1 36 (mergeF f g m)), ((W0.out.trans (hb1.mono (by simp; omega))).alloc (by omega) _).drew⟩
  refine wp_region_held_drew (S := fun w' => w'.rangeAt w.heap.size 0 (blk f) ∧ w'.rangeAt (w.heap.size + 1) 0 (blk g) ∧ w'.rangeAt w1.heap.size 0 (blk (mergeF f g m)) ∧ Below w.heap.size w w') (by kernel_rfl) hS (fun hH0 => ?_)
  clear hS C0 C1 hb1
  refine wpAnyH_take (i := 0) (v := _) rfl (by kernel_rfl) (by kernel_rfl) (by kernel_rfl) (fun _ _ _ h => h) (yieldsIf_load_mid (by rfl) _ _ rfl _ _ rfl _ _ (fun w h => h.2.2.1) hu rfl hs3) hH0 ?_
  try simp only [Act.put, List.getElem_toArray, List.getElem_cons_zero, List.getElem_cons_succ, List.setIfInBounds_toArray, List.set_cons_zero, List.set_cons_succ]
  refine wpAnyH_take (i := 1) (v := _) rfl (by kernel_rfl) (by kernel_rfl) (by kernel_rfl) (fun _ _ _ h => h) (yieldsIf_load_mid (by rfl) _ _ rfl _ _ rfl _ _ (fun w h => h.2.1) hu rfl hs2) hH0 ?_
  try simp only [Act.put, List.getElem_toArray, List.getElem_cons_zero, List.getElem_cons_succ, List.setIfInBounds_toArray, List.set_cons_zero, List.set_cons_succ]
  refine wpAnyH_take (i := 2) (v := ?_) rfl (by kernel_rfl) (by kernel_rfl) (by kernel_rfl) (fun _ _ _ h => h) (Or.inl ⟨by rfl, fun w hSw => ?_⟩) hH0 ?_
  rotate_left
  · go_simp
    try with_reducible rfl
  try simp only [Act.put, List.getElem_toArray, List.getElem_cons_zero, List.getElem_cons_succ, List.setIfInBounds_toArray, List.set_cons_zero, List.set_cons_succ]
  refine wpAnyH_take (i := 3) (v := ?_) rfl (by kernel_rfl) (by kernel_rfl) (by kernel_rfl) (fun _ _ _ h => h) (Or.inl ⟨by rfl, fun w hSw => ?_⟩) hH0 ?_
  rotate_left
  · go_simp
    try with_reducible rfl
  try simp only [Act.put, List.getElem_toArray, List.getElem_cons_zero, List.getElem_cons_succ, List.setIfInBounds_toArray, List.set_cons_zero, List.set_cons_succ]
  refine wpAnyH_take (i := 5) (v := _) rfl (by kernel_rfl) (by kernel_rfl) (by kernel_rfl) (fun _ _ _ h => h) (yieldsIf_load_mid (by rfl) _ _ rfl _ _ rfl _ _ (fun w h => h.2.1) hu rfl hs2) hH0 ?_
  try simp only [Act.put, List.getElem_toArray, List.getElem_cons_zero, List.getElem_cons_succ, List.setIfInBounds_toArray, List.set_cons_zero, List.set_cons_succ]
  refine wpAnyH_ready (rs := [4]) (by kernel_rfl) (by simp) ?_
  refine AllReadyH.cons (o := _) rfl (fun K hK => ?_) AllReadyH.nil
  go_simp
  rw [xor_m hm0 hm1]
  refine (M2.out _).mono ?_
  rintro e wc1 ⟨rfl, hc1⟩
  refine hK.out _ _ (hnext _ _ hc1 hH0) (fun hH1 => ?_)
  clear hK K
  try simp only [Act.put, List.getElem_toArray, List.getElem_cons_zero, List.getElem_cons_succ, List.setIfInBounds_toArray, List.set_cons_zero, List.set_cons_succ]
  refine wpAnyH_take (i := 6) (v := ?_) rfl (by kernel_rfl) (by kernel_rfl) (by kernel_rfl) (fun _ _ _ h => h) (Or.inl ⟨by rfl, fun w hSw => ?_⟩) hH1 ?_
  rotate_left
  · go_simp
    try with_reducible rfl
  try simp only [Act.put, List.getElem_toArray, List.getElem_cons_zero, List.getElem_cons_succ, List.setIfInBounds_toArray, List.set_cons_zero, List.set_cons_succ]
  refine wpAnyH_take (i := 7) (v := ?_) rfl (by kernel_rfl) (by kernel_rfl) (by kernel_rfl) (fun _ _ _ h => h) (Or.inl ⟨by rfl, fun w hSw => ?_⟩) hH1 ?_
  rotate_left
  · go_simp
    try with_reducible rfl
  try simp only [Act.put, List.getElem_toArray, List.getElem_cons_zero, List.getElem_cons_succ, List.setIfInBounds_toArray, List.set_cons_zero, List.set_cons_succ]
  refine wpAnyH_take (i := 8) (v := _) rfl (by kernel_rfl) (by kernel_rfl) (by kernel_rfl) (fun _ _ _ h => h) (yieldsIf_load_mid (by rfl) _ _ rfl _ _ rfl _ _ (fun w h => h.2.2.1) hu rfl hs3) hH1 ?_
  try simp only [Act.put, List.getElem_toArray, List.getElem_cons_zero, List.getElem_cons_succ, List.setIfInBounds_toArray, List.set_cons_zero, List.set_cons_succ]
  refine wpAnyH_take (i := 9) (v := _) rfl (by kernel_rfl) (by kernel_rfl) (by kernel_rfl) (fun _ _ _ h => h) (yieldsIf_load_mid (by rfl) _ _ rfl _ _ rfl _ _ (fun w h => h.2.1) hu rfl hs2) hH1 ?_
  try simp only [Act.put, List.getElem_toArray, List.getElem_cons_zero, List.getElem_cons_succ, List.setIfInBounds_toArray, List.set_cons_zero, List.set_cons_succ]
  refine wpAnyH_take (i := 10) (v := ?_) rfl (by kernel_rfl) (by kernel_rfl) (by kernel_rfl) (fun _ _ _ h => h) (Or.inl ⟨by rfl, fun w hSw => ?_⟩) hH1 ?_
  rotate_left
  · go_simp
    try with_reducible rfl
  try simp only [Act.put, List.getElem_toArray, List.getElem_cons_zero, List.getElem_cons_succ, List.setIfInBounds_toArray, List.set_cons_zero, List.set_cons_succ]
  refine wpAnyH_take (i := 12) (v := _) rfl (by kernel_rfl) (by kernel_rfl) (by kernel_rfl) (fun _ _ _ h => h) (yieldsIf_load_mid (by rfl) _ _ rfl _ _ rfl _ _ (fun w h => h.2.2.1) hu rfl hs3) hH1 ?_
  try simp only [Act.put, List.getElem_toArray, List.getElem_cons_zero, List.getElem_cons_succ, List.setIfInBounds_toArray, List.set_cons_zero, List.set_cons_succ]
  refine wpAnyH_ready (rs := [11]) (by kernel_rfl) (by simp) ?_
  refine AllReadyH.cons (o := _) rfl (fun K hK => ?_) AllReadyH.nil
  go_simp
  refine (M3.out _).mono ?_
  rintro e wc2 ⟨rfl, hc2⟩
  refine hK.out _ _ (hnext _ _ hc2 hH1) (fun hH2 => ?_)
  clear hK K
  try simp only [Act.put, List.getElem_toArray, List.getElem_cons_zero, List.getElem_cons_succ, List.setIfInBounds_toArray, List.set_cons_zero, List.set_cons_succ]
  refine wpAnyH_take (i := 13) (v := ?_) rfl (by kernel_rfl) (by kernel_rfl) (by kernel_rfl) (fun _ _ _ h => h) (Or.inl ⟨by rfl, fun w hSw => ?_⟩) hH2 ?_
  rotate_left
  · go_simp
    try with_reducible rfl
  try simp only [Act.put, List.getElem_toArray, List.getElem_cons_zero, List.getElem_cons_succ, List.setIfInBounds_toArray, List.set_cons_zero, List.set_cons_succ]
  refine wpAnyH_take (i := 14) (v := ?_) rfl (by kernel_rfl) (by kernel_rfl) (by kernel_rfl) (fun _ _ _ h => h) (Or.inl ⟨by rfl, fun w hSw => ?_⟩) hH2 ?_
  rotate_left
  · go_simp
    try with_reducible rfl
  try simp only [Act.put, List.getElem_toArray, List.getElem_cons_zero, List.getElem_cons_succ, List.setIfInBounds_toArray, List.set_cons_zero, List.set_cons_succ]
  refine wpAnyH_take (i := 15) (v := ?_) rfl (by kernel_rfl) (by kernel_rfl) (by kernel_rfl) (fun _ _ _ h => h) (Or.inl ⟨by rfl, fun w hSw => ?_⟩) hH2 ?_
  rotate_left
  · go_simp
    try with_reducible rfl
  try simp only [Act.put, List.getElem_toArray, List.getElem_cons_zero, List.getElem_cons_succ, List.setIfInBounds_toArray, List.set_cons_zero, List.set_cons_succ]
  refine wpAnyH_take (i := 16) (v := _) rfl (by kernel_rfl) (by kernel_rfl) (by kernel_rfl) (fun _ _ _ h => h) (yieldsIf_load_mid (by rfl) _ _ rfl _ _ rfl _ _ (fun w h => h.2.2.1) hu rfl hs3) hH2 ?_
  try simp only [Act.put, List.getElem_toArray, List.getElem_cons_zero, List.getElem_cons_succ, List.setIfInBounds_toArray, List.set_cons_zero, List.set_cons_succ]
  refine wpAnyH_take (i := 17) (v := _) rfl (by kernel_rfl) (by kernel_rfl) (by kernel_rfl) (fun _ _ _ h => h) (yieldsIf_load_mid (by rfl) _ _ rfl _ _ rfl _ _ (fun w h => h.1) hu rfl hs1) hH2 ?_
  try simp only [Act.put, List.getElem_toArray, List.getElem_cons_zero, List.getElem_cons_succ, List.setIfInBounds_toArray, List.set_cons_zero, List.set_cons_succ]
  refine wpAnyH_take (i := 18) (v := ?_) rfl (by kernel_rfl) (by kernel_rfl) (by kernel_rfl) (fun _ _ _ h => h) (Or.inl ⟨by rfl, fun w hSw => ?_⟩) hH2 ?_
  rotate_left
  · go_simp
    try with_reducible rfl
  try simp only [Act.put, List.getElem_toArray, List.getElem_cons_zero, List.getElem_cons_succ, List.setIfInBounds_toArray, List.set_cons_zero, List.set_cons_succ]
  refine wpAnyH_take (i := 20) (v := _) rfl (by kernel_rfl) (by kernel_rfl) (by kernel_rfl) (fun _ _ _ h => h) (yieldsIf_load_mid (by rfl) _ _ rfl _ _ rfl _ _ (fun w h => h.1) hu rfl hs1) hH2 ?_
  try simp only [Act.put, List.getElem_toArray, List.getElem_cons_zero, List.getElem_cons_succ, List.setIfInBounds_toArray, List.set_cons_zero, List.set_cons_succ]
  refine wpAnyH_ready (rs := [19]) (by kernel_rfl) (by simp) ?_
  refine AllReadyH.cons (o := _) rfl (fun K hK => ?_) AllReadyH.nil
  go_simp
  refine (M4.out _).mono ?_
  rintro e wc3 ⟨rfl, hc3⟩
  refine hK.out _ _ (hnext _ _ hc3 hH2) (fun hH3 => ?_)
  clear hK K
  try simp only [Act.put, List.getElem_toArray, List.getElem_cons_zero, List.getElem_cons_succ, List.setIfInBounds_toArray, List.set_cons_zero, List.set_cons_succ]
  refine wpAnyH_take (i := 21) (v := ?_) rfl (by kernel_rfl) (by kernel_rfl) (by kernel_rfl) (fun _ _ _ h => h) (Or.inl ⟨by rfl, fun w hSw => ?_⟩) hH3 ?_
  rotate_left
  · go_simp
    try with_reducible rfl
  try simp only [Act.put, List.getElem_toArray, List.getElem_cons_zero, List.getElem_cons_succ, List.setIfInBounds_toArray, List.set_cons_zero, List.set_cons_succ]
  refine wpAnyH_take (i := 22) (v := ?_) rfl (by kernel_rfl) (by kernel_rfl) (by kernel_rfl) (fun _ _ _ h => h) (Or.inl ⟨by rfl, fun w hSw => ?_⟩) hH3 ?_
  rotate_left
  · go_simp
    try with_reducible rfl
  try simp only [Act.put, List.getElem_toArray, List.getElem_cons_zero, List.getElem_cons_succ, List.setIfInBounds_toArray, List.set_cons_zero, List.set_cons_succ]
  refine wpAnyH_take (i := 23) (v := ?_) rfl (by kernel_rfl) (by kernel_rfl) (by kernel_rfl) (fun _ _ _ h => h) (Or.inl ⟨by rfl, fun w hSw => ?_⟩) hH3 ?_
  rotate_left
  · go_simp
    try with_reducible rfl
  try simp only [Act.put, List.getElem_toArray, List.getElem_cons_zero, List.getElem_cons_succ, List.setIfInBounds_toArray, List.set_cons_zero, List.set_cons_succ]
  refine wpAnyH_ready (rs := [24]) (by kernel_rfl) (by simp) ?_
  refine AllReadyH.cons (o := _) rfl (fun K hK => ?_) AllReadyH.nil
  go_simp
  refine (works_any _).mono ?_
  rintro e wc4 ⟨rfl, hc4⟩
  refine hK.out _ _ (hnext _ _ hc4 hH3) (fun hH4 => ?_)
  clear hK K
  try simp only [Act.put, List.getElem_toArray, List.getElem_cons_zero, List.getElem_cons_succ, List.setIfInBounds_toArray, List.set_cons_zero, List.set_cons_succ]
  refine wpAnyH_take (i := 25) (v := ?_) rfl (by kernel_rfl) (by kernel_rfl) (by kernel_rfl) (fun _ _ _ h => h) (Or.inl ⟨by rfl, fun w hSw => ?_⟩) hH4 ?_
  rotate_left
  · go_simp
    try with_reducible rfl
  try simp only [Act.put, List.getElem_toArray, List.getElem_cons_zero, List.getElem_cons_succ, List.setIfInBounds_toArray, List.set_cons_zero, List.set_cons_succ]
  refine wpAnyH_take (i := 26) (v := ?_) rfl (by kernel_rfl) (by kernel_rfl) (by kernel_rfl) (fun _ _ _ h => h) (Or.inl ⟨by rfl, fun w hSw => ?_⟩) hH4 ?_
  rotate_left
  · go_simp
    try with_reducible rfl
  try simp only [Act.put, List.getElem_toArray, List.getElem_cons_zero, List.getElem_cons_succ, List.setIfInBounds_toArray, List.set_cons_zero, List.set_cons_succ]
  refine wpAnyH_done (by kernel_rfl) ?_ _
  go_wp2
  go_ret
  exact ⟨rfl, hH4.2.2.2⟩
end Go.Proofs.Ytmdacnegiilgfaa.Both
