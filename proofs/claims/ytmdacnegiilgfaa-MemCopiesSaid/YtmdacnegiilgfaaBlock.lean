/-
  Block and SetBlock of the memory walked, at any memory, any block.
-/
import Derived.Test.YtmdacnegiilgfaaMerges
namespace Go.Proofs.Ytmdacnegiilgfaa.Block
open Go.RowKit Base Mem Blks Merge Merges
set_option linter.unusedVariables false
set_option linter.unusedSimpArgs false

/-- The words of a block; what a whole block's write makes of the words. -/
def part16 (f : Nat → Int) (b : Int) : Nat → Int := fun j => f (b.toNat * 16 + j)
def putBlk (f : Nat → Int) (nb : Nat) (b : Int) (g : Nat → Int) : Nat → Int := fun i => if inr nb b 0 = true ∧ b.toNat * 16 ≤ i ∧ i < b.toNat * 16 + 16 then g (i - b.toNat * 16) else f i
def getBlk (f : Nat → Int) (nb : Nat) (b : Int) : Nat → Int := fun j => if inr nb b 0 = true then part16 f b j else 0

theorem mem_range {w : World} {p D nb : Nat} {f : Nat → Int} (h : MemAt w p D nb f) {b : Int} (hi : inr nb b 0 = true) : w.rangeAt D (b.toNat * 16) (blk (part16 f b)) := fun j v hv => by
  have hj : j < 16 := by
    have := (List.getElem?_eq_some_iff.1 hv).1
    rwa [blk_len] at this
  have g := inr_iff.1 hi
  rw [blk_get _ hj] at hv
  rw [h.2.2.2.cell (by omega)]
  exact hv
theorem ret_blk2 {P : Program} {w : World} {fn : Func} {tmps : Array Value} {p q : Tmp} {ty e : TypeId} {n : Nat} (hr : fn.results = #[.cell p ty, .tmp q]) {b : Nat} (hp : tmps.getD p undef = .pointer (some ⟨b, 0, none⟩)) {t : TypeId} {f : Nat → Int} (h : BlkAt w b t f)
    (hu : P.underlying ty = some (.array n e)) (hi : (P.info? ty).map (·.size) = some 16) : (results fn tmps).run P w = .ok (.tuple #[.agg (blk f).toArray, tmps.getD q undef]) w := by
  have hp' : tmps[p]?.getD undef = .pointer (some ⟨b, 0, none⟩) := by simpa using hp
  have hl := run_loadVar_row (P := P) w b t ty _ (0, 0) _ (blk_heap h) hu rfl (by rw [hi]; simp [blk_len])
  simp [results, hr, hp', asAddr, hl]

theorem block_any (p D nb : Nat) (f : Nat → Int) (b : Int) (w : World) (h : MemAt w p D nb f) :
    Calls Try.prog 17 #[.pointer (some ⟨p, 0, none⟩), .int .i64 b] w fun e w' => e = .returned (.tuple #[.agg (blk (getBlk f nb b)).toArray, .int .i64 (errOf nb b 0)]) ∧ Below w.heap.size w w' := by
  have hu := Try.underlying36
  have hi36 := (zero_of_info (P := Try.prog) info36').2
  have HI := hide hi36
  clear hi36
  have hM : MemAt (w.alloc (.cells (blk (fun _ => 0)).toArray 36)) p D nb f := h.below ((Below.refl _ _).alloc (Nat.le_refl _) _)
  have Z := hide (blk_new w 36 (fun _ => 0))
  cases hi : inr nb b 0
  · have A := hide (at_no p D nb f b 0 _ hM hi)
    have he : errOf nb b 0 = 5 := by simp [errOf, hi]
    have hg : blk (getBlk f nb b) = blk (fun _ => 0) := blk_congr fun j _ => by simp [getBlk, hi]
    rw [he, hg]
    clear he hg hi hM h
    go_enter Try.func17, Try.ntmps17
    go_wp2_with (first
      | ((with_reducible refine Arr.wpList_alloc_zero rfl 36 rfl _ _ info36' w.heap.size rfl ?_))
      | (go_at_call 26; refine A.out.mono ?_; rintro e wx ⟨rfl, rfl⟩)
      | ((with_reducible refine Great.wpList_readTo rfl (some 16) rfl (.agg (blk (fun _ => 0)).toArray) ?_ ?_); (· as_aux_lemma => kernel_rfl))
      | ((with_reducible refine store_blk rfl 36 _ _ rfl w.heap.size rfl (fun _ => 0) rfl Z.out HI.out ?_)))
    exact bodyPost_ret (v := .tuple #[.agg (blk (fun _ => 0)).toArray, .int .i64 5]) (ret_blk2 (b := w.heap.size) Try.results17 rfl (row_setCells Z.out _) hu HI.out) rfl
      ⟨rfl, below_setCells _ _ _ ((Below.refl _ _).alloc (Nat.le_refl _) _) (Nat.le_refl _)⟩
  · have A := hide (at_ok p D nb f b 0 _ hM hi)
    have he : errOf nb b 0 = 0 := by simp [errOf, hi]
    have hg : blk (getBlk f nb b) = blk (part16 f b) := blk_congr fun j _ => by simp [getBlk, hi]
    have hR := hide (mem_range hM hi)
    obtain ⟨cc, hcc, hc⟩ := hM.2.2.1
    have hs1 := size36 (part16 f b)
    obtain ⟨g0, g1, g2, g3⟩ := inr_iff.1 hi
    rw [he, hg]
    have hN := hM.1
    clear he hg hi hM h
    go_enter Try.func17, Try.ntmps17
    go_wp2_with (first
      | ((with_reducible refine Arr.wpList_alloc_zero rfl 36 rfl _ _ info36' w.heap.size rfl ?_))
      | (go_at_call 26; refine A.out.mono ?_; rintro e wx ⟨rfl, rfl⟩)
      | ((with_reducible refine wpList_load_mid rfl 36 _ rfl D (b.toNat * 16) rfl (blk (part16 f b)) _ hR.out hu rfl hs1 ?_))
      | ((with_reducible refine store_blk rfl 36 _ _ rfl w.heap.size rfl (part16 f b) rfl Z.out HI.out ?_)))
    exact bodyPost_ret (v := .tuple #[.agg (blk (part16 f b)).toArray, .int .i64 0]) (ret_blk2 (b := w.heap.size) Try.results17 rfl (row_setCells Z.out _) hu HI.out) rfl
      ⟨rfl, below_setCells _ _ _ ((Below.refl _ _).alloc (Nat.le_refl _) _) (Nat.le_refl _)⟩

theorem MemAt.congr {w : World} {p D nb : Nat} {f f' : Nat → Int} (h : MemAt w p D nb f) (e : ∀ i, i < nb * 16 → f i = f' i) : MemAt w p D nb f' :=
  ⟨h.1, h.2.1, h.2.2.1, h.2.2.2.congr fun i hi => by rw [e i hi]⟩
theorem MemAt.putBlk {w : World} {p D nb : Nat} {f : Nat → Int} (h : MemAt w p D nb f) {b : Int} (hi : inr nb b 0 = true) (g : Nat → Int) : MemAt (w.setCells D (b.toNat * 16) (blk g)) p D nb (putBlk f nb b g) := by
  obtain ⟨h1, h2, ⟨c, h0, h3⟩, ⟨S, F, s1, s2, s3⟩⟩ := h
  refine ⟨h1, h2, ⟨c, h0, (World.cell?_setCells_out D _ _ _ ⟨p, 0, none⟩ (fun e _ => absurd e h2)).trans h3⟩, ⟨S, _, s1, rows_setCells (blk g) (b.toNat * 16) w _ s2, fun i hi' => ?_⟩⟩
  dsimp only
  rw [blk_len]
  by_cases e : b.toNat * 16 ≤ i ∧ i < b.toNat * 16 + 16
  · rw [if_pos e, List.getD_eq_getElem?_getD, blk_get g (by omega)]
    simp [Block.putBlk, hi, e]
  · rw [if_neg e, s3 i hi']
    simp [Block.putBlk, hi, e]
theorem only_setCells {a w : World} {D : Nat} : ∀ (vs : List Value) (o : Nat) (w : World), a.grownBy w (some D) → a.grownBy (w.setCells D o vs) (some D)
  | [], _, _, h => h
  | v :: r, o, w, h => only_setCells (a := a) (w := w) r (o + 1) _ (only_setCell h (p := ⟨D, o, none⟩) (.inl rfl) v)

theorem setblock_any (p D nb : Nat) (f g : Nat → Int) (b : Int) (w : World) (h : MemAt w p D nb f) :
    Calls Try.prog 16 #[.pointer (some ⟨p, 0, none⟩), .int .i64 b, .agg (blk g).toArray] w fun e w' => e = .returned (.int .i64 (errOf nb b 0)) ∧ MemAt w' p D nb (putBlk f nb b g) ∧ w.grownBy w' (some D) := by
  have hgd := guard36
  have hu := Try.underlying36
  have hi36 := (zero_of_info (P := Try.prog) info36').2
  have HI := hide hi36
  clear hi36
  have hM : MemAt (w.alloc (.cells (blk g).toArray 36)) p D nb f := h.below ((Below.refl _ _).alloc (Nat.le_refl _) _)
  have hDlt := h.2.2.2.lt
  have K := hide (block_any p D nb f b _ hM)
  cases hi : inr nb b 0
  · have he : errOf nb b 0 = 5 := by simp [errOf, hi]
    have hsame : ∀ i, i < nb * 16 → f i = putBlk f nb b g i := fun i _ => by simp [putBlk, hi]
    have HS := hide hsame
    have HM := hide hM
    rw [he] at K ⊢
    clear hsame hM h he hi
    go_enter Try.func16, Try.ntmps16
    go_wp2_with (first
      | (go_at_call 17; refine K.out.mono ?_; rintro e w1 ⟨rfl, hb1⟩)
      | ((with_reducible refine Arr.wpList_alloc_zero rfl 36 rfl _ _ info36' w1.heap.size rfl ?_))
      | ((with_reducible refine Arr.wpList_store_last rfl 36 _ _ rfl _ _ w1.heap.size rfl rfl rfl HI.out ?_ ?_ ?_ ?_); (· simp [blk_len]); (· simp [blk_len]); (· simpa using blk_one (getBlk f nb b))))
    go_ret
    have hs1 := hb1.size
    simp at hs1
    refine ⟨rfl, MemAt.congr ((HM.out.below hb1).below ((Below.refl _ _).alloc (Nat.le_refl _) _)) HS.out, only_of_below ?_ _⟩
    exact (((Below.refl _ _).alloc (Nat.le_refl _) _).trans (hb1.mono (by simp))).alloc (by omega) _
  · have he : errOf nb b 0 = 0 := by simp [errOf, hi]
    have G0 := hide (blk_new w 36 g)
    obtain ⟨g0, g1, g2, g3⟩ := inr_iff.1 hi
    have HI2 := hide hi
    have HM := hide hM
    have HD := hide hDlt
    rw [he] at K ⊢
    by_cases hq : eqB (getBlk f nb b) g = true
    · have heq : ∀ w, (Op.equalIn 10000 36 (.agg (blk (getBlk f nb b)).toArray) (.agg (blk g).toArray)).run Try.prog w = .ok true w := fun w => by rw [eq36, hq]
      have hsame : ∀ i, i < nb * 16 → f i = putBlk f nb b g i := fun i _ => by
        unfold putBlk
        by_cases e : b.toNat * 16 ≤ i ∧ i < b.toNat * 16 + 16
        · rw [if_pos ⟨hi, e.1, e.2⟩]
          have := eqB_iff.1 hq (i - b.toNat * 16) (by omega)
          rw [← this]
          simp only [getBlk, hi, if_true, part16]
          congr 1
          omega
        · rw [if_neg (fun h => e h.2)]
      have HS := hide hsame
      clear hsame hM h he hi hDlt hq
      go_enter Try.func16, Try.ntmps16
      go_wp2_with (first
        | (go_at_call 17; refine K.out.mono ?_; rintro e w1 ⟨rfl, hb1⟩; have G1 := hide (G0.out.of_block (hb1.block _ G0.out.lt)); have C1 := hide (blk_new w1 36 (getBlk f nb b)))
        | ((with_reducible refine Arr.wpList_alloc_zero rfl 36 rfl _ _ info36' w1.heap.size rfl ?_))
        | ((with_reducible refine Arr.wpList_store_last rfl 36 _ _ rfl _ _ w1.heap.size rfl rfl rfl HI.out ?_ ?_ ?_ ?_); (· simp [blk_len]); (· simp [blk_len]); (· simpa using blk_one (getBlk f nb b)))
        | ((refine load_blk_g (by rfl) 36 (.tmp 7) rfl w1.heap.size rfl C1.out hu HI.out ?_))
        | ((refine load_blk_g (by rfl) 36 (.tmp 5) rfl w.heap.size rfl (G1.out.alloc _) hu HI.out ?_)))
      go_ret
      have hs1 := hb1.size
      simp at hs1
      refine ⟨rfl, MemAt.congr ((HM.out.below hb1).below ((Below.refl _ _).alloc (Nat.le_refl _) _)) HS.out, only_of_below ?_ _⟩
      exact (((Below.refl _ _).alloc (Nat.le_refl _) _).trans (hb1.mono (by simp))).alloc (by omega) _
    · have heq : ∀ w, (Op.equalIn 10000 36 (.agg (blk (getBlk f nb b)).toArray) (.agg (blk g).toArray)).run Try.prog w = .ok false w := fun w => by rw [eq36, Bool.eq_false_iff.2 hq]
      have hs2 := size36 g
      have hN := hM.1
      have hpD := hide hM.2.1
      clear hM h he hi hDlt hq
      go_enter Try.func16, Try.ntmps16
      go_wp2_with (first
        | (go_at_call 17; refine K.out.mono ?_; rintro e w1 ⟨rfl, hb1⟩; have G1 := hide (G0.out.of_block (hb1.block _ G0.out.lt)); have C1 := hide (blk_new w1 36 (getBlk f nb b)))
        | ((with_reducible refine Arr.wpList_alloc_zero rfl 36 rfl _ _ info36' w1.heap.size rfl ?_))
        | ((with_reducible refine Arr.wpList_store_last rfl 36 _ _ rfl _ _ w1.heap.size rfl rfl rfl HI.out ?_ ?_ ?_ ?_); (· simp [blk_len]); (· simp [blk_len]); (· simpa using blk_one (getBlk f nb b)))
        | ((refine load_blk_g (by rfl) 36 (.tmp 7) rfl w1.heap.size rfl C1.out hu HI.out ?_))
        | ((refine load_blk_g (by rfl) 36 (.tmp 5) rfl w.heap.size rfl (G1.out.alloc _) hu HI.out ?_)))
      have hs1 := hb1.size
      simp at hs1
      have HM2 := hide (MemAt.below (MemAt.below HM.out hb1) ((Below.refl _ _).alloc (Nat.le_refl _) (.cells (blk (getBlk f nb b)).toArray 36)))
      obtain ⟨cc, hcc, hcp⟩ := HM2.out.2.2.1
      have hrg := row_range (G1.out.alloc (.cells (blk (getBlk f nb b)).toArray 36))
      have hth : (w1.alloc (.cells (blk (getBlk f nb b)).toArray 36)).drew.there D (b.toNat * 16) 16 := fun j hj => by
        have hlt : b.toNat * 16 + j < nb * 16 := by omega
        exact ⟨by rw [show (w1.alloc (.cells (blk (getBlk f nb b)).toArray 36)).drew.cell? ⟨D, b.toNat * 16 + j, none⟩ = _ from HM2.out.2.2.2.cell hlt]; rfl, HM2.out.2.2.2.frozen _⟩
      have HTH := hide hth
      clear hth
      refine wp_region_held_drew (S := (fun w' => w'.cell? ⟨p, 0, none⟩ = some (.slice (some ⟨D, 0, none⟩) nb cc) ∧ w'.rangeAt w.heap.size 0 (blk g))) (by kernel_rfl) ⟨hcp, hrg⟩ (fun hH0 => ?_)
      clear hcp hrg
      refine wpAnyH_take (i := 0) (v := ?_) rfl (by kernel_rfl) (by kernel_rfl) (by kernel_rfl) (fun _ _ _ h => h) (Or.inl ⟨by rfl, fun w hSw => ?_⟩) hH0 ?_
      rotate_left
      · obtain ⟨hS1, hS2⟩ := hSw
        go_simp
        try with_reducible rfl
      try simp only [Act.put, List.getElem_toArray, List.getElem_cons_zero, List.getElem_cons_succ, List.setIfInBounds_toArray, List.set_cons_zero, List.set_cons_succ]
      refine wpAnyH_take (i := 1) (v := ?_) rfl (by kernel_rfl) (by kernel_rfl) (by kernel_rfl) (fun _ _ _ h => h) (Or.inl ⟨by rfl, fun w hSw => ?_⟩) hH0 ?_
      rotate_left
      · obtain ⟨hS1, hS2⟩ := hSw
        go_simp
        try with_reducible rfl
      try simp only [Act.put, List.getElem_toArray, List.getElem_cons_zero, List.getElem_cons_succ, List.setIfInBounds_toArray, List.set_cons_zero, List.set_cons_succ]
      refine wpAnyH_take (i := 2) (v := ?_) rfl (by kernel_rfl) (by kernel_rfl) (by kernel_rfl) (fun _ _ _ h => h) (Or.inl ⟨by rfl, fun w hSw => ?_⟩) hH0 ?_
      rotate_left
      · obtain ⟨hS1, hS2⟩ := hSw
        go_simp
        try with_reducible rfl
      try simp only [Act.put, List.getElem_toArray, List.getElem_cons_zero, List.getElem_cons_succ, List.setIfInBounds_toArray, List.set_cons_zero, List.set_cons_succ]
      refine wpAnyH_take (i := 3) (v := ?_) rfl (by kernel_rfl) (by kernel_rfl) (by kernel_rfl) (fun _ _ _ h => h) (Or.inl ⟨by rfl, fun w hSw => ?_⟩) hH0 ?_
      rotate_left
      · obtain ⟨hS1, hS2⟩ := hSw
        go_simp
        try with_reducible rfl
      try simp only [Act.put, List.getElem_toArray, List.getElem_cons_zero, List.getElem_cons_succ, List.setIfInBounds_toArray, List.set_cons_zero, List.set_cons_succ]
      refine wpAnyH_take (i := 4) (v := ?_) rfl (by kernel_rfl) (by kernel_rfl) (by kernel_rfl) (fun _ _ _ h => h) (Or.inl ⟨by rfl, fun w hSw => ?_⟩) hH0 ?_
      rotate_left
      · obtain ⟨hS1, hS2⟩ := hSw
        go_simp
        try with_reducible rfl
      try simp only [Act.put, List.getElem_toArray, List.getElem_cons_zero, List.getElem_cons_succ, List.setIfInBounds_toArray, List.set_cons_zero, List.set_cons_succ]
      refine wpAnyH_take (i := 5) (v := _) rfl (by kernel_rfl) (by kernel_rfl) (by kernel_rfl) (fun _ _ _ h => h) (yieldsIf_load_mid (by rfl) _ _ rfl _ _ rfl _ _ (fun w h => h.2) hu rfl hs2) hH0 ?_
      try simp only [Act.put, List.getElem_toArray, List.getElem_cons_zero, List.getElem_cons_succ, List.setIfInBounds_toArray, List.set_cons_zero, List.set_cons_succ]
      refine wpAnyH_take (i := 6) (v := ?_) rfl (by kernel_rfl) (by kernel_rfl) (by kernel_rfl) (fun _ _ _ h => h) (Or.inl ⟨by rfl, fun w hSw => ?_⟩) hH0 ?_
      rotate_left
      · obtain ⟨hS1, hS2⟩ := hSw
        go_simp
        try with_reducible rfl
      try simp only [Act.put, List.getElem_toArray, List.getElem_cons_zero, List.getElem_cons_succ, List.setIfInBounds_toArray, List.set_cons_zero, List.set_cons_succ]
      refine wpAnyH_ready (rs := [7]) (by kernel_rfl) (by simp) ?_
      refine AllReadyH.cons (o := _) rfl (fun K' hK' => ?_) AllReadyH.nil
      rw [if_pos (by rfl)]
      refine wp_store_mid 36 _ _ rfl D (b.toNat * 16) (blk g).toArray rfl rfl (by simpa [blk_len] using HTH.out) (by rw [HI.out]; simp [blk_len]) (all_oneCell_toArray (blk_one g)) ?_
      rw [List.toList_toArray]
      refine hK'.out _ _ ⟨(World.cell?_setCells_out D _ _ _ ⟨p, 0, none⟩ (fun e _ => absurd e hpD.out)).trans hH0.1, World.rangeAt_setCells_apart hH0.2 _ _ _ (.inl (fun e => by have := HD.out; omega))⟩ (fun hH1 => ?_)
      clear hK' K'
      try simp only [Act.put, List.getElem_toArray, List.getElem_cons_zero, List.getElem_cons_succ, List.setIfInBounds_toArray, List.set_cons_zero, List.set_cons_succ]
      refine wpAnyH_done (by kernel_rfl) ?_ _
      go_wp2
      go_ret
      refine ⟨rfl, MemAt.putBlk (w := (w1.alloc (.cells (blk (getBlk f nb b)).toArray 36)).drew) HM2.out HI2.out g, only_setCells (a := w) (w := w) _ _ _ (only_of_below ?_ _)⟩
      exact ((((Below.refl _ _).alloc (Nat.le_refl _) _).trans (hb1.mono (by simp))).alloc (by omega) _).drew
end Go.Proofs.Ytmdacnegiilgfaa.Block
