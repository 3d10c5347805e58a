/-
  Take of the document walked: any string.
-/
import Derived.Test.YtnjojcikahiieaaNTake
namespace Go.Proofs.Ytnjojcikahiieaa.NTakeR
open Go.RowKit Base Blks Words NRec NSmall NLaw NPlain NNum NVal NNumR NMayAll NPut NTakeP NTake
set_option linter.unusedVariables false
set_option linter.unusedSimpArgs false
set_option maxRecDepth 100000

theorem bt_extract (s : ByteArray) (a n j : Nat) (h : a + n ≤ s.size) (hj : j < n) : bt (s.extract a (a + n)) j = bt s (a + j) := by
  have hz : (s.extract a (a + n)).size = n := by rw [ByteArray.size_extract]; omega
  rw [bt_at _ (by omega : j < (s.extract a (a + n)).size), bt_at s (by omega : a + j < s.size), ByteArray.getElem_extract]
theorem val_congr {p q : Nat → Int} : ∀ n, (∀ j, j < n → p j = q j) → val p n = val q n
  | 0, _ => rfl
  | n + 1, h => by simp only [val]; rw [val_congr n fun j hj => h j (by omega), h n (by omega)]
theorem valueR_at (s : ByteArray) (a b n : Nat) (hb : b = a + n) (h : b ≤ s.size) (hn : n ≤ 8) (w : World) :
    Calls Try.prog 21 #[.string (s.extract a b)] w fun e w' => e = .returned (.int .u64 (val (fun j => bt s (a + j)) n)) ∧ w = w' := by
  subst hb
  have hz : (s.extract a (a + n)).size = n := by rw [ByteArray.size_extract]; omega
  have V := valueR_any (s.extract a (a + n)) (by omega) w
  rw [hz, val_congr n fun j hj => bt_extract s a n j h hj] at V
  exact V

theorem TakeR_len (s : ByteArray) (hs : s.size ≠ 78) (hm : s.size ≤ maxLen) (w : World) :
    Calls Try.prog 11 #[.string s] w fun e w' => e = .returned (.tuple #[.agg (ntL zeroN).toArray, .int .i64 6]) ∧ Below w.heap.size w w' := by
  have N0 := hide (NAt.new w zeroN)
  have HB := hide ((Below.refl w.heap.size w).alloc (Nat.le_refl _) (.cells (ntL zeroN).toArray 29))
  obtain ⟨w1, hw1⟩ : ∃ w1, w1 = w.alloc (.cells (ntL zeroN).toArray 29) := ⟨_, rfl⟩
  rw [← hw1] at N0 HB
  have Z0 := hide (NAt.new w1 zeroN)
  have R0 := hide (N0.out.alloc (.cells (ntL zeroN).toArray 29))
  have HB2 := hide (HB.out.alloc HB.out.size (.cells (ntL zeroN).toArray 29))
  have HW1 := hide hw1
  have hl : ((s.size : Int) != 78) = true := by rw [bne_iff_ne]; omega
  clear hs N0 HB
  go_enter Try.func11, Try.ntmps11
  go_upto_region 1 with (first
    | ((with_reducible refine alloc_note rfl rfl w.heap.size rfl ?_)))
  rw [← HW1.out]
  clear HW1 hw1
  go_wp2_with (first
    | ((with_reducible refine alloc_note rfl rfl w1.heap.size rfl ?_))
    | ((with_reducible refine Great.wpList_readTo rfl (some 7) rfl (.agg (ntL zeroN).toArray) ?_ ?_); (· as_aux_lemma => kernel_rfl))
    | ((with_reducible refine store_note_last rfl _ _ rfl _ w1.heap.size rfl rfl rfl ?_))
    | ((with_reducible refine load_note rfl (.tmp 4) rfl w1.heap.size rfl Z0.out ?_))
    | ((with_reducible refine store_note rfl (.tmp 2) (.tmp 11) rfl w.heap.size rfl zeroN rfl R0.out ?_)))
  exact bodyPost_ret (v := .tuple #[.agg (ntL zeroN).toArray, .int .i64 6]) (ret_note (b := w.heap.size) Try.results11 rfl (NAt.setAll R0.out zeroN) Try.underlying29 (zero_of_info (P := Try.prog) infoN).2) rfl ⟨rfl, below_setCells _ _ _ HB2.out (Nat.le_refl _)⟩

/-- The result's box, the empty note, the note that is made. -/
structure TR (w0 w : World) (R Z N : Nat) (n : NT) : Prop where
  fR : NAt w R zeroN
  fZ : NAt w Z zeroN
  fN : NAt w N n
  bel : Below w0.heap.size w0 w
  ge : w0.heap.size ≤ N ∧ w0.heap.size ≤ R
  ne : R ≠ N ∧ Z ≠ N
theorem TR.set {w0 w : World} {R Z N : Nat} {n m : NT} (h : TR w0 w R Z N n) (i : Nat) (v : Value) (hm : NAt (w.setCell ⟨N, i, none⟩ v) N m) : TR w0 (w.setCell ⟨N, i, none⟩ v) R Z N m :=
  ⟨h.fR.far (p := ⟨N, i, none⟩) h.ne.1 _, h.fZ.far (p := ⟨N, i, none⟩) h.ne.2 _, hm, h.bel.setCell (p := ⟨N, i, none⟩) h.ge.1 _, h.ge, h.ne⟩
def h0S (s : ByteArray) : NT := ⟨bt s 0, bt s 1 - 1, bt s 2 - 1, val (fun j => bt s (3 + j)) 2, val (fun j => bt s (5 + j)) 8, 0, false, false, fun _ => 0⟩
set_option maxHeartbeats 4000000 in
theorem TakeR_78 (s : ByteArray) (hs : s.size = 78) (w : World) :
    Calls Try.prog 11 #[.string s] w fun e w' => e = .returned (.tuple #[.agg (ntL (takeR s)).toArray, .int .i64 (takeE s)]) ∧ Below w.heap.size w w' := by
  have N0 := hide (NAt.new w zeroN)
  have HB := hide ((Below.refl w.heap.size w).alloc (Nat.le_refl _) (.cells (ntL zeroN).toArray 29))
  obtain ⟨w1, hw1⟩ : ∃ w1, w1 = w.alloc (.cells (ntL zeroN).toArray 29) := ⟨_, rfl⟩
  rw [← hw1] at N0 HB
  have Z0 := hide (NAt.new w1 zeroN)
  have R0 := hide (N0.out.alloc (.cells (ntL zeroN).toArray 29))
  have HB2 := hide (HB.out.alloc HB.out.size (.cells (ntL zeroN).toArray 29))
  have HZ := hide N0.out.lt
  have HW1 := hide hw1
  clear N0 HB
  go_enter Try.func11, Try.ntmps11
  go_upto_region 1 with (first
    | ((with_reducible refine alloc_note rfl rfl w.heap.size rfl ?_)))
  rw [← HW1.out]
  clear HW1 hw1
  go_upto_region 4 with (first
    | ((with_reducible refine alloc_note rfl rfl w1.heap.size rfl ?_))
    | ((with_reducible refine Great.wpList_readTo rfl (some 7) rfl (.agg (ntL zeroN).toArray) ?_ ?_); (· as_aux_lemma => kernel_rfl))
    | ((with_reducible refine store_note_last rfl _ _ rfl _ w1.heap.size rfl rfl rfl ?_)))
  have HS : Hid (w1.heap.size < (w1.alloc (.cells (ntL zeroN).toArray 29)).heap.size) := hide Z0.out.lt
  generalize w1.alloc (.cells (ntL zeroN).toArray 29) = w2 at *
  generalize w1.heap.size = Z at *
  clear w1
  have h0 : 0 < s.size := by omega
  have h1 : 1 < s.size := by omega
  have h2 : 2 < s.size := by omega
  have E0 := hide (bt_at s h0)
  have E1 := hide (bt_at s h1)
  have E2 := hide (bt_at s h2)
  obtain ⟨b10, b11⟩ := bt_bd s 1
  obtain ⟨b20, b21⟩ := bt_bd s 2
  rw [E1.out] at b10 b11
  rw [E2.out] at b20 b21
  have e1 : IntKind.i64.wrap ((s[1]'h1).toNat : Int) = ((s[1]'h1).toNat : Int) := IntWalk.i64_in _ (by omega)
  have e2 : IntKind.i64.wrap ((s[2]'h2).toNat : Int) = ((s[2]'h2).toNat : Int) := IntWalk.i64_in _ (by omega)
  have e3 : IntKind.i64.wrap (((s[1]'h1).toNat : Int) - 1) = ((s[1]'h1).toNat : Int) - 1 := IntWalk.i64_in _ (by omega)
  have e4 : IntKind.i64.wrap (((s[2]'h2).toNat : Int) - 1) = ((s[2]'h2).toNat : Int) - 1 := IntWalk.i64_in _ (by omega)
  have e5 : IntKind.i64.wrap (val (fun j => bt s (3 + j)) 2) = val (fun j => bt s (3 + j)) 2 := IntWalk.i64_in _ (by
    have := val_word s 3 2
    rw [show ((256 ^ 2 : Nat) : Int) = 65536 from rfl] at this
    omega)
  have hsl1 : ∀ W, (Instr.slice 9 (.string s) (some (.int .i64 3)) (some (.int .i64 5)) none).run Try.prog W = .ok (.string (s.extract 3 5)) W := fun W => run_slice_string (P := Try.prog) W _ s _ _ 3 5 Try.underlying9 (by omega) (by omega) (by omega)
  have hsl2 : ∀ W, (Instr.slice 9 (.string s) (some (.int .i64 5)) (some (.int .i64 13)) none).run Try.prog W = .ok (.string (s.extract 5 13)) W := fun W => run_slice_string (P := Try.prog) W _ s _ _ 5 13 Try.underlying9 (by omega) (by omega) (by omega)
  go_cut [5] (fun s5 wx => s5 = .pointer (some ⟨w2.heap.size, 0, none⟩) ∧ wx = w2.drew.alloc (.cells (ntL (h0S s)).toArray 29))
  case first =>
    refine wp_region_held_drew (S := fun _ => True) (by kernel_rfl) trivial (fun hH0 => ?_)
    refine wpAnyH_take (i := 0) (v := ?_) rfl (by kernel_rfl) (by kernel_rfl) (by kernel_rfl) (fun _ _ _ h => h) (Or.inl ⟨by rfl, fun w hSw => ?_⟩) hH0 ?_
    rotate_left
    · clear hSw
      go_simp
      try with_reducible rfl
    try simp only [Act.put, List.getElem_toArray, List.getElem_cons_zero, List.getElem_cons_succ, List.setIfInBounds_toArray, List.set_cons_zero, List.set_cons_succ]
    refine wpAnyH_take (i := 1) (v := ?_) rfl (by kernel_rfl) (by kernel_rfl) (by kernel_rfl) (fun _ _ _ h => h) (Or.inl ⟨by rfl, fun w hSw => ?_⟩) hH0 ?_
    rotate_left
    · clear hSw
      go_simp
      try with_reducible rfl
    try simp only [Act.put, List.getElem_toArray, List.getElem_cons_zero, List.getElem_cons_succ, List.setIfInBounds_toArray, List.set_cons_zero, List.set_cons_succ]
    refine wpAnyH_take (i := 2) (v := ?_) rfl (by kernel_rfl) (by kernel_rfl) (by kernel_rfl) (fun _ _ _ h => h) (Or.inl ⟨by rfl, fun w hSw => ?_⟩) hH0 ?_
    rotate_left
    · clear hSw
      go_simp
      try with_reducible rfl
    try simp only [Act.put, List.getElem_toArray, List.getElem_cons_zero, List.getElem_cons_succ, List.setIfInBounds_toArray, List.set_cons_zero, List.set_cons_succ]
    refine wpAnyH_take (i := 3) (v := ?_) rfl (by kernel_rfl) (by kernel_rfl) (by kernel_rfl) (fun _ _ _ h => h) (Or.inl ⟨by rfl, fun w hSw => ?_⟩) hH0 ?_
    rotate_left
    · clear hSw
      go_simp
      try with_reducible rfl
    try simp only [Act.put, List.getElem_toArray, List.getElem_cons_zero, List.getElem_cons_succ, List.setIfInBounds_toArray, List.set_cons_zero, List.set_cons_succ]
    refine wpAnyH_take (i := 4) (v := ?_) rfl (by kernel_rfl) (by kernel_rfl) (by kernel_rfl) (fun _ _ _ h => h) (Or.inl ⟨by rfl, fun w hSw => ?_⟩) hH0 ?_
    rotate_left
    · clear hSw
      go_simp
      try with_reducible rfl
    try simp only [Act.put, List.getElem_toArray, List.getElem_cons_zero, List.getElem_cons_succ, List.setIfInBounds_toArray, List.set_cons_zero, List.set_cons_succ]
    refine wpAnyH_take (i := 5) (v := ?_) rfl (by kernel_rfl) (by kernel_rfl) (by kernel_rfl) (fun _ _ _ h => h) (Or.inl ⟨by rfl, fun w hSw => ?_⟩) hH0 ?_
    rotate_left
    · clear hSw
      go_simp
      try with_reducible rfl
    try simp only [Act.put, List.getElem_toArray, List.getElem_cons_zero, List.getElem_cons_succ, List.setIfInBounds_toArray, List.set_cons_zero, List.set_cons_succ]
    refine wpAnyH_take (i := 6) (v := ?_) rfl (by kernel_rfl) (by kernel_rfl) (by kernel_rfl) (fun _ _ _ h => h) (Or.inl ⟨by rfl, fun w hSw => ?_⟩) hH0 ?_
    rotate_left
    · clear hSw
      go_simp
      try with_reducible rfl
    try simp only [Act.put, List.getElem_toArray, List.getElem_cons_zero, List.getElem_cons_succ, List.setIfInBounds_toArray, List.set_cons_zero, List.set_cons_succ]
    refine wpAnyH_take (i := 7) (v := ?_) rfl (by kernel_rfl) (by kernel_rfl) (by kernel_rfl) (fun _ _ _ h => h) (Or.inl ⟨by rfl, fun w hSw => ?_⟩) hH0 ?_
    rotate_left
    · clear hSw
      go_simp
      try with_reducible rfl
    try simp only [Act.put, List.getElem_toArray, List.getElem_cons_zero, List.getElem_cons_succ, List.setIfInBounds_toArray, List.set_cons_zero, List.set_cons_succ]
    refine wpAnyH_take (i := 8) (v := ?_) rfl (by kernel_rfl) (by kernel_rfl) (by kernel_rfl) (fun _ _ _ h => h) (Or.inl ⟨by rfl, fun w hSw => ?_⟩) hH0 ?_
    rotate_left
    · clear hSw
      go_simp
      try with_reducible rfl
    try simp only [Act.put, List.getElem_toArray, List.getElem_cons_zero, List.getElem_cons_succ, List.setIfInBounds_toArray, List.set_cons_zero, List.set_cons_succ]
    refine wpAnyH_take (i := 9) (v := ?_) rfl (by kernel_rfl) (by kernel_rfl) (by kernel_rfl) (fun _ _ _ h => h) (Or.inl ⟨by rfl, fun w hSw => ?_⟩) hH0 ?_
    rotate_left
    · clear hSw
      go_simp
      try with_reducible rfl
    try simp only [Act.put, List.getElem_toArray, List.getElem_cons_zero, List.getElem_cons_succ, List.setIfInBounds_toArray, List.set_cons_zero, List.set_cons_succ]
    refine wpAnyH_take (i := 10) (v := ?_) rfl (by kernel_rfl) (by kernel_rfl) (by kernel_rfl) (fun _ _ _ h => h) (Or.inl ⟨by rfl, fun w hSw => ?_⟩) hH0 ?_
    rotate_left
    · clear hSw
      go_simp
      try with_reducible rfl
    try simp only [Act.put, List.getElem_toArray, List.getElem_cons_zero, List.getElem_cons_succ, List.setIfInBounds_toArray, List.set_cons_zero, List.set_cons_succ]
    refine wpAnyH_take (i := 11) (v := ?_) rfl (by kernel_rfl) (by kernel_rfl) (by kernel_rfl) (fun _ _ _ h => h) (Or.inl ⟨by rfl, fun w hSw => ?_⟩) hH0 ?_
    rotate_left
    · clear hSw
      go_simp
      try with_reducible rfl
    try simp only [Act.put, List.getElem_toArray, List.getElem_cons_zero, List.getElem_cons_succ, List.setIfInBounds_toArray, List.set_cons_zero, List.set_cons_succ]
    refine wpAnyH_take (i := 14) (v := ?_) rfl (by kernel_rfl) (by kernel_rfl) (by kernel_rfl) (fun _ _ _ h => h) (Or.inl ⟨by rfl, fun w hSw => ?_⟩) hH0 ?_
    rotate_left
    · clear hSw
      go_simp
      try with_reducible rfl
    try simp only [Act.put, List.getElem_toArray, List.getElem_cons_zero, List.getElem_cons_succ, List.setIfInBounds_toArray, List.set_cons_zero, List.set_cons_succ]
    refine wpAnyH_take (i := 15) (v := ?_) rfl (by kernel_rfl) (by kernel_rfl) (by kernel_rfl) (fun _ _ _ h => h) (Or.inl ⟨by rfl, fun w hSw => ?_⟩) hH0 ?_
    rotate_left
    · clear hSw
      go_simp
      try with_reducible rfl
    try simp only [Act.put, List.getElem_toArray, List.getElem_cons_zero, List.getElem_cons_succ, List.setIfInBounds_toArray, List.set_cons_zero, List.set_cons_succ]
    refine wpAnyH_ready (rs := [12, 18]) (by kernel_rfl) (by simp) ?_
    refine AllReadyH.cons (o := _) rfl (fun K hK => ?_) (AllReadyH.cons (o := _) rfl (fun K hK => ?_) AllReadyH.nil)
    · go_simp
      refine (valueR_at s 3 5 2 rfl (by omega) (by omega) _).mono ?_
      rintro e wx ⟨rfl, rfl⟩
      refine hK.out _ _ (trivial) (fun hH1 => ?_)
      clear hK K
      try simp only [Act.put, List.getElem_toArray, List.getElem_cons_zero, List.getElem_cons_succ, List.setIfInBounds_toArray, List.set_cons_zero, List.set_cons_succ]
      refine wpAnyH_take (i := 13) (v := ?_) rfl (by kernel_rfl) (by kernel_rfl) (by kernel_rfl) (fun _ _ _ h => h) (Or.inl ⟨by rfl, fun w hSw => ?_⟩) hH1 ?_
      rotate_left
      · clear hSw
        go_simp
        try with_reducible rfl
      try simp only [Act.put, List.getElem_toArray, List.getElem_cons_zero, List.getElem_cons_succ, List.setIfInBounds_toArray, List.set_cons_zero, List.set_cons_succ]
      refine wpAnyH_ready (rs := [16, 18]) (by kernel_rfl) (by simp) ?_
      refine AllReadyH.cons (o := _) rfl (fun K hK => ?_) (AllReadyH.cons (o := _) rfl (fun K hK => ?_) AllReadyH.nil)
      · go_simp
        refine (valueR_at s 5 13 8 rfl (by omega) (by omega) _).mono ?_
        rintro e wx ⟨rfl, rfl⟩
        refine hK.out _ _ (trivial) (fun hH2 => ?_)
        clear hK K
        try simp only [Act.put, List.getElem_toArray, List.getElem_cons_zero, List.getElem_cons_succ, List.setIfInBounds_toArray, List.set_cons_zero, List.set_cons_succ]
        refine wpAnyH_take (i := 17) (v := .agg (ntL ⟨((s[0]'h0).toNat : Int), ((s[1]'h1).toNat : Int) - 1, ((s[2]'h2).toNat : Int) - 1, val (fun j => bt s (3 + j)) 2, val (fun j => bt s (5 + j)) 8, 0, false, false, fun _ => 0⟩).toArray) rfl (by kernel_rfl) (by kernel_rfl) (by kernel_rfl) (fun _ _ _ h => h) (Or.inl ⟨by rfl, fun w hSw => by as_aux_lemma => kernel_rfl⟩) hH2 ?_
        try simp only [Act.put, List.getElem_toArray, List.getElem_cons_zero, List.getElem_cons_succ, List.setIfInBounds_toArray, List.set_cons_zero, List.set_cons_succ]
        refine wpAnyH_ready (rs := [18]) (by kernel_rfl) (by simp) ?_
        refine AllReadyH.cons (o := _) rfl (fun K hK => ?_) AllReadyH.nil
        refine wp_alloc_note rfl ?_
        refine hK.out _ _ (trivial) (fun hH3 => ?_)
        clear hK K
        try simp only [Act.put, List.getElem_toArray, List.getElem_cons_zero, List.getElem_cons_succ, List.setIfInBounds_toArray, List.set_cons_zero, List.set_cons_succ]
        refine wpAnyH_ready (rs := [19]) (by kernel_rfl) (by simp) ?_
        refine AllReadyH.cons (o := _) rfl (fun K hK => ?_) AllReadyH.nil
        refine wp_store_note (w := w2.drew) (.tmp 5) (.tmp 29) rfl rfl rfl ?_
        refine hK.out _ _ (trivial) (fun hH4 => ?_)
        clear hK K
        try simp only [Act.put, List.getElem_toArray, List.getElem_cons_zero, List.getElem_cons_succ, List.setIfInBounds_toArray, List.set_cons_zero, List.set_cons_succ]
        refine wpAnyH_done (by kernel_rfl) ?_ _
        go_wp2_with fail
        go_meet
        exact ⟨rfl, by rw [h0S, E0.out, E1.out, E2.out]⟩
      · refine wp_alloc_note rfl ?_
        refine hK.out _ _ (trivial) (fun hH5 => ?_)
        clear hK K
        try simp only [Act.put, List.getElem_toArray, List.getElem_cons_zero, List.getElem_cons_succ, List.setIfInBounds_toArray, List.set_cons_zero, List.set_cons_succ]
        refine wpAnyH_ready (rs := [16]) (by kernel_rfl) (by simp) ?_
        refine AllReadyH.cons (o := _) rfl (fun K hK => ?_) AllReadyH.nil
        go_simp
        refine (valueR_at s 5 13 8 rfl (by omega) (by omega) _).mono ?_
        rintro e wx ⟨rfl, rfl⟩
        refine hK.out _ _ (trivial) (fun hH6 => ?_)
        clear hK K
        try simp only [Act.put, List.getElem_toArray, List.getElem_cons_zero, List.getElem_cons_succ, List.setIfInBounds_toArray, List.set_cons_zero, List.set_cons_succ]
        refine wpAnyH_take (i := 17) (v := .agg (ntL ⟨((s[0]'h0).toNat : Int), ((s[1]'h1).toNat : Int) - 1, ((s[2]'h2).toNat : Int) - 1, val (fun j => bt s (3 + j)) 2, val (fun j => bt s (5 + j)) 8, 0, false, false, fun _ => 0⟩).toArray) rfl (by kernel_rfl) (by kernel_rfl) (by kernel_rfl) (fun _ _ _ h => h) (Or.inl ⟨by rfl, fun w hSw => by as_aux_lemma => kernel_rfl⟩) hH6 ?_
        try simp only [Act.put, List.getElem_toArray, List.getElem_cons_zero, List.getElem_cons_succ, List.setIfInBounds_toArray, List.set_cons_zero, List.set_cons_succ]
        refine wpAnyH_ready (rs := [19]) (by kernel_rfl) (by simp) ?_
        refine AllReadyH.cons (o := _) rfl (fun K hK => ?_) AllReadyH.nil
        refine wp_store_note (w := w2.drew) (.tmp 5) (.tmp 29) rfl rfl rfl ?_
        refine hK.out _ _ (trivial) (fun hH7 => ?_)
        clear hK K
        try simp only [Act.put, List.getElem_toArray, List.getElem_cons_zero, List.getElem_cons_succ, List.setIfInBounds_toArray, List.set_cons_zero, List.set_cons_succ]
        refine wpAnyH_done (by kernel_rfl) ?_ _
        go_wp2_with fail
        go_meet
        exact ⟨rfl, by rw [h0S, E0.out, E1.out, E2.out]⟩
    · refine wp_alloc_note rfl ?_
      refine hK.out _ _ (trivial) (fun hH8 => ?_)
      clear hK K
      try simp only [Act.put, List.getElem_toArray, List.getElem_cons_zero, List.getElem_cons_succ, List.setIfInBounds_toArray, List.set_cons_zero, List.set_cons_succ]
      refine wpAnyH_ready (rs := [12]) (by kernel_rfl) (by simp) ?_
      refine AllReadyH.cons (o := _) rfl (fun K hK => ?_) AllReadyH.nil
      go_simp
      refine (valueR_at s 3 5 2 rfl (by omega) (by omega) _).mono ?_
      rintro e wx ⟨rfl, rfl⟩
      refine hK.out _ _ (trivial) (fun hH9 => ?_)
      clear hK K
      try simp only [Act.put, List.getElem_toArray, List.getElem_cons_zero, List.getElem_cons_succ, List.setIfInBounds_toArray, List.set_cons_zero, List.set_cons_succ]
      refine wpAnyH_take (i := 13) (v := ?_) rfl (by kernel_rfl) (by kernel_rfl) (by kernel_rfl) (fun _ _ _ h => h) (Or.inl ⟨by rfl, fun w hSw => ?_⟩) hH9 ?_
      rotate_left
      · clear hSw
        go_simp
        try with_reducible rfl
      try simp only [Act.put, List.getElem_toArray, List.getElem_cons_zero, List.getElem_cons_succ, List.setIfInBounds_toArray, List.set_cons_zero, List.set_cons_succ]
      refine wpAnyH_ready (rs := [16]) (by kernel_rfl) (by simp) ?_
      refine AllReadyH.cons (o := _) rfl (fun K hK => ?_) AllReadyH.nil
      go_simp
      refine (valueR_at s 5 13 8 rfl (by omega) (by omega) _).mono ?_
      rintro e wx ⟨rfl, rfl⟩
      refine hK.out _ _ (trivial) (fun hH10 => ?_)
      clear hK K
      try simp only [Act.put, List.getElem_toArray, List.getElem_cons_zero, List.getElem_cons_succ, List.setIfInBounds_toArray, List.set_cons_zero, List.set_cons_succ]
      refine wpAnyH_take (i := 17) (v := .agg (ntL ⟨((s[0]'h0).toNat : Int), ((s[1]'h1).toNat : Int) - 1, ((s[2]'h2).toNat : Int) - 1, val (fun j => bt s (3 + j)) 2, val (fun j => bt s (5 + j)) 8, 0, false, false, fun _ => 0⟩).toArray) rfl (by kernel_rfl) (by kernel_rfl) (by kernel_rfl) (fun _ _ _ h => h) (Or.inl ⟨by rfl, fun w hSw => by as_aux_lemma => kernel_rfl⟩) hH10 ?_
      try simp only [Act.put, List.getElem_toArray, List.getElem_cons_zero, List.getElem_cons_succ, List.setIfInBounds_toArray, List.set_cons_zero, List.set_cons_succ]
      refine wpAnyH_ready (rs := [19]) (by kernel_rfl) (by simp) ?_
      refine AllReadyH.cons (o := _) rfl (fun K hK => ?_) AllReadyH.nil
      refine wp_store_note (w := w2.drew) (.tmp 5) (.tmp 29) rfl rfl rfl ?_
      refine hK.out _ _ (trivial) (fun hH11 => ?_)
      clear hK K
      try simp only [Act.put, List.getElem_toArray, List.getElem_cons_zero, List.getElem_cons_succ, List.setIfInBounds_toArray, List.set_cons_zero, List.set_cons_succ]
      refine wpAnyH_done (by kernel_rfl) ?_ _
      go_wp2_with fail
      go_meet
      exact ⟨rfl, by rw [h0S, E0.out, E1.out, E2.out]⟩
  case rest =>
    obtain ⟨rfl, rfl⟩ := hcut
    have T0 : Hid (TR w (w2.drew.alloc (.cells (ntL (h0S s)).toArray 29)) w.heap.size Z w2.heap.size (h0S s)) := by
      have z1 := HS.out
      have z2 := HZ.out
      have z3 := HB2.out.size
      exact hide ⟨NAt.alloc (w := w2.drew) R0.out _, NAt.alloc (w := w2.drew) Z0.out _, NAt.new w2.drew (h0S s), (show Below w.heap.size w w2.drew from HB2.out.drew).alloc z3 _, ⟨z3, Nat.le_refl _⟩, by omega, by omega⟩
    have hK := bt_bd s 0
    have M := hide (fun w => doc_any (takeS s) hK.1 hK.2 w)
    clear hK R0 Z0 HS HB2 HZ e1 e2 e3 e4 e5 hsl1 hsl2 b10 b11 b20 b21 E0 E1 E2 h0 h1 h2
    generalize w2.drew.alloc (.cells (ntL (h0S s)).toArray 29) = w3 at *
    generalize w2.heap.size = N at *
    generalize w.heap.size = R at *
    have h13 : 13 < s.size := by omega
    have E13 := hide (bt_at s h13)
    obtain ⟨bd0, bd1⟩ := bt_bd s 13
    rw [E13.out] at bd0 bd1
    have f5 := T0.out.fN.frozen 5
    have c5 := T0.out.fN.cells.2.2.2.2.2.1
    go_upto_region 6 with fail
    have T1 := hide (T0.out.set 5 (.int .u8 (((s[13]'h13).toNat : Int) / 4)) (T0.out.fN.setS _))
    clear T0 f5 c5
    generalize World.setCell w3 ⟨N, 5, none⟩ (.int .u8 (((s[13]'h13).toNat : Int) / 4)) = w4 at *
    clear w3
    have f6 := T1.out.fN.frozen 6
    have c6 := T1.out.fN.cells.2.2.2.2.2.2.1
    go_upto_region 7 with fail
    have hha : (((s[13]'h13).toNat : Int) / 2 % 2 == 1) = haS s := by rw [haS, E13.out]; rfl
    have hsk : (((s[13]'h13).toNat : Int) % 2 == 1) = skS s := by rw [skS, E13.out]; rfl
    rw [hha]
    have T2 := hide (T1.out.set 6 (.bool (haS s)) (T1.out.fN.setHa _))
    clear T1 f6 c6 hha
    generalize World.setCell w4 ⟨N, 6, none⟩ (.bool (haS s)) = w5 at *
    clear w4
    have f7 := T2.out.fN.frozen 7
    have c7 := T2.out.fN.cells.2.2.2.2.2.2.2
    go_upto_region 8 with fail
    have T3 := hide (T2.out.set 7 (.bool (skS s)) (T2.out.fN.setSk _))
    clear T2 f7 c7 hsk
    generalize World.setCell w5 ⟨N, 7, none⟩ (.bool (skS s)) = w6 at *
    clear w5
    have T4 : Hid (TR w w6 R Z N (partN s 0)) := by
      have e : (⟨bt s 0, bt s 1 - 1, bt s 2 - 1, val (fun j => bt s (3 + j)) 2, val (fun j => bt s (5 + j)) 8, ((s[13]'h13).toNat : Int) / 4, haS s, skS s, fun _ => 0⟩ : NT) = partN s 0 := by rw [partN_zero, headS, E13.out]
      rw [← e]
      exact T3
    clear T3 E13 bd0 bd1 h13
    go_wp2_with fail
    go_loopw [6] (fun i wr => ∃ k : Nat, k ≤ 16 ∧ i = .int .i64 k ∧ Hid (TR w wr R Z N (partN s k))) (fun i _ => 16 - (intOf i).toNat)
    case atStart => exact ⟨0, by omega, rfl, T4⟩
    case round =>
      clear T4
      obtain ⟨k, hk, rfl, hT⟩ := hrel
      by_cases hlt : k < 16
      · have hsl : ∀ W, (Instr.slice 9 (.string s) (some (.int .i64 (14 + 4 * (k : Int)))) (some (.int .i64 (18 + 4 * (k : Int)))) none).run Try.prog W = .ok (.string (s.extract (14 + 4 * k) (18 + 4 * k))) W := fun W => by
          have := run_slice_string (P := Try.prog) W 9 s .i64 .i64 (14 + 4 * (k : Int)) (18 + 4 * (k : Int)) Try.underlying9 (by omega) (by omega) (by omega)
          rw [show (14 + 4 * (k : Int)).toNat = 14 + 4 * k by omega, show (18 + 4 * (k : Int)).toNat = 18 + 4 * k by omega] at this
          exact this
        have VA := hide (valueR_at s (14 + 4 * k) (18 + 4 * k) 4 (by omega) (by omega) (by omega) wr)
        have hv := val_word s (14 + 4 * k) 4
        rw [show ((256 ^ 4 : Nat) : Int) = 4294967296 from rfl] at hv
        obtain ⟨v0, v1⟩ := hv
        have hw := hT.out.set (8 + k) (.int .u32 (wordS s k)) (hT.out.fN.setWord k (wordS s k))
        rw [partN_succ] at hw
        have HW := hide hw
        have hcell := hT.out.fN.word hlt
        have hfz := hT.out.fN.frozen (8 + k)
        have hws : wordS s k = val (fun j => bt s (14 + 4 * k + j)) 4 := rfl
        rw [hws] at HW
        have hlt' : (k : Int) < 16 := by omega
        clear hw hws
        generalize val (fun j => bt s (14 + 4 * k + j)) 4 = v at *
        generalize (partN s k).f k = old at *
        go_wp2_with fail
        refine VA.out.mono ?_
        rintro e wx ⟨rfl, rfl⟩
        go_wp2_with fail
        go_roundw
        case rel => exact ⟨k + 1, by omega, by go_num, HW⟩
        case measure => simp [intOf]; omega
      · obtain rfl : k = 16 := by omega
        have hN := nat_congr hT.out.fN (partN_all s)
        have HN := hide hN
        have HT := hide hT.out
        clear hN hT
        rcases Bool.eq_false_or_eq_true (mayN (takeS s)) with hm | hm
        all_goals
          first
            | have HTK := hide (take_ok hm)
            | have HTK := hide (take_no hm)
          rw [hm] at M
          clear hm
          go_wp2_with (first
            | ((with_reducible refine load_note rfl (.tmp 5) rfl N rfl HN.out ?_)))
          refine (M.out _).mono ?_
          rintro e w7 ⟨rfl, hb7⟩
          have R7 := hide (HT.out.fR.below hb7 HT.out.fR.lt)
          have Z7 := hide (HT.out.fZ.below hb7 HT.out.fZ.lt)
          have N7 := hide (HN.out.below hb7 HN.out.lt)
          have B7 := hide (below_then HT.out.bel hb7)
          have G7 := hide HT.out.ge.2
          clear hb7 HT HN
          go_wp2_with (first
            | ((with_reducible refine load_note rfl (.tmp 5) rfl N rfl N7.out ?_))
            | ((with_reducible refine load_note rfl (.tmp 4) rfl Z rfl Z7.out ?_))
            | ((with_reducible refine store_note rfl (.tmp 2) (.tmp 65) rfl R rfl zeroN rfl R7.out ?_))
            | ((with_reducible refine store_note rfl (.tmp 2) (.tmp 66) rfl R rfl (takeS s) rfl R7.out ?_)))
        · exact bodyPost_ret (v := .tuple #[.agg (ntL (takeS s)).toArray, .int .i64 0]) (ret_note (b := R) Try.results11 rfl (NAt.setAll R7.out (takeS s)) Try.underlying29 (zero_of_info (P := Try.prog) infoN).2) rfl ⟨by rw [HTK.out.1, HTK.out.2], below_setCells _ _ _ B7.out G7.out⟩
        · exact bodyPost_ret (v := .tuple #[.agg (ntL zeroN).toArray, .int .i64 6]) (ret_note (b := R) Try.results11 rfl (NAt.setAll R7.out zeroN) Try.underlying29 (zero_of_info (P := Try.prog) infoN).2) rfl ⟨by rw [HTK.out.1, HTK.out.2], below_setCells _ _ _ B7.out G7.out⟩
end Go.Proofs.Ytnjojcikahiieaa.NTakeR
