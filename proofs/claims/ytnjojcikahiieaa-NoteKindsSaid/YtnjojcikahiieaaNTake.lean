/-
  Take of the program walked: any bytes.
-/
import Derived.Test.YtnjojcikahiieaaNTakeP
import Derived.Deep.Cut
import Derived.Deep.DeepCutAuto
import Derived.Deep.RegionHeld3
namespace Go.Proofs.Ytnjojcikahiieaa.NTake
open Go.RowKit Base Blks Words NRec NSmall NLaw NPlain NNum NVal NNumR NMayAll NPut NTakeP
set_option linter.unusedVariables false
set_option linter.unusedSimpArgs false
set_option maxRecDepth 100000

theorem Take_len (s : ByteArray) (hs : s.size ≠ 78) (hm : s.size ≤ maxLen) (w : World) :
    Calls Try.prog 10 #[.string s] w fun e w' => e = .returned (.tuple #[.agg (ntL zeroN).toArray, .int .i64 6]) ∧ Below w.heap.size w w' := by
  have N0 := hide (NAt.new w zeroN)
  have HB := hide ((Below.refl w.heap.size w).alloc (Nat.le_refl _) (.cells (ntL zeroN).toArray 29))
  have hl : ((s.size : Int) != 78) = true := by rw [bne_iff_ne]; omega
  clear hs
  go_enter Try.func10, Try.ntmps10
  go_wp2_with (first
    | ((with_reducible refine alloc_note rfl rfl w.heap.size rfl ?_))
    | ((with_reducible refine Great.wpList_readTo rfl (some 10) rfl (.agg (ntL zeroN).toArray) ?_ ?_); (· as_aux_lemma => kernel_rfl))
    | ((with_reducible refine store_note_last rfl _ _ rfl _ w.heap.size rfl rfl rfl ?_)))
  exact bodyPost_ret (v := .tuple #[.agg (ntL zeroN).toArray, .int .i64 6]) (ret_note (b := w.heap.size) Try.results10 rfl N0.out Try.underlying29 (zero_of_info (P := Try.prog) infoN).2) rfl ⟨rfl, HB.out⟩

theorem bytesAt_alloc {w : World} {B : Nat} {s : ByteArray} (h : BytesAt B s w) (hB : B < w.heap.size) (o : Obj) : BytesAt B s (w.alloc o) := fun j hj => (World.cell?_alloc_lt w o ⟨B, j, none⟩ hB).trans (h j hj)
/-- The result's box, the bytes, the note that is made. -/
structure TK (w0 w : World) (R B N : Nat) (s : ByteArray) (n : NT) : Prop where
  fR : NAt w R zeroN
  fB : BytesAt B s w
  fN : NAt w N n
  bel : Below w0.heap.size w0 w
  ge : w0.heap.size ≤ N ∧ w0.heap.size ≤ R
  ne : R ≠ N ∧ B ≠ N
theorem TK.below {w0 w w' : World} {R B N : Nat} {s : ByteArray} {n : NT} (h : TK w0 w R B N s n) (hB : B < w.heap.size) (hb : Below w.heap.size w w') : TK w0 w' R B N s n :=
  ⟨h.fR.below hb h.fR.lt, fun j hj => (hb.cell (p := ⟨B, j, none⟩) hB).trans (h.fB j hj), h.fN.below hb h.fN.lt, below_then h.bel hb, h.ge, h.ne⟩
theorem TK.lt {w0 w : World} {R B N : Nat} {s : ByteArray} {n : NT} (h : TK w0 w R B N s n) : B < w.heap.size := block_lt_of_cell (h.fB 0 (by omega))
theorem TK.setWord {w0 w : World} {R B N : Nat} {s : ByteArray} {n : NT} (h : TK w0 w R B N s n) (j : Nat) (x : Int) : TK w0 (w.setCell ⟨N, 8 + j, none⟩ (.int .u32 x)) R B N s { n with f := fun i => if i = j then x else n.f i } :=
  ⟨h.fR.far (p := ⟨N, 8 + j, none⟩) h.ne.1 _, fun i hi => (World.cell?_setCell_other _ _ _ _ (fun e => h.ne.2 (by injection e with e1; exact e1.symm))).trans (h.fB i hi), h.fN.setWord j x, h.bel.setCell (p := ⟨N, 8 + j, none⟩) h.ge.1 _, h.ge, h.ne⟩
def takeR (s : ByteArray) : NT := if mayN (takeS s) = true then takeS s else zeroN
def takeE (s : ByteArray) : Int := if mayN (takeS s) = true then 0 else 6
theorem take_no {s : ByteArray} (h : mayN (takeS s) = false) : takeR s = zeroN ∧ takeE s = 6 := by simp [takeR, takeE, h]
theorem take_ok {s : ByteArray} (h : mayN (takeS s) = true) : takeR s = takeS s ∧ takeE s = 0 := by simp [takeR, takeE, h]
def partN (s : ByteArray) (k : Nat) : NT := { headS s with f := fun i => if i < k then wordS s i else 0 }
theorem partN_zero (s : ByteArray) : partN s 0 = headS s := rfl
theorem partN_succ (s : ByteArray) (k : Nat) : { partN s k with f := fun i => if i = k then wordS s k else (partN s k).f i } = partN s (k + 1) := by
  have e : (fun i => if i = k then wordS s k else (partN s k).f i) = fun i => if i < k + 1 then wordS s i else 0 := by
    funext i
    show (if i = k then wordS s k else if i < k then wordS s i else 0) = _
    by_cases e : i = k
    · subst e; simp
    · by_cases e2 : i < k
      · simp [e, e2, show i < k + 1 by omega]
      · simp [e, e2, show ¬ i < k + 1 by omega]
  rw [e]
  rfl
theorem partN_all (s : ByteArray) : ntL (partN s 16) = ntL (takeS s) := by
  simp only [ntL, partN, takeS]
  rw [blk_congr (f := fun i => if i < 16 then wordS s i else 0) (g := wordS s) fun j hj => by rw [if_pos hj]]
theorem nat_congr {w : World} {b : Nat} {n m : NT} (h : NAt w b n) (e : ntL n = ntL m) : NAt w b m := by
  unfold NAt at h ⊢
  rw [← e]
  exact h
set_option maxHeartbeats 4000000 in
theorem Take_78 (s : ByteArray) (hs : s.size = 78) (w : World) :
    Calls Try.prog 10 #[.string s] w fun e w' => e = .returned (.tuple #[.agg (ntL (takeR s)).toArray, .int .i64 (takeE s)]) ∧ Below w.heap.size w w' := by
  have N0 := hide (NAt.new w zeroN)
  have HB := hide ((Below.refl w.heap.size w).alloc (Nat.le_refl _) (.cells (ntL zeroN).toArray 29))
  obtain ⟨w1, hw1⟩ : ∃ w1, w1 = w.alloc (.cells (ntL zeroN).toArray 29) := ⟨_, rfl⟩
  rw [← hw1] at N0 HB
  have HCV := hide (Lib.run_convert_string_bytes (P := Try.prog) w1 9 42 5 s Try.underlying9 Try.underlying42 Try.underlying5)
  have HGC := hide (grownCap_ge w1 s.size 0 5)
  have HW1 := hide hw1
  go_enter Try.func10, Try.ntmps10
  go_upto_region 3 with (first
    | ((with_reducible refine alloc_note rfl rfl w.heap.size rfl ?_)))
  rw [← HW1.out]
  have hcv := HCV.out
  clear hw1
  go_upto_region 4 with fail
  clear hcv
  have BY : Hid (BytesAt w1.heap.size s (Lib.bytesWorld w1 5 s)) := hide (bytesAt_new w1 s hs)
  have BB := hide (bytes_below (s := s) HB.out)
  have R2 : Hid (NAt (Lib.bytesWorld w1 5 s) w.heap.size zeroN) := hide ((Lib.bytesWorld_at_old w1 5 s w.heap.size N0.out.lt).trans N0.out)
  have HZ : Hid (w1.heap.size < (Lib.bytesWorld w1 5 s).heap.size ∧ w.heap.size < w1.heap.size) := hide ⟨by rw [Lib.bytesWorld_size]; omega, N0.out.lt⟩
  have hcap := HGC.out
  rw [hs] at hcap
  clear N0 HB HCV HGC HW1
  generalize Lib.bytesWorld w1 5 s = wB at *
  generalize grownCap w1 78 0 5 = cap at *
  generalize w1.heap.size = B at *
  clear w1
  obtain ⟨b10, b11⟩ := bt_bd s 1
  obtain ⟨b20, b21⟩ := bt_bd s 2
  obtain ⟨bd0, bd1⟩ := bt_bd s 13
  have e1 : IntKind.i64.wrap (bt s 1) = bt s 1 := IntWalk.i64_in _ (by omega)
  have e2 : IntKind.i64.wrap (bt s 2) = bt s 2 := IntWalk.i64_in _ (by omega)
  have e3 : IntKind.i64.wrap (bt s 1 - 1) = bt s 1 - 1 := IntWalk.i64_in _ (by omega)
  have e4 : IntKind.i64.wrap (bt s 2 - 1) = bt s 2 - 1 := IntWalk.i64_in _ (by omega)
  have e5 : IntKind.i64.wrap (val (fun j => bt s (3 + j)) 2) = val (fun j => bt s (3 + j)) 2 := IntWalk.i64_in _ (by
    have := val_word s 3 2
    rw [show ((256 ^ 2 : Nat) : Int) = 65536 from rfl] at this
    omega)
  have e6 : (bits .and .u8 (bt s 13) 2 != 0) = haS s := (byte_and_int bd0 bd1).1
  have e7 : (bits .and .u8 (bt s 13) 1 != 0) = skS s := (byte_and_int bd0 bd1).2
  have hsl1 : ∀ W, (Instr.slice 42 (.slice (some ⟨B, 0, none⟩) 78 cap) (some (.int .i64 3)) (some (.int .i64 5)) none).run Try.prog W = .ok (.slice (some ⟨B, 3, none⟩) 2 (cap - 3)) W := fun W => slice_at B cap 3 5 (by omega) (by omega) W
  have hsl2 : ∀ W, (Instr.slice 42 (.slice (some ⟨B, 0, none⟩) 78 cap) (some (.int .i64 5)) (some (.int .i64 13)) none).run Try.prog W = .ok (.slice (some ⟨B, 5, none⟩) 8 (cap - 5)) W := fun W => slice_at B cap 5 13 (by omega) (by omega) W
  have BY2 : BytesAt B s wB.drew := BY.out
  have HY2 := hide BY2
  clear BY2
  go_cut [5] (fun s5 wx => s5 = .pointer (some ⟨wB.heap.size, 0, none⟩) ∧ wx = wB.drew.alloc (.cells (ntL (headS s)).toArray 29))
  case first =>
    refine wp_region_held_drew (S := BytesAt B s) (by kernel_rfl) HY2.out (fun hH0 => ?_)
    refine wpAnyH_take (i := 0) (v := ?_) rfl (by kernel_rfl) (by kernel_rfl) (by kernel_rfl) (fun _ _ _ h => h) (Or.inl ⟨by rfl, fun w hSw => ?_⟩) hH0 ?_
    rotate_left
    · clear hSw
      go_simp
      try with_reducible rfl
    try simp only [Act.put, List.getElem_toArray, List.getElem_cons_zero, List.getElem_cons_succ, List.setIfInBounds_toArray, List.set_cons_zero, List.set_cons_succ]
    refine wpAnyH_take (i := 1) (v := ?_) rfl (by kernel_rfl) (by kernel_rfl) (by kernel_rfl) (fun _ _ _ h => h) (Or.inl ⟨by rfl, fun w hSw => ?_⟩) hH0 ?_
    rotate_left
    · clear hSw
      go_simp
      try with_reducible rfl
    try simp only [Act.put, List.getElem_toArray, List.getElem_cons_zero, List.getElem_cons_succ, List.setIfInBounds_toArray, List.set_cons_zero, List.set_cons_succ]
    refine wpAnyH_take (i := 2) (v := ?_) rfl (by kernel_rfl) (by kernel_rfl) (by kernel_rfl) (fun _ _ _ h => h) (Or.inl ⟨by rfl, fun w hSw => ?_⟩) hH0 ?_
    rotate_left
    · have c0 := hSw 0 (by omega); have c1 := hSw 1 (by omega); have c2 := hSw 2 (by omega); have c13 := hSw 13 (by omega); clear hSw
      go_simp
      try with_reducible rfl
    try simp only [Act.put, List.getElem_toArray, List.getElem_cons_zero, List.getElem_cons_succ, List.setIfInBounds_toArray, List.set_cons_zero, List.set_cons_succ]
    refine wpAnyH_take (i := 3) (v := ?_) rfl (by kernel_rfl) (by kernel_rfl) (by kernel_rfl) (fun _ _ _ h => h) (Or.inl ⟨by rfl, fun w hSw => ?_⟩) hH0 ?_
    rotate_left
    · clear hSw
      go_simp
      try with_reducible rfl
    try simp only [Act.put, List.getElem_toArray, List.getElem_cons_zero, List.getElem_cons_succ, List.setIfInBounds_toArray, List.set_cons_zero, List.set_cons_succ]
    refine wpAnyH_take (i := 4) (v := ?_) rfl (by kernel_rfl) (by kernel_rfl) (by kernel_rfl) (fun _ _ _ h => h) (Or.inl ⟨by rfl, fun w hSw => ?_⟩) hH0 ?_
    rotate_left
    · clear hSw
      go_simp
      try with_reducible rfl
    try simp only [Act.put, List.getElem_toArray, List.getElem_cons_zero, List.getElem_cons_succ, List.setIfInBounds_toArray, List.set_cons_zero, List.set_cons_succ]
    refine wpAnyH_take (i := 5) (v := ?_) rfl (by kernel_rfl) (by kernel_rfl) (by kernel_rfl) (fun _ _ _ h => h) (Or.inl ⟨by rfl, fun w hSw => ?_⟩) hH0 ?_
    rotate_left
    · have c0 := hSw 0 (by omega); have c1 := hSw 1 (by omega); have c2 := hSw 2 (by omega); have c13 := hSw 13 (by omega); clear hSw
      go_simp
      try with_reducible rfl
    try simp only [Act.put, List.getElem_toArray, List.getElem_cons_zero, List.getElem_cons_succ, List.setIfInBounds_toArray, List.set_cons_zero, List.set_cons_succ]
    refine wpAnyH_take (i := 6) (v := ?_) rfl (by kernel_rfl) (by kernel_rfl) (by kernel_rfl) (fun _ _ _ h => h) (Or.inl ⟨by rfl, fun w hSw => ?_⟩) hH0 ?_
    rotate_left
    · clear hSw
      go_simp
      try with_reducible rfl
    try simp only [Act.put, List.getElem_toArray, List.getElem_cons_zero, List.getElem_cons_succ, List.setIfInBounds_toArray, List.set_cons_zero, List.set_cons_succ]
    refine wpAnyH_take (i := 7) (v := ?_) rfl (by kernel_rfl) (by kernel_rfl) (by kernel_rfl) (fun _ _ _ h => h) (Or.inl ⟨by rfl, fun w hSw => ?_⟩) hH0 ?_
    rotate_left
    · clear hSw
      go_simp
      try with_reducible rfl
    try simp only [Act.put, List.getElem_toArray, List.getElem_cons_zero, List.getElem_cons_succ, List.setIfInBounds_toArray, List.set_cons_zero, List.set_cons_succ]
    refine wpAnyH_take (i := 8) (v := ?_) rfl (by kernel_rfl) (by kernel_rfl) (by kernel_rfl) (fun _ _ _ h => h) (Or.inl ⟨by rfl, fun w hSw => ?_⟩) hH0 ?_
    rotate_left
    · clear hSw
      go_simp
      try with_reducible rfl
    try simp only [Act.put, List.getElem_toArray, List.getElem_cons_zero, List.getElem_cons_succ, List.setIfInBounds_toArray, List.set_cons_zero, List.set_cons_succ]
    refine wpAnyH_take (i := 9) (v := ?_) rfl (by kernel_rfl) (by kernel_rfl) (by kernel_rfl) (fun _ _ _ h => h) (Or.inl ⟨by rfl, fun w hSw => ?_⟩) hH0 ?_
    rotate_left
    · clear hSw
      go_simp
      try with_reducible rfl
    try simp only [Act.put, List.getElem_toArray, List.getElem_cons_zero, List.getElem_cons_succ, List.setIfInBounds_toArray, List.set_cons_zero, List.set_cons_succ]
    refine wpAnyH_take (i := 10) (v := ?_) rfl (by kernel_rfl) (by kernel_rfl) (by kernel_rfl) (fun _ _ _ h => h) (Or.inl ⟨by rfl, fun w hSw => ?_⟩) hH0 ?_
    rotate_left
    · have c0 := hSw 0 (by omega); have c1 := hSw 1 (by omega); have c2 := hSw 2 (by omega); have c13 := hSw 13 (by omega); clear hSw
      go_simp
      try with_reducible rfl
    try simp only [Act.put, List.getElem_toArray, List.getElem_cons_zero, List.getElem_cons_succ, List.setIfInBounds_toArray, List.set_cons_zero, List.set_cons_succ]
    refine wpAnyH_take (i := 11) (v := ?_) rfl (by kernel_rfl) (by kernel_rfl) (by kernel_rfl) (fun _ _ _ h => h) (Or.inl ⟨by rfl, fun w hSw => ?_⟩) hH0 ?_
    rotate_left
    · clear hSw
      go_simp
      try with_reducible rfl
    try simp only [Act.put, List.getElem_toArray, List.getElem_cons_zero, List.getElem_cons_succ, List.setIfInBounds_toArray, List.set_cons_zero, List.set_cons_succ]
    refine wpAnyH_take (i := 12) (v := ?_) rfl (by kernel_rfl) (by kernel_rfl) (by kernel_rfl) (fun _ _ _ h => h) (Or.inl ⟨by rfl, fun w hSw => ?_⟩) hH0 ?_
    rotate_left
    · clear hSw
      go_simp
      try with_reducible rfl
    try simp only [Act.put, List.getElem_toArray, List.getElem_cons_zero, List.getElem_cons_succ, List.setIfInBounds_toArray, List.set_cons_zero, List.set_cons_succ]
    refine wpAnyH_take (i := 13) (v := ?_) rfl (by kernel_rfl) (by kernel_rfl) (by kernel_rfl) (fun _ _ _ h => h) (Or.inl ⟨by rfl, fun w hSw => ?_⟩) hH0 ?_
    rotate_left
    · clear hSw
      go_simp
      try with_reducible rfl
    try simp only [Act.put, List.getElem_toArray, List.getElem_cons_zero, List.getElem_cons_succ, List.setIfInBounds_toArray, List.set_cons_zero, List.set_cons_succ]
    refine wpAnyH_take (i := 14) (v := ?_) rfl (by kernel_rfl) (by kernel_rfl) (by kernel_rfl) (fun _ _ _ h => h) (Or.inl ⟨by rfl, fun w hSw => ?_⟩) hH0 ?_
    rotate_left
    · clear hSw
      go_simp
      try with_reducible rfl
    try simp only [Act.put, List.getElem_toArray, List.getElem_cons_zero, List.getElem_cons_succ, List.setIfInBounds_toArray, List.set_cons_zero, List.set_cons_succ]
    refine wpAnyH_take (i := 17) (v := ?_) rfl (by kernel_rfl) (by kernel_rfl) (by kernel_rfl) (fun _ _ _ h => h) (Or.inl ⟨by rfl, fun w hSw => ?_⟩) hH0 ?_
    rotate_left
    · clear hSw
      go_simp
      try with_reducible rfl
    try simp only [Act.put, List.getElem_toArray, List.getElem_cons_zero, List.getElem_cons_succ, List.setIfInBounds_toArray, List.set_cons_zero, List.set_cons_succ]
    refine wpAnyH_take (i := 18) (v := ?_) rfl (by kernel_rfl) (by kernel_rfl) (by kernel_rfl) (fun _ _ _ h => h) (Or.inl ⟨by rfl, fun w hSw => ?_⟩) hH0 ?_
    rotate_left
    · clear hSw
      go_simp
      try with_reducible rfl
    try simp only [Act.put, List.getElem_toArray, List.getElem_cons_zero, List.getElem_cons_succ, List.setIfInBounds_toArray, List.set_cons_zero, List.set_cons_succ]
    refine wpAnyH_take (i := 20) (v := ?_) rfl (by kernel_rfl) (by kernel_rfl) (by kernel_rfl) (fun _ _ _ h => h) (Or.inl ⟨by rfl, fun w hSw => ?_⟩) hH0 ?_
    rotate_left
    · clear hSw
      go_simp
      try with_reducible rfl
    try simp only [Act.put, List.getElem_toArray, List.getElem_cons_zero, List.getElem_cons_succ, List.setIfInBounds_toArray, List.set_cons_zero, List.set_cons_succ]
    refine wpAnyH_take (i := 21) (v := ?_) rfl (by kernel_rfl) (by kernel_rfl) (by kernel_rfl) (fun _ _ _ h => h) (Or.inl ⟨by rfl, fun w hSw => ?_⟩) hH0 ?_
    rotate_left
    · clear hSw
      go_simp
      try with_reducible rfl
    try simp only [Act.put, List.getElem_toArray, List.getElem_cons_zero, List.getElem_cons_succ, List.setIfInBounds_toArray, List.set_cons_zero, List.set_cons_succ]
    refine wpAnyH_take (i := 22) (v := ?_) rfl (by kernel_rfl) (by kernel_rfl) (by kernel_rfl) (fun _ _ _ h => h) (Or.inl ⟨by rfl, fun w hSw => ?_⟩) hH0 ?_
    rotate_left
    · have c0 := hSw 0 (by omega); have c1 := hSw 1 (by omega); have c2 := hSw 2 (by omega); have c13 := hSw 13 (by omega); clear hSw
      go_simp
      try with_reducible rfl
    try simp only [Act.put, List.getElem_toArray, List.getElem_cons_zero, List.getElem_cons_succ, List.setIfInBounds_toArray, List.set_cons_zero, List.set_cons_succ]
    refine wpAnyH_take (i := 23) (v := ?_) rfl (by kernel_rfl) (by kernel_rfl) (by kernel_rfl) (fun _ _ _ h => h) (Or.inl ⟨by rfl, fun w hSw => ?_⟩) hH0 ?_
    rotate_left
    · clear hSw
      go_simp
      try with_reducible rfl
    try simp only [Act.put, List.getElem_toArray, List.getElem_cons_zero, List.getElem_cons_succ, List.setIfInBounds_toArray, List.set_cons_zero, List.set_cons_succ]
    refine wpAnyH_take (i := 24) (v := ?_) rfl (by kernel_rfl) (by kernel_rfl) (by kernel_rfl) (fun _ _ _ h => h) (Or.inl ⟨by rfl, fun w hSw => ?_⟩) hH0 ?_
    rotate_left
    · clear hSw
      go_simp
      try with_reducible rfl
    try simp only [Act.put, List.getElem_toArray, List.getElem_cons_zero, List.getElem_cons_succ, List.setIfInBounds_toArray, List.set_cons_zero, List.set_cons_succ]
    refine wpAnyH_take (i := 25) (v := ?_) rfl (by kernel_rfl) (by kernel_rfl) (by kernel_rfl) (fun _ _ _ h => h) (Or.inl ⟨by rfl, fun w hSw => ?_⟩) hH0 ?_
    rotate_left
    · clear hSw
      go_simp
      try with_reducible rfl
    try simp only [Act.put, List.getElem_toArray, List.getElem_cons_zero, List.getElem_cons_succ, List.setIfInBounds_toArray, List.set_cons_zero, List.set_cons_succ]
    refine wpAnyH_take (i := 26) (v := ?_) rfl (by kernel_rfl) (by kernel_rfl) (by kernel_rfl) (fun _ _ _ h => h) (Or.inl ⟨by rfl, fun w hSw => ?_⟩) hH0 ?_
    rotate_left
    · have c0 := hSw 0 (by omega); have c1 := hSw 1 (by omega); have c2 := hSw 2 (by omega); have c13 := hSw 13 (by omega); clear hSw
      go_simp
      try with_reducible rfl
    try simp only [Act.put, List.getElem_toArray, List.getElem_cons_zero, List.getElem_cons_succ, List.setIfInBounds_toArray, List.set_cons_zero, List.set_cons_succ]
    refine wpAnyH_take (i := 27) (v := ?_) rfl (by kernel_rfl) (by kernel_rfl) (by kernel_rfl) (fun _ _ _ h => h) (Or.inl ⟨by rfl, fun w hSw => ?_⟩) hH0 ?_
    rotate_left
    · clear hSw
      go_simp
      try with_reducible rfl
    try simp only [Act.put, List.getElem_toArray, List.getElem_cons_zero, List.getElem_cons_succ, List.setIfInBounds_toArray, List.set_cons_zero, List.set_cons_succ]
    refine wpAnyH_take (i := 28) (v := ?_) rfl (by kernel_rfl) (by kernel_rfl) (by kernel_rfl) (fun _ _ _ h => h) (Or.inl ⟨by rfl, fun w hSw => ?_⟩) hH0 ?_
    rotate_left
    · clear hSw
      go_simp
      try with_reducible rfl
    try simp only [Act.put, List.getElem_toArray, List.getElem_cons_zero, List.getElem_cons_succ, List.setIfInBounds_toArray, List.set_cons_zero, List.set_cons_succ]
    refine wpAnyH_take (i := 29) (v := ?_) rfl (by kernel_rfl) (by kernel_rfl) (by kernel_rfl) (fun _ _ _ h => h) (Or.inl ⟨by rfl, fun w hSw => ?_⟩) hH0 ?_
    rotate_left
    · clear hSw
      go_simp
      try with_reducible rfl
    try simp only [Act.put, List.getElem_toArray, List.getElem_cons_zero, List.getElem_cons_succ, List.setIfInBounds_toArray, List.set_cons_zero, List.set_cons_succ]
    refine wpAnyH_take (i := 30) (v := ?_) rfl (by kernel_rfl) (by kernel_rfl) (by kernel_rfl) (fun _ _ _ h => h) (Or.inl ⟨by rfl, fun w hSw => ?_⟩) hH0 ?_
    rotate_left
    · clear hSw
      go_simp
      try with_reducible rfl
    try simp only [Act.put, List.getElem_toArray, List.getElem_cons_zero, List.getElem_cons_succ, List.setIfInBounds_toArray, List.set_cons_zero, List.set_cons_succ]
    refine wpAnyH_take (i := 31) (v := ?_) rfl (by kernel_rfl) (by kernel_rfl) (by kernel_rfl) (fun _ _ _ h => h) (Or.inl ⟨by rfl, fun w hSw => ?_⟩) hH0 ?_
    rotate_left
    · have c0 := hSw 0 (by omega); have c1 := hSw 1 (by omega); have c2 := hSw 2 (by omega); have c13 := hSw 13 (by omega); clear hSw
      go_simp
      try with_reducible rfl
    try simp only [Act.put, List.getElem_toArray, List.getElem_cons_zero, List.getElem_cons_succ, List.setIfInBounds_toArray, List.set_cons_zero, List.set_cons_succ]
    refine wpAnyH_take (i := 32) (v := ?_) rfl (by kernel_rfl) (by kernel_rfl) (by kernel_rfl) (fun _ _ _ h => h) (Or.inl ⟨by rfl, fun w hSw => ?_⟩) hH0 ?_
    rotate_left
    · clear hSw
      go_simp
      try with_reducible rfl
    try simp only [Act.put, List.getElem_toArray, List.getElem_cons_zero, List.getElem_cons_succ, List.setIfInBounds_toArray, List.set_cons_zero, List.set_cons_succ]
    refine wpAnyH_take (i := 33) (v := ?_) rfl (by kernel_rfl) (by kernel_rfl) (by kernel_rfl) (fun _ _ _ h => h) (Or.inl ⟨by rfl, fun w hSw => ?_⟩) hH0 ?_
    rotate_left
    · clear hSw
      go_simp
      try with_reducible rfl
    try simp only [Act.put, List.getElem_toArray, List.getElem_cons_zero, List.getElem_cons_succ, List.setIfInBounds_toArray, List.set_cons_zero, List.set_cons_succ]
    refine wpAnyH_ready (rs := [15, 35]) (by kernel_rfl) (by simp) ?_
    refine AllReadyH.cons (o := _) rfl (fun K hK => ?_) (AllReadyH.cons (o := _) rfl (fun K hK => ?_) AllReadyH.nil)
    · go_simp
      refine (value_any B 3 2 (cap - 3) (fun j => bt s (3 + j)) (by omega) _ (fun j hj => hH0 (3 + j) (by omega)) (fun j _ => bt_bd s _)).mono ?_
      rintro e wx ⟨rfl, rfl⟩
      refine hK.out _ _ (hH0) (fun hH1 => ?_)
      clear hK K
      try simp only [Act.put, List.getElem_toArray, List.getElem_cons_zero, List.getElem_cons_succ, List.setIfInBounds_toArray, List.set_cons_zero, List.set_cons_succ]
      refine wpAnyH_take (i := 16) (v := ?_) rfl (by kernel_rfl) (by kernel_rfl) (by kernel_rfl) (fun _ _ _ h => h) (Or.inl ⟨by rfl, fun w hSw => ?_⟩) hH1 ?_
      rotate_left
      · clear hSw
        go_simp
        try with_reducible rfl
      try simp only [Act.put, List.getElem_toArray, List.getElem_cons_zero, List.getElem_cons_succ, List.setIfInBounds_toArray, List.set_cons_zero, List.set_cons_succ]
      refine wpAnyH_ready (rs := [19, 35]) (by kernel_rfl) (by simp) ?_
      refine AllReadyH.cons (o := _) rfl (fun K hK => ?_) (AllReadyH.cons (o := _) rfl (fun K hK => ?_) AllReadyH.nil)
      · go_simp
        refine (value_any B 5 8 (cap - 5) (fun j => bt s (5 + j)) (by omega) _ (fun j hj => hH1 (5 + j) (by omega)) (fun j _ => bt_bd s _)).mono ?_
        rintro e wx ⟨rfl, rfl⟩
        refine hK.out _ _ (hH1) (fun hH2 => ?_)
        clear hK K
        try simp only [Act.put, List.getElem_toArray, List.getElem_cons_zero, List.getElem_cons_succ, List.setIfInBounds_toArray, List.set_cons_zero, List.set_cons_succ]
        refine wpAnyH_take (i := 34) (v := .agg (ntL (headS s)).toArray) rfl (by kernel_rfl) (by kernel_rfl) (by kernel_rfl) (fun _ _ _ h => h) (Or.inl ⟨by rfl, fun w hSw => by as_aux_lemma => kernel_rfl⟩) hH2 ?_
        try simp only [Act.put, List.getElem_toArray, List.getElem_cons_zero, List.getElem_cons_succ, List.setIfInBounds_toArray, List.set_cons_zero, List.set_cons_succ]
        refine wpAnyH_ready (rs := [35]) (by kernel_rfl) (by simp) ?_
        refine AllReadyH.cons (o := _) rfl (fun K hK => ?_) AllReadyH.nil
        refine wp_alloc_note rfl ?_
        refine hK.out _ _ (bytesAt_alloc (w := wB.drew) HY2.out HZ.out.1 _) (fun hH3 => ?_)
        clear hK K
        try simp only [Act.put, List.getElem_toArray, List.getElem_cons_zero, List.getElem_cons_succ, List.setIfInBounds_toArray, List.set_cons_zero, List.set_cons_succ]
        refine wpAnyH_ready (rs := [36]) (by kernel_rfl) (by simp) ?_
        refine AllReadyH.cons (o := _) rfl (fun K hK => ?_) AllReadyH.nil
        refine wp_store_note (w := wB.drew) (.tmp 5) (.tmp 47) rfl rfl rfl ?_
        refine hK.out _ _ (bytesAt_alloc (w := wB.drew) HY2.out HZ.out.1 _) (fun hH4 => ?_)
        clear hK K
        try simp only [Act.put, List.getElem_toArray, List.getElem_cons_zero, List.getElem_cons_succ, List.setIfInBounds_toArray, List.set_cons_zero, List.set_cons_succ]
        refine wpAnyH_done (by kernel_rfl) ?_ _
        go_wp2_with fail
        go_meet
        exact ⟨rfl, rfl⟩
      · refine wp_alloc_note rfl ?_
        refine hK.out _ _ (bytesAt_alloc (w := wB.drew) HY2.out HZ.out.1 _) (fun hH5 => ?_)
        clear hK K
        try simp only [Act.put, List.getElem_toArray, List.getElem_cons_zero, List.getElem_cons_succ, List.setIfInBounds_toArray, List.set_cons_zero, List.set_cons_succ]
        refine wpAnyH_ready (rs := [19]) (by kernel_rfl) (by simp) ?_
        refine AllReadyH.cons (o := _) rfl (fun K hK => ?_) AllReadyH.nil
        go_simp
        refine (value_any B 5 8 (cap - 5) (fun j => bt s (5 + j)) (by omega) _ (fun j hj => hH5 (5 + j) (by omega)) (fun j _ => bt_bd s _)).mono ?_
        rintro e wx ⟨rfl, rfl⟩
        refine hK.out _ _ (hH5) (fun hH6 => ?_)
        clear hK K
        try simp only [Act.put, List.getElem_toArray, List.getElem_cons_zero, List.getElem_cons_succ, List.setIfInBounds_toArray, List.set_cons_zero, List.set_cons_succ]
        refine wpAnyH_take (i := 34) (v := .agg (ntL (headS s)).toArray) rfl (by kernel_rfl) (by kernel_rfl) (by kernel_rfl) (fun _ _ _ h => h) (Or.inl ⟨by rfl, fun w hSw => by as_aux_lemma => kernel_rfl⟩) hH6 ?_
        try simp only [Act.put, List.getElem_toArray, List.getElem_cons_zero, List.getElem_cons_succ, List.setIfInBounds_toArray, List.set_cons_zero, List.set_cons_succ]
        refine wpAnyH_ready (rs := [36]) (by kernel_rfl) (by simp) ?_
        refine AllReadyH.cons (o := _) rfl (fun K hK => ?_) AllReadyH.nil
        refine wp_store_note (w := wB.drew) (.tmp 5) (.tmp 47) rfl rfl rfl ?_
        refine hK.out _ _ (bytesAt_alloc (w := wB.drew) HY2.out HZ.out.1 _) (fun hH7 => ?_)
        clear hK K
        try simp only [Act.put, List.getElem_toArray, List.getElem_cons_zero, List.getElem_cons_succ, List.setIfInBounds_toArray, List.set_cons_zero, List.set_cons_succ]
        refine wpAnyH_done (by kernel_rfl) ?_ _
        go_wp2_with fail
        go_meet
        exact ⟨rfl, rfl⟩
    · refine wp_alloc_note rfl ?_
      refine hK.out _ _ (bytesAt_alloc (w := wB.drew) HY2.out HZ.out.1 _) (fun hH8 => ?_)
      clear hK K
      try simp only [Act.put, List.getElem_toArray, List.getElem_cons_zero, List.getElem_cons_succ, List.setIfInBounds_toArray, List.set_cons_zero, List.set_cons_succ]
      refine wpAnyH_ready (rs := [15]) (by kernel_rfl) (by simp) ?_
      refine AllReadyH.cons (o := _) rfl (fun K hK => ?_) AllReadyH.nil
      go_simp
      refine (value_any B 3 2 (cap - 3) (fun j => bt s (3 + j)) (by omega) _ (fun j hj => hH8 (3 + j) (by omega)) (fun j _ => bt_bd s _)).mono ?_
      rintro e wx ⟨rfl, rfl⟩
      refine hK.out _ _ (hH8) (fun hH9 => ?_)
      clear hK K
      try simp only [Act.put, List.getElem_toArray, List.getElem_cons_zero, List.getElem_cons_succ, List.setIfInBounds_toArray, List.set_cons_zero, List.set_cons_succ]
      refine wpAnyH_take (i := 16) (v := ?_) rfl (by kernel_rfl) (by kernel_rfl) (by kernel_rfl) (fun _ _ _ h => h) (Or.inl ⟨by rfl, fun w hSw => ?_⟩) hH9 ?_
      rotate_left
      · clear hSw
        go_simp
        try with_reducible rfl
      try simp only [Act.put, List.getElem_toArray, List.getElem_cons_zero, List.getElem_cons_succ, List.setIfInBounds_toArray, List.set_cons_zero, List.set_cons_succ]
      refine wpAnyH_ready (rs := [19]) (by kernel_rfl) (by simp) ?_
      refine AllReadyH.cons (o := _) rfl (fun K hK => ?_) AllReadyH.nil
      go_simp
      refine (value_any B 5 8 (cap - 5) (fun j => bt s (5 + j)) (by omega) _ (fun j hj => hH9 (5 + j) (by omega)) (fun j _ => bt_bd s _)).mono ?_
      rintro e wx ⟨rfl, rfl⟩
      refine hK.out _ _ (hH9) (fun hH10 => ?_)
      clear hK K
      try simp only [Act.put, List.getElem_toArray, List.getElem_cons_zero, List.getElem_cons_succ, List.setIfInBounds_toArray, List.set_cons_zero, List.set_cons_succ]
      refine wpAnyH_take (i := 34) (v := .agg (ntL (headS s)).toArray) rfl (by kernel_rfl) (by kernel_rfl) (by kernel_rfl) (fun _ _ _ h => h) (Or.inl ⟨by rfl, fun w hSw => by as_aux_lemma => kernel_rfl⟩) hH10 ?_
      try simp only [Act.put, List.getElem_toArray, List.getElem_cons_zero, List.getElem_cons_succ, List.setIfInBounds_toArray, List.set_cons_zero, List.set_cons_succ]
      refine wpAnyH_ready (rs := [36]) (by kernel_rfl) (by simp) ?_
      refine AllReadyH.cons (o := _) rfl (fun K hK => ?_) AllReadyH.nil
      refine wp_store_note (w := wB.drew) (.tmp 5) (.tmp 47) rfl rfl rfl ?_
      refine hK.out _ _ (bytesAt_alloc (w := wB.drew) HY2.out HZ.out.1 _) (fun hH11 => ?_)
      clear hK K
      try simp only [Act.put, List.getElem_toArray, List.getElem_cons_zero, List.getElem_cons_succ, List.setIfInBounds_toArray, List.set_cons_zero, List.set_cons_succ]
      refine wpAnyH_done (by kernel_rfl) ?_ _
      go_wp2_with fail
      go_meet
      exact ⟨rfl, rfl⟩
  case rest =>
    obtain ⟨rfl, rfl⟩ := hcut
    have T0 : Hid (TK w (wB.drew.alloc (.cells (ntL (headS s)).toArray 29)) w.heap.size B wB.heap.size s (partN s 0)) := by
      have z1 := HZ.out.1
      have z2 := HZ.out.2
      have z3 := BB.out.size
      exact hide ⟨NAt.alloc (w := wB.drew) R2.out _, bytesAt_alloc (w := wB.drew) HY2.out HZ.out.1 _, NAt.new wB.drew (headS s), (show Below w.heap.size w wB.drew from BB.out.drew).alloc z3 _, ⟨z3, Nat.le_refl _⟩, by omega, by omega⟩
    have hK := bt_bd s 0
    have M := hide (fun w => may_any (takeS s) hK.1 hK.2 w)
    clear hK R2 BY BB HZ HY2 e1 e2 e3 e4 e5 e6 e7 hsl1 hsl2 b10 b11 b20 b21 bd0 bd1
    generalize wB.drew.alloc (.cells (ntL (headS s)).toArray 29) = w3 at *
    generalize wB.heap.size = N at *
    generalize w.heap.size = R at *
    go_wp2_with fail
    go_loopw [48] (fun i wr => ∃ k : Nat, k ≤ 16 ∧ i = .int .i64 k ∧ Hid (TK w wr R B N s (partN s k))) (fun i _ => 16 - (intOf i).toNat)
    case atStart => exact ⟨0, by omega, rfl, T0⟩
    case round =>
      clear T0
      obtain ⟨k, hk, rfl, hT⟩ := hrel
      by_cases hlt : k < 16
      · have hsl : ∀ W, (Instr.slice 42 (.slice (some ⟨B, 0, none⟩) 78 cap) (some (.int .i64 (14 + 4 * (k : Int)))) (some (.int .i64 (18 + 4 * (k : Int)))) none).run Try.prog W = .ok (.slice (some ⟨B, 14 + 4 * k, none⟩) 4 (cap - (14 + 4 * k))) W := fun W => by
          have := slice_at B cap (14 + 4 * k) (18 + 4 * k) (by omega) (by omega) W
          rw [show ((14 + 4 * k : Nat) : Int) = 14 + 4 * (k : Int) by omega, show ((18 + 4 * k : Nat) : Int) = 18 + 4 * (k : Int) by omega, show 18 + 4 * k - (14 + 4 * k) = 4 by omega] at this
          exact this
        have VA := hide (value_any B (14 + 4 * k) 4 (cap - (14 + 4 * k)) (fun j => bt s (14 + 4 * k + j)) (by omega) wr (fun j hj => hT.out.fB (14 + 4 * k + j) (by omega)) (fun j _ => bt_bd s _))
        have hv := val_word s (14 + 4 * k) 4
        rw [show ((256 ^ 4 : Nat) : Int) = 4294967296 from rfl] at hv
        obtain ⟨v0, v1⟩ := hv
        have hw := hT.out.setWord k (wordS s k)
        rw [partN_succ] at hw
        have HW := hide hw
        have hcell := hT.out.fN.word hlt
        have hfz := hT.out.fN.frozen (8 + k)
        have hws : wordS s k = val (fun j => bt s (14 + 4 * k + j)) 4 := rfl
        rw [hws] at HW
        have hlt' : (k : Int) < 16 := by omega
        clear hw hws
        generalize val (fun j => bt s (14 + 4 * k + j)) 4 = v at *
        generalize (partN s k).f k = old at *
        go_wp2_with fail
        refine VA.out.mono ?_
        rintro e wx ⟨rfl, rfl⟩
        go_wp2_with fail
        go_roundw
        case rel => exact ⟨k + 1, by omega, by go_num, HW⟩
        case measure => simp [intOf]; omega
      · obtain rfl : k = 16 := by omega
        have hN := nat_congr hT.out.fN (partN_all s)
        have HN := hide hN
        have HT := hide hT.out.lt
        clear hN
        rcases Bool.eq_false_or_eq_true (mayN (takeS s)) with hm | hm
        all_goals
          first
            | have HTK := hide (take_ok hm)
            | have HTK := hide (take_no hm)
          rw [hm] at M
          clear hm
          go_wp2_with (first
            | ((with_reducible refine load_note rfl (.tmp 5) rfl N rfl HN.out ?_)))
          refine (M.out _).mono ?_
          rintro e w6 ⟨rfl, hb6⟩
          have T6 := hide (hT.out.below HT.out hb6)
          have HN6 := hide (HN.out.below hb6 HN.out.lt)
          clear hb6
          go_wp2_with (first
            | ((with_reducible refine load_note rfl (.tmp 5) rfl N rfl HN6.out ?_))
            | ((with_reducible refine Great.wpList_readTo rfl (some 68) rfl (.agg (ntL zeroN).toArray) ?_ ?_); (· as_aux_lemma => kernel_rfl))
            | ((with_reducible refine store_note rfl (.tmp 2) (.tmp 68) rfl R rfl zeroN rfl T6.out.fR ?_))
            | ((with_reducible refine store_note rfl (.tmp 2) (.tmp 69) rfl R rfl (takeS s) rfl T6.out.fR ?_)))
        · exact bodyPost_ret (v := .tuple #[.agg (ntL (takeS s)).toArray, .int .i64 0]) (ret_note (b := R) Try.results10 rfl (NAt.setAll T6.out.fR (takeS s)) Try.underlying29 (zero_of_info (P := Try.prog) infoN).2) rfl ⟨by rw [HTK.out.1, HTK.out.2], below_setCells _ _ _ T6.out.bel T6.out.ge.2⟩
        · exact bodyPost_ret (v := .tuple #[.agg (ntL zeroN).toArray, .int .i64 6]) (ret_note (b := R) Try.results10 rfl (NAt.setAll T6.out.fR zeroN) Try.underlying29 (zero_of_info (P := Try.prog) infoN).2) rfl ⟨by rw [HTK.out.1, HTK.out.2], below_setCells _ _ _ T6.out.bel T6.out.ge.2⟩
end Go.Proofs.Ytnjojcikahiieaa.NTake
