/-
  Add of the program's log walked.
-/
import Derived.Test.YtnhfbdjjbmhnkaaUWalk
import Derived.Test.YtnhfbdjjbmhnkaaArr
import Derived.Deep.RegionHeld3
namespace Go.Proofs.Ytnhfbdjjbmhnkaa.UAdd
open Go.RowKit PPlain Base PMay PRefMay PWalk MMem UPlain UWalk
set_option linter.unusedVariables false
set_option linter.unusedSimpArgs false

theorem info2 : (Try.prog.info? 40).map (fun i => (i.zero, i.size)) = some (some (.agg #[.int .u32 0, .int .u32 0]), 2) := by kernel_rfl
/-- The words behind the k first writes of an entry at N. -/
def putE (f : Nat → Int) (N : Nat) (a o k : Int) : Nat → Int := fun i => if i = N ∧ 1 ≤ k then a else if i = N + 1 ∧ 2 ≤ k then o else f i
def base (first many : Int) : Nat := (16 * first + 2 * many).toNat
theorem putE_zero (f : Nat → Int) (N : Nat) (a o : Int) : putE f N a o 0 = f := by
  funext i; simp [putE]
theorem place_in {first many logs k : Int} {nb : Nat} (hf : 0 ≤ first) (hl : first + logs ≤ nb) (hm0 : 0 ≤ many) (hm1 : many < 8 * logs) (hk0 : 0 ≤ k) (hk1 : k ≤ 1) :
    inr nb (first + (many * 2 + k) / 16) ((many * 2 + k) % 16) = true ∧ idx (first + (many * 2 + k) / 16) ((many * 2 + k) % 16) = base first many + k.toNat := by
  constructor
  · rw [inr_iff]; omega
  · unfold idx base; omega
theorem putE_first {f : Nat → Int} {a o b k : Int} {nb N : Nat} (hi : inr nb b k = true) (hx : idx b k = N) : upd (putE f N a o 0) nb b k a = putE f N a o 1 := by
  funext i
  simp only [upd, putE, hi, hx]
  by_cases e : i = N <;> simp [e]
theorem putE_second {f : Nat → Int} {a o b k : Int} {nb N : Nat} (hi : inr nb b k = true) (hx : idx b k = N + 1) : upd (putE f N a o 1) nb b k o = putE f N a o 2 := by
  funext i
  simp only [upd, putE, hi, hx]
  by_cases e : i = N
  · simp [e]
  · by_cases e2 : i = N + 1 <;> simp [e, e2]

/-- The state: log, memory, entry, what was there. -/
structure ASt (w0 w : World) (l : Nat) (c0 c1 c2 c3 c4 c5 c6 c7 : Int) (p : Nat) (first room many : Int) (D nb : Nat) (F : Nat → Int) (E : Nat) (a o : Int) : Prop where
  log : LogAt w l c0 c1 c2 c3 c4 c5 c6 c7 p first room many
  mem : MemAt w p D nb F
  two : Two D l w0 w
  ent : Blk w E 40 #[.int .u32 a, .int .u32 o]
  ne1 : l ≠ D
  ne2 : l ≠ p
  ne3 : E ≠ D
  ne4 : E ≠ l
section
variable {w0 w w' : World} {l : Nat} {c0 c1 c2 c3 c4 c5 c6 c7 : Int} {p : Nat} {first room many : Int} {D nb : Nat} {F G : Nat → Int} {E : Nat} {a o : Int}
theorem ASt.drew (h : ASt w0 w l c0 c1 c2 c3 c4 c5 c6 c7 p first room many D nb F E a o) : ASt w0 w.drew l c0 c1 c2 c3 c4 c5 c6 c7 p first room many D nb F E a o :=
  ⟨h.log, h.mem, h.two.drew, h.ent, h.ne1, h.ne2, h.ne3, h.ne4⟩
theorem ASt.below (h : ASt w0 w l c0 c1 c2 c3 c4 c5 c6 c7 p first room many D nb F E a o) (hb : Below w.heap.size w w') (hz : w0.heap.size ≤ w.heap.size) : ASt w0 w' l c0 c1 c2 c3 c4 c5 c6 c7 p first room many D nb F E a o :=
  ⟨h.log.below hb (Row.lt h.log), h.mem.below hb, h.two.below (hb.mono hz), h.ent.below hb h.ent.lt, h.ne1, h.ne2, h.ne3, h.ne4⟩
theorem ASt.setM (h : ASt w0 w l c0 c1 c2 c3 c4 c5 c6 c7 p first room many D nb F E a o) (hM : MemAt w' p D nb G) (hg : w.grownBy w' (some D)) : ASt w0 w' l c0 c1 c2 c3 c4 c5 c6 c7 p first room many D nb G E a o :=
  ⟨h.log.grown hg h.ne1, hM, h.two.trans (Two.of_grown hg), h.ent.grown hg (fun e => h.ne3 (by injection e)), h.ne1, h.ne2, h.ne3, h.ne4⟩
theorem ASt.cells (h : ASt w0 w l c0 c1 c2 c3 c4 c5 c6 c7 p first room many D nb F E a o) :
    w.cell? ⟨l, 8, none⟩ = some (.pointer (some ⟨p, 0, none⟩)) ∧ w.cell? ⟨E, 0, none⟩ = some (.int .u32 a) ∧ w.cell? ⟨E, 1, none⟩ = some (.int .u32 o) :=
  ⟨Row.cell h.log (i := 8) (by omega), h.ent.cell 0, h.ent.cell 1⟩
end
section
variable (l p : Nat) (c0 c1 c2 c3 c4 c5 c6 c7 first room many : Int) (D nb : Nat) (F : Nat → Int) (w : World) (addr old : Int)
theorem Add_nil : Calls Try.prog 12 #[.pointer none, .int .u32 addr, .int .u32 old] w fun e w' => e = .returned (.int .i64 1) ∧ w = w' := by
  go_enter Try.func12, Try.ntmps12
  go_wp2
  go_ret
  exact ⟨rfl, rfl⟩
theorem Add_bad (hm : mayB c0 c1 c2 c3 c4 c5 c6 c7 = true) (h0 : 0 ≤ addr) (h1 : addr ≤ 4294967295) (he : (wE c0 c3 c4 addr != 0) = true) (h : LogAt w l c0 c1 c2 c3 c4 c5 c6 c7 p first room many) :
    Calls Try.prog 12 #[.pointer (some ⟨l, 0, none⟩), .int .u32 addr, .int .u32 old] w fun e w' => e = .returned (.int .i64 (wE c0 c3 c4 addr)) ∧ Below w.heap.size w w' := by
  have W := hide (fun w => Where_any c0 c1 c2 c3 c4 c5 c6 c7 addr hm h0 h1 w)
  obtain ⟨x0, x1, x2, x3, x4, x5, x6, x7, x8, x9, x10, x11, x12⟩ := h.cells
  generalize wE c0 c3 c4 addr = er at *
  generalize wB c0 c3 c4 addr = wb at *
  generalize wW c0 c3 c4 addr = ww at *
  clear h hm
  go_enter Try.func12, Try.ntmps12
  go_wp2_with fail
  refine (W.out _).mono ?_
  rintro e w1 ⟨rfl, hb1⟩
  go_wp2
  go_ret
  exact ⟨rfl, hb1⟩
theorem Add_full (hm : mayB c0 c1 c2 c3 c4 c5 c6 c7 = true) (h0 : 0 ≤ addr) (h1 : addr ≤ 4294967295) (he : wE c0 c3 c4 addr = 0) (h : LogAt w l c0 c1 c2 c3 c4 c5 c6 c7 p first room room) :
    Calls Try.prog 12 #[.pointer (some ⟨l, 0, none⟩), .int .u32 addr, .int .u32 old] w fun e w' => e = .returned (.int .i64 7) ∧ Below w.heap.size w w' := by
  have W := hide (fun w => Where_any c0 c1 c2 c3 c4 c5 c6 c7 addr hm h0 h1 w)
  obtain ⟨x0, x1, x2, x3, x4, x5, x6, x7, x8, x9, x10, x11, x12⟩ := h.cells
  have hl := Row.lt h
  have H := hide h
  generalize wB c0 c3 c4 addr = wb at *
  generalize wW c0 c3 c4 addr = ww at *
  rw [he] at W
  clear h hm he
  go_enter Try.func12, Try.ntmps12
  go_wp2_with fail
  refine (W.out _).mono ?_
  rintro e w1 ⟨rfl, hb1⟩
  clear x0 x1 x2 x3 x4 x5 x6 x7 x8 x9 x10 x11 x12
  obtain ⟨x0, x1, x2, x3, x4, x5, x6, x7, x8, x9, x10, x11, x12⟩ := (H.out.below hb1 hl).cells
  go_wp2_with fail
  go_quiet (fail)
  go_wp2
  go_ret
  exact ⟨rfl, bdrewN hb1 _⟩
set_option maxHeartbeats 1000000 in
theorem Add_ok (logs : Int) (hm : mayB c0 c1 c2 c3 c4 c5 c6 c7 = true) (h0 : 0 ≤ addr) (h1 : addr ≤ 4294967295) (he : wE c0 c3 c4 addr = 0) (hf : 0 ≤ first) (hlg : first + logs ≤ nb) (hm0 : 0 ≤ many) (hm1 : many < 8 * logs) (hlg4 : logs ≤ 4) (hr : (many == room) = false)
    (h : LogAt w l c0 c1 c2 c3 c4 c5 c6 c7 p first room many) (hM : MemAt w p D nb F) (n1 : l ≠ D) (n2 : l ≠ p) :
    Calls Try.prog 12 #[.pointer (some ⟨l, 0, none⟩), .int .u32 addr, .int .u32 old] w fun e w' => e = .returned (.int .i64 0) ∧
      LogAt w' l c0 c1 c2 c3 c4 c5 c6 c7 p first room (many + 1) ∧ MemAt w' p D nb (putE F (base first many) addr old 2) ∧ Two D l w w' := by
  have W := hide (fun w => Where_any c0 c1 c2 c3 c4 c5 c6 c7 addr hm h0 h1 w)
  obtain ⟨x0, x1, x2, x3, x4, x5, x6, x7, x8, x9, x10, x11, x12⟩ := h.cells
  have hl := Row.lt h
  have hnb := hM.1
  have hDl := hM.2.2.2.lt
  have H := hide h
  have M := hide hM
  have hF : first ≤ 256 := by omega
  have hm2 : many ≤ 31 := by omega
  have P0 := hide (fun w => place_any l p c0 c1 c2 c3 c4 c5 c6 c7 first room many w many 0 hm0 (by omega) (by omega) (by omega) hf hF)
  have P1 := hide (fun w => place_any l p c0 c1 c2 c3 c4 c5 c6 c7 first room many w many 1 hm0 (by omega) (by omega) (by omega) hf hF)
  obtain ⟨i0, j0⟩ := place_in hf hlg hm0 hm1 (Int.le_refl 0) (by omega : (0 : Int) ≤ 1)
  obtain ⟨i1, j1⟩ := place_in hf hlg hm0 hm1 (by omega : (0 : Int) ≤ 1) (Int.le_refl 1)
  have e0 : errOf nb (first + (many * 2 + 0) / 16) ((many * 2 + 0) % 16) = 0 := by simp only [errOf, i0, if_true]
  have e1 : errOf nb (first + (many * 2 + 1) / 16) ((many * 2 + 1) % 16) = 0 := by simp only [errOf, i1, if_true]
  rw [show base first many + Int.toNat 0 = base first many from rfl] at j0
  have U0 := hide (putE_first (f := F) (a := addr) (o := old) i0 j0)
  have U1 := hide (putE_second (f := F) (a := addr) (o := old) i1 j1)
  have S0 := hide (fun w f h => SetWord_any p D nb f (first + (many * 2 + 0) / 16) ((many * 2 + 0) % 16) addr w h)
  have S1 := hide (fun w f h => SetWord_any p D nb f (first + (many * 2 + 1) / 16) ((many * 2 + 1) % 16) old w h)
  rw [e0] at S0
  rw [e1] at S1
  generalize first + (many * 2 + 0) / 16 = b0 at *
  generalize first + (many * 2 + 1) / 16 = b1 at *
  generalize (many * 2 + 0) % 16 = k0 at *
  generalize (many * 2 + 1) % 16 = k1 at *
  generalize base first many = N at *
  generalize wB c0 c3 c4 addr = wb at *
  generalize wW c0 c3 c4 addr = ww at *
  rw [he] at W
  clear h hm he hM i0 i1 j0 j1 e0 e1 hf hlg hlg4
  go_enter Try.func12, Try.ntmps12
  go_wp2_with fail
  refine (W.out _).mono ?_
  rintro e w1 ⟨rfl, hb1⟩
  clear x0 x1 x2 x3 x4 x5 x6 x7 x8 x9 x10 x11 x12
  have H1 := hide (H.out.below hb1 hl)
  have M1 := hide (M.out.below hb1)
  obtain ⟨x0, x1, x2, x3, x4, x5, x6, x7, x8, x9, x10, x11, x12⟩ := H1.out.cells
  go_wp2_with fail
  go_quiet (fail)
  clear x0 x1 x2 x3 x4 x5 x6 x7 x8 x9 x10 x11 x12
  have HI := hide (zero_of_info (P := Try.prog) info2).2
  have hlw : l < w1.heap.size := by have := hb1.size; omega
  have hDw : D < w1.heap.size := by have := hb1.size; omega
  go_wp2_with (first
    | ((with_reducible refine Arr.wpList_alloc_zero rfl 40 (by rfl) _ _ info2 w1.heap.size (by simp) ?_))
    | ((with_reducible refine Arr.wpList_store_last rfl 40 _ _ rfl _ _ w1.heap.size (by simp) rfl rfl HI.out rfl rfl rfl ?_)))
  have S2 : Hid (ASt w ((w1.drewN nq).alloc (.cells #[.int .u32 addr, .int .u32 old] 40)) l c0 c1 c2 c3 c4 c5 c6 c7 p first room many D nb (putE F N addr old 0) w1.heap.size addr old) := by
    have hb2 : Below w1.heap.size w1 ((w1.drewN nq).alloc (.cells #[.int .u32 addr, .int .u32 old] 40)) := (bdrewN (Below.refl _ _) nq).alloc (by simp) _
    rw [putE_zero]
    exact hide ⟨H1.out.below hb2 hlw, M1.out.below hb2, Two.of_below (below_then hb1 hb2), Blk.new_at (w1.drewN nq) _ _ (by simp), n1, n2, by omega, by omega⟩
  have NE := hide n1
  have hwz : w.heap.size ≤ w1.heap.size := hb1.size
  clear hb1 H1 M1 H M n1 n2 W HI hlw hDw hl hDl hwz
  generalize w1.heap.size = E at *
  generalize ((w1.drewN nq).alloc (.cells #[.int .u32 addr, .int .u32 old] 40)) = w2 at *
  clear hnb
  go_loopw [42] (fun i wr => ∃ k : Int, (k = 0 ∨ k = 1 ∨ k = 2) ∧ i = .int .i64 k ∧ Hid (ASt w wr l c0 c1 c2 c3 c4 c5 c6 c7 p first room many D nb (putE F N addr old k) E addr old)) (fun i _ => 2 - (intOf i).toNat)
  case atStart => exact ⟨0, .inl rfl, rfl, S2⟩
  case round =>
    clear S2
    obtain ⟨k, hk, rfl, hS⟩ := hrel
    rcases hk with rfl | rfl | rfl
    · obtain ⟨x0, x1, x2, x3, x4, x5, x6, x7, x8, x9, x10, x11, x12⟩ := hS.out.log.cells
      go_wp2_with fail
      refine (P0.out _ hS.out.log).mono ?_
      rintro e wx ⟨rfl, rfl⟩
      clear x0 x1 x2 x3 x4 x5 x6 x7 x8 x9 x10 x11 x12
      have S3 := hide hS.out.drew
      have hc := S3.out.cells
      go_wp2_with fail
      go_region_held3 (fun w' => w'.cell? ⟨l, 8, none⟩ = some (.pointer (some ⟨p, 0, none⟩)) ∧ w'.cell? ⟨E, 0, none⟩ = some (.int .u32 addr) ∧ w'.cell? ⟨E, 1, none⟩ = some (.int .u32 old)) (first | exact hc | exact ASt.cells (Hid.out (by assumption)))
        (first | (go_at_call 29; refine (S0.out _ _ (Hid.out S3).mem).mono ?_; rintro e wm ⟨rfl, hMm, hgm⟩; rw [U0.out] at hMm; have Sm := hide (S3.out.setM hMm hgm); clear hMm hgm))
      all_goals
        clear hc hS S3
        go_wp2_with fail
        go_roundw
        case rel => exact ⟨1, .inr (.inl rfl), by go_num, by assumption⟩
        case measure => simp [intOf]
    · obtain ⟨x0, x1, x2, x3, x4, x5, x6, x7, x8, x9, x10, x11, x12⟩ := hS.out.log.cells
      go_wp2_with fail
      refine (P1.out _ hS.out.log).mono ?_
      rintro e wx ⟨rfl, rfl⟩
      clear x0 x1 x2 x3 x4 x5 x6 x7 x8 x9 x10 x11 x12
      have S3 := hide hS.out.drew
      have hc := S3.out.cells
      go_wp2_with fail
      go_region_held3 (fun w' => w'.cell? ⟨l, 8, none⟩ = some (.pointer (some ⟨p, 0, none⟩)) ∧ w'.cell? ⟨E, 0, none⟩ = some (.int .u32 addr) ∧ w'.cell? ⟨E, 1, none⟩ = some (.int .u32 old)) (first | exact hc | exact ASt.cells (Hid.out (by assumption)))
        (first | (go_at_call 29; refine (S1.out _ _ (Hid.out S3).mem).mono ?_; rintro e wm ⟨rfl, hMm, hgm⟩; rw [U1.out] at hMm; have Sm := hide (S3.out.setM hMm hgm); clear hMm hgm))
      all_goals
        clear hc hS S3
        go_wp2_with fail
        go_roundw
        case rel => exact ⟨2, .inr (.inr rfl), by go_num, by assumption⟩
        case measure => simp [intOf]
    · obtain ⟨x0, x1, x2, x3, x4, x5, x6, x7, x8, x9, x10, x11, x12⟩ := hS.out.log.cells
      have HL := hide (hS.out.log.setMany (many + 1))
      have HM := hide (hS.out.mem.other (only_setCell (g := l) (World.grownBy.refl wr _) (p := ⟨l, 11, none⟩) (.inl rfl) (.int .i64 (many + 1))) (Ne.symm hS.out.ne2) (Ne.symm hS.out.ne1))
      have HT := hide (hS.out.two.setCell (p := ⟨l, 11, none⟩) (.inr (.inl rfl)) (.int .i64 (many + 1)))
      clear hS
      go_wp2
      go_ret
      exact ⟨rfl, HL.out, HM.out, HT.out⟩
end
end Go.Proofs.Ytnhfbdjjbmhnkaa.UAdd
