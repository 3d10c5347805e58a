/-
  At and Last of the program's log walked.
-/
import Derived.Test.YtnhfbdjjbmhnkaaUAdd
namespace Go.Proofs.Ytnhfbdjjbmhnkaa.UAt
open Go.RowKit PPlain Base PMay PRefMay PWalk MMem UPlain UWalk UAdd
set_option linter.unusedVariables false
set_option linter.unusedSimpArgs false

def atE (many i : Int) : Int := if 0 ≤ i ∧ i < many then 0 else 4
def atA (F : Nat → Int) (first many i : Int) : Int := if 0 ≤ i ∧ i < many then F (base first i) else 0
def atB (F : Nat → Int) (first many i : Int) : Int := if 0 ≤ i ∧ i < many then F (base first i + 1) else 0

/-- The state: log, memory, entry, what was there. -/
structure TSt (w0 w : World) (l : Nat) (c0 c1 c2 c3 c4 c5 c6 c7 : Int) (p : Nat) (first room many : Int) (D nb : Nat) (F : Nat → Int) (E : Nat) (x y : Int) : Prop where
  log : LogAt w l c0 c1 c2 c3 c4 c5 c6 c7 p first room many
  mem : MemAt w p D nb F
  bel : Below w0.heap.size w0 w
  ent : Blk w E 40 #[.int .u32 x, .int .u32 y]
  ge : w0.heap.size ≤ E
  ne1 : l ≠ E
  ne2 : p ≠ E
  ne3 : D ≠ E
section
variable {w0 w : World} {l : Nat} {c0 c1 c2 c3 c4 c5 c6 c7 : Int} {p : Nat} {first room many : Int} {D nb : Nat} {F : Nat → Int} {E : Nat} {x y : Int}
theorem TSt.set (h : TSt w0 w l c0 c1 c2 c3 c4 c5 c6 c7 p first room many D nb F E x y) (i : Nat) (v : Int) {x' y' : Int} (e : (#[Value.int .u32 x, .int .u32 y]).setIfInBounds i (.int .u32 v) = #[.int .u32 x', .int .u32 y']) :
    TSt w0 (w.setCell ⟨E, i, none⟩ (.int .u32 v)) l c0 c1 c2 c3 c4 c5 c6 c7 p first room many D nb F E x' y' := by
  have hg := only_setCell (g := E) (World.grownBy.refl w _) (p := ⟨E, i, none⟩) (.inl rfl) (.int .u32 v)
  refine ⟨h.log.grown hg h.ne1, h.mem.other hg h.ne2 h.ne3, h.bel.setCell (p := ⟨E, i, none⟩) h.ge _, ?_, h.ge, h.ne1, h.ne2, h.ne3⟩
  rw [← e]
  exact h.ent.set_ i _
theorem TSt.cells (h : TSt w0 w l c0 c1 c2 c3 c4 c5 c6 c7 p first room many D nb F E x y) :
    w.cell? ⟨l, 8, none⟩ = some (.pointer (some ⟨p, 0, none⟩)) ∧ w.cell? ⟨E, 0, none⟩ = some (.int .u32 x) ∧ w.cell? ⟨E, 1, none⟩ = some (.int .u32 y) ∧ w.frozen? ⟨E, 0, none⟩ = false ∧ w.frozen? ⟨E, 1, none⟩ = false :=
  ⟨Row.cell h.log (i := 8) (by omega), h.ent.cell 0, h.ent.cell 1, h.ent.frozen 0, h.ent.frozen 1⟩
end
section
variable (l p : Nat) (c0 c1 c2 c3 c4 c5 c6 c7 first room many : Int) (D nb : Nat) (F : Nat → Int) (w : World)
theorem At_nil (i : Int) : Calls Try.prog 15 #[.pointer none, .int .i64 i] w fun e w' => e = .returned (.tuple #[.int .u32 0, .int .u32 0, .int .i64 1]) ∧ w = w' := by
  go_enter Try.func15, Try.ntmps15
  go_wp2
  go_ret3
  exact ⟨rfl, rfl⟩
theorem At_no (i : Int) (hi : i < 0 ∨ many ≤ i) (h : LogAt w l c0 c1 c2 c3 c4 c5 c6 c7 p first room many) :
    Calls Try.prog 15 #[.pointer (some ⟨l, 0, none⟩), .int .i64 i] w fun e w' => e = .returned (.tuple #[.int .u32 0, .int .u32 0, .int .i64 4]) ∧ w = w' := by
  obtain ⟨x0, x1, x2, x3, x4, x5, x6, x7, x8, x9, x10, x11, x12⟩ := h.cells
  clear h
  by_cases t0 : i < 0
  · clear hi
    go_enter Try.func15, Try.ntmps15
    go_wp2
    go_ret3
    exact ⟨rfl, rfl⟩
  · have t1 : many ≤ i := by omega
    clear hi
    go_enter Try.func15, Try.ntmps15
    go_wp2
    go_ret3
    exact ⟨rfl, rfl⟩
set_option maxHeartbeats 1000000 in
theorem At_ok (i logs : Int) (hi0 : 0 ≤ i) (hi1 : i < many) (hf : 0 ≤ first) (hlg : first + logs ≤ nb) (hm1 : many ≤ 8 * logs) (hlg4 : logs ≤ 4)
    (h : LogAt w l c0 c1 c2 c3 c4 c5 c6 c7 p first room many) (hM : MemAt w p D nb F) :
    Calls Try.prog 15 #[.pointer (some ⟨l, 0, none⟩), .int .i64 i] w fun e w' => e = .returned (.tuple #[.int .u32 (F (base first i)), .int .u32 (F (base first i + 1)), .int .i64 0]) ∧ Below w.heap.size w w' := by
  obtain ⟨x0, x1, x2, x3, x4, x5, x6, x7, x8, x9, x10, x11, x12⟩ := h.cells
  have hl := Row.lt h
  have hnb := hM.1
  have hDl := hM.2.2.2.lt
  have hpl : p < w.heap.size := block_lt_of_cell hM.2.2.1.choose_spec.2
  have H := hide h
  have M := hide hM
  have hF : first ≤ 256 := by omega
  have P0 := hide (fun w => place_any l p c0 c1 c2 c3 c4 c5 c6 c7 first room many w i 0 hi0 (by omega) (by omega) (by omega) hf hF)
  have P1 := hide (fun w => place_any l p c0 c1 c2 c3 c4 c5 c6 c7 first room many w i 1 hi0 (by omega) (by omega) (by omega) hf hF)
  obtain ⟨i0, j0⟩ := place_in hf hlg hi0 (show i < 8 * logs by omega) (Int.le_refl 0) (by omega : (0 : Int) ≤ 1)
  obtain ⟨i1, j1⟩ := place_in hf hlg hi0 (show i < 8 * logs by omega) (by omega : (0 : Int) ≤ 1) (Int.le_refl 1)
  have e0 : errOf nb (first + (i * 2 + 0) / 16) ((i * 2 + 0) % 16) = 0 := by simp only [errOf, i0, if_true]
  have e1 : errOf nb (first + (i * 2 + 1) / 16) ((i * 2 + 1) % 16) = 0 := by simp only [errOf, i1, if_true]
  rw [show base first i + Int.toNat 0 = base first i from rfl] at j0
  have g0 : getOf F nb (first + (i * 2 + 0) / 16) ((i * 2 + 0) % 16) = F (base first i) := by simp only [getOf, i0, if_true, j0]
  have g1 : getOf F nb (first + (i * 2 + 1) / 16) ((i * 2 + 1) % 16) = F (base first i + 1) := by simp only [getOf, i1, if_true, j1]; rfl
  have S0 := hide (fun w h => Word_any p D nb F (first + (i * 2 + 0) / 16) ((i * 2 + 0) % 16) w h)
  have S1 := hide (fun w h => Word_any p D nb F (first + (i * 2 + 1) / 16) ((i * 2 + 1) % 16) w h)
  rw [e0, g0] at S0
  rw [e1, g1] at S1
  generalize first + (i * 2 + 0) / 16 = b0 at *
  generalize first + (i * 2 + 1) / 16 = b1 at *
  generalize (i * 2 + 0) % 16 = k0 at *
  generalize (i * 2 + 1) % 16 = k1 at *
  generalize F (base first i) = va at *
  generalize F (base first i + 1) = vb at *
  have hb2 : Below w.heap.size w (w.alloc (.cells #[.int .u32 0, .int .u32 0] 40)) := (Below.refl _ _).alloc (Nat.le_refl _) _
  have S2 : Hid (TSt w (w.alloc (.cells #[.int .u32 0, .int .u32 0] 40)) l c0 c1 c2 c3 c4 c5 c6 c7 p first room many D nb F w.heap.size 0 0) :=
    hide ⟨h.below hb2 hl, hM.below hb2, hb2, Blk.new w _ _, Nat.le_refl _, by omega, by omega, by omega⟩
  clear h hM i0 i1 j0 j1 e0 e1 g0 g1 hf hlg hlg4 hb2 hl hnb hDl hpl H M hF hm1
  go_enter Try.func15, Try.ntmps15
  go_wp2_with (first
    | ((with_reducible refine Arr.wpList_alloc_zero rfl 40 (by rfl) _ _ info2 w.heap.size (by simp) ?_)))
  clear x0 x1 x2 x3 x4 x5 x6 x7 x8 x9 x10 x11 x12
  generalize w.alloc (.cells #[.int .u32 0, .int .u32 0] 40) = w2 at *
  generalize w.heap.size = E at *
  go_loopw [25] (fun j wr => (j = .int .i64 0 ∧ Hid (TSt w wr l c0 c1 c2 c3 c4 c5 c6 c7 p first room many D nb F E 0 0)) ∨ (j = .int .i64 1 ∧ Hid (TSt w wr l c0 c1 c2 c3 c4 c5 c6 c7 p first room many D nb F E va 0)) ∨ (j = .int .i64 2 ∧ Hid (TSt w wr l c0 c1 c2 c3 c4 c5 c6 c7 p first room many D nb F E va vb))) (fun j _ => 2 - (intOf j).toNat)
  case atStart => exact .inl ⟨rfl, S2⟩
  case round =>
    clear S2
    rcases hrel with ⟨rfl, hS⟩ | ⟨rfl, hS⟩ | ⟨rfl, hS⟩
    · obtain ⟨y0, y1, y2, y3, y4⟩ := hS.out.cells
      go_wp2_with fail
      refine (P0.out _ hS.out.log).mono ?_
      rintro e wx ⟨rfl, rfl⟩
      go_wp2_with fail
      refine (S0.out _ hS.out.mem).mono ?_
      rintro e wx ⟨rfl, rfl⟩
      go_wp2_with fail
      go_roundw
      case rel => exact .inr (.inl ⟨rfl, hide (hS.out.set 0 va rfl)⟩)
      case measure => simp [intOf]
    · obtain ⟨y0, y1, y2, y3, y4⟩ := hS.out.cells
      go_wp2_with fail
      refine (P1.out _ hS.out.log).mono ?_
      rintro e wx ⟨rfl, rfl⟩
      go_wp2_with fail
      refine (S1.out _ hS.out.mem).mono ?_
      rintro e wx ⟨rfl, rfl⟩
      go_wp2_with fail
      go_roundw
      case rel => exact .inr (.inr ⟨rfl, hide (hS.out.set 1 vb rfl)⟩)
      case measure => simp [intOf]
    · obtain ⟨y0, y1, y2, y3, y4⟩ := hS.out.cells
      go_wp2_with fail
      go_quiet (fail)
      go_wp2
      go_ret3
      exact ⟨rfl, bdrewN hS.out.bel _⟩
theorem At_any (i logs : Int) (hf : 0 ≤ first) (hlg : first + logs ≤ nb) (hm1 : many ≤ 8 * logs) (hlg4 : logs ≤ 4)
    (h : LogAt w l c0 c1 c2 c3 c4 c5 c6 c7 p first room many) (hM : MemAt w p D nb F) :
    Calls Try.prog 15 #[.pointer (some ⟨l, 0, none⟩), .int .i64 i] w fun e w' => e = .returned (.tuple #[.int .u32 (atA F first many i), .int .u32 (atB F first many i), .int .i64 (atE many i)]) ∧ Below w.heap.size w w' := by
  by_cases hi : 0 ≤ i ∧ i < many
  · have := At_ok l p c0 c1 c2 c3 c4 c5 c6 c7 first room many D nb F w i logs hi.1 hi.2 hf hlg hm1 hlg4 h hM
    simp only [atA, atB, atE, if_pos hi]
    exact this
  · have := At_no l p c0 c1 c2 c3 c4 c5 c6 c7 first room many w i (by omega) h
    simp only [atA, atB, atE, if_neg hi]
    refine this.mono ?_
    rintro e w' ⟨rfl, rfl⟩
    exact ⟨rfl, Below.refl _ _⟩
theorem Last_nil : Calls Try.prog 18 #[.pointer none] w fun e w' => e = .returned (.tuple #[.int .u32 0, .int .u32 0, .int .i64 1]) ∧ w = w' := by
  go_enter Try.func18, Try.ntmps18
  go_wp2_with fail
  refine (Len_nil _).mono ?_
  rintro e wx ⟨rfl, rfl⟩
  go_wp2_with fail
  refine (At_nil _ _).mono ?_
  rintro e wx ⟨rfl, rfl⟩
  go_wp2
  go_ret3
  exact ⟨rfl, rfl⟩
theorem Last_any (logs : Int) (hf : 0 ≤ first) (hlg : first + logs ≤ nb) (hm0 : 0 ≤ many) (hm1 : many ≤ 8 * logs) (hlg4 : logs ≤ 4)
    (h : LogAt w l c0 c1 c2 c3 c4 c5 c6 c7 p first room many) (hM : MemAt w p D nb F) :
    Calls Try.prog 18 #[.pointer (some ⟨l, 0, none⟩)] w fun e w' => e = .returned (.tuple #[.int .u32 (atA F first many (many - 1)), .int .u32 (atB F first many (many - 1)), .int .i64 (atE many (many - 1))]) ∧ Below w.heap.size w w' := by
  have A := hide (At_any l p c0 c1 c2 c3 c4 c5 c6 c7 first room many D nb F w (many - 1) logs hf hlg hm1 hlg4 h hM)
  have L := hide (Len_any l p c0 c1 c2 c3 c4 c5 c6 c7 first room many w h)
  have hb : many ≤ 32 := by omega
  generalize atA F first many (many - 1) = va at *
  generalize atB F first many (many - 1) = vb at *
  generalize atE many (many - 1) = ve at *
  clear h hM hf hlg hm1 hlg4
  go_enter Try.func18, Try.ntmps18
  go_wp2_with fail
  refine L.out.mono ?_
  rintro e wx ⟨rfl, rfl⟩
  go_wp2_with fail
  refine A.out.mono ?_
  rintro e wx ⟨rfl, hb⟩
  go_wp2
  go_ret3
  exact ⟨rfl, hb⟩
/-- Room, as a call that only draws. -/
theorem Room_quiet (h0 : 0 ≤ many) (h1 : many ≤ 1000) (h2 : 0 ≤ room) (h3 : room ≤ 1000) (h : LogAt w l c0 c1 c2 c3 c4 c5 c6 c7 p first room many) :
    Calls Try.prog 20 #[.pointer (some ⟨l, 0, none⟩)] w fun e w' => e = .returned (.int .i64 (room - many)) ∧ ∃ n, w' = w.drewN n := by
  obtain ⟨x0, x1, x2, x3, x4, x5, x6, x7, x8, x9, x10, x11, x12⟩ := h.cells
  clear h
  go_enter Try.func20, Try.ntmps20
  go_wp2_with fail
  go_quiet (fail)
  go_wp2
  go_ret
  exact ⟨rfl, _, rfl⟩
end
end Go.Proofs.Ytnhfbdjjbmhnkaa.UAt
