/-
  New of the program's log walked, at any plan.
-/
import Derived.Test.YtnhfbdjjbmhnkaaUWalk
namespace Go.Proofs.Ytnhfbdjjbmhnkaa.UNew
open Go.RowKit PPlain Base PMay PRefMay PWalk MMem UPlain UWalk
set_option linter.unusedVariables false
set_option linter.unusedSimpArgs false

/-- The plan's box, the memory, what was there. -/
def CSt (w0 w : World) (B : Nat) (c0 c1 c2 c3 c4 c5 c6 c7 : Int) (p D nb : Nat) (F : Nat → Int) : Prop :=
  Blk w B 23 #[.int .i64 c0, .int .i64 c1, .int .i64 c2, .int .i64 c3, .int .i64 c4, .int .i64 c5, .int .i64 c6, .int .i64 c7] ∧ MemAt w p D nb F ∧ Below w0.heap.size w0 w
section
variable {w0 w w' : World} {B : Nat} {c0 c1 c2 c3 c4 c5 c6 c7 : Int} {p D nb : Nat} {F : Nat → Int}
theorem CSt.drew (h : Hid (CSt w0 w B c0 c1 c2 c3 c4 c5 c6 c7 p D nb F)) : Hid (CSt w0 w.drew B c0 c1 c2 c3 c4 c5 c6 c7 p D nb F) := hide ⟨h.out.1, h.out.2.1, h.out.2.2.drew⟩
theorem CSt.below (h : Hid (CSt w0 w B c0 c1 c2 c3 c4 c5 c6 c7 p D nb F)) (hb : Below w.heap.size w w') : Hid (CSt w0 w' B c0 c1 c2 c3 c4 c5 c6 c7 p D nb F) :=
  hide ⟨h.out.1.below hb h.out.1.lt, h.out.2.1.below hb, below_then h.out.2.2 hb⟩
theorem CSt.mem (h : Hid (CSt w0 w B c0 c1 c2 c3 c4 c5 c6 c7 p D nb F)) : MemAt w p D nb F := h.out.2.1
theorem CSt.bel (h : Hid (CSt w0 w B c0 c1 c2 c3 c4 c5 c6 c7 p D nb F)) : Below w0.heap.size w0 w := h.out.2.2
theorem CSt.cells (h : Hid (CSt w0 w B c0 c1 c2 c3 c4 c5 c6 c7 p D nb F)) :
    w.cell? ⟨B, 0, none⟩ = some (.int .i64 c0) ∧ w.cell? ⟨B, 1, none⟩ = some (.int .i64 c1) ∧ w.cell? ⟨B, 2, none⟩ = some (.int .i64 c2) ∧ w.cell? ⟨B, 3, none⟩ = some (.int .i64 c3) ∧
    w.cell? ⟨B, 4, none⟩ = some (.int .i64 c4) ∧ w.cell? ⟨B, 5, none⟩ = some (.int .i64 c5) ∧ w.cell? ⟨B, 6, none⟩ = some (.int .i64 c6) ∧ w.cell? ⟨B, 7, none⟩ = some (.int .i64 c7) :=
  ⟨h.out.1.cell 0, h.out.1.cell 1, h.out.1.cell 2, h.out.1.cell 3, h.out.1.cell 4, h.out.1.cell 5, h.out.1.cell 6, h.out.1.cell 7⟩
theorem CSt.first (w : World) (h : MemAt w p D nb F) : Hid (CSt w (w.alloc (.cells #[.int .i64 c0, .int .i64 c1, .int .i64 c2, .int .i64 c3, .int .i64 c4, .int .i64 c5, .int .i64 c6, .int .i64 c7] 23)) w.heap.size c0 c1 c2 c3 c4 c5 c6 c7 p D nb F) :=
  hide ⟨Blk.new w _ _, h.below ((Below.refl _ _).alloc (Nat.le_refl _) _), (Below.refl _ _).alloc (Nat.le_refl _) _⟩
theorem LogAt.new (w : World) (first room many : Int) : LogAt (w.alloc (.cells (lgL c0 c1 c2 c3 c4 c5 c6 c7 p first room many).toArray 76)) w.heap.size c0 c1 c2 c3 c4 c5 c6 c7 p first room many :=
  Row.mk' (World.rowIs_alloc w (lgL c0 c1 c2 c3 c4 c5 c6 c7 p first room many).toArray 76 _ (fun i hi => by
    simp only [List.getElem?_toArray, List.getD_eq_getElem?_getD]
    rw [List.getElem?_eq_getElem (by simpa using hi)]
    rfl))
end
section
variable (c0 c1 c2 c3 c4 c5 c6 c7 core : Int) (p D nb : Nat) (F : Nat → Int) (w : World)
theorem New_nil : Calls Try.prog 10 #[.agg #[.int .i64 c0, .int .i64 c1, .int .i64 c2, .int .i64 c3, .int .i64 c4, .int .i64 c5, .int .i64 c6, .int .i64 c7], .pointer none, .int .i64 core] w fun e w' =>
    e = .returned (.tuple #[.pointer none, .int .i64 1]) ∧ Below w.heap.size w w' := by
  go_enter Try.func10, Try.ntmps10
  go_wp2
  go_ret2
  exact ⟨rfl, (Below.refl _ _).alloc (Nat.le_refl _) _⟩
theorem New_bad (er : Int) (he : (er != 0) = true) (h : MemAt w p D nb F)
    (L : Hid (∀ w, Calls Try.prog 11 #[.agg #[.int .i64 c0, .int .i64 c1, .int .i64 c2, .int .i64 c3, .int .i64 c4, .int .i64 c5, .int .i64 c6, .int .i64 c7], .int .i64 core] w fun e w' => e = .returned (.tuple #[.int .i64 0, .int .i64 0, .int .i64 er]) ∧ Below w.heap.size w w')) :
    Calls Try.prog 10 #[.agg #[.int .i64 c0, .int .i64 c1, .int .i64 c2, .int .i64 c3, .int .i64 c4, .int .i64 c5, .int .i64 c6, .int .i64 c7], .pointer (some ⟨p, 0, none⟩), .int .i64 core] w fun e w' =>
    e = .returned (.tuple #[.pointer none, .int .i64 er]) ∧ Below w.heap.size w w' := by
  have S0 := CSt.first (c0 := c0) (c1 := c1) (c2 := c2) (c3 := c3) (c4 := c4) (c5 := c5) (c6 := c6) (c7 := c7) w h
  clear h
  go_enter Try.func10, Try.ntmps10
  go_wp2_with fail
  refine (L.out _).mono ?_
  rintro e w1 ⟨rfl, hb1⟩
  have S1 := CSt.below S0 hb1
  clear hb1 S0
  go_wp2
  go_ret2
  exact ⟨rfl, CSt.bel S1⟩
theorem New_many (first many : Int) (hn : ((nb : Int) != c3) = true) (h : MemAt w p D nb F)
    (L : Hid (∀ w, Calls Try.prog 11 #[.agg #[.int .i64 c0, .int .i64 c1, .int .i64 c2, .int .i64 c3, .int .i64 c4, .int .i64 c5, .int .i64 c6, .int .i64 c7], .int .i64 core] w fun e w' => e = .returned (.tuple #[.int .i64 first, .int .i64 many, .int .i64 0]) ∧ Below w.heap.size w w')) :
    Calls Try.prog 10 #[.agg #[.int .i64 c0, .int .i64 c1, .int .i64 c2, .int .i64 c3, .int .i64 c4, .int .i64 c5, .int .i64 c6, .int .i64 c7], .pointer (some ⟨p, 0, none⟩), .int .i64 core] w fun e w' =>
    e = .returned (.tuple #[.pointer none, .int .i64 2]) ∧ Below w.heap.size w w' := by
  have S0 := CSt.first (c0 := c0) (c1 := c1) (c2 := c2) (c3 := c3) (c4 := c4) (c5 := c5) (c6 := c6) (c7 := c7) w h
  clear h
  go_enter Try.func10, Try.ntmps10
  go_wp2_with fail
  refine (L.out _).mono ?_
  rintro e w1 ⟨rfl, hb1⟩
  have S1 := CSt.drew (CSt.below S0 hb1)
  have hc := CSt.cells S1
  clear hb1 S0
  go_wp2_with fail
  go_region_held3 (fun w' => (w'.cell? ⟨w.heap.size, 0, none⟩ = some (.int .i64 c0) ∧ w'.cell? ⟨w.heap.size, 1, none⟩ = some (.int .i64 c1) ∧ w'.cell? ⟨w.heap.size, 2, none⟩ = some (.int .i64 c2) ∧ w'.cell? ⟨w.heap.size, 3, none⟩ = some (.int .i64 c3) ∧ w'.cell? ⟨w.heap.size, 4, none⟩ = some (.int .i64 c4) ∧ w'.cell? ⟨w.heap.size, 5, none⟩ = some (.int .i64 c5) ∧ w'.cell? ⟨w.heap.size, 6, none⟩ = some (.int .i64 c6) ∧ w'.cell? ⟨w.heap.size, 7, none⟩ = some (.int .i64 c7))) (first | exact hc | exact CSt.cells (by assumption))
    (first | (go_at_call 34; refine (Blocks_any p D nb F _ (CSt.mem (by assumption))).mono ?_; rintro e wm ⟨rfl, rfl⟩))
  all_goals
    clear hc
    go_wp2
    go_ret2
    exact ⟨rfl, CSt.bel (by assumption)⟩
theorem New_ok (first many : Int) (hn : ((nb : Int) != c3) = false) (hm0 : 0 ≤ many) (hm1 : many ≤ 4) (h : MemAt w p D nb F)
    (L : Hid (∀ w, Calls Try.prog 11 #[.agg #[.int .i64 c0, .int .i64 c1, .int .i64 c2, .int .i64 c3, .int .i64 c4, .int .i64 c5, .int .i64 c6, .int .i64 c7], .int .i64 core] w fun e w' => e = .returned (.tuple #[.int .i64 first, .int .i64 many, .int .i64 0]) ∧ Below w.heap.size w w')) :
    Calls Try.prog 10 #[.agg #[.int .i64 c0, .int .i64 c1, .int .i64 c2, .int .i64 c3, .int .i64 c4, .int .i64 c5, .int .i64 c6, .int .i64 c7], .pointer (some ⟨p, 0, none⟩), .int .i64 core] w fun e w' =>
    ∃ l, e = .returned (.tuple #[.pointer (some ⟨l, 0, none⟩), .int .i64 0]) ∧ w.heap.size ≤ l ∧ LogAt w' l c0 c1 c2 c3 c4 c5 c6 c7 p first (8 * many) 0 ∧ Below w.heap.size w w' := by
  have S0 := CSt.first (c0 := c0) (c1 := c1) (c2 := c2) (c3 := c3) (c4 := c4) (c5 := c5) (c6 := c6) (c7 := c7) w h
  have hroom : many * 16 / 2 = 8 * many := by omega
  have HR := hide hroom
  clear h hroom
  go_enter Try.func10, Try.ntmps10
  go_wp2_with fail
  refine (L.out _).mono ?_
  rintro e w1 ⟨rfl, hb1⟩
  have S1 := CSt.drew (CSt.below S0 hb1)
  have hc := CSt.cells S1
  clear hb1 S0
  go_wp2_with fail
  go_region_held3 (fun w' => (w'.cell? ⟨w.heap.size, 0, none⟩ = some (.int .i64 c0) ∧ w'.cell? ⟨w.heap.size, 1, none⟩ = some (.int .i64 c1) ∧ w'.cell? ⟨w.heap.size, 2, none⟩ = some (.int .i64 c2) ∧ w'.cell? ⟨w.heap.size, 3, none⟩ = some (.int .i64 c3) ∧ w'.cell? ⟨w.heap.size, 4, none⟩ = some (.int .i64 c4) ∧ w'.cell? ⟨w.heap.size, 5, none⟩ = some (.int .i64 c5) ∧ w'.cell? ⟨w.heap.size, 6, none⟩ = some (.int .i64 c6) ∧ w'.cell? ⟨w.heap.size, 7, none⟩ = some (.int .i64 c7))) (first | exact hc | exact CSt.cells (by assumption))
    (first | (go_at_call 34; refine (Blocks_any p D nb F _ (CSt.mem (by assumption))).mono ?_; rintro e wm ⟨rfl, rfl⟩))
  all_goals
    clear hc
    go_wp2
    go_ret2
    have hB := CSt.bel S1
    refine ⟨w1.drew.heap.size, rfl, hB.size, ?_, hB.alloc hB.size _⟩
    rw [← HR.out]
    exact LogAt.new _ _ _ _
end
end Go.Proofs.Ytnhfbdjjbmhnkaa.UNew
