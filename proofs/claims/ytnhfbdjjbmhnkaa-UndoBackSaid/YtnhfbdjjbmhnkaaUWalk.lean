/-
  The log of the program walked: New, place, Add, At, Last, Pop, Clear, Len, Room.
-/
import Derived.Test.YtnhfbdjjbmhnkaaUPlain
import Derived.Deep.RegionHeld3
namespace Go.Proofs.Ytnhfbdjjbmhnkaa.UWalk
open Go.RowKit PPlain Base PMay PRefMay PWalk MMem UPlain
set_option linter.unusedVariables false
set_option linter.unusedSimpArgs false
section
variable (l p : Nat) (c0 c1 c2 c3 c4 c5 c6 c7 first room many : Int) (w : World)

theorem place_any (i k : Int) (hi0 : 0 ≤ i) (hi1 : i ≤ 1000) (hk0 : 0 ≤ k) (hk1 : k ≤ 1) (hf0 : 0 ≤ first) (hf1 : first ≤ 256) (h : LogAt w l c0 c1 c2 c3 c4 c5 c6 c7 p first room many) :
    Calls Try.prog 37 #[.pointer (some ⟨l, 0, none⟩), .int .i64 i, .int .i64 k] w fun e w' =>
      e = .returned (.tuple #[.int .i64 (first + (i * 2 + k) / 16), .int .i64 ((i * 2 + k) % 16)]) ∧ w = w' := by
  obtain ⟨x0, x1, x2, x3, x4, x5, x6, x7, x8, x9, x10, x11, x12⟩ := h.cells
  clear h
  go_enter Try.func37, Try.ntmps37
  go_wp2
  go_ret2
  exact ⟨rfl, rfl⟩

theorem Len_any (h : LogAt w l c0 c1 c2 c3 c4 c5 c6 c7 p first room many) :
    Calls Try.prog 14 #[.pointer (some ⟨l, 0, none⟩)] w fun e w' => e = .returned (.int .i64 many) ∧ w = w' := by
  obtain ⟨x0, x1, x2, x3, x4, x5, x6, x7, x8, x9, x10, x11, x12⟩ := h.cells
  clear h
  go_enter Try.func14, Try.ntmps14
  go_wp2
  go_ret
  exact ⟨rfl, rfl⟩
theorem Len_nil : Calls Try.prog 14 #[.pointer none] w fun e w' => e = .returned (.int .i64 0) ∧ w = w' := by
  go_enter Try.func14, Try.ntmps14
  go_wp2
  go_ret
  exact ⟨rfl, rfl⟩
theorem Clear_any (h : LogAt w l c0 c1 c2 c3 c4 c5 c6 c7 p first room many) :
    Calls Try.prog 19 #[.pointer (some ⟨l, 0, none⟩)] w fun e w' => e = .returned (.tuple #[]) ∧ LogAt w' l c0 c1 c2 c3 c4 c5 c6 c7 p first room 0 ∧ w.grownBy w' (some l) := by
  obtain ⟨x0, x1, x2, x3, x4, x5, x6, x7, x8, x9, x10, x11, x12⟩ := h.cells
  have H := hide (h.setMany 0)
  clear h
  go_enter Try.func19, Try.ntmps19
  go_wp2
  go_end0
  exact ⟨rfl, H.out, only_setCell (World.grownBy.refl w _) (.inl rfl) _⟩
theorem Clear_nil : Calls Try.prog 19 #[.pointer none] w fun e w' => e = .returned (.tuple #[]) ∧ w = w' := by
  go_enter Try.func19, Try.ntmps19
  go_wp2
  go_end0
  exact ⟨rfl, rfl⟩
theorem Pop_nil : Calls Try.prog 13 #[.pointer none] w fun e w' => e = .returned (.int .i64 1) ∧ w = w' := by
  go_enter Try.func13, Try.ntmps13
  go_wp2
  go_ret
  exact ⟨rfl, rfl⟩
theorem Pop_none (h : LogAt w l c0 c1 c2 c3 c4 c5 c6 c7 p first room 0) :
    Calls Try.prog 13 #[.pointer (some ⟨l, 0, none⟩)] w fun e w' => e = .returned (.int .i64 4) ∧ w = w' := by
  obtain ⟨x0, x1, x2, x3, x4, x5, x6, x7, x8, x9, x10, x11, x12⟩ := h.cells
  clear h
  go_enter Try.func13, Try.ntmps13
  go_wp2
  go_ret
  exact ⟨rfl, rfl⟩
theorem Pop_one (m0 : 1 ≤ many) (m1 : many ≤ 1000) (h : LogAt w l c0 c1 c2 c3 c4 c5 c6 c7 p first room many) :
    Calls Try.prog 13 #[.pointer (some ⟨l, 0, none⟩)] w fun e w' => e = .returned (.int .i64 0) ∧ LogAt w' l c0 c1 c2 c3 c4 c5 c6 c7 p first room (many - 1) ∧ w.grownBy w' (some l) := by
  obtain ⟨x0, x1, x2, x3, x4, x5, x6, x7, x8, x9, x10, x11, x12⟩ := h.cells
  have H := hide (h.setMany (many - 1))
  have hb : (many == 0) = false := by simp; omega
  clear h
  go_enter Try.func13, Try.ntmps13
  go_wp2
  go_ret
  exact ⟨rfl, H.out, only_setCell (World.grownBy.refl w _) (.inl rfl) _⟩
theorem Room_any (h0 : 0 ≤ many) (h1 : many ≤ 1000) (h2 : 0 ≤ room) (h3 : room ≤ 1000) (h : LogAt w l c0 c1 c2 c3 c4 c5 c6 c7 p first room many) :
    Calls Try.prog 20 #[.pointer (some ⟨l, 0, none⟩)] w fun e w' => e = .returned (.int .i64 (room - many)) ∧ Below w.heap.size w w' := by
  obtain ⟨x0, x1, x2, x3, x4, x5, x6, x7, x8, x9, x10, x11, x12⟩ := h.cells
  clear h
  go_enter Try.func20, Try.ntmps20
  go_wp2_with fail
  go_quiet (fail)
  go_wp2
  go_ret
  exact ⟨rfl, bdrewN (Below.refl _ _) _⟩
theorem Room_nil : Calls Try.prog 20 #[.pointer none] w fun e w' => e = .returned (.int .i64 0) ∧ w = w' := by
  go_enter Try.func20, Try.ntmps20
  go_wp2
  go_ret
  exact ⟨rfl, rfl⟩
end
end Go.Proofs.Ytnhfbdjjbmhnkaa.UWalk
