/-
  UndoKnown walked: the document's examples; no log. It returns true.
-/
import Derived.Test.YtnhfbdjjbmhnkaaULog
namespace Go.Proofs.Ytnhfbdjjbmhnkaa.UKnown
open Go.RowKit PPlain Base PMay PRefMay PWalk MMem UPlain UWalk UAdd UAt UNew ULog
set_option linter.unusedVariables false

theorem LSt.pop_at {w0 w : World} {l : Nat} {c0 c1 c2 c3 c4 c5 c6 c7 : Int} {p : Nat} {first logs many : Int} {D nb : Nat} {F : Nat → Int} (h : LSt w0 w l c0 c1 c2 c3 c4 c5 c6 c7 p first logs many D nb F) (e m : Int)
    (he : popE many = e) (hm : popN many = m) :
    Calls Try.prog 13 #[.pointer (some ⟨l, 0, none⟩)] w fun r w' => r = .returned (.int .i64 e) ∧ LSt w0 w' l c0 c1 c2 c3 c4 c5 c6 c7 p first logs m D nb F ∧ Two D l w w' := by
  have := h.Pop_any
  rw [he, hm] at this
  exact this
theorem word_at {w : World} {p D nb : Nat} {F : Nat → Int} (h : MemAt w p D nb F) (b k x : Int) (hx : getOf F nb b k = x) (he : errOf nb b k = 0) :
    Calls Try.prog 16 #[.pointer (some ⟨p, 0, none⟩), .int .i64 b, .int .i64 k] w fun e w' => e = .returned (.tuple #[.int .u32 x, .int .i64 0]) ∧ w = w' := by
  have := Word_any p D nb F b k w h
  rw [hx, he] at this
  exact this

set_option maxHeartbeats 1000000 in
theorem known (w : World) : Calls Try.prog 4 #[] w fun e w' => e = .returned (.bool true) ∧ Below w.heap.size w w' := by
  go_enter Try.func4, Try.ntmps4
  go_wp2_with fail
  refine (MMem.New_ok 10 (by omega) (by omega) w).mono ?_
  rintro e w1 ⟨rfl, hM, hb1⟩
  have HM := hide hM
  have HB := hide hb1
  obtain ⟨D, hD⟩ : ∃ D, D = w.heap.size := ⟨_, rfl⟩
  obtain ⟨p, hp⟩ : ∃ p, p = w.heap.size + 1 := ⟨_, rfl⟩
  rw [← hp, ← hD] at HM
  have HD := hide (show w.heap.size ≤ D by omega)
  clear hM hb1 hD
  go_wp2_with fail
  rw [← hp]
  clear hp
  refine (two_any _).mono ?_
  rintro e w2 ⟨rfl, hb2⟩
  have HM2 := hide (HM.out.below hb2)
  have HB2 := hide (below_then HB.out hb2)
  clear hb2
  go_wp2_with fail
  refine (New_two p D (fun _ => 0) w w2 HM2.out HB2.out HD.out).mono ?_
  rintro e w3 ⟨l, rfl, hl, hS, hb3⟩
  have S3 := hide hS
  clear hl hS hb3
  go_wp2_with fail
  refine (works_any _).mono ?_
  rintro e w4 ⟨rfl, hb⟩
  have S4 := hide (S3.out.below hb)
  clear hb S3
  go_wp2_with fail
  refine (S4.out.add_at 68 5 0 1 (by omega) (by omega) (by decide) (by decide)).mono ?_
  rintro e w5 ⟨rfl, hS, ht⟩
  have S5 := hide hS
  clear hS ht S4
  rw [show addF (fun _ => 0) 9 0 68 5 0 = keptF from rfl] at S5
  go_wp2_with fail
  refine (word_at S5.out.mem 9 0 68 (by decide) (by decide)).mono ?_
  rintro e wx ⟨rfl, rfl⟩
  go_wp2_with fail
  refine (word_at S5.out.mem 9 1 5 (by decide) (by decide)).mono ?_
  rintro e wx ⟨rfl, rfl⟩
  go_wp2_with fail
  refine (LSt.pop_at S5.out 0 0 (by decide) (by decide)).mono ?_
  rintro e w6 ⟨rfl, hS, ht⟩
  have S6 := hide hS
  clear hS ht S5
  go_wp2_with fail
  refine (LSt.pop_at S6.out 4 0 (by decide) (by decide)).mono ?_
  rintro e w7 ⟨rfl, hS, ht⟩
  have S7 := hide hS
  clear hS ht S6
  go_wp2_with fail
  refine (S7.out.last_at 0 0 4 (by decide) (by decide) (by decide)).mono ?_
  rintro e w8 ⟨rfl, hb8⟩
  have S8 := hide (S7.out.below hb8).bel
  clear hb8 S7
  go_wp2_with fail
  refine (Clear_nil _).mono ?_
  rintro e wx ⟨rfl, rfl⟩
  go_wp2_with fail
  refine (Last_nil _).mono ?_
  rintro e wx ⟨rfl, rfl⟩
  go_wp2_with fail
  refine (two_any _).mono ?_
  rintro e w9 ⟨rfl, hb9⟩
  have S9 := hide (below_then S8.out hb9)
  clear hb9 S8
  go_wp2_with fail
  refine (New_nil 2 2 2 10 1 1 1 0 0 _).mono ?_
  rintro e w10 ⟨rfl, hb10⟩
  have S10 := hide (below_then S9.out hb10)
  clear hb10 S9
  go_wp2_with fail
  refine (Add_nil _ _ _).mono ?_
  rintro e wx ⟨rfl, rfl⟩
  go_wp2_with fail
  refine (Pop_nil _).mono ?_
  rintro e wx ⟨rfl, rfl⟩
  go_wp2_with fail
  refine (Len_nil _).mono ?_
  rintro e wx ⟨rfl, rfl⟩
  go_wp2_with fail
  refine (Room_nil _).mono ?_
  rintro e wx ⟨rfl, rfl⟩
  go_wp2
  go_ret
  exact ⟨rfl, S10.out⟩
end Go.Proofs.Ytnhfbdjjbmhnkaa.UKnown
