/-
  VictimLast walked: it returns true at any memory of 8 bits, any ways, any way.
-/
import Derived.Test.YtnhppcgpplbnpaaLaws
namespace Go.Proofs.Ytnhppcgpplbnpaa.Last
open Go.RowKit Plain Walk Laws Base
set_option linter.unusedVariables false

theorem last_err (m ways way : Int) (hm0 : 0 ≤ m) (hm1 : m ≤ 255) (h : usee ways way ≠ 0) (w : World) :
    Calls Try.prog 6 #[.int .u8 m, .int .i64 ways, .int .i64 way] w fun e w' => e = .returned (.bool true) ∧ Below w.heap.size w w' := by
  have hv : usev m ways way = 0 := by
    revert h
    unfold usee usev
    repeat' split
    all_goals first | (intro h; exact absurd rfl h) | (intro _; rfl) | (intro _; exfalso; omega)
  have k1 : (usee ways way != 0) = true := by rw [bne_iff_ne]; exact h
  go_enter Try.func6, Try.ntmps6
  go_wp2_with fail
  refine (use_any m ways way hm0 hm1 _).mono ?_
  rintro e w1 ⟨rfl, hb1⟩
  go_wp2_with fail
  refine (works_any _).mono ?_
  rintro e w2 ⟨rfl, hb2⟩
  go_wp2
  go_ret
  exact ⟨rfl, below_then hb1 hb2⟩

theorem last_40 (m : Int) (hm0 : 0 ≤ m) (hm1 : m ≤ 255) (w : World) :
    Calls Try.prog 6 #[.int .u8 m, .int .i64 4, .int .i64 0] w fun e w' => e = .returned (.bool true) ∧ Below w.heap.size w w' := by
  obtain ⟨f1, f2, f3, f4, f5⟩ := Plain.last_40 hm0 hm1
  have r := usev_range m 4 0 hm0 hm1
  have e1 : usee 4 0 = 0 := by decide
  have e2 : vice 4 = 0 := by decide
  have U := (use_any m 4 0 hm0 hm1 w)
  have V := fun w1 => vic_any (usev m 4 0) 4 r.1 r.2 w1
  generalize usev m 4 0 = u at *
  generalize vicv u 4 = n at *
  have U := hide U
  have V := hide V
  have r0 := r.1
  have r1 := r.2
  have k3 : (n != 0) = true := by rw [bne_iff_ne]; omega
  have k4 : (n / 2 != 0) = true := by rw [bne_iff_ne]; omega
  have F4 := hide f4
  have F5 := hide f5
  clear f4 f5 r
  go_enter Try.func6, Try.ntmps6
  go_wp2_with fail
  refine U.out.mono ?_
  rintro e w1 ⟨rfl, hb1⟩
  go_wp2_with fail
  refine (V.out _).mono ?_
  rintro e w2 ⟨rfl, hb2⟩
  go_wp2_with fail
  refine (works_any _).mono ?_
  rintro e w3 ⟨rfl, hb3⟩
  go_wp2
  go_ret
  exact ⟨rfl, below_then (below_then hb1 hb2) hb3⟩

theorem last_41 (m : Int) (hm0 : 0 ≤ m) (hm1 : m ≤ 255) (w : World) :
    Calls Try.prog 6 #[.int .u8 m, .int .i64 4, .int .i64 1] w fun e w' => e = .returned (.bool true) ∧ Below w.heap.size w w' := by
  obtain ⟨f1, f2, f3, f4, f5⟩ := Plain.last_41 hm0 hm1
  have r := usev_range m 4 1 hm0 hm1
  have e1 : usee 4 1 = 0 := by decide
  have e2 : vice 4 = 0 := by decide
  have U := (use_any m 4 1 hm0 hm1 w)
  have V := fun w1 => vic_any (usev m 4 1) 4 r.1 r.2 w1
  generalize usev m 4 1 = u at *
  generalize vicv u 4 = n at *
  have U := hide U
  have V := hide V
  have r0 := r.1
  have r1 := r.2
  have k3 : (n != 1) = true := by rw [bne_iff_ne]; omega
  have k4 : (n / 2 != 0) = true := by rw [bne_iff_ne]; omega
  have F4 := hide f4
  have F5 := hide f5
  clear f4 f5 r
  go_enter Try.func6, Try.ntmps6
  go_wp2_with fail
  refine U.out.mono ?_
  rintro e w1 ⟨rfl, hb1⟩
  go_wp2_with fail
  refine (V.out _).mono ?_
  rintro e w2 ⟨rfl, hb2⟩
  go_wp2_with fail
  refine (works_any _).mono ?_
  rintro e w3 ⟨rfl, hb3⟩
  go_wp2
  go_ret
  exact ⟨rfl, below_then (below_then hb1 hb2) hb3⟩

theorem last_42 (m : Int) (hm0 : 0 ≤ m) (hm1 : m ≤ 255) (w : World) :
    Calls Try.prog 6 #[.int .u8 m, .int .i64 4, .int .i64 2] w fun e w' => e = .returned (.bool true) ∧ Below w.heap.size w w' := by
  obtain ⟨f1, f2, f3, f4, f5⟩ := Plain.last_42 hm0 hm1
  have r := usev_range m 4 2 hm0 hm1
  have e1 : usee 4 2 = 0 := by decide
  have e2 : vice 4 = 0 := by decide
  have U := (use_any m 4 2 hm0 hm1 w)
  have V := fun w1 => vic_any (usev m 4 2) 4 r.1 r.2 w1
  generalize usev m 4 2 = u at *
  generalize vicv u 4 = n at *
  have U := hide U
  have V := hide V
  have r0 := r.1
  have r1 := r.2
  have k3 : (n != 2) = true := by rw [bne_iff_ne]; omega
  have k4 : (n / 2 != 1) = true := by rw [bne_iff_ne]; omega
  have F4 := hide f4
  have F5 := hide f5
  clear f4 f5 r
  go_enter Try.func6, Try.ntmps6
  go_wp2_with fail
  refine U.out.mono ?_
  rintro e w1 ⟨rfl, hb1⟩
  go_wp2_with fail
  refine (V.out _).mono ?_
  rintro e w2 ⟨rfl, hb2⟩
  go_wp2_with fail
  refine (works_any _).mono ?_
  rintro e w3 ⟨rfl, hb3⟩
  go_wp2
  go_ret
  exact ⟨rfl, below_then (below_then hb1 hb2) hb3⟩

theorem last_43 (m : Int) (hm0 : 0 ≤ m) (hm1 : m ≤ 255) (w : World) :
    Calls Try.prog 6 #[.int .u8 m, .int .i64 4, .int .i64 3] w fun e w' => e = .returned (.bool true) ∧ Below w.heap.size w w' := by
  obtain ⟨f1, f2, f3, f4, f5⟩ := Plain.last_43 hm0 hm1
  have r := usev_range m 4 3 hm0 hm1
  have e1 : usee 4 3 = 0 := by decide
  have e2 : vice 4 = 0 := by decide
  have U := (use_any m 4 3 hm0 hm1 w)
  have V := fun w1 => vic_any (usev m 4 3) 4 r.1 r.2 w1
  generalize usev m 4 3 = u at *
  generalize vicv u 4 = n at *
  have U := hide U
  have V := hide V
  have r0 := r.1
  have r1 := r.2
  have k3 : (n != 3) = true := by rw [bne_iff_ne]; omega
  have k4 : (n / 2 != 1) = true := by rw [bne_iff_ne]; omega
  have F4 := hide f4
  have F5 := hide f5
  clear f4 f5 r
  go_enter Try.func6, Try.ntmps6
  go_wp2_with fail
  refine U.out.mono ?_
  rintro e w1 ⟨rfl, hb1⟩
  go_wp2_with fail
  refine (V.out _).mono ?_
  rintro e w2 ⟨rfl, hb2⟩
  go_wp2_with fail
  refine (works_any _).mono ?_
  rintro e w3 ⟨rfl, hb3⟩
  go_wp2
  go_ret
  exact ⟨rfl, below_then (below_then hb1 hb2) hb3⟩

theorem last_20 (m : Int) (hm0 : 0 ≤ m) (hm1 : m ≤ 255) (w : World) :
    Calls Try.prog 6 #[.int .u8 m, .int .i64 2, .int .i64 0] w fun e w' => e = .returned (.bool true) ∧ Below w.heap.size w w' := by
  obtain ⟨f1, f2, f3, f4, f5⟩ := Plain.last_20 hm0 hm1
  have r := usev_range m 2 0 hm0 hm1
  have e1 : usee 2 0 = 0 := by decide
  have e2 : vice 2 = 0 := by decide
  have U := (use_any m 2 0 hm0 hm1 w)
  have V := fun w1 => vic_any (usev m 2 0) 2 r.1 r.2 w1
  generalize usev m 2 0 = u at *
  generalize vicv u 2 = n at *
  have U := hide U
  have V := hide V
  have r0 := r.1
  have r1 := r.2
  have k3 : (n != 0) = true := by rw [bne_iff_ne]; omega
  have F4 := hide f4
  have F5 := hide f5
  clear f4 f5 r
  go_enter Try.func6, Try.ntmps6
  go_wp2_with fail
  refine U.out.mono ?_
  rintro e w1 ⟨rfl, hb1⟩
  go_wp2_with fail
  refine (V.out _).mono ?_
  rintro e w2 ⟨rfl, hb2⟩
  go_wp2_with fail
  refine (works_any _).mono ?_
  rintro e w3 ⟨rfl, hb3⟩
  go_wp2
  go_ret
  exact ⟨rfl, below_then (below_then hb1 hb2) hb3⟩

theorem last_21 (m : Int) (hm0 : 0 ≤ m) (hm1 : m ≤ 255) (w : World) :
    Calls Try.prog 6 #[.int .u8 m, .int .i64 2, .int .i64 1] w fun e w' => e = .returned (.bool true) ∧ Below w.heap.size w w' := by
  obtain ⟨f1, f2, f3, f4, f5⟩ := Plain.last_21 hm0 hm1
  have r := usev_range m 2 1 hm0 hm1
  have e1 : usee 2 1 = 0 := by decide
  have e2 : vice 2 = 0 := by decide
  have U := (use_any m 2 1 hm0 hm1 w)
  have V := fun w1 => vic_any (usev m 2 1) 2 r.1 r.2 w1
  generalize usev m 2 1 = u at *
  generalize vicv u 2 = n at *
  have U := hide U
  have V := hide V
  have r0 := r.1
  have r1 := r.2
  have k3 : (n != 1) = true := by rw [bne_iff_ne]; omega
  have F4 := hide f4
  have F5 := hide f5
  clear f4 f5 r
  go_enter Try.func6, Try.ntmps6
  go_wp2_with fail
  refine U.out.mono ?_
  rintro e w1 ⟨rfl, hb1⟩
  go_wp2_with fail
  refine (V.out _).mono ?_
  rintro e w2 ⟨rfl, hb2⟩
  go_wp2_with fail
  refine (works_any _).mono ?_
  rintro e w3 ⟨rfl, hb3⟩
  go_wp2
  go_ret
  exact ⟨rfl, below_then (below_then hb1 hb2) hb3⟩

theorem last_10 (m : Int) (hm0 : 0 ≤ m) (hm1 : m ≤ 255) (w : World) :
    Calls Try.prog 6 #[.int .u8 m, .int .i64 1, .int .i64 0] w fun e w' => e = .returned (.bool true) ∧ Below w.heap.size w w' := by
  obtain ⟨f1, f2, f3, f4, f5⟩ := Plain.last_10 hm0 hm1
  have r := usev_range m 1 0 hm0 hm1
  have e1 : usee 1 0 = 0 := by decide
  have e2 : vice 1 = 0 := by decide
  have U := (use_any m 1 0 hm0 hm1 w)
  have V := fun w1 => vic_any (usev m 1 0) 1 r.1 r.2 w1
  generalize usev m 1 0 = u at *
  generalize vicv u 1 = n at *
  have U := hide U
  have V := hide V
  have r0 := r.1
  have r1 := r.2
  have F4 := hide f4
  have F5 := hide f5
  clear f4 f5 r
  go_enter Try.func6, Try.ntmps6
  go_wp2_with fail
  refine U.out.mono ?_
  rintro e w1 ⟨rfl, hb1⟩
  go_wp2_with fail
  refine (V.out _).mono ?_
  rintro e w2 ⟨rfl, hb2⟩
  go_wp2_with fail
  refine (works_any _).mono ?_
  rintro e w3 ⟨rfl, hb3⟩
  go_wp2
  go_ret
  exact ⟨rfl, below_then (below_then hb1 hb2) hb3⟩

theorem last (m ways way : Int) (hm0 : 0 ≤ m) (hm1 : m ≤ 255) (w : World) :
    Calls Try.prog 6 #[.int .u8 m, .int .i64 ways, .int .i64 way] w fun e w' => e = .returned (.bool true) ∧ Below w.heap.size w w' := by
  by_cases h : usee ways way = 0
  · have : (ways = 4 ∧ (way = 0 ∨ way = 1 ∨ way = 2 ∨ way = 3)) ∨ (ways = 2 ∧ (way = 0 ∨ way = 1)) ∨ (ways = 1 ∧ way = 0) := by
      unfold usee at h
      repeat' split at h
      all_goals omega
    rcases this with ⟨rfl, rfl | rfl | rfl | rfl⟩ | ⟨rfl, rfl | rfl⟩ | ⟨rfl, rfl⟩
    · exact last_40 m hm0 hm1 w
    · exact last_41 m hm0 hm1 w
    · exact last_42 m hm0 hm1 w
    · exact last_43 m hm0 hm1 w
    · exact last_20 m hm0 hm1 w
    · exact last_21 m hm0 hm1 w
    · exact last_10 m hm0 hm1 w
  · exact last_err m ways way hm0 hm1 h w
end Go.Proofs.Ytnhppcgpplbnpaa.Last
