/-
  The walks of the layer 'victim': Use, Victim of the program and of the reference compute usev, usee, vicv, vice, at every memory of 8 bits, any ways, any way.
-/
import Derived.Test.YtnhppcgpplbnpaaProg
import Derived.Test.YtnhppcgpplbnpaaPlain
import Derived.WalkKit
import Derived.ProofKit
import Derived.OpenShut
import Derived.WalkLawsBesides
import Derived.WalkSpells
import Derived.Test.YtnhppcgpplbnpaaBase
namespace Go.Proofs.Ytnhppcgpplbnpaa.Walk
open Go.RowKit Plain
set_option linter.unusedVariables false

theorem bits_any (m : Int) (hm0 : 0 ≤ m) (hm1 : m ≤ 255) (w : World) :
    Calls Try.prog 14 #[.int .u8 m] w fun e w' => e = .returned (.agg #[.int .i64 (m % 2), .int .i64 (m / 2 % 2), .int .i64 (m / 4 % 2)]) ∧ Below w.heap.size w w' := by
  go_enter Try.func14, Try.ntmps14
  go_wp2
  exact bodyPost_ret (v := .agg #[.int .i64 (m % 2), .int .i64 (m / 2 % 2), .int .i64 (m / 4 % 2)]) (by simp [results, Try.results14, go_sem]) rfl ⟨rfl, (Below.refl _ _).alloc (Nat.le_refl _) _⟩

theorem use_other (m ways way : Int) (h1 : ways ≠ 4) (h2 : ways ≠ 2) (h3 : ways ≠ 1) (w : World) :
    Calls Try.prog 8 #[.int .u8 m, .int .i64 ways, .int .i64 way] w fun e w' => e = .returned (.tuple #[.int .u8 0, .int .i64 2]) ∧ Below w.heap.size w w' := by
  go_enter Try.func8, Try.ntmps8
  go_wp2
  go_ret2
  exact ⟨rfl, Below.refl _ _⟩

theorem use_4r (m way : Int) (h1 : way < 0 ∨ 3 < way) (w : World) :
    Calls Try.prog 8 #[.int .u8 m, .int .i64 4, .int .i64 way] w fun e w' => e = .returned (.tuple #[.int .u8 0, .int .i64 5]) ∧ Below w.heap.size w w' := by
  by_cases h : way < 0
  all_goals
    go_enter Try.func8, Try.ntmps8
    go_wp2
    go_ret2
    exact ⟨rfl, Below.refl _ _⟩

theorem use_2r (m way : Int) (h1 : way < 0 ∨ 1 < way) (w : World) :
    Calls Try.prog 8 #[.int .u8 m, .int .i64 2, .int .i64 way] w fun e w' => e = .returned (.tuple #[.int .u8 0, .int .i64 5]) ∧ Below w.heap.size w w' := by
  by_cases h : way < 0
  all_goals
    go_enter Try.func8, Try.ntmps8
    go_wp2
    go_ret2
    exact ⟨rfl, Below.refl _ _⟩

theorem use_1r (m way : Int) (h1 : way ≠ 0) (w : World) :
    Calls Try.prog 8 #[.int .u8 m, .int .i64 1, .int .i64 way] w fun e w' => e = .returned (.tuple #[.int .u8 0, .int .i64 5]) ∧ Below w.heap.size w w' := by
  go_enter Try.func8, Try.ntmps8
  go_wp2
  go_ret2
  exact ⟨rfl, Below.refl _ _⟩

theorem use_40 (m : Int) (hm0 : 0 ≤ m) (hm1 : m ≤ 255) (w : World) :
    Calls Try.prog 8 #[.int .u8 m, .int .i64 4, .int .i64 0] w fun e w' => e = .returned (.tuple #[.int .u8 (usev m 4 0), .int .i64 0]) ∧ Below w.heap.size w w' := by
  go_enter Try.func8, Try.ntmps8
  go_wp2
  all_goals
    go_ret2
    refine ⟨?_, by repeat (first | exact Below.refl _ _ | refine Below.alloc ?_ (by simp) _ | refine Below.setCell ?_ (by simp) _)⟩
    simp
    exact all_u8 (p := fun m => bits .or .u8 (bits .or .u8 m 2) 1 = usev m 4 0) (by decide +kernel) hm0 hm1

theorem use_41 (m : Int) (hm0 : 0 ≤ m) (hm1 : m ≤ 255) (w : World) :
    Calls Try.prog 8 #[.int .u8 m, .int .i64 4, .int .i64 1] w fun e w' => e = .returned (.tuple #[.int .u8 (usev m 4 1), .int .i64 0]) ∧ Below w.heap.size w w' := by
  go_enter Try.func8, Try.ntmps8
  go_wp2
  all_goals
    go_ret2
    refine ⟨?_, by repeat (first | exact Below.refl _ _ | refine Below.alloc ?_ (by simp) _ | refine Below.setCell ?_ (by simp) _)⟩
    simp
    exact all_u8 (p := fun m => bits .or .u8 (bits .andNot .u8 m 2) 1 = usev m 4 1) (by decide +kernel) hm0 hm1

theorem use_42 (m : Int) (hm0 : 0 ≤ m) (hm1 : m ≤ 255) (w : World) :
    Calls Try.prog 8 #[.int .u8 m, .int .i64 4, .int .i64 2] w fun e w' => e = .returned (.tuple #[.int .u8 (usev m 4 2), .int .i64 0]) ∧ Below w.heap.size w w' := by
  go_enter Try.func8, Try.ntmps8
  go_wp2
  all_goals
    go_ret2
    refine ⟨?_, by repeat (first | exact Below.refl _ _ | refine Below.alloc ?_ (by simp) _ | refine Below.setCell ?_ (by simp) _)⟩
    simp
    exact all_u8 (p := fun m => bits .andNot .u8 (bits .or .u8 m 4) 1 = usev m 4 2) (by decide +kernel) hm0 hm1

theorem use_43 (m : Int) (hm0 : 0 ≤ m) (hm1 : m ≤ 255) (w : World) :
    Calls Try.prog 8 #[.int .u8 m, .int .i64 4, .int .i64 3] w fun e w' => e = .returned (.tuple #[.int .u8 (usev m 4 3), .int .i64 0]) ∧ Below w.heap.size w w' := by
  go_enter Try.func8, Try.ntmps8
  go_wp2
  all_goals
    go_ret2
    refine ⟨?_, by repeat (first | exact Below.refl _ _ | refine Below.alloc ?_ (by simp) _ | refine Below.setCell ?_ (by simp) _)⟩
    simp
    exact all_u8 (p := fun m => bits .andNot .u8 (bits .andNot .u8 m 4) 1 = usev m 4 3) (by decide +kernel) hm0 hm1

theorem use_20 (m : Int) (hm0 : 0 ≤ m) (hm1 : m ≤ 255) (w : World) :
    Calls Try.prog 8 #[.int .u8 m, .int .i64 2, .int .i64 0] w fun e w' => e = .returned (.tuple #[.int .u8 (usev m 2 0), .int .i64 0]) ∧ Below w.heap.size w w' := by
  go_enter Try.func8, Try.ntmps8
  go_wp2
  all_goals
    go_ret2
    refine ⟨?_, by repeat (first | exact Below.refl _ _ | refine Below.alloc ?_ (by simp) _ | refine Below.setCell ?_ (by simp) _)⟩
    simp
    exact all_u8 (p := fun m => bits .or .u8 m 1 = usev m 2 0) (by decide +kernel) hm0 hm1

theorem use_21 (m : Int) (hm0 : 0 ≤ m) (hm1 : m ≤ 255) (w : World) :
    Calls Try.prog 8 #[.int .u8 m, .int .i64 2, .int .i64 1] w fun e w' => e = .returned (.tuple #[.int .u8 (usev m 2 1), .int .i64 0]) ∧ Below w.heap.size w w' := by
  go_enter Try.func8, Try.ntmps8
  go_wp2
  all_goals
    go_ret2
    refine ⟨?_, by repeat (first | exact Below.refl _ _ | refine Below.alloc ?_ (by simp) _ | refine Below.setCell ?_ (by simp) _)⟩
    simp
    exact all_u8 (p := fun m => bits .andNot .u8 m 1 = usev m 2 1) (by decide +kernel) hm0 hm1

theorem use_10 (m : Int) (hm0 : 0 ≤ m) (hm1 : m ≤ 255) (w : World) :
    Calls Try.prog 8 #[.int .u8 m, .int .i64 1, .int .i64 0] w fun e w' => e = .returned (.tuple #[.int .u8 (usev m 1 0), .int .i64 0]) ∧ Below w.heap.size w w' := by
  go_enter Try.func8, Try.ntmps8
  go_wp2
  all_goals
    go_ret2
    refine ⟨?_, by repeat (first | exact Below.refl _ _ | refine Below.alloc ?_ (by simp) _ | refine Below.setCell ?_ (by simp) _)⟩
    simp
    exact all_u8 (p := fun m => m = usev m 1 0) (by decide +kernel) hm0 hm1

theorem ref_other (m ways way : Int) (h1 : ways ≠ 4) (h2 : ways ≠ 2) (h3 : ways ≠ 1) (w : World) :
    Calls Try.prog 11 #[.int .u8 m, .int .i64 ways, .int .i64 way] w fun e w' => e = .returned (.tuple #[.int .u8 0, .int .i64 2]) ∧ Below w.heap.size w w' := by
  have k1 : (ways != 1) = true := by rw [bne_iff_ne]; exact h3
  have k2 : (ways != 2) = true := by rw [bne_iff_ne]; exact h2
  have k4 : (ways != 4) = true := by rw [bne_iff_ne]; exact h1
  go_enter Try.func11, Try.ntmps11
  go_wp2
  go_ret2
  exact ⟨rfl, Below.refl _ _⟩

theorem ref_4r (m way : Int) (h1 : way < 0 ∨ 3 < way) (w : World) :
    Calls Try.prog 11 #[.int .u8 m, .int .i64 4, .int .i64 way] w fun e w' => e = .returned (.tuple #[.int .u8 0, .int .i64 5]) ∧ Below w.heap.size w w' := by
  by_cases h : way < 0
  all_goals
    go_enter Try.func11, Try.ntmps11
    go_wp2
    go_ret2
    exact ⟨rfl, Below.refl _ _⟩

theorem ref_2r (m way : Int) (h1 : way < 0 ∨ 1 < way) (w : World) :
    Calls Try.prog 11 #[.int .u8 m, .int .i64 2, .int .i64 way] w fun e w' => e = .returned (.tuple #[.int .u8 0, .int .i64 5]) ∧ Below w.heap.size w w' := by
  by_cases h : way < 0
  all_goals
    go_enter Try.func11, Try.ntmps11
    go_wp2
    go_ret2
    exact ⟨rfl, Below.refl _ _⟩

theorem ref_1r (m way : Int) (h1 : way ≠ 0) (w : World) :
    Calls Try.prog 11 #[.int .u8 m, .int .i64 1, .int .i64 way] w fun e w' => e = .returned (.tuple #[.int .u8 0, .int .i64 5]) ∧ Below w.heap.size w w' := by
  by_cases h : way < 0
  all_goals
    go_enter Try.func11, Try.ntmps11
    go_wp2
    go_ret2
    exact ⟨rfl, Below.refl _ _⟩

theorem ref_40 (m : Int) (hm0 : 0 ≤ m) (hm1 : m ≤ 255) (w : World) :
    Calls Try.prog 11 #[.int .u8 m, .int .i64 4, .int .i64 0] w fun e w' => e = .returned (.tuple #[.int .u8 (usev m 4 0), .int .i64 0]) ∧ Below w.heap.size w w' := by
  go_enter Try.func11, Try.ntmps11
  go_wp2_with (go_at_call 14; refine (bits_any m hm0 hm1 _).mono ?_; rintro e w1 ⟨rfl, hb1⟩)
  all_goals
    go_ret2
    refine ⟨?_, by repeat (first | exact hb1 | exact Below.refl _ _ | refine Below.alloc ?_ (by have := hb1.size; simp; try omega) _ | refine Below.setCell ?_ (by have := hb1.size; simp; try omega) _)⟩
    simp
    ((try unfold usev); (try unfold vicv)); (first | done | omega | (simp; done) | (simp; omega) | (split <;> omega))

theorem ref_41 (m : Int) (hm0 : 0 ≤ m) (hm1 : m ≤ 255) (w : World) :
    Calls Try.prog 11 #[.int .u8 m, .int .i64 4, .int .i64 1] w fun e w' => e = .returned (.tuple #[.int .u8 (usev m 4 1), .int .i64 0]) ∧ Below w.heap.size w w' := by
  go_enter Try.func11, Try.ntmps11
  go_wp2_with (go_at_call 14; refine (bits_any m hm0 hm1 _).mono ?_; rintro e w1 ⟨rfl, hb1⟩)
  all_goals
    go_ret2
    refine ⟨?_, by repeat (first | exact hb1 | exact Below.refl _ _ | refine Below.alloc ?_ (by have := hb1.size; simp; try omega) _ | refine Below.setCell ?_ (by have := hb1.size; simp; try omega) _)⟩
    simp
    ((try unfold usev); (try unfold vicv)); (first | done | omega | (simp; done) | (simp; omega) | (split <;> omega))

theorem ref_42 (m : Int) (hm0 : 0 ≤ m) (hm1 : m ≤ 255) (w : World) :
    Calls Try.prog 11 #[.int .u8 m, .int .i64 4, .int .i64 2] w fun e w' => e = .returned (.tuple #[.int .u8 (usev m 4 2), .int .i64 0]) ∧ Below w.heap.size w w' := by
  go_enter Try.func11, Try.ntmps11
  go_wp2_with (go_at_call 14; refine (bits_any m hm0 hm1 _).mono ?_; rintro e w1 ⟨rfl, hb1⟩)
  all_goals
    go_ret2
    refine ⟨?_, by repeat (first | exact hb1 | exact Below.refl _ _ | refine Below.alloc ?_ (by have := hb1.size; simp; try omega) _ | refine Below.setCell ?_ (by have := hb1.size; simp; try omega) _)⟩
    simp
    ((try unfold usev); (try unfold vicv)); (first | done | omega | (simp; done) | (simp; omega) | (split <;> omega))

theorem ref_43 (m : Int) (hm0 : 0 ≤ m) (hm1 : m ≤ 255) (w : World) :
    Calls Try.prog 11 #[.int .u8 m, .int .i64 4, .int .i64 3] w fun e w' => e = .returned (.tuple #[.int .u8 (usev m 4 3), .int .i64 0]) ∧ Below w.heap.size w w' := by
  go_enter Try.func11, Try.ntmps11
  go_wp2_with (go_at_call 14; refine (bits_any m hm0 hm1 _).mono ?_; rintro e w1 ⟨rfl, hb1⟩)
  all_goals
    go_ret2
    refine ⟨?_, by repeat (first | exact hb1 | exact Below.refl _ _ | refine Below.alloc ?_ (by have := hb1.size; simp; try omega) _ | refine Below.setCell ?_ (by have := hb1.size; simp; try omega) _)⟩
    simp
    ((try unfold usev); (try unfold vicv)); (first | done | omega | (simp; done) | (simp; omega) | (split <;> omega))

theorem ref_20 (m : Int) (hm0 : 0 ≤ m) (hm1 : m ≤ 255) (w : World) :
    Calls Try.prog 11 #[.int .u8 m, .int .i64 2, .int .i64 0] w fun e w' => e = .returned (.tuple #[.int .u8 (usev m 2 0), .int .i64 0]) ∧ Below w.heap.size w w' := by
  go_enter Try.func11, Try.ntmps11
  go_wp2_with (go_at_call 14; refine (bits_any m hm0 hm1 _).mono ?_; rintro e w1 ⟨rfl, hb1⟩)
  all_goals
    go_ret2
    refine ⟨?_, by repeat (first | exact hb1 | exact Below.refl _ _ | refine Below.alloc ?_ (by have := hb1.size; simp; try omega) _ | refine Below.setCell ?_ (by have := hb1.size; simp; try omega) _)⟩
    simp
    ((try unfold usev); (try unfold vicv)); (first | done | omega | (simp; done) | (simp; omega) | (split <;> omega))

theorem ref_21 (m : Int) (hm0 : 0 ≤ m) (hm1 : m ≤ 255) (w : World) :
    Calls Try.prog 11 #[.int .u8 m, .int .i64 2, .int .i64 1] w fun e w' => e = .returned (.tuple #[.int .u8 (usev m 2 1), .int .i64 0]) ∧ Below w.heap.size w w' := by
  go_enter Try.func11, Try.ntmps11
  go_wp2_with (go_at_call 14; refine (bits_any m hm0 hm1 _).mono ?_; rintro e w1 ⟨rfl, hb1⟩)
  all_goals
    go_ret2
    refine ⟨?_, by repeat (first | exact hb1 | exact Below.refl _ _ | refine Below.alloc ?_ (by have := hb1.size; simp; try omega) _ | refine Below.setCell ?_ (by have := hb1.size; simp; try omega) _)⟩
    simp
    ((try unfold usev); (try unfold vicv)); (first | done | omega | (simp; done) | (simp; omega) | (split <;> omega))

theorem ref_10 (m : Int) (hm0 : 0 ≤ m) (hm1 : m ≤ 255) (w : World) :
    Calls Try.prog 11 #[.int .u8 m, .int .i64 1, .int .i64 0] w fun e w' => e = .returned (.tuple #[.int .u8 (usev m 1 0), .int .i64 0]) ∧ Below w.heap.size w w' := by
  go_enter Try.func11, Try.ntmps11
  go_wp2_with (go_at_call 14; refine (bits_any m hm0 hm1 _).mono ?_; rintro e w1 ⟨rfl, hb1⟩)
  all_goals
    go_ret2
    refine ⟨?_, by repeat (first | exact hb1 | exact Below.refl _ _ | refine Below.alloc ?_ (by have := hb1.size; simp; try omega) _ | refine Below.setCell ?_ (by have := hb1.size; simp; try omega) _)⟩
    simp
    ((try unfold usev); (try unfold vicv)); (first | done | omega | (simp; done) | (simp; omega) | (split <;> omega))

theorem vic_other (m ways : Int) (hm0 : 0 ≤ m) (hm1 : m ≤ 255) (h1 : ways ≠ 4) (h2 : ways ≠ 2) (h3 : ways ≠ 1) (w : World) :
    Calls Try.prog 9 #[.int .u8 m, .int .i64 ways] w fun e w' => e = .returned (.tuple #[.int .i64 0, .int .i64 2]) ∧ Below w.heap.size w w' := by
  go_enter Try.func9, Try.ntmps9
  go_wp2
  go_ret2
  exact ⟨rfl, by repeat (first | exact Below.refl _ _ | refine Below.alloc ?_ (by simp) _ | refine Below.setCell ?_ (by simp) _)⟩

theorem vic_1 (m : Int) (hm0 : 0 ≤ m) (hm1 : m ≤ 255) (w : World) :
    Calls Try.prog 9 #[.int .u8 m, .int .i64 1] w fun e w' => e = .returned (.tuple #[.int .i64 (vicv m 1), .int .i64 0]) ∧ Below w.heap.size w w' := by
  have hb := b1 hm0 hm1
  go_enter Try.func9, Try.ntmps9
  go_wp2
  all_goals
    go_ret2
    refine ⟨?_, by repeat (first | exact Below.refl _ _ | refine Below.alloc ?_ (by simp) _ | refine Below.setCell ?_ (by simp) _)⟩
    simp
    exact all_u8 (p := fun m => 0 = vicv m 1) (by decide +kernel) hm0 hm1

theorem vic_2 (m : Int) (hm0 : 0 ≤ m) (hm1 : m ≤ 255) (w : World) :
    Calls Try.prog 9 #[.int .u8 m, .int .i64 2] w fun e w' => e = .returned (.tuple #[.int .i64 (vicv m 2), .int .i64 0]) ∧ Below w.heap.size w w' := by
  have hb := b1 hm0 hm1
  go_enter Try.func9, Try.ntmps9
  go_wp2
  all_goals
    go_ret2
    refine ⟨?_, by repeat (first | exact Below.refl _ _ | refine Below.alloc ?_ (by simp) _ | refine Below.setCell ?_ (by simp) _)⟩
    simp
    exact all_u8 (p := fun m => m % 2 = vicv m 2) (by decide +kernel) hm0 hm1

theorem vic_4 (m : Int) (hm0 : 0 ≤ m) (hm1 : m ≤ 255) (w : World) :
    Calls Try.prog 9 #[.int .u8 m, .int .i64 4] w fun e w' => e = .returned (.tuple #[.int .i64 (vicv m 4), .int .i64 0]) ∧ Below w.heap.size w w' := by
  have hb := b1 hm0 hm1
  go_enter Try.func9, Try.ntmps9
  go_wp2
  all_goals
    go_ret2
    refine ⟨?_, by repeat (first | exact Below.refl _ _ | refine Below.alloc ?_ (by simp) _ | refine Below.setCell ?_ (by simp) _)⟩
    simp
    exact all_u8 (p := fun m => wrap64 (2 * (m % 2) + wrap64 (bits .and .u8 (m / 2 ^ (1 + m % 2).toNat) 1)) = vicv m 4) (by decide +kernel) hm0 hm1

theorem rvic_other (m ways : Int) (hm0 : 0 ≤ m) (hm1 : m ≤ 255) (h1 : ways ≠ 4) (h2 : ways ≠ 2) (h3 : ways ≠ 1) (w : World) :
    Calls Try.prog 12 #[.int .u8 m, .int .i64 ways] w fun e w' => e = .returned (.tuple #[.int .i64 0, .int .i64 2]) ∧ Below w.heap.size w w' := by
  go_enter Try.func12, Try.ntmps12
  go_wp2_with (go_at_call 14; refine (bits_any m hm0 hm1 _).mono ?_; rintro e w1 ⟨rfl, hb1⟩)
  go_ret2
  exact ⟨rfl, by repeat (first | exact hb1 | exact Below.refl _ _ | refine Below.alloc ?_ (by have := hb1.size; simp; try omega) _ | refine Below.setCell ?_ (by have := hb1.size; simp; try omega) _)⟩

theorem rvic_1 (m : Int) (hm0 : 0 ≤ m) (hm1 : m ≤ 255) (w : World) :
    Calls Try.prog 12 #[.int .u8 m, .int .i64 1] w fun e w' => e = .returned (.tuple #[.int .i64 (vicv m 1), .int .i64 0]) ∧ Below w.heap.size w w' := by
  have hb := b1 hm0 hm1
  go_enter Try.func12, Try.ntmps12
  go_wp2_with (go_at_call 14; refine (bits_any m hm0 hm1 _).mono ?_; rintro e w1 ⟨rfl, hb1⟩)
  all_goals
    go_ret2
    refine ⟨?_, by repeat (first | exact hb1 | exact Below.refl _ _ | refine Below.alloc ?_ (by have := hb1.size; simp; try omega) _ | refine Below.setCell ?_ (by have := hb1.size; simp; try omega) _)⟩
    simp
    ((try unfold usev); (try unfold vicv)); (first | done | omega | (simp; done) | (simp; omega) | (split <;> omega))

theorem rvic_2 (m : Int) (hm0 : 0 ≤ m) (hm1 : m ≤ 255) (w : World) :
    Calls Try.prog 12 #[.int .u8 m, .int .i64 2] w fun e w' => e = .returned (.tuple #[.int .i64 (vicv m 2), .int .i64 0]) ∧ Below w.heap.size w w' := by
  have hb := b1 hm0 hm1
  go_enter Try.func12, Try.ntmps12
  go_wp2_with (go_at_call 14; refine (bits_any m hm0 hm1 _).mono ?_; rintro e w1 ⟨rfl, hb1⟩)
  all_goals
    go_ret2
    refine ⟨?_, by repeat (first | exact hb1 | exact Below.refl _ _ | refine Below.alloc ?_ (by have := hb1.size; simp; try omega) _ | refine Below.setCell ?_ (by have := hb1.size; simp; try omega) _)⟩
    simp
    ((try unfold usev); (try unfold vicv)); (first | done | omega | (simp; done) | (simp; omega) | (split <;> omega))

theorem rvic_4 (m : Int) (hm0 : 0 ≤ m) (hm1 : m ≤ 255) (w : World) :
    Calls Try.prog 12 #[.int .u8 m, .int .i64 4] w fun e w' => e = .returned (.tuple #[.int .i64 (vicv m 4), .int .i64 0]) ∧ Below w.heap.size w w' := by
  by_cases c : m % 2 = 0
  · have hv : vicv m 4 = m / 2 % 2 := by simp [vicv, c]
    have HV := Base.hide hv
    have HC : ((m % 2 : Int) == 0) = true := by simpa using c
    clear hv c
    go_enter Try.func12, Try.ntmps12
    go_wp2_with (go_at_call 14; refine (bits_any m hm0 hm1 _).mono ?_; rintro e w1 ⟨rfl, hb1⟩)
    go_ret2
    rw [HV.out]
    exact ⟨rfl, by repeat (first | exact hb1 | exact Below.refl _ _ | refine Below.alloc ?_ (by have := hb1.size; simp; try omega) _ | refine Below.setCell ?_ (by have := hb1.size; simp; try omega) _)⟩
  · have hv : vicv m 4 = 2 + m / 4 % 2 := by simp [vicv, c]
    have HV := Base.hide hv
    have HC : ((m % 2 : Int) == 0) = false := by simpa using c
    clear hv c
    go_enter Try.func12, Try.ntmps12
    go_wp2_with (go_at_call 14; refine (bits_any m hm0 hm1 _).mono ?_; rintro e w1 ⟨rfl, hb1⟩)
    go_ret2
    rw [HV.out]
    exact ⟨rfl, by repeat (first | exact hb1 | exact Below.refl _ _ | refine Below.alloc ?_ (by have := hb1.size; simp; try omega) _ | refine Below.setCell ?_ (by have := hb1.size; simp; try omega) _)⟩

/-! ### the contracts, at any ways and way -/
theorem use_any (m ways way : Int) (hm0 : 0 ≤ m) (hm1 : m ≤ 255) (w : World) :
    Calls Try.prog 8 #[.int .u8 m, .int .i64 ways, .int .i64 way] w fun e w' => e = .returned (.tuple #[.int .u8 (usev m ways way), .int .i64 (usee ways way)]) ∧ Below w.heap.size w w' := by
  by_cases h4 : ways = 4
  · subst h4
    by_cases r : way < 0 ∨ 3 < way
    · have e1 : usev m 4 way = 0 := by simp only [usev, if_true]; repeat' split <;> omega
      have e2 : usee 4 way = 5 := by simp only [usee, if_true]; split <;> omega
      rw [e1, e2]
      exact use_4r m way r w
    · have : way = 0 ∨ way = 1 ∨ way = 2 ∨ way = 3 := by omega
      rcases this with rfl | rfl | rfl | rfl
      · exact use_40 m hm0 hm1 w
      · exact use_41 m hm0 hm1 w
      · exact use_42 m hm0 hm1 w
      · exact use_43 m hm0 hm1 w
  by_cases h2 : ways = 2
  · subst h2
    by_cases r : way < 0 ∨ 1 < way
    · have e1 : usev m 2 way = 0 := by simp only [usev]; repeat' split <;> omega
      have e2 : usee 2 way = 5 := by simp [usee]; omega
      rw [e1, e2]
      exact use_2r m way r w
    · have : way = 0 ∨ way = 1 := by omega
      rcases this with rfl | rfl
      · exact use_20 m hm0 hm1 w
      · exact use_21 m hm0 hm1 w
  by_cases h1 : ways = 1
  · subst h1
    by_cases r : way = 0
    · subst r
      exact use_10 m hm0 hm1 w
    · have e1 : usev m 1 way = 0 := by simp [usev, r]
      have e2 : usee 1 way = 5 := by simp [usee, r]
      rw [e1, e2]
      exact use_1r m way r w
  have e1 : usev m ways way = 0 := by simp [usev, h4, h2, h1]
  have e2 : usee ways way = 2 := by simp [usee, h4, h2, h1]
  rw [e1, e2]
  exact use_other m ways way h4 h2 h1 w

theorem ref_any (m ways way : Int) (hm0 : 0 ≤ m) (hm1 : m ≤ 255) (w : World) :
    Calls Try.prog 11 #[.int .u8 m, .int .i64 ways, .int .i64 way] w fun e w' => e = .returned (.tuple #[.int .u8 (usev m ways way), .int .i64 (usee ways way)]) ∧ Below w.heap.size w w' := by
  by_cases h4 : ways = 4
  · subst h4
    by_cases r : way < 0 ∨ 3 < way
    · have e1 : usev m 4 way = 0 := by simp only [usev, if_true]; repeat' split <;> omega
      have e2 : usee 4 way = 5 := by simp only [usee, if_true]; split <;> omega
      rw [e1, e2]
      exact ref_4r m way r w
    · have : way = 0 ∨ way = 1 ∨ way = 2 ∨ way = 3 := by omega
      rcases this with rfl | rfl | rfl | rfl
      · exact ref_40 m hm0 hm1 w
      · exact ref_41 m hm0 hm1 w
      · exact ref_42 m hm0 hm1 w
      · exact ref_43 m hm0 hm1 w
  by_cases h2 : ways = 2
  · subst h2
    by_cases r : way < 0 ∨ 1 < way
    · have e1 : usev m 2 way = 0 := by simp only [usev]; repeat' split <;> omega
      have e2 : usee 2 way = 5 := by simp [usee]; omega
      rw [e1, e2]
      exact ref_2r m way r w
    · have : way = 0 ∨ way = 1 := by omega
      rcases this with rfl | rfl
      · exact ref_20 m hm0 hm1 w
      · exact ref_21 m hm0 hm1 w
  by_cases h1 : ways = 1
  · subst h1
    by_cases r : way = 0
    · subst r
      exact ref_10 m hm0 hm1 w
    · have e1 : usev m 1 way = 0 := by simp [usev, r]
      have e2 : usee 1 way = 5 := by simp [usee, r]
      rw [e1, e2]
      exact ref_1r m way r w
  have e1 : usev m ways way = 0 := by simp [usev, h4, h2, h1]
  have e2 : usee ways way = 2 := by simp [usee, h4, h2, h1]
  rw [e1, e2]
  exact ref_other m ways way h4 h2 h1 w

theorem vic_any (m ways : Int) (hm0 : 0 ≤ m) (hm1 : m ≤ 255) (w : World) :
    Calls Try.prog 9 #[.int .u8 m, .int .i64 ways] w fun e w' => e = .returned (.tuple #[.int .i64 (vicv m ways), .int .i64 (vice ways)]) ∧ Below w.heap.size w w' := by
  by_cases h4 : ways = 4
  · subst h4
    exact vic_4 m hm0 hm1 w
  by_cases h2 : ways = 2
  · subst h2
    exact vic_2 m hm0 hm1 w
  by_cases h1 : ways = 1
  · subst h1
    exact vic_1 m hm0 hm1 w
  have e1 : vicv m ways = 0 := by simp [vicv, h4, h2]
  have e2 : vice ways = 2 := by simp [vice, h4, h2, h1]
  rw [e1, e2]
  exact vic_other m ways hm0 hm1 h4 h2 h1 w

theorem rvic_any (m ways : Int) (hm0 : 0 ≤ m) (hm1 : m ≤ 255) (w : World) :
    Calls Try.prog 12 #[.int .u8 m, .int .i64 ways] w fun e w' => e = .returned (.tuple #[.int .i64 (vicv m ways), .int .i64 (vice ways)]) ∧ Below w.heap.size w w' := by
  by_cases h4 : ways = 4
  · subst h4
    exact rvic_4 m hm0 hm1 w
  by_cases h2 : ways = 2
  · subst h2
    exact rvic_2 m hm0 hm1 w
  by_cases h1 : ways = 1
  · subst h1
    exact rvic_1 m hm0 hm1 w
  have e1 : vicv m ways = 0 := by simp [vicv, h4, h2]
  have e2 : vice ways = 2 := by simp [vice, h4, h2, h1]
  rw [e1, e2]
  exact rvic_other m ways hm0 hm1 h4 h2 h1 w

end Go.Proofs.Ytnhppcgpplbnpaa.Walk
