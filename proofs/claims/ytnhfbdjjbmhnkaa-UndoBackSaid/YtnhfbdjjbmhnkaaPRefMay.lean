/-
  The reference's May walked: it answers as the program's: mayB. And its search in a list.
-/
import Derived.Test.YtnhfbdjjbmhnkaaPMay
namespace Go.Proofs.Ytnhfbdjjbmhnkaa.PRefMay
open Go.RowKit PPlain Base PMay
set_option linter.unusedVariables false

theorem one_any (n : Int) (xs : List Int) (B : Nat) (hl : xs.length ≤ 100) (w : World) (hc : ∀ j, j < xs.length → w.cell? ⟨B, j, none⟩ = some (.int .i64 (xs.getD j 0))) :
    Calls Try.prog 45 #[.int .i64 n, .slice (some ⟨B, 0, none⟩) xs.length xs.length] w fun e w' => e = .returned (.bool (decide (n ∈ xs))) ∧ w = w' := by
  have HC := hide hc
  clear hc
  go_enter Try.func45, Try.ntmps45
  go_wp2_with fail
  go_loop [5] (fun i => ∃ k : Nat, k ≤ xs.length ∧ i = .int .i64 k ∧ ∀ j, j < k → xs.getD j 0 ≠ n) (fun i => xs.length - (intOf i).toNat)
  case atStart => exact ⟨0, by omega, rfl, fun j hj => absurd hj (by omega)⟩
  case round =>
    obtain ⟨k, hk, rfl, hno⟩ := hrel
    have HNo := hide hno
    clear hno
    by_cases hlt : k < xs.length
    · have hck := HC.out k hlt
      obtain ⟨x, hx⟩ : ∃ x, x = xs.getD k 0 := ⟨_, rfl⟩
      rw [← hx] at hck
      have HX := hide hx
      clear hx
      by_cases e : x = n
      · have hb : (x == n) = true := by simpa using e
        have hin : decide (n ∈ xs) = true := by
          rw [decide_eq_true_iff, ← e, HX.out, List.getD_eq_getElem?_getD, List.getElem?_eq_getElem hlt]
          exact List.getElem_mem hlt
        have HI := hide hin
        clear hin e
        go_wp2
        go_ret
        rw [HI.out]
        exact ⟨rfl, rfl⟩
      · have hb : (x == n) = false := by simpa using e
        have hno' : ∀ j, j < k + 1 → xs.getD j 0 ≠ n := fun j hj => by
          by_cases ej : j = k
          · rw [ej, ← HX.out]; exact e
          · exact HNo.out j (by omega)
        have HN := hide hno'
        clear hno' e
        go_wp2
        go_round
        case rel => exact ⟨k + 1, by omega, by go_num, HN.out⟩
        case measure => simp [intOf]; omega
    · have hout : decide (n ∈ xs) = false := by
        rw [decide_eq_false_iff_not]
        intro hm
        obtain ⟨j, hj, hjn⟩ := List.getElem_of_mem hm
        refine HNo.out j (by omega) ?_
        rw [List.getD_eq_getElem?_getD, List.getElem?_eq_getElem hj]
        exact hjn
      have HO := hide hout
      clear hout
      go_wp2
      go_ret
      rw [HO.out]
      exact ⟨rfl, rfl⟩

def outB (c0 c3 c4 c5 c6 c7 : Int) : Bool := decide (c0 < 1 ∨ 16 < c0 ∨ c3 < 1 ∨ 256 < c3 ∨ c4 < 1 ∨ 4 < c4 ∨ c5 < 1 ∨ 4 < c5 ∨ c6 < 1 ∨ 8 < c6 ∨ c7 < 0 ∨ 8 < c7)
theorem may_out {c0 c1 c2 c3 c4 c5 c6 c7 : Int} (h : c0 < 1 ∨ 16 < c0 ∨ c3 < 1 ∨ 256 < c3 ∨ c4 < 1 ∨ 4 < c4 ∨ c5 < 1 ∨ 4 < c5 ∨ c6 < 1 ∨ 8 < c6 ∨ c7 < 0 ∨ 8 < c7) : mayB c0 c1 c2 c3 c4 c5 c6 c7 = false := by
  have : inB c0 c1 c2 c3 c4 c5 c6 c7 = false := by unfold inB; rw [decide_eq_false_iff_not]; omega
  simp [mayB, this]
theorem may_in {c0 c1 c2 c3 c4 c5 c6 c7 : Int} (h : ¬ (c0 < 1 ∨ 16 < c0 ∨ c3 < 1 ∨ 256 < c3 ∨ c4 < 1 ∨ 4 < c4 ∨ c5 < 1 ∨ 4 < c5 ∨ c6 < 1 ∨ 8 < c6 ∨ c7 < 0 ∨ 8 < c7)) :
    mayB c0 c1 c2 c3 c4 c5 c6 c7 = (decide (c1 ∈ [1, 2, 4, 8, 16]) && decide (c2 ∈ [1, 2, 4]) && decide (c0 * c4 < c3)) := by
  have e1 : decide (c1 ∈ [1, 2, 4, 8, 16]) = pow2 c1 := by unfold pow2; congr 1; simp
  rw [e1]
  unfold mayB
  by_cases p : pow2 c1 = true
  · have q := of_decide_eq_true p
    rw [p]
    by_cases r : c2 ∈ [1, 2, 4]
    · have r' : c2 = 1 ∨ c2 = 2 ∨ c2 = 4 := by simpa using r
      have a1 : inB c0 c1 c2 c3 c4 c5 c6 c7 = true := by rw [inB_iff]; omega
      have a2 : pow2 c2 = true := by unfold pow2; rw [decide_eq_true_iff]; omega
      rw [a1, a2, decide_eq_true r]
      simp
    · have r' : ¬ (c2 = 1 ∨ c2 = 2 ∨ c2 = 4) := by simpa using r
      rw [decide_eq_false r]
      by_cases a1 : inB c0 c1 c2 c3 c4 c5 c6 c7 = true
      · have b := inB_iff.1 a1
        have a2 : pow2 c2 = false := by unfold pow2; rw [decide_eq_false_iff_not]; omega
        rw [a2]; simp
      · simp [a1]
  · simp [p]

theorem mayR_out (c0 c1 c2 c3 c4 c5 c6 c7 : Int) (h : c0 < 1 ∨ 16 < c0 ∨ c3 < 1 ∨ 256 < c3 ∨ c4 < 1 ∨ 4 < c4 ∨ c5 < 1 ∨ 4 < c5 ∨ c6 < 1 ∨ 8 < c6 ∨ c7 < 0 ∨ 8 < c7) (w : World) :
    Calls Try.prog 43 #[.agg #[.int .i64 c0, .int .i64 c1, .int .i64 c2, .int .i64 c3, .int .i64 c4, .int .i64 c5, .int .i64 c6, .int .i64 c7]] w fun e w' => e = .returned (.bool false) ∧ Below w.heap.size w w' := by
  by_cases t0 : c0 < 1
  · clear h
    go_enter Try.func43, Try.ntmps43
    go_wp2
    go_ret
    exact ⟨rfl, (Below.refl _ _).alloc (Nat.le_refl _) _⟩
  by_cases t1 : 16 < c0
  · clear h
    go_enter Try.func43, Try.ntmps43
    go_wp2
    go_ret
    exact ⟨rfl, (Below.refl _ _).alloc (Nat.le_refl _) _⟩
  by_cases t2 : c3 < 1
  · clear h
    go_enter Try.func43, Try.ntmps43
    go_wp2
    go_ret
    exact ⟨rfl, (Below.refl _ _).alloc (Nat.le_refl _) _⟩
  by_cases t3 : 256 < c3
  · clear h
    go_enter Try.func43, Try.ntmps43
    go_wp2
    go_ret
    exact ⟨rfl, (Below.refl _ _).alloc (Nat.le_refl _) _⟩
  by_cases t4 : c4 < 1
  · clear h
    go_enter Try.func43, Try.ntmps43
    go_wp2
    go_ret
    exact ⟨rfl, (Below.refl _ _).alloc (Nat.le_refl _) _⟩
  by_cases t5 : 4 < c4
  · clear h
    go_enter Try.func43, Try.ntmps43
    go_wp2
    go_ret
    exact ⟨rfl, (Below.refl _ _).alloc (Nat.le_refl _) _⟩
  by_cases t6 : c5 < 1
  · clear h
    go_enter Try.func43, Try.ntmps43
    go_wp2
    go_ret
    exact ⟨rfl, (Below.refl _ _).alloc (Nat.le_refl _) _⟩
  by_cases t7 : 4 < c5
  · clear h
    go_enter Try.func43, Try.ntmps43
    go_wp2
    go_ret
    exact ⟨rfl, (Below.refl _ _).alloc (Nat.le_refl _) _⟩
  by_cases t8 : c6 < 1
  · clear h
    go_enter Try.func43, Try.ntmps43
    go_wp2
    go_ret
    exact ⟨rfl, (Below.refl _ _).alloc (Nat.le_refl _) _⟩
  by_cases t9 : 8 < c6
  · clear h
    go_enter Try.func43, Try.ntmps43
    go_wp2
    go_ret
    exact ⟨rfl, (Below.refl _ _).alloc (Nat.le_refl _) _⟩
  by_cases t10 : c7 < 0
  · clear h
    go_enter Try.func43, Try.ntmps43
    go_wp2
    go_ret
    exact ⟨rfl, (Below.refl _ _).alloc (Nat.le_refl _) _⟩
  by_cases t11 : 8 < c7
  · clear h
    go_enter Try.func43, Try.ntmps43
    go_wp2
    go_ret
    exact ⟨rfl, (Below.refl _ _).alloc (Nat.le_refl _) _⟩
  exact absurd h (by omega)

set_option maxHeartbeats 1000000 in
theorem mayR_in (c0 c1 c2 c3 c4 c5 c6 c7 : Int) (h : ¬ (c0 < 1 ∨ 16 < c0 ∨ c3 < 1 ∨ 256 < c3 ∨ c4 < 1 ∨ 4 < c4 ∨ c5 < 1 ∨ 4 < c5 ∨ c6 < 1 ∨ 8 < c6 ∨ c7 < 0 ∨ 8 < c7)) (w : World) :
    Calls Try.prog 43 #[.agg #[.int .i64 c0, .int .i64 c1, .int .i64 c2, .int .i64 c3, .int .i64 c4, .int .i64 c5, .int .i64 c6, .int .i64 c7]] w fun e w' => e = .returned (.bool (mayB c0 c1 c2 c3 c4 c5 c6 c7)) ∧ Below w.heap.size w w' := by
  have HM := hide (may_in (c1 := c1) (c2 := c2) h)
  have hprod := prod_bd (a := c0) (b := c4) (by omega) (by omega)
  have o5 := fun B w1 hc => one_any c1 [1, 2, 4, 8, 16] B (by simp) w1 hc
  have o3 := fun B w1 hc => one_any c2 [1, 2, 4] B (by simp) w1 hc
  have t0 : 1 ≤ c0 ∧ c0 ≤ 16 ∧ 1 ≤ c3 ∧ c3 ≤ 256 ∧ 1 ≤ c4 ∧ c4 ≤ 4 ∧ 1 ≤ c5 ∧ c5 ≤ 4 ∧ 1 ≤ c6 ∧ c6 ≤ 8 ∧ 0 ≤ c7 ∧ c7 ≤ 8 := by omega
  obtain ⟨g0, g1, g2, g3, g4, g5, g6, g7, g8, g9, g10, g11⟩ := t0
  clear h
  generalize decide (c1 ∈ [1, 2, 4, 8, 16]) = q1 at *
  generalize decide (c2 ∈ [1, 2, 4]) = q2 at *
  have O5 := hide o5
  have O3 := hide o3
  clear o5 o3
  cases q1
  · go_enter Try.func43, Try.ntmps43
    go_wp2_with fail
    refine (O5.out _ _ ?_).mono ?_
    · intro j hj
      match j, hj with
      | 0, _ | 1, _ | 2, _ | 3, _ | 4, _ => exact (World.cell?_alloc_at _ _ _ _ (by simp)).trans rfl
    rintro e w1 ⟨rfl, rfl⟩
    go_wp2
    go_ret
    rw [HM.out]
    exact ⟨rfl, by repeat (first | exact Below.refl _ _ | refine Below.alloc ?_ (by simp; try omega) _)⟩
  · cases q2
    · go_enter Try.func43, Try.ntmps43
      go_wp2_with fail
      refine (O5.out _ _ ?_).mono ?_
      · intro j hj
        match j, hj with
        | 0, _ | 1, _ | 2, _ | 3, _ | 4, _ => exact (World.cell?_alloc_at _ _ _ _ (by simp)).trans rfl
      rintro e w1 ⟨rfl, rfl⟩
      go_wp2_with fail
      refine (O3.out _ _ ?_).mono ?_
      · intro j hj
        match j, hj with
        | 0, _ | 1, _ | 2, _ => exact (World.cell?_alloc_at _ _ _ _ (by simp)).trans rfl
      rintro e w1 ⟨rfl, rfl⟩
      go_wp2
      go_ret
      rw [HM.out]
      exact ⟨rfl, by repeat (first | exact Below.refl _ _ | refine Below.alloc ?_ (by simp; try omega) _)⟩
    · go_enter Try.func43, Try.ntmps43
      go_wp2_with fail
      refine (O5.out _ _ ?_).mono ?_
      · intro j hj
        match j, hj with
        | 0, _ | 1, _ | 2, _ | 3, _ | 4, _ => exact (World.cell?_alloc_at _ _ _ _ (by simp)).trans rfl
      rintro e w1 ⟨rfl, rfl⟩
      go_wp2_with fail
      refine (O3.out _ _ ?_).mono ?_
      · intro j hj
        match j, hj with
        | 0, _ | 1, _ | 2, _ => exact (World.cell?_alloc_at _ _ _ _ (by simp)).trans rfl
      rintro e w1 ⟨rfl, rfl⟩
      go_wp2
      go_ret
      rw [HM.out]
      exact ⟨by simp, by repeat (first | exact Below.refl _ _ | refine Below.alloc ?_ (by simp; try omega) _)⟩

theorem mayR_any (c0 c1 c2 c3 c4 c5 c6 c7 : Int) (w : World) :
    Calls Try.prog 43 #[.agg #[.int .i64 c0, .int .i64 c1, .int .i64 c2, .int .i64 c3, .int .i64 c4, .int .i64 c5, .int .i64 c6, .int .i64 c7]] w fun e w' => e = .returned (.bool (mayB c0 c1 c2 c3 c4 c5 c6 c7)) ∧ Below w.heap.size w w' := by
  by_cases h : c0 < 1 ∨ 16 < c0 ∨ c3 < 1 ∨ 256 < c3 ∨ c4 < 1 ∨ 4 < c4 ∨ c5 < 1 ∨ 4 < c5 ∨ c6 < 1 ∨ 8 < c6 ∨ c7 < 0 ∨ 8 < c7
  · rw [may_out h]
    exact mayR_out c0 c1 c2 c3 c4 c5 c6 c7 h w
  · exact mayR_in c0 c1 c2 c3 c4 c5 c6 c7 h w
end Go.Proofs.Ytnhfbdjjbmhnkaa.PRefMay
