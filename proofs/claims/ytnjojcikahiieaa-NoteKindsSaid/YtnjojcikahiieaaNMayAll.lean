/-
  Whether a note may be: the program's answer and the document's are the same plain word, at any note.
-/
import Derived.Test.YtnjojcikahiieaaNPlain
import Derived.Test.YtnjojcikahiieaaNMayA
import Derived.Test.YtnjojcikahiieaaNMayB
import Derived.Test.YtnjojcikahiieaaNMayC
import Derived.Test.YtnjojcikahiieaaNRefA
import Derived.Test.YtnjojcikahiieaaNRefB
import Derived.Test.YtnjojcikahiieaaNRefC
namespace Go.Proofs.Ytnjojcikahiieaa.NMayAll
open Go.RowKit Base Blks NRec NSmall NPlain NMaySt
set_option linter.unusedVariables false
set_option linter.unusedSimpArgs false

theorem rest_3_true (n : NT) (hk : n.K = 1 ∨ n.K = 2 ∨ n.K = 10) (hh : n.Ha = true) : restN n = eqN n { n with S := 0, Sk := false, Ha := false } := by
  rcases hk with hk | hk | hk
  all_goals
    simp only [restN, eqN, hk, hh, eqB_self]
    generalize eqB n.f (fun _ => 0) = p
    cases n.Sk <;> cases p <;> simp [stampB, Bool.beq_eq_decide_eq]
theorem rest_3_false (n : NT) (hk : n.K = 1 ∨ n.K = 2 ∨ n.K = 10) (hh : n.Ha = false) : restN n = eqN n { n with S := 0, Sk := false, Ha := false, f := fun _ => 0 } := by
  rcases hk with hk | hk | hk
  all_goals
    simp only [restN, eqN, hk, hh, eqB_self]
    generalize eqB n.f (fun _ => 0) = p
    cases n.Sk <;> cases p <;> simp [stampB, Bool.beq_eq_decide_eq]
theorem rest_41_true (n : NT) (hk : n.K = 3) (hh : n.Ha = true) : restN n = eqN n { n with St := 0, S := 0, Ha := true } := by
  skip
  all_goals
    simp only [restN, eqN, hk, hh, eqB_self]
    generalize eqB n.f (fun _ => 0) = p
    cases n.Sk <;> cases p <;> simp [stampB, Bool.beq_eq_decide_eq]
theorem rest_41_false (n : NT) (hk : n.K = 3) (hh : n.Ha = false) : restN n = eqN n { n with St := 0, S := 0, Ha := true, f := fun _ => 0 } := by
  skip
  all_goals
    simp only [restN, eqN, hk, hh, eqB_self]
    generalize eqB n.f (fun _ => 0) = p
    cases n.Sk <;> cases p <;> simp [stampB, Bool.beq_eq_decide_eq]
theorem rest_2_true (n : NT) (hk : n.K = 4 ∨ n.K = 5 ∨ n.K = 7) (hh : n.Ha = true) : restN n = eqN n { n with S := 0, Sk := false, Ha := false } := by
  rcases hk with hk | hk | hk
  all_goals
    simp only [restN, eqN, hk, hh, eqB_self]
    generalize eqB n.f (fun _ => 0) = p
    cases n.Sk <;> cases p <;> simp [stampB, Bool.beq_eq_decide_eq]
theorem rest_2_false (n : NT) (hk : n.K = 4 ∨ n.K = 5 ∨ n.K = 7) (hh : n.Ha = false) : restN n = eqN n { n with S := 0, Sk := false, Ha := false, f := fun _ => 0 } := by
  rcases hk with hk | hk | hk
  all_goals
    simp only [restN, eqN, hk, hh, eqB_self]
    generalize eqB n.f (fun _ => 0) = p
    cases n.Sk <;> cases p <;> simp [stampB, Bool.beq_eq_decide_eq]
theorem rest_12_true (n : NT) (hk : n.K = 6) (hh : n.Ha = true) (s0 : 1 ≤ n.S) (s1 : n.S ≤ 3) : restN n = eqN n { n with St := 0, Sk := false, Ha := true } := by
  skip
  all_goals
    simp only [restN, eqN, hk, hh, eqB_self]
    generalize eqB n.f (fun _ => 0) = p
    cases n.Sk <;> cases p <;> simp [stampB, Bool.beq_eq_decide_eq, s0, s1]
theorem rest_12_false (n : NT) (hk : n.K = 6) (hh : n.Ha = false) (s0 : 1 ≤ n.S) (s1 : n.S ≤ 3) : restN n = eqN n { n with St := 0, Sk := false, Ha := true, f := fun _ => 0 } := by
  skip
  all_goals
    simp only [restN, eqN, hk, hh, eqB_self]
    generalize eqB n.f (fun _ => 0) = p
    cases n.Sk <;> cases p <;> simp [stampB, Bool.beq_eq_decide_eq, s0, s1]
theorem rest_0_true (n : NT) (hk : n.K = 8) (hh : n.Ha = true) : restN n = eqN n { n with St := 0, S := 0, Sk := false, Ha := false } := by
  skip
  all_goals
    simp only [restN, eqN, hk, hh, eqB_self]
    generalize eqB n.f (fun _ => 0) = p
    cases n.Sk <;> cases p <;> simp [stampB, Bool.beq_eq_decide_eq]
theorem rest_0_false (n : NT) (hk : n.K = 8) (hh : n.Ha = false) : restN n = eqN n { n with St := 0, S := 0, Sk := false, Ha := false, f := fun _ => 0 } := by
  skip
  all_goals
    simp only [restN, eqN, hk, hh, eqB_self]
    generalize eqB n.f (fun _ => 0) = p
    cases n.Sk <;> cases p <;> simp [stampB, Bool.beq_eq_decide_eq]
theorem rest_17_true (n : NT) (hk : n.K = 9) (hh : n.Ha = true) : restN n = eqN n { n with St := 0, S := 0, Sk := false } := by
  skip
  all_goals
    simp only [restN, eqN, hk, hh, eqB_self]
    generalize eqB n.f (fun _ => 0) = p
    cases n.Sk <;> cases p <;> simp [stampB, Bool.beq_eq_decide_eq]
theorem rest_17_false (n : NT) (hk : n.K = 9) (hh : n.Ha = false) : restN n = eqN n { n with St := 0, S := 0, Sk := false, f := fun _ => 0 } := by
  skip
  all_goals
    simp only [restN, eqN, hk, hh, eqB_self]
    generalize eqB n.f (fun _ => 0) = p
    cases n.Sk <;> cases p <;> simp [stampB, Bool.beq_eq_decide_eq]
theorem rest_1_true (n : NT) (hk : n.K = 11) (hh : n.Ha = true) : restN n = eqN n { n with St := 0, S := 0, Sk := false, Ha := false } := by
  skip
  all_goals
    simp only [restN, eqN, hk, hh, eqB_self]
    generalize eqB n.f (fun _ => 0) = p
    cases n.Sk <;> cases p <;> simp [stampB, Bool.beq_eq_decide_eq]
theorem rest_1_false (n : NT) (hk : n.K = 11) (hh : n.Ha = false) : restN n = eqN n { n with St := 0, S := 0, Sk := false, Ha := false, f := fun _ => 0 } := by
  skip
  all_goals
    simp only [restN, eqN, hk, hh, eqB_self]
    generalize eqB n.f (fun _ => 0) = p
    cases n.Sk <;> cases p <;> simp [stampB, Bool.beq_eq_decide_eq]
theorem fin {e : Ending} {w w' : World} {a b : Bool} (h : a = b) (k : e = .returned (.bool a) ∧ Below w.heap.size w w') : e = .returned (.bool b) ∧ Below w.heap.size w w' := by rw [← h]; exact k
theorem prog_3 (n : NT) (hk : n.K = 1 ∨ n.K = 2 ∨ n.K = 10) (b0 : 0 ≤ n.B) (b1 : n.B ≤ 255) (w : World) :
    Calls Try.prog 20 #[.agg (ntL n).toArray] w fun e w' => e = .returned (.bool (mayN n)) ∧ Below w.heap.size w w' := by
  have k0 : 1 ≤ n.K := by omega
  have k1 : n.K ≤ 11 := by omega
  have hu : usesN n.K = 3 := by unfold usesN; rcases hk with hk | hk | hk <;> simp [hk]
  have hw : whoN n = n.Fr := by unfold whoN homeB; rcases hk with hk | hk | hk <;> simp [hk]
  have hat : atN n = n.To := by unfold atN homeB; rcases hk with hk | hk | hk <;> simp [hk]
  cases hh : n.Ha
  all_goals
    cases hc : coreB n.Fr
    · first
        | exact (NMayA.may_3_true_ff n k0 k1 b0 b1 hu hh hc w).mono fun e w' h => fin (mayN_core (by rw [hw]; exact hc)).symm h
        | exact (NMayA.may_3_false_ff n k0 k1 b0 b1 hu hh hc w).mono fun e w' h => fin (mayN_core (by rw [hw]; exact hc)).symm h
    · cases ha : (n.To == -1)
      · first
          | exact (NMayA.may_3_true_tf n k0 k1 b0 b1 hu hh hc ha w).mono fun e w' h => fin (mayN_at (by rw [hat]; exact ha)).symm h
          | exact (NMayA.may_3_false_tf n k0 k1 b0 b1 hu hh hc ha w).mono fun e w' h => fin (mayN_at (by rw [hat]; exact ha)).symm h
      · first
          | exact (NMayA.may_3_true_tt n k0 k1 b0 b1 hu hh hc ha w).mono fun e w' h => fin (by rw [mayN_in k0 k1 b0 b1 (by rw [hw]; exact hc) (by rw [hat]; exact ha), rest_3_true n hk hh]) h
          | exact (NMayA.may_3_false_tt n k0 k1 b0 b1 hu hh hc ha w).mono fun e w' h => fin (by rw [mayN_in k0 k1 b0 b1 (by rw [hw]; exact hc) (by rw [hat]; exact ha), rest_3_false n hk hh]) h
theorem prog_41 (n : NT) (hk : n.K = 3) (b0 : 0 ≤ n.B) (b1 : n.B ≤ 255) (w : World) :
    Calls Try.prog 20 #[.agg (ntL n).toArray] w fun e w' => e = .returned (.bool (mayN n)) ∧ Below w.heap.size w w' := by
  have k0 : 1 ≤ n.K := by omega
  have k1 : n.K ≤ 11 := by omega
  have hu : usesN n.K = 41 := by unfold usesN; simp [hk]
  have hw : whoN n = n.Fr := by unfold whoN homeB; simp [hk]
  have hat : atN n = n.To := by unfold atN homeB; simp [hk]
  cases hh : n.Ha
  all_goals
    cases hc : coreB n.Fr
    · first
        | exact (NMayA.may_41_true_ff n k0 k1 b0 b1 hu hh hc w).mono fun e w' h => fin (mayN_core (by rw [hw]; exact hc)).symm h
        | exact (NMayA.may_41_false_ff n k0 k1 b0 b1 hu hh hc w).mono fun e w' h => fin (mayN_core (by rw [hw]; exact hc)).symm h
    · cases ha : (n.To == -1)
      · first
          | exact (NMayA.may_41_true_tf n k0 k1 b0 b1 hu hh hc ha w).mono fun e w' h => fin (mayN_at (by rw [hat]; exact ha)).symm h
          | exact (NMayA.may_41_false_tf n k0 k1 b0 b1 hu hh hc ha w).mono fun e w' h => fin (mayN_at (by rw [hat]; exact ha)).symm h
      · first
          | exact (NMayA.may_41_true_tt n k0 k1 b0 b1 hu hh hc ha w).mono fun e w' h => fin (by rw [mayN_in k0 k1 b0 b1 (by rw [hw]; exact hc) (by rw [hat]; exact ha), rest_41_true n hk hh]) h
          | exact (NMayA.may_41_false_tt n k0 k1 b0 b1 hu hh hc ha w).mono fun e w' h => fin (by rw [mayN_in k0 k1 b0 b1 (by rw [hw]; exact hc) (by rw [hat]; exact ha), rest_41_false n hk hh]) h
theorem prog_2 (n : NT) (hk : n.K = 4 ∨ n.K = 5 ∨ n.K = 7) (b0 : 0 ≤ n.B) (b1 : n.B ≤ 255) (w : World) :
    Calls Try.prog 20 #[.agg (ntL n).toArray] w fun e w' => e = .returned (.bool (mayN n)) ∧ Below w.heap.size w w' := by
  have k0 : 1 ≤ n.K := by omega
  have k1 : n.K ≤ 11 := by omega
  have hu : usesN n.K = 2 := by unfold usesN; rcases hk with hk | hk | hk <;> simp [hk]
  have hw : whoN n = n.To := by unfold whoN homeB; rcases hk with hk | hk | hk <;> simp [hk]
  have hat : atN n = n.Fr := by unfold atN homeB; rcases hk with hk | hk | hk <;> simp [hk]
  cases hh : n.Ha
  all_goals
    cases hc : coreB n.To
    · first
        | exact (NMayA.may_2_true_ff n k0 k1 b0 b1 hu hh hc w).mono fun e w' h => fin (mayN_core (by rw [hw]; exact hc)).symm h
        | exact (NMayA.may_2_false_ff n k0 k1 b0 b1 hu hh hc w).mono fun e w' h => fin (mayN_core (by rw [hw]; exact hc)).symm h
    · cases ha : (n.Fr == -1)
      · first
          | exact (NMayA.may_2_true_tf n k0 k1 b0 b1 hu hh hc ha w).mono fun e w' h => fin (mayN_at (by rw [hat]; exact ha)).symm h
          | exact (NMayA.may_2_false_tf n k0 k1 b0 b1 hu hh hc ha w).mono fun e w' h => fin (mayN_at (by rw [hat]; exact ha)).symm h
      · first
          | exact (NMayA.may_2_true_tt n k0 k1 b0 b1 hu hh hc ha w).mono fun e w' h => fin (by rw [mayN_in k0 k1 b0 b1 (by rw [hw]; exact hc) (by rw [hat]; exact ha), rest_2_true n hk hh]) h
          | exact (NMayA.may_2_false_tt n k0 k1 b0 b1 hu hh hc ha w).mono fun e w' h => fin (by rw [mayN_in k0 k1 b0 b1 (by rw [hw]; exact hc) (by rw [hat]; exact ha), rest_2_false n hk hh]) h
theorem prog_12 (n : NT) (hk : n.K = 6) (b0 : 0 ≤ n.B) (b1 : n.B ≤ 255) (w : World) :
    Calls Try.prog 20 #[.agg (ntL n).toArray] w fun e w' => e = .returned (.bool (mayN n)) ∧ Below w.heap.size w w' := by
  have k0 : 1 ≤ n.K := by omega
  have k1 : n.K ≤ 11 := by omega
  have hu : usesN n.K = 12 := by unfold usesN; simp [hk]
  have hw : whoN n = n.To := by unfold whoN homeB; simp [hk]
  have hat : atN n = n.Fr := by unfold atN homeB; simp [hk]
  by_cases hs : n.S < 1 ∨ 3 < n.S
  · refine (NMayB.may_12_true_tt_bad n k0 k1 b0 b1 hu hs w).mono fun e w' h => fin ?_ h
    have : restN n = false := by
      simp only [restN]
      rw [if_pos hk, decide_eq_false (by omega)]
      simp
    cases hc : coreB (whoN n)
    · rw [mayN_core hc]
    · cases ha : (atN n == -1)
      · rw [mayN_at ha]
      · rw [mayN_in k0 k1 b0 b1 hc ha, this]
  have s0 : 1 ≤ n.S := by omega
  have s1 : n.S ≤ 3 := by omega
  cases hh : n.Ha
  all_goals
    cases hc : coreB n.To
    · first
        | exact (NMayB.may_12_true_ff n k0 k1 b0 b1 hu hh hc s0 s1 w).mono fun e w' h => fin (mayN_core (by rw [hw]; exact hc)).symm h
        | exact (NMayB.may_12_false_ff n k0 k1 b0 b1 hu hh hc s0 s1 w).mono fun e w' h => fin (mayN_core (by rw [hw]; exact hc)).symm h
    · cases ha : (n.Fr == -1)
      · first
          | exact (NMayB.may_12_true_tf n k0 k1 b0 b1 hu hh hc ha s0 s1 w).mono fun e w' h => fin (mayN_at (by rw [hat]; exact ha)).symm h
          | exact (NMayB.may_12_false_tf n k0 k1 b0 b1 hu hh hc ha s0 s1 w).mono fun e w' h => fin (mayN_at (by rw [hat]; exact ha)).symm h
      · first
          | exact (NMayB.may_12_true_tt n k0 k1 b0 b1 hu hh hc ha s0 s1 w).mono fun e w' h => fin (by rw [mayN_in k0 k1 b0 b1 (by rw [hw]; exact hc) (by rw [hat]; exact ha), rest_12_true n hk hh s0 s1]) h
          | exact (NMayB.may_12_false_tt n k0 k1 b0 b1 hu hh hc ha s0 s1 w).mono fun e w' h => fin (by rw [mayN_in k0 k1 b0 b1 (by rw [hw]; exact hc) (by rw [hat]; exact ha), rest_12_false n hk hh s0 s1]) h
theorem prog_0 (n : NT) (hk : n.K = 8) (b0 : 0 ≤ n.B) (b1 : n.B ≤ 255) (w : World) :
    Calls Try.prog 20 #[.agg (ntL n).toArray] w fun e w' => e = .returned (.bool (mayN n)) ∧ Below w.heap.size w w' := by
  have k0 : 1 ≤ n.K := by omega
  have k1 : n.K ≤ 11 := by omega
  have hu : usesN n.K = 0 := by unfold usesN; simp [hk]
  have hw : whoN n = n.To := by unfold whoN homeB; simp [hk]
  have hat : atN n = n.Fr := by unfold atN homeB; simp [hk]
  cases hh : n.Ha
  all_goals
    cases hc : coreB n.To
    · first
        | exact (NMayB.may_0_true_ff n k0 k1 b0 b1 hu hh hc w).mono fun e w' h => fin (mayN_core (by rw [hw]; exact hc)).symm h
        | exact (NMayB.may_0_false_ff n k0 k1 b0 b1 hu hh hc w).mono fun e w' h => fin (mayN_core (by rw [hw]; exact hc)).symm h
    · cases ha : (n.Fr == -1)
      · first
          | exact (NMayB.may_0_true_tf n k0 k1 b0 b1 hu hh hc ha w).mono fun e w' h => fin (mayN_at (by rw [hat]; exact ha)).symm h
          | exact (NMayB.may_0_false_tf n k0 k1 b0 b1 hu hh hc ha w).mono fun e w' h => fin (mayN_at (by rw [hat]; exact ha)).symm h
      · first
          | exact (NMayB.may_0_true_tt n k0 k1 b0 b1 hu hh hc ha w).mono fun e w' h => fin (by rw [mayN_in k0 k1 b0 b1 (by rw [hw]; exact hc) (by rw [hat]; exact ha), rest_0_true n hk hh]) h
          | exact (NMayB.may_0_false_tt n k0 k1 b0 b1 hu hh hc ha w).mono fun e w' h => fin (by rw [mayN_in k0 k1 b0 b1 (by rw [hw]; exact hc) (by rw [hat]; exact ha), rest_0_false n hk hh]) h
theorem prog_17 (n : NT) (hk : n.K = 9) (b0 : 0 ≤ n.B) (b1 : n.B ≤ 255) (w : World) :
    Calls Try.prog 20 #[.agg (ntL n).toArray] w fun e w' => e = .returned (.bool (mayN n)) ∧ Below w.heap.size w w' := by
  have k0 : 1 ≤ n.K := by omega
  have k1 : n.K ≤ 11 := by omega
  have hu : usesN n.K = 17 := by unfold usesN; simp [hk]
  have hw : whoN n = n.Fr := by unfold whoN homeB; simp [hk]
  have hat : atN n = n.To := by unfold atN homeB; simp [hk]
  cases hh : n.Ha
  all_goals
    cases hc : coreB n.Fr
    · first
        | exact (NMayC.may_17_true_ff n k0 k1 b0 b1 hu hh hc w).mono fun e w' h => fin (mayN_core (by rw [hw]; exact hc)).symm h
        | exact (NMayC.may_17_false_ff n k0 k1 b0 b1 hu hh hc w).mono fun e w' h => fin (mayN_core (by rw [hw]; exact hc)).symm h
    · cases ha : (n.To == -1)
      · first
          | exact (NMayC.may_17_true_tf n k0 k1 b0 b1 hu hh hc ha w).mono fun e w' h => fin (mayN_at (by rw [hat]; exact ha)).symm h
          | exact (NMayC.may_17_false_tf n k0 k1 b0 b1 hu hh hc ha w).mono fun e w' h => fin (mayN_at (by rw [hat]; exact ha)).symm h
      · first
          | exact (NMayC.may_17_true_tt n k0 k1 b0 b1 hu hh hc ha w).mono fun e w' h => fin (by rw [mayN_in k0 k1 b0 b1 (by rw [hw]; exact hc) (by rw [hat]; exact ha), rest_17_true n hk hh]) h
          | exact (NMayC.may_17_false_tt n k0 k1 b0 b1 hu hh hc ha w).mono fun e w' h => fin (by rw [mayN_in k0 k1 b0 b1 (by rw [hw]; exact hc) (by rw [hat]; exact ha), rest_17_false n hk hh]) h
theorem prog_1 (n : NT) (hk : n.K = 11) (b0 : 0 ≤ n.B) (b1 : n.B ≤ 255) (w : World) :
    Calls Try.prog 20 #[.agg (ntL n).toArray] w fun e w' => e = .returned (.bool (mayN n)) ∧ Below w.heap.size w w' := by
  have k0 : 1 ≤ n.K := by omega
  have k1 : n.K ≤ 11 := by omega
  have hu : usesN n.K = 1 := by unfold usesN; simp [hk]
  have hw : whoN n = n.Fr := by unfold whoN homeB; simp [hk]
  have hat : atN n = n.To := by unfold atN homeB; simp [hk]
  cases hh : n.Ha
  all_goals
    cases hc : coreB n.Fr
    · first
        | exact (NMayC.may_1_true_ff n k0 k1 b0 b1 hu hh hc w).mono fun e w' h => fin (mayN_core (by rw [hw]; exact hc)).symm h
        | exact (NMayC.may_1_false_ff n k0 k1 b0 b1 hu hh hc w).mono fun e w' h => fin (mayN_core (by rw [hw]; exact hc)).symm h
    · cases ha : (n.To == -1)
      · first
          | exact (NMayC.may_1_true_tf n k0 k1 b0 b1 hu hh hc ha w).mono fun e w' h => fin (mayN_at (by rw [hat]; exact ha)).symm h
          | exact (NMayC.may_1_false_tf n k0 k1 b0 b1 hu hh hc ha w).mono fun e w' h => fin (mayN_at (by rw [hat]; exact ha)).symm h
      · first
          | exact (NMayC.may_1_true_tt n k0 k1 b0 b1 hu hh hc ha w).mono fun e w' h => fin (by rw [mayN_in k0 k1 b0 b1 (by rw [hw]; exact hc) (by rw [hat]; exact ha), rest_1_true n hk hh]) h
          | exact (NMayC.may_1_false_tt n k0 k1 b0 b1 hu hh hc ha w).mono fun e w' h => fin (by rw [mayN_in k0 k1 b0 b1 (by rw [hw]; exact hc) (by rw [hat]; exact ha), rest_1_false n hk hh]) h
theorem prog_out (n : NT) (h0 : 0 ≤ n.K) (h1 : n.K ≤ 255) (h : ¬ (1 ≤ n.K ∧ n.K ≤ 11) ∨ ¬ (0 ≤ n.B ∧ n.B ≤ 255)) (w : World) :
    Calls Try.prog 20 #[.agg (ntL n).toArray] w fun e w' => e = .returned (.bool (mayN n)) ∧ Below w.heap.size w w' := by
  rw [mayN_out h]
  have N0 := hide (NAt.new w n)
  have hb := hide ((Below.refl w.heap.size w).alloc (Nat.le_refl _) (.cells (ntL n).toArray 29))
  have KI := hide (kind_any n.K (w.alloc (.cells (ntL n).toArray 29)) h0 h1)
  obtain ⟨y0, y1, y2, y3, y4, y5, y6, y7⟩ := N0.out.cells
  by_cases hk : 1 ≤ n.K ∧ n.K ≤ 11
  · rw [show kindB n.K = true by simp [kindB, hk]] at KI
    by_cases hb0 : n.B < 0
    · clear h hk h0 h1
      go_enter Try.func20, Try.ntmps20
      go_wp2_with fail
      refine KI.out.mono ?_
      rintro e wx ⟨rfl, rfl⟩
      go_wp2
      go_ret
      exact ⟨rfl, hb.out⟩
    · have hb1 : 256 ≤ n.B := by omega
      clear h hk h0 h1
      go_enter Try.func20, Try.ntmps20
      go_wp2_with fail
      refine KI.out.mono ?_
      rintro e wx ⟨rfl, rfl⟩
      go_wp2
      go_ret
      exact ⟨rfl, hb.out⟩
  · rw [show kindB n.K = false by simp [kindB]; omega] at KI
    clear h hk h0 h1
    go_enter Try.func20, Try.ntmps20
    go_wp2_with fail
    refine KI.out.mono ?_
    rintro e wx ⟨rfl, rfl⟩
    go_wp2
    go_ret
    exact ⟨rfl, hb.out⟩
theorem may_any (n : NT) (h0 : 0 ≤ n.K) (h1 : n.K ≤ 255) (w : World) :
    Calls Try.prog 20 #[.agg (ntL n).toArray] w fun e w' => e = .returned (.bool (mayN n)) ∧ Below w.heap.size w w' := by
  by_cases h : (1 ≤ n.K ∧ n.K ≤ 11) ∧ (0 ≤ n.B ∧ n.B ≤ 255)
  · obtain ⟨⟨k0, k1⟩, b0, b1⟩ := h
    rcases cases11 k0 k1 with hk | hk | hk | hk | hk | hk | hk | hk | hk | hk | hk
    · exact prog_3 n (by omega) b0 b1 w
    · exact prog_3 n (by omega) b0 b1 w
    · exact prog_41 n (by omega) b0 b1 w
    · exact prog_2 n (by omega) b0 b1 w
    · exact prog_2 n (by omega) b0 b1 w
    · exact prog_12 n (by omega) b0 b1 w
    · exact prog_2 n (by omega) b0 b1 w
    · exact prog_0 n (by omega) b0 b1 w
    · exact prog_17 n (by omega) b0 b1 w
    · exact prog_3 n (by omega) b0 b1 w
    · exact prog_1 n (by omega) b0 b1 w
  · exact prog_out n h0 h1 (by omega) w
theorem doc_a (n : NT) (hk : n.K = 1 ∨ n.K = 2 ∨ n.K = 10) (b0 : 0 ≤ n.B) (b1 : n.B ≤ 255) (w : World) :
    Calls Try.prog 17 #[.agg (ntL n).toArray] w fun e w' => e = .returned (.bool (mayN n)) ∧ Below w.heap.size w w' := by
  have k0 : 1 ≤ n.K := by omega
  have k1 : n.K ≤ 11 := by omega
  have hw : whoN n = n.Fr := by unfold whoN homeB; rcases hk with hk | hk | hk <;> simp [hk]
  have hat : atN n = n.To := by unfold atN homeB; rcases hk with hk | hk | hk <;> simp [hk]
  by_cases ha' : (n.To != -1) = true
  · refine (NRefA.ref_a_at n hk b0 b1 ha' w).mono fun e w' h => fin ?_ h
    rw [mayN_at (by rw [hat]; simpa using ha')]
  have ha : (n.To != -1) = false := by simpa using ha'
  have ha2 : (atN n == -1) = true := by rw [hat]; simpa using ha
  by_cases hlo : n.Fr < 0
  · refine (NRefA.ref_a_lo n hk b0 b1 ha hlo w).mono fun e w' h => fin ?_ h
    rw [mayN_core (by rw [hw]; simp [coreB]; omega)]
  by_cases hhi : 15 < n.Fr
  · refine (NRefA.ref_a_hi n hk b0 b1 ha (by omega) hhi w).mono fun e w' h => fin ?_ h
    rw [mayN_core (by rw [hw]; simp [coreB]; omega)]
  have hc : coreB (whoN n) = true := by rw [hw]; simp [coreB]; omega
  have hlo' : 0 ≤ n.Fr := by omega
  have hhi' : n.Fr ≤ 15 := by omega
  rw [mayN_in k0 k1 b0 b1 hc ha2]
  by_cases hs' : (n.S != 0) = true
  · refine (NRefA.ref_a_s0 n hk b0 b1 ha hlo' hhi' hs' w).mono fun e w' h => fin ?_ h
    have hs2 : ¬ n.S = 0 := by simpa using hs'
    rcases hk with hk | hk | hk <;> simp [restN, hk, stampB, hs2]
  have hs : (n.S != 0) = false := by simpa using hs'
  have hs2 : n.S = 0 := by simpa using hs
  by_cases hsk' : n.Sk = true
  · refine (NRefA.ref_a_sk n hk b0 b1 ha hlo' hhi' hs hsk' w).mono fun e w' h => fin ?_ h
    rcases hk with hk | hk | hk <;> simp [restN, hk, stampB, hs2, hsk']
  have hsk : n.Sk = false := by simpa using hsk'
  cases hh : n.Ha
  · refine (NRefA.ref_a_h0 n hk b0 b1 ha hlo' hhi' hs hsk hh w).mono fun e w' h => fin ?_ h
    rcases hk with hk | hk | hk <;> simp [restN, hk, stampB, hs2, hsk, hh]
  · refine (NRefA.ref_a_ha n hk b0 b1 ha hlo' hhi' hs hsk hh w).mono fun e w' h => fin ?_ h
    rcases hk with hk | hk | hk <;> simp [restN, hk, stampB, hs2, hsk, hh]
theorem doc_b (n : NT) (hk : n.K = 3) (b0 : 0 ≤ n.B) (b1 : n.B ≤ 255) (w : World) :
    Calls Try.prog 17 #[.agg (ntL n).toArray] w fun e w' => e = .returned (.bool (mayN n)) ∧ Below w.heap.size w w' := by
  have k0 : 1 ≤ n.K := by omega
  have k1 : n.K ≤ 11 := by omega
  have hw : whoN n = n.Fr := by unfold whoN homeB; simp [hk]
  have hat : atN n = n.To := by unfold atN homeB; simp [hk]
  by_cases ha' : (n.To != -1) = true
  · refine (NRefA.ref_b_at n hk b0 b1 ha' w).mono fun e w' h => fin ?_ h
    rw [mayN_at (by rw [hat]; simpa using ha')]
  have ha : (n.To != -1) = false := by simpa using ha'
  have ha2 : (atN n == -1) = true := by rw [hat]; simpa using ha
  by_cases hlo : n.Fr < 0
  · refine (NRefA.ref_b_lo n hk b0 b1 ha hlo w).mono fun e w' h => fin ?_ h
    rw [mayN_core (by rw [hw]; simp [coreB]; omega)]
  by_cases hhi : 15 < n.Fr
  · refine (NRefA.ref_b_hi n hk b0 b1 ha (by omega) hhi w).mono fun e w' h => fin ?_ h
    rw [mayN_core (by rw [hw]; simp [coreB]; omega)]
  have hc : coreB (whoN n) = true := by rw [hw]; simp [coreB]; omega
  have hlo' : 0 ≤ n.Fr := by omega
  have hhi' : n.Fr ≤ 15 := by omega
  rw [mayN_in k0 k1 b0 b1 hc ha2]
  by_cases hst' : (n.St != 0) = true
  · refine (NRefA.ref_b_st n hk b0 b1 ha hlo' hhi' hst' w).mono fun e w' h => fin ?_ h
    have hst2 : ¬ n.St = 0 := by simpa using hst'
    simp [restN, hk, stampB, hst2]
  have hst : (n.St != 0) = false := by simpa using hst'
  have hst2 : n.St = 0 := by simpa using hst
  by_cases hs' : (n.S != 0) = true
  · refine (NRefA.ref_b_s0 n hk b0 b1 ha hlo' hhi' hst hs' w).mono fun e w' h => fin ?_ h
    have hs2 : ¬ n.S = 0 := by simpa using hs'
    simp [restN, hk, stampB, hst2, hs2]
  have hs : (n.S != 0) = false := by simpa using hs'
  have hs2 : n.S = 0 := by simpa using hs
  cases hh : n.Ha
  · refine (NRefA.ref_b_ha n hk b0 b1 ha hlo' hhi' hst hs hh w).mono fun e w' h => fin ?_ h
    simp [restN, hk, stampB, hst2, hs2, hh]
  · refine (NRefA.ref_b_ok n hk b0 b1 ha hlo' hhi' hst hs hh w).mono fun e w' h => fin ?_ h
    simp [restN, hk, stampB, hst2, hs2, hh]
theorem doc_c (n : NT) (hk : n.K = 4 ∨ n.K = 5 ∨ n.K = 7) (b0 : 0 ≤ n.B) (b1 : n.B ≤ 255) (w : World) :
    Calls Try.prog 17 #[.agg (ntL n).toArray] w fun e w' => e = .returned (.bool (mayN n)) ∧ Below w.heap.size w w' := by
  have k0 : 1 ≤ n.K := by omega
  have k1 : n.K ≤ 11 := by omega
  have hw : whoN n = n.To := by unfold whoN homeB; rcases hk with hk | hk | hk <;> simp [hk]
  have hat : atN n = n.Fr := by unfold atN homeB; rcases hk with hk | hk | hk <;> simp [hk]
  by_cases ha' : (n.Fr != -1) = true
  · refine (NRefB.ref_c_at n hk b0 b1 ha' w).mono fun e w' h => fin ?_ h
    rw [mayN_at (by rw [hat]; simpa using ha')]
  have ha : (n.Fr != -1) = false := by simpa using ha'
  have ha2 : (atN n == -1) = true := by rw [hat]; simpa using ha
  by_cases hlo : n.To < 0
  · refine (NRefB.ref_c_lo n hk b0 b1 ha hlo w).mono fun e w' h => fin ?_ h
    rw [mayN_core (by rw [hw]; simp [coreB]; omega)]
  by_cases hhi : 15 < n.To
  · refine (NRefB.ref_c_hi n hk b0 b1 ha (by omega) hhi w).mono fun e w' h => fin ?_ h
    rw [mayN_core (by rw [hw]; simp [coreB]; omega)]
  have hc : coreB (whoN n) = true := by rw [hw]; simp [coreB]; omega
  have hlo' : 0 ≤ n.To := by omega
  have hhi' : n.To ≤ 15 := by omega
  rw [mayN_in k0 k1 b0 b1 hc ha2]
  by_cases hs' : (n.S != 0) = true
  · refine (NRefB.ref_c_s0 n hk b0 b1 ha hlo' hhi' hs' w).mono fun e w' h => fin ?_ h
    have hs2 : ¬ n.S = 0 := by simpa using hs'
    rcases hk with hk | hk | hk <;> simp [restN, hk, stampB, hs2]
  have hs : (n.S != 0) = false := by simpa using hs'
  have hs2 : n.S = 0 := by simpa using hs
  by_cases hsk' : n.Sk = true
  · refine (NRefB.ref_c_sk n hk b0 b1 ha hlo' hhi' hs hsk' w).mono fun e w' h => fin ?_ h
    rcases hk with hk | hk | hk <;> simp [restN, hk, stampB, hs2, hsk']
  have hsk : n.Sk = false := by simpa using hsk'
  cases hh : n.Ha
  · refine (NRefB.ref_c_h0 n hk b0 b1 ha hlo' hhi' hs hsk hh w).mono fun e w' h => fin ?_ h
    rcases hk with hk | hk | hk <;> simp [restN, hk, stampB, hs2, hsk, hh]
  · refine (NRefB.ref_c_ha n hk b0 b1 ha hlo' hhi' hs hsk hh w).mono fun e w' h => fin ?_ h
    rcases hk with hk | hk | hk <;> simp [restN, hk, stampB, hs2, hsk, hh]
theorem doc_d (n : NT) (hk : n.K = 6) (b0 : 0 ≤ n.B) (b1 : n.B ≤ 255) (w : World) :
    Calls Try.prog 17 #[.agg (ntL n).toArray] w fun e w' => e = .returned (.bool (mayN n)) ∧ Below w.heap.size w w' := by
  have k0 : 1 ≤ n.K := by omega
  have k1 : n.K ≤ 11 := by omega
  have hw : whoN n = n.To := by unfold whoN homeB; simp [hk]
  have hat : atN n = n.Fr := by unfold atN homeB; simp [hk]
  by_cases ha' : (n.Fr != -1) = true
  · refine (NRefB.ref_d_at n hk b0 b1 ha' w).mono fun e w' h => fin ?_ h
    rw [mayN_at (by rw [hat]; simpa using ha')]
  have ha : (n.Fr != -1) = false := by simpa using ha'
  have ha2 : (atN n == -1) = true := by rw [hat]; simpa using ha
  by_cases hlo : n.To < 0
  · refine (NRefB.ref_d_lo n hk b0 b1 ha hlo w).mono fun e w' h => fin ?_ h
    rw [mayN_core (by rw [hw]; simp [coreB]; omega)]
  by_cases hhi : 15 < n.To
  · refine (NRefB.ref_d_hi n hk b0 b1 ha (by omega) hhi w).mono fun e w' h => fin ?_ h
    rw [mayN_core (by rw [hw]; simp [coreB]; omega)]
  have hc : coreB (whoN n) = true := by rw [hw]; simp [coreB]; omega
  have hlo' : 0 ≤ n.To := by omega
  have hhi' : n.To ≤ 15 := by omega
  rw [mayN_in k0 k1 b0 b1 hc ha2]
  by_cases hst' : (n.St != 0) = true
  · refine (NRefB.ref_d_st n hk b0 b1 ha hlo' hhi' hst' w).mono fun e w' h => fin ?_ h
    have hst2 : ¬ n.St = 0 := by simpa using hst'
    simp [restN, hk, stampB, hst2]
  have hst : (n.St != 0) = false := by simpa using hst'
  have hst2 : n.St = 0 := by simpa using hst
  by_cases hs0 : n.S < 1
  · refine (NRefB.ref_d_s0 n hk b0 b1 ha hlo' hhi' hst hs0 w).mono fun e w' h => fin ?_ h
    have e : decide (1 ≤ n.S ∧ n.S ≤ 3) = false := decide_eq_false (by omega)
    simp only [restN, hk, e]
    simp
  by_cases hs3 : 3 < n.S
  · refine (NRefB.ref_d_s3 n hk b0 b1 ha hlo' hhi' hst (by omega) hs3 w).mono fun e w' h => fin ?_ h
    have e : decide (1 ≤ n.S ∧ n.S ≤ 3) = false := decide_eq_false (by omega)
    simp only [restN, hk, e]
    simp
  have hs0' : 1 ≤ n.S := by omega
  have hs3' : n.S ≤ 3 := by omega
  by_cases hsk' : n.Sk = true
  · refine (NRefB.ref_d_sk n hk b0 b1 ha hlo' hhi' hst hs0' hs3' hsk' w).mono fun e w' h => fin ?_ h
    simp [restN, hk, stampB, hst2, hs0', hs3', hsk']
  have hsk : n.Sk = false := by simpa using hsk'
  cases hh : n.Ha
  · refine (NRefB.ref_d_ha n hk b0 b1 ha hlo' hhi' hst hs0' hs3' hsk hh w).mono fun e w' h => fin ?_ h
    simp [restN, hk, stampB, hst2, hs0', hs3', hsk, hh]
  · refine (NRefB.ref_d_ok n hk b0 b1 ha hlo' hhi' hst hs0' hs3' hsk hh w).mono fun e w' h => fin ?_ h
    simp [restN, hk, stampB, hst2, hs0', hs3', hsk, hh]
theorem doc_e (n : NT) (hk : n.K = 8) (b0 : 0 ≤ n.B) (b1 : n.B ≤ 255) (w : World) :
    Calls Try.prog 17 #[.agg (ntL n).toArray] w fun e w' => e = .returned (.bool (mayN n)) ∧ Below w.heap.size w w' := by
  have k0 : 1 ≤ n.K := by omega
  have k1 : n.K ≤ 11 := by omega
  have hw : whoN n = n.To := by unfold whoN homeB; simp [hk]
  have hat : atN n = n.Fr := by unfold atN homeB; simp [hk]
  by_cases ha' : (n.Fr != -1) = true
  · refine (NRefC.ref_e_at n hk b0 b1 ha' w).mono fun e w' h => fin ?_ h
    rw [mayN_at (by rw [hat]; simpa using ha')]
  have ha : (n.Fr != -1) = false := by simpa using ha'
  have ha2 : (atN n == -1) = true := by rw [hat]; simpa using ha
  by_cases hlo : n.To < 0
  · refine (NRefC.ref_e_lo n hk b0 b1 ha hlo w).mono fun e w' h => fin ?_ h
    rw [mayN_core (by rw [hw]; simp [coreB]; omega)]
  by_cases hhi : 15 < n.To
  · refine (NRefC.ref_e_hi n hk b0 b1 ha (by omega) hhi w).mono fun e w' h => fin ?_ h
    rw [mayN_core (by rw [hw]; simp [coreB]; omega)]
  have hc : coreB (whoN n) = true := by rw [hw]; simp [coreB]; omega
  have hlo' : 0 ≤ n.To := by omega
  have hhi' : n.To ≤ 15 := by omega
  rw [mayN_in k0 k1 b0 b1 hc ha2]
  by_cases hst' : (n.St != 0) = true
  · refine (NRefC.ref_e_st n hk b0 b1 ha hlo' hhi' hst' w).mono fun e w' h => fin ?_ h
    have hst2 : ¬ n.St = 0 := by simpa using hst'
    simp [restN, hk, stampB, hst2]
  have hst : (n.St != 0) = false := by simpa using hst'
  have hst2 : n.St = 0 := by simpa using hst
  by_cases hs' : (n.S != 0) = true
  · refine (NRefC.ref_e_s0 n hk b0 b1 ha hlo' hhi' hst hs' w).mono fun e w' h => fin ?_ h
    have hs2 : ¬ n.S = 0 := by simpa using hs'
    simp [restN, hk, stampB, hst2, hs2]
  have hs : (n.S != 0) = false := by simpa using hs'
  have hs2 : n.S = 0 := by simpa using hs
  by_cases hsk' : n.Sk = true
  · refine (NRefC.ref_e_sk n hk b0 b1 ha hlo' hhi' hst hs hsk' w).mono fun e w' h => fin ?_ h
    simp [restN, hk, stampB, hst2, hs2, hsk']
  have hsk : n.Sk = false := by simpa using hsk'
  cases hh : n.Ha
  · refine (NRefC.ref_e_h0 n hk b0 b1 ha hlo' hhi' hst hs hsk hh w).mono fun e w' h => fin ?_ h
    simp [restN, hk, stampB, hst2, hs2, hsk, hh]
  · refine (NRefC.ref_e_ha n hk b0 b1 ha hlo' hhi' hst hs hsk hh w).mono fun e w' h => fin ?_ h
    simp [restN, hk, stampB, hst2, hs2, hsk, hh]
theorem doc_g (n : NT) (hk : n.K = 9) (b0 : 0 ≤ n.B) (b1 : n.B ≤ 255) (w : World) :
    Calls Try.prog 17 #[.agg (ntL n).toArray] w fun e w' => e = .returned (.bool (mayN n)) ∧ Below w.heap.size w w' := by
  have k0 : 1 ≤ n.K := by omega
  have k1 : n.K ≤ 11 := by omega
  have hw : whoN n = n.Fr := by unfold whoN homeB; simp [hk]
  have hat : atN n = n.To := by unfold atN homeB; simp [hk]
  by_cases ha' : (n.To != -1) = true
  · refine (NRefC.ref_g_at n hk b0 b1 ha' w).mono fun e w' h => fin ?_ h
    rw [mayN_at (by rw [hat]; simpa using ha')]
  have ha : (n.To != -1) = false := by simpa using ha'
  have ha2 : (atN n == -1) = true := by rw [hat]; simpa using ha
  by_cases hlo : n.Fr < 0
  · refine (NRefC.ref_g_lo n hk b0 b1 ha hlo w).mono fun e w' h => fin ?_ h
    rw [mayN_core (by rw [hw]; simp [coreB]; omega)]
  by_cases hhi : 15 < n.Fr
  · refine (NRefC.ref_g_hi n hk b0 b1 ha (by omega) hhi w).mono fun e w' h => fin ?_ h
    rw [mayN_core (by rw [hw]; simp [coreB]; omega)]
  have hc : coreB (whoN n) = true := by rw [hw]; simp [coreB]; omega
  have hlo' : 0 ≤ n.Fr := by omega
  have hhi' : n.Fr ≤ 15 := by omega
  rw [mayN_in k0 k1 b0 b1 hc ha2]
  by_cases hst' : (n.St != 0) = true
  · refine (NRefC.ref_g_st n hk b0 b1 ha hlo' hhi' hst' w).mono fun e w' h => fin ?_ h
    have hst2 : ¬ n.St = 0 := by simpa using hst'
    simp [restN, hk, stampB, hst2]
  have hst : (n.St != 0) = false := by simpa using hst'
  have hst2 : n.St = 0 := by simpa using hst
  by_cases hs' : (n.S != 0) = true
  · refine (NRefC.ref_g_s0 n hk b0 b1 ha hlo' hhi' hst hs' w).mono fun e w' h => fin ?_ h
    have hs2 : ¬ n.S = 0 := by simpa using hs'
    simp [restN, hk, stampB, hst2, hs2]
  have hs : (n.S != 0) = false := by simpa using hs'
  have hs2 : n.S = 0 := by simpa using hs
  by_cases hsk' : n.Sk = true
  · refine (NRefC.ref_g_sk n hk b0 b1 ha hlo' hhi' hst hs hsk' w).mono fun e w' h => fin ?_ h
    simp [restN, hk, stampB, hst2, hs2, hsk']
  have hsk : n.Sk = false := by simpa using hsk'
  cases hh : n.Ha
  · refine (NRefC.ref_g_h0 n hk b0 b1 ha hlo' hhi' hst hs hsk hh w).mono fun e w' h => fin ?_ h
    simp [restN, hk, stampB, hst2, hs2, hsk, hh]
  · refine (NRefC.ref_g_h1 n hk b0 b1 ha hlo' hhi' hst hs hsk hh w).mono fun e w' h => fin ?_ h
    simp [restN, hk, stampB, hst2, hs2, hsk, hh]
theorem doc_i (n : NT) (hk : n.K = 11) (b0 : 0 ≤ n.B) (b1 : n.B ≤ 255) (w : World) :
    Calls Try.prog 17 #[.agg (ntL n).toArray] w fun e w' => e = .returned (.bool (mayN n)) ∧ Below w.heap.size w w' := by
  have k0 : 1 ≤ n.K := by omega
  have k1 : n.K ≤ 11 := by omega
  have hw : whoN n = n.Fr := by unfold whoN homeB; simp [hk]
  have hat : atN n = n.To := by unfold atN homeB; simp [hk]
  by_cases ha' : (n.To != -1) = true
  · refine (NRefC.ref_i_at n hk b0 b1 ha' w).mono fun e w' h => fin ?_ h
    rw [mayN_at (by rw [hat]; simpa using ha')]
  have ha : (n.To != -1) = false := by simpa using ha'
  have ha2 : (atN n == -1) = true := by rw [hat]; simpa using ha
  by_cases hlo : n.Fr < 0
  · refine (NRefC.ref_i_lo n hk b0 b1 ha hlo w).mono fun e w' h => fin ?_ h
    rw [mayN_core (by rw [hw]; simp [coreB]; omega)]
  by_cases hhi : 15 < n.Fr
  · refine (NRefC.ref_i_hi n hk b0 b1 ha (by omega) hhi w).mono fun e w' h => fin ?_ h
    rw [mayN_core (by rw [hw]; simp [coreB]; omega)]
  have hc : coreB (whoN n) = true := by rw [hw]; simp [coreB]; omega
  have hlo' : 0 ≤ n.Fr := by omega
  have hhi' : n.Fr ≤ 15 := by omega
  rw [mayN_in k0 k1 b0 b1 hc ha2]
  by_cases hst' : (n.St != 0) = true
  · refine (NRefC.ref_i_st n hk b0 b1 ha hlo' hhi' hst' w).mono fun e w' h => fin ?_ h
    have hst2 : ¬ n.St = 0 := by simpa using hst'
    simp [restN, hk, stampB, hst2]
  have hst : (n.St != 0) = false := by simpa using hst'
  have hst2 : n.St = 0 := by simpa using hst
  by_cases hs' : (n.S != 0) = true
  · refine (NRefC.ref_i_s0 n hk b0 b1 ha hlo' hhi' hst hs' w).mono fun e w' h => fin ?_ h
    have hs2 : ¬ n.S = 0 := by simpa using hs'
    simp [restN, hk, stampB, hst2, hs2]
  have hs : (n.S != 0) = false := by simpa using hs'
  have hs2 : n.S = 0 := by simpa using hs
  by_cases hsk' : n.Sk = true
  · refine (NRefC.ref_i_sk n hk b0 b1 ha hlo' hhi' hst hs hsk' w).mono fun e w' h => fin ?_ h
    simp [restN, hk, stampB, hst2, hs2, hsk']
  have hsk : n.Sk = false := by simpa using hsk'
  cases hh : n.Ha
  · refine (NRefC.ref_i_h0 n hk b0 b1 ha hlo' hhi' hst hs hsk hh w).mono fun e w' h => fin ?_ h
    simp [restN, hk, stampB, hst2, hs2, hsk, hh]
  · refine (NRefC.ref_i_ha n hk b0 b1 ha hlo' hhi' hst hs hsk hh w).mono fun e w' h => fin ?_ h
    simp [restN, hk, stampB, hst2, hs2, hsk, hh]
theorem doc_out (n : NT) (h0 : 0 ≤ n.K) (h1 : n.K ≤ 255) (h : ¬ (1 ≤ n.K ∧ n.K ≤ 11) ∨ ¬ (0 ≤ n.B ∧ n.B ≤ 255)) (w : World) :
    Calls Try.prog 17 #[.agg (ntL n).toArray] w fun e w' => e = .returned (.bool (mayN n)) ∧ Below w.heap.size w w' := by
  rw [mayN_out h]
  have N0 := hide (NAt.new w n)
  have hb := hide ((Below.refl w.heap.size w).alloc (Nat.le_refl _) (.cells (ntL n).toArray 29))
  obtain ⟨y0, y1, y2, y3, y4, y5, y6, y7⟩ := N0.out.cells
  by_cases ha : n.K < 1
  · clear h
    go_enter Try.func17, Try.ntmps17
    go_wp2
    go_ret
    exact ⟨rfl, hb.out⟩
  by_cases hb2 : 11 < n.K
  · clear h
    go_enter Try.func17, Try.ntmps17
    go_wp2
    go_ret
    exact ⟨rfl, hb.out⟩
  by_cases hc : n.B < 0
  · clear h
    go_enter Try.func17, Try.ntmps17
    go_wp2
    go_ret
    exact ⟨rfl, hb.out⟩
  have hd : 255 < n.B := by omega
  clear h
  go_enter Try.func17, Try.ntmps17
  go_wp2
  go_ret
  exact ⟨rfl, hb.out⟩
theorem doc_any (n : NT) (h0 : 0 ≤ n.K) (h1 : n.K ≤ 255) (w : World) :
    Calls Try.prog 17 #[.agg (ntL n).toArray] w fun e w' => e = .returned (.bool (mayN n)) ∧ Below w.heap.size w w' := by
  by_cases h : (1 ≤ n.K ∧ n.K ≤ 11) ∧ (0 ≤ n.B ∧ n.B ≤ 255)
  · obtain ⟨⟨k0, k1⟩, b0, b1⟩ := h
    rcases cases11 k0 k1 with hk | hk | hk | hk | hk | hk | hk | hk | hk | hk | hk
    · exact doc_a n (by omega) b0 b1 w
    · exact doc_a n (by omega) b0 b1 w
    · exact doc_b n (by omega) b0 b1 w
    · exact doc_c n (by omega) b0 b1 w
    · exact doc_c n (by omega) b0 b1 w
    · exact doc_d n (by omega) b0 b1 w
    · exact doc_c n (by omega) b0 b1 w
    · exact doc_e n (by omega) b0 b1 w
    · exact doc_g n (by omega) b0 b1 w
    · exact doc_a n (by omega) b0 b1 w
    · exact doc_i n (by omega) b0 b1 w
  · exact doc_out n h0 h1 (by omega) w
end Go.Proofs.Ytnjojcikahiieaa.NMayAll
