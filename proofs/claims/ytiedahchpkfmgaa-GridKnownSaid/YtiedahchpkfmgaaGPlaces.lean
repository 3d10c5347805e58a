/-
  Place of the program and of the document; hops; it works; GridPlaces walked.
-/
import Derived.Test.YtiedahchpkfmgaaGWalk
namespace Go.Proofs.Ytiedahchpkfmgaa.GPlaces
open Go Ieee Go.RowKit Base Fl GAbs GWalk
set_option linter.unusedVariables false
set_option linter.unusedSimpArgs false

theorem w_m1 : plW (-1) 0 = .complex .f64 13830554455654793216 0 := by
  have h1 : fl (-1) = 13830554455654793216 := by decide +kernel
  have h2 : fl 0 = 0 := by decide +kernel
  unfold plW; rw [h1, h2]
theorem w_00 : plW 0 0 = .complex .f64 0 0 := by
  have h2 : fl 0 = 0 := by decide +kernel
  unfold plW; rw [h2]
theorem w_21 : plW 2 1 = .complex .f64 4611686018427387904 4607182418800017408 := by
  have h1 : fl 2 = 4611686018427387904 := by decide +kernel
  have h2 : fl 1 = 4607182418800017408 := by decide +kernel
  unfold plW; rw [h1, h2]
theorem place_both (n : Int) : ∃ x y er : Int, (-16 ≤ x ∧ x ≤ 16 ∧ -16 ≤ y ∧ y ≤ 16) ∧
    (∀ w, Calls Try.prog 6 #[.int .i64 n] w fun e w' => e = .returned (.tuple #[plW x y, .int .i64 er]) ∧ w = w') ∧
    (∀ w, Calls Try.prog 7 #[.int .i64 n] w fun e w' => e = .returned (.tuple #[.int .i64 x, .int .i64 y, .int .i64 er]) ∧ w = w') := by
  by_cases h1 : n = -1
  · subst h1
    refine ⟨-1, 0, 0, by omega, fun w => ?_, fun w => ?_⟩
    · rw [w_m1]
      go_enter Try.func6, Try.ntmps6
      go_wp2
      go_ret2
      exact ⟨rfl, rfl⟩
    · go_enter Try.func7, Try.ntmps7
      go_wp2
      go_ret3
      exact ⟨rfl, rfl⟩
  · by_cases h2 : n < 0
    · have hn : n < -1 := by omega
      have e1 : (n == -1) = false := by simpa using h1
      have e3 : decide (n < -1) = true := by simpa using hn
      refine ⟨0, 0, 5, by omega, fun w => ?_, fun w => ?_⟩
      · rw [w_00]
        go_enter Try.func6, Try.ntmps6
        go_wp2
        go_ret2
        exact ⟨rfl, rfl⟩
      · go_enter Try.func7, Try.ntmps7
        go_wp2
        go_ret3
        exact ⟨rfl, rfl⟩
    · have e1 : (n == -1) = false := by simpa using h1
      have hn : ¬ n < -1 := by omega
      have h0 : 0 ≤ n := by omega
      by_cases h3 : 16 ≤ n
      · have h4 : 15 < n := by omega
        refine ⟨0, 0, 5, by omega, fun w => ?_, fun w => ?_⟩
        · rw [w_00]
          go_enter Try.func6, Try.ntmps6
          go_wp2
          go_ret2
          exact ⟨rfl, rfl⟩
        · go_enter Try.func7, Try.ntmps7
          go_wp2
          go_ret3
          exact ⟨rfl, rfl⟩
      · have h4 : ¬ 15 < n := by omega
        refine ⟨n % 4, n / 4, 0, by omega, fun w => ?_, fun w => ?_⟩
        · go_enter Try.func6, Try.ntmps6
          go_wp2
          go_ret2
          exact ⟨rfl, rfl⟩
        · go_enter Try.func7, Try.ntmps7
          go_wp2
          go_ret3
          exact ⟨rfl, rfl⟩
def inI (n : Int) : Prop := -1048576 ≤ n ∧ n ≤ 1048576
theorem inB_of {n : Int} (h : inI n) : inB n = true := by unfold inB; obtain ⟨h1, h2⟩ := h; simp; omega
def ab (n : Int) : Int := (n.natAbs : Int)
section
variable (a b c d : Int)
theorem Hops_no (a0 : -9223372036854775808 ≤ a) (a1 : a ≤ 9223372036854775807) (b0 : -9223372036854775808 ≤ b) (b1 : b ≤ 9223372036854775807) (c0 : -9223372036854775808 ≤ c) (c1 : c ≤ 9223372036854775807) (d0 : -9223372036854775808 ≤ d) (d1 : d ≤ 9223372036854775807)
    (h : ((inB a && inB b) && (inB c && inB d)) = false) (w : World) :
    Calls Try.prog 10 #[plW a b, plW c d] w fun e w' => e = .returned (.tuple #[.int .i64 0, .int .i64 2]) ∧ w = w' := by
  have A := hide (fun w => is_any a b a0 a1 b0 b1 w)
  have C := hide (fun w => is_any c d c0 c1 d0 d1 w)
  clear a0 a1 b0 b1 c0 c1 d0 d1
  generalize (inB a && inB b) = p at *
  generalize (inB c && inB d) = q at *
  generalize plW a b = z at *
  generalize plW c d = z' at *
  cases p
  · clear h
    go_enter Try.func10, Try.ntmps10
    go_wp2_with fail
    refine (A.out _).mono ?_
    rintro e w1 ⟨rfl, rfl⟩
    go_wp2
    go_ret2
    exact ⟨rfl, rfl⟩
  · have hq : q = false := by simpa using h
    subst hq
    clear h
    go_enter Try.func10, Try.ntmps10
    go_wp2_with fail
    refine (A.out _).mono ?_
    rintro e w1 ⟨rfl, rfl⟩
    go_wp2_with fail
    refine (C.out _).mono ?_
    rintro e w1 ⟨rfl, rfl⟩
    go_wp2
    go_ret2
    exact ⟨rfl, rfl⟩
theorem Hops_yes (ha : inI a) (hb : inI b) (hc : inI c) (hd : inI d) (w : World) :
    Calls Try.prog 10 #[plW a b, plW c d] w fun e w' => e = .returned (.tuple #[.int .i64 (ab (c - a) + ab (d - b)), .int .i64 0]) ∧ w = w' := by
  have A := hide (fun w => is_any a b (by have := ha.1; omega) (by have := ha.2; omega) (by have := hb.1; omega) (by have := hb.2; omega) w)
  have C := hide (fun w => is_any c d (by have := hc.1; omega) (by have := hc.2; omega) (by have := hd.1; omega) (by have := hd.2; omega) w)
  rw [inB_of ha, inB_of hb] at A
  rw [inB_of hc, inB_of hd] at C
  obtain ⟨a0, a1⟩ := ha
  obtain ⟨b0, b1⟩ := hb
  obtain ⟨c0, c1⟩ := hc
  obtain ⟨d0, d1⟩ := hd
  have A1 := hide (fun w => abs_fl (c - a) (by omega) w)
  have A2 := hide (fun w => abs_fl (d - b) (by omega) w)
  have hs : ∀ w, (binOp .sub 22 (.complex .f64 (fl c) (fl d)) (.complex .f64 (fl a) (fl b))).run Try.prog w = .ok (.complex .f64 (fl (c - a)) (fl (d - b))) w := fun w =>
    run_complex_sum w .sub (Or.inr rfl) _ _ _ _ _ _ _ _ (by
      unfold cSumBits floatBits
      simp only [fmt]
      rw [sub_fl c a (by omega) (by omega) (by omega), sub_fl d b (by omega) (by omega) (by omega)]
      rfl)
  have hp : ∀ w, (binOp .add 43 (.float .f64 (fl (ab (c - a)))) (.float .f64 (fl (ab (d - b))))).run Try.prog w = .ok (.float .f64 (fl (ab (c - a) + ab (d - b)))) w := fun w =>
    run_float_arith w .add _ _ _ _ _ (by
      unfold floatBits
      simp only [fmt]
      exact add_fl _ _ (by unfold ab; omega) (by unfold ab; omega) (by unfold ab; omega))
  have hv : ∀ w, (convert 43 3 (.float .f64 (fl (ab (c - a) + ab (d - b))))).run Try.prog w = .ok (.int .i64 (ab (c - a) + ab (d - b))) w := fun w =>
    run_convert_float_int w _ _ _ _ _ _ (by rw [Try.underlying43]; rfl) Try.underlying3 (toInt_fl _ (by unfold ab; omega))
  clear a0 a1 b0 b1 c0 c1 d0 d1
  change Hid (∀ w, Calls Try.prog 17 #[.float .f64 (fl (c - a))] w fun e w' => e = .returned (.float .f64 (fl (ab (c - a)))) ∧ w = w') at A1
  change Hid (∀ w, Calls Try.prog 17 #[.float .f64 (fl (d - b))] w fun e w' => e = .returned (.float .f64 (fl (ab (d - b)))) ∧ w = w') at A2
  unfold plW at *
  generalize fl (ab (c - a) + ab (d - b)) = s at *
  generalize ab (c - a) + ab (d - b) = n at *
  generalize fl (ab (c - a)) = s1 at *
  generalize fl (ab (d - b)) = s2 at *
  generalize fl (c - a) = s3 at *
  generalize fl (d - b) = s4 at *
  generalize fl a = s5 at *
  generalize fl b = s6 at *
  generalize fl c = s7 at *
  generalize fl d = s8 at *
  go_enter Try.func10, Try.ntmps10
  go_wp2_with fail
  refine (A.out _).mono ?_
  rintro e w1 ⟨rfl, rfl⟩
  go_wp2_with fail
  refine (C.out _).mono ?_
  rintro e w1 ⟨rfl, rfl⟩
  go_wp2_with fail
  refine (A1.out _).mono ?_
  rintro e w1 ⟨rfl, rfl⟩
  go_wp2_with fail
  refine (A2.out _).mono ?_
  rintro e w1 ⟨rfl, rfl⟩
  go_wp2
  go_ret2
  exact ⟨rfl, rfl⟩
end
theorem ord_self (n : Int) (h : n.natAbs < 2 ^ 53) : (FloatKind.f64.format.order (fl n) (fl n) == some .eq) = true := by
  rw [fmt, order_fl n n h h]
  have : compare n n = .eq := by show compareOfLessAndEq _ _ = _; unfold compareOfLessAndEq; simp
  rw [this]; rfl
theorem works_any (w : World) : Calls Try.prog 9 #[] w fun e w' => e = .returned (.bool true) ∧ w = w' := by
  have P : Hid (∀ w, Calls Try.prog 6 #[.int .i64 6] w fun e w' => e = .returned (.tuple #[.complex .f64 4611686018427387904 4607182418800017408, .int .i64 0]) ∧ w = w') := hide (fun w => by
    rw [← w_21]
    go_enter Try.func6, Try.ntmps6
    go_wp2
    go_ret2
    exact ⟨rfl, rfl⟩)
  have H : Hid (∀ w, Calls Try.prog 10 #[.complex .f64 13830554455654793216 0, .complex .f64 4611686018427387904 4607182418800017408] w fun e w' => e = .returned (.tuple #[.int .i64 4, .int .i64 0]) ∧ w = w') := hide (fun w => by
    rw [← w_21, ← w_m1]
    exact Hops_yes (-1) 0 2 1 ⟨by decide, by decide⟩ ⟨by decide, by decide⟩ ⟨by decide, by decide⟩ ⟨by decide, by decide⟩ w)
  have o1 : (FloatKind.f64.format.order 4611686018427387904 4611686018427387904 == some .eq) = true := by decide +kernel
  have o2 : (FloatKind.f64.format.order 4607182418800017408 4607182418800017408 == some .eq) = true := by decide +kernel
  go_enter Try.func9, Try.ntmps9
  go_wp2_with fail
  refine (P.out _).mono ?_
  rintro e w1 ⟨rfl, rfl⟩
  go_wp2_with fail
  refine (H.out _).mono ?_
  rintro e w1 ⟨rfl, rfl⟩
  go_wp2
  go_ret
  exact ⟨rfl, rfl⟩
theorem places (n : Int) (w : World) : Calls Try.prog 3 #[.int .i64 n] w fun e w' => e = .returned (.bool true) ∧ Below w.heap.size w w' := by
  obtain ⟨x, y, er, ⟨x0, x1, y0, y1⟩, P, R⟩ := place_both n
  have P' := hide P
  have R' := hide R
  have o1 := ord_self x (by omega)
  have o2 := ord_self y (by omega)
  have PL := hide (fun w => place_any x y w)
  clear P R x0 x1 y0 y1
  unfold plW at *
  generalize fl x = s at *
  generalize fl y = t at *
  go_enter Try.func3, Try.ntmps3
  go_wp2_with fail
  refine (P'.out _).mono ?_
  rintro e w1 ⟨rfl, rfl⟩
  go_wp2_with fail
  refine (R'.out _).mono ?_
  rintro e w1 ⟨rfl, rfl⟩
  go_wp2_with fail
  refine (PL.out _).mono ?_
  rintro e w1 ⟨rfl, rfl⟩
  go_wp2_with fail
  refine (works_any _).mono ?_
  rintro e w1 ⟨rfl, rfl⟩
  go_wp2
  go_ret
  exact ⟨rfl, Below.refl _ _⟩
end Go.Proofs.Ytiedahchpkfmgaa.GPlaces
