/-
  GridKnown walked: the document's examples. It returns true.
-/
import Derived.Test.YtiedahchpkfmgaaGWays
namespace Go.Proofs.Ytiedahchpkfmgaa.GKnown
open Go Ieee Go.RowKit Base Fl GAbs GWalk GPlaces Words GStep GWay GRef GWays
set_option linter.unusedVariables false
set_option linter.unusedSimpArgs false

theorem is_half (w : World) : Calls Try.prog 16 #[.complex .f64 4602678819172646912 0] w fun e w' => e = .returned (.bool false) ∧ w = w' := by
  have T : Hid (∀ w, Calls Try.prog 23 #[.float .f64 4602678819172646912] w fun e w' => e = .returned (.float .f64 0) ∧ w = w') :=
    hide (fun w => trunc_any 4602678819172646912 false 4503599627370496 (-53) (by decide +kernel) 0 (by decide +kernel) w)
  have o1 : (FloatKind.f64.format.order 4602678819172646912 0 == some .eq) = false := by decide +kernel
  have W : Hid (∀ w, Calls Try.prog 20 #[.float .f64 4602678819172646912] w fun e w' => e = .returned (.bool false) ∧ w = w') := hide (fun w => by
    go_enter Try.func20, Try.ntmps20
    go_wp2_with fail
    refine (T.out _).mono ?_
    rintro e w1 ⟨rfl, rfl⟩
    go_wp2
    go_ret
    exact ⟨rfl, rfl⟩)
  go_enter Try.func16, Try.ntmps16
  go_wp2_with fail
  refine (W.out _).mono ?_
  rintro e w1 ⟨rfl, rfl⟩
  go_wp2
  go_ret
  exact ⟨rfl, rfl⟩
theorem Turn_no (w : World) : Calls Try.prog 15 #[.complex .f64 4602678819172646912 0, .int .i64 0] w fun e w' => e = .returned (.tuple #[.complex .f64 0 0, .int .i64 2]) ∧ w = w' := by
  go_enter Try.func15, Try.ntmps15
  go_wp2_with fail
  refine (is_half _).mono ?_
  rintro e w1 ⟨rfl, rfl⟩
  go_wp2
  go_ret2
  exact ⟨rfl, rfl⟩
/-- So many quarters. -/
theorem Turn_of (zr zi : Nat → Nat) (N : Nat) (q : Int) (hq : bits .and .i64 q 3 = (N : Int)) (hN : N ≤ 3)
    (hs : ∀ k, k < N → cMulBits (zr k) (zi k) 0 4607182418800017408 = some (zr (k + 1), zi (k + 1)))
    (hi : ∀ w, Calls Try.prog 16 #[.complex .f64 (zr 0) (zi 0)] w fun e w' => e = .returned (.bool true) ∧ w = w') (w : World) :
    Calls Try.prog 15 #[.complex .f64 (zr 0) (zi 0), .int .i64 q] w fun e w' => e = .returned (.tuple #[.complex .f64 (zr N) (zi N), .int .i64 0]) ∧ w = w' := by
  have I := hide hi
  clear hi
  go_enter Try.func15, Try.ntmps15
  go_wp2_with fail
  refine (I.out _).mono ?_
  rintro e w1 ⟨rfl, rfl⟩
  go_wp2_with fail
  go_loop [0, 11] (fun z i => ∃ k : Nat, k ≤ N ∧ i = .int .i64 k ∧ z = .complex .f64 (zr k) (zi k)) (fun _ i => N - (intOf i).toNat)
  case atStart => exact ⟨0, by omega, rfl, rfl⟩
  case round =>
    obtain ⟨k, hk, rfl, rfl⟩ := hrel
    by_cases hlt : k < N
    · have hm := fun w => run_complex_mul (P := Try.prog) w 22 _ _ _ _ _ _ (hs k hlt)
      have hlt' : (k : Int) < (N : Int) := by omega
      go_wp2_with fail
      go_round
      case rel => exact ⟨k + 1, by omega, by go_num, rfl⟩
      case measure => simp [intOf]; omega
    · obtain rfl : k = N := by omega
      go_wp2_with fail
      go_ret2
      exact ⟨rfl, rfl⟩
def zr : Nat → Nat
  | 0 => 4611686018427387904
  | 1 => 13830554455654793216
  | 2 => 13835058055282163712
  | _ => 4607182418800017408
def zi : Nat → Nat
  | 0 => 4607182418800017408
  | 1 => 4611686018427387904
  | 2 => 13830554455654793216
  | _ => 13835058055282163712
theorem z_step : ∀ k : Fin 3, cMulBits (zr k.val) (zi k.val) 0 4607182418800017408 = some (zr (k.val + 1), zi (k.val + 1)) := by decide +kernel
theorem is_21 (w : World) : Calls Try.prog 16 #[.complex .f64 (zr 0) (zi 0)] w fun e w' => e = .returned (.bool true) ∧ w = w' := by
  have := is_any 2 1 (by decide) (by decide) (by decide) (by decide) w
  rw [w_21] at this
  exact this
theorem Turn_1 (w : World) : Calls Try.prog 15 #[.complex .f64 4611686018427387904 4607182418800017408, .int .i64 1] w fun e w' => e = .returned (.tuple #[.complex .f64 13830554455654793216 4611686018427387904, .int .i64 0]) ∧ w = w' :=
  Turn_of zr zi 1 1 (by decide +kernel) (by decide) (fun k hk => z_step ⟨k, by omega⟩) is_21 w
theorem Turn_3 (w : World) : Calls Try.prog 15 #[.complex .f64 4611686018427387904 4607182418800017408, .int .i64 (-1)] w fun e w' => e = .returned (.tuple #[.complex .f64 4607182418800017408 13835058055282163712, .int .i64 0]) ∧ w = w' :=
  Turn_of zr zi 3 (-1) (by decide +kernel) (by decide) (fun k hk => z_step ⟨k, by omega⟩) is_21 w
theorem Place_m1 (w : World) : Calls Try.prog 6 #[.int .i64 (-1)] w fun e w' => e = .returned (.tuple #[.complex .f64 13830554455654793216 0, .int .i64 0]) ∧ w = w' := by
  go_enter Try.func6, Try.ntmps6
  go_wp2
  go_ret2
  exact ⟨rfl, rfl⟩
theorem Place_16 (w : World) : Calls Try.prog 6 #[.int .i64 16] w fun e w' => e = .returned (.tuple #[.complex .f64 0 0, .int .i64 5]) ∧ w = w' := by
  go_enter Try.func6, Try.ntmps6
  go_wp2
  go_ret2
  exact ⟨rfl, rfl⟩
theorem w_10 : plW 1 0 = .complex .f64 4607182418800017408 0 := by unfold plW; rw [one_fl, zero_fl]
theorem w_20 : plW 2 0 = .complex .f64 4611686018427387904 0 := by
  have h1 : fl 2 = 4611686018427387904 := by decide +kernel
  unfold plW; rw [h1, zero_fl]
theorem Way_12 (w : World) : Calls Try.prog 11 #[.complex .f64 4607182418800017408 0, .complex .f64 4611686018427387904 4607182418800017408] w fun e w' =>
    ∃ g cap, 2 ≤ cap ∧ e = .returned (.tuple #[.slice (some ⟨g, 0, none⟩) 2 cap, .int .i64 0]) ∧ w'.cell? ⟨g, 0, none⟩ = some (.complex .f64 4611686018427387904 0) ∧ w'.cell? ⟨g, 1, none⟩ = some (.complex .f64 4611686018427387904 4607182418800017408) ∧ Below w.heap.size w w' := by
  have W := Way_ok 1 0 2 1 ⟨by decide, by decide⟩ ⟨by decide, by decide⟩ ⟨by decide, by decide⟩ ⟨by decide, by decide⟩ (by decide) w
  rw [w_10, w_21] at W
  refine W.mono ?_
  rintro e w' ⟨v, rfl, own, hb⟩
  obtain ⟨A, cap, g, rfl, hc, hA, hcell⟩ := own_shape own
  have hN : wayN 1 0 2 1 = 2 := by decide
  have l0 := wayL_at 1 0 2 1 0 (by decide)
  have l1 := wayL_at 1 0 2 1 1 (by decide)
  rw [show px 1 2 0 = 2 by decide, show py 1 0 2 1 0 = 0 by decide, w_20] at l0
  rw [show px 1 2 1 = 2 by decide, show py 1 0 2 1 1 = 1 by decide, w_21] at l1
  rw [hN] at hc hA hcell ⊢
  obtain rfl := hA (by decide)
  exact ⟨g, cap, hc, rfl, (hcell (by decide)).2 _ _ l0, (hcell (by decide)).2 _ _ l1, hb⟩
theorem known (w : World) : Calls Try.prog 5 #[] w fun e w' => e = .returned (.bool true) ∧ Below w.heap.size w w' := by
  have q1 : (FloatKind.f64.format.order 13830554455654793216 13830554455654793216 == some .eq) = true := by decide +kernel
  have q2 : (FloatKind.f64.format.order 0 0 == some .eq) = true := by decide +kernel
  have q3 : (FloatKind.f64.format.order 4611686018427387904 4611686018427387904 == some .eq) = true := by decide +kernel
  have q4 : (FloatKind.f64.format.order 4607182418800017408 4607182418800017408 == some .eq) = true := by decide +kernel
  have q5 : (FloatKind.f64.format.order 13835058055282163712 13835058055282163712 == some .eq) = true := by decide +kernel
  go_enter Try.func5, Try.ntmps5
  go_wp2_with fail
  refine (Place_m1 _).mono ?_
  rintro e w1 ⟨rfl, rfl⟩
  go_wp2_with fail
  refine (Place_16 _).mono ?_
  rintro e w1 ⟨rfl, rfl⟩
  go_wp2_with fail
  refine (Turn_1 _).mono ?_
  rintro e w1 ⟨rfl, rfl⟩
  go_wp2_with fail
  refine (Turn_3 _).mono ?_
  rintro e w1 ⟨rfl, rfl⟩
  go_wp2_with fail
  refine (Turn_no _).mono ?_
  rintro e w1 ⟨rfl, rfl⟩
  go_wp2_with fail
  refine (Way_12 _).mono ?_
  rintro e w2 ⟨g, cap, hcap, rfl, k0, k1, hb⟩
  have HB := hide hb
  clear hb
  go_wp2_with fail
  refine (works_any _).mono ?_
  rintro e w3 ⟨rfl, rfl⟩
  go_wp2_with fail
  go_ret
  exact ⟨rfl, HB.out⟩
end Go.Proofs.Ytiedahchpkfmgaa.GKnown
