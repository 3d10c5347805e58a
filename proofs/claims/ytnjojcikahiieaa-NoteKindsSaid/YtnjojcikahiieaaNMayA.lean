/-
  May of the program walked: kinds that use 3, 41, 2.
-/
import Derived.Test.YtnjojcikahiieaaNMaySt
namespace Go.Proofs.Ytnjojcikahiieaa.NMayA
open Go.RowKit Base Blks NRec NSmall NLaw NMaySt
set_option linter.unusedVariables false
set_option linter.unusedSimpArgs false
set_option maxRecDepth 100000
theorem may_3_true_tt (n : NT) (h0 : 1 ≤ n.K) (h1 : n.K ≤ 11) (b0 : 0 ≤ n.B) (b1 : n.B ≤ 255) (hu : usesN n.K = 3) (hh : n.Ha = true) (hc : coreB n.Fr = true) (ha : (n.To == -1) = true) (w : World) :
    Calls Try.prog 20 #[.agg (ntL n).toArray] w fun e w' => e = .returned (.bool (eqN n { n with S := 0, Sk := false, Ha := false })) ∧ Below w.heap.size w w' := by
  have N0 := hide (NAt.new w n)
  obtain ⟨y0, y1, y2, y3, y4, y5, y6, y7⟩ := N0.out.cells
  have KI := hide (kind_any n.K (w.alloc (.cells (ntL n).toArray 29)) (by omega) (by omega))
  rw [show kindB n.K = true by simp [kindB]; omega] at KI
  have US := hide (fun w => uses_any n.K w h0 h1)
  rw [hu] at US
  have CO := hide (fun w => core_any n.Fr w)
  rw [hc] at CO
  have HH := hide hh
  have EQ := fun (w : World) => eq_note n { n with S := 0, Sk := false, Ha := false } w
  have EG : Try.prog.eqGuardType Try.prog.depth 29 = false := by kernel_rfl
  clear hu h0 h1 hc hh
  go_enter Try.func20, Try.ntmps20
  go_wp2_with fail
  refine KI.out.mono ?_
  rintro e wx ⟨rfl, rfl⟩
  go_wp2_with fail
  refine (US.out _).mono ?_
  rintro e w2 ⟨rfl, hb2⟩
  have hb := hide (((Below.refl w.heap.size w).alloc (Nat.le_refl _) (.cells (ntL n).toArray 29)).trans (hb2.mono (by simp)))
  have N4 := hide (N0.out.below hb2 (by simp))
  have hb4 := hb
  clear y0 y1 y2 y3 y4 y5 y6 y7 KI US hb2 N0 hb
  obtain ⟨w4, rfl⟩ : ∃ w4 : World, w4 = w2 := ⟨_, rfl⟩
  obtain ⟨y0, y1, y2, y3, y4, y5, y6, y7⟩ := N4.out.cells
  go_wp2_with fail
  go_quiet (fail)
  have N5 := hide (N4.out.drewN nq)
  have hb5 := hide (bdrewN hb4.out nq)
  clear y0 y1 y2 y3 y4 y5 y6 y7 N4 hb4
  generalize w4.drewN nq = w5 at *
  have N4 := N5
  have hb4 := hb5
  clear N5 hb5
  obtain ⟨w4, rfl⟩ : ∃ w4 : World, w4 = w5 := ⟨_, rfl⟩
  obtain ⟨y0, y1, y2, y3, y4, y5, y6, y7⟩ := N4.out.cells
  go_wp2_with fail
  go_quiet (fail)
  have N5 := hide (N4.out.drewN nq)
  have hb5 := hide (bdrewN hb4.out nq)
  clear y0 y1 y2 y3 y4 y5 y6 y7 N4 hb4
  generalize w4.drewN nq = w5 at *
  have N4 := N5
  have hb4 := hb5
  clear N5 hb5
  obtain ⟨w4, rfl⟩ : ∃ w4 : World, w4 = w5 := ⟨_, rfl⟩
  have S5 : Hid (MSt w (w4.alloc (.cells (ntL n).toArray 29)) w.heap.size w4.heap.size n n) :=
    hide ⟨N4.out.alloc _, NAt.new w4 n, hb4.out.alloc hb4.out.size _, hb4.out.size, by have := N4.out.lt; omega⟩
  go_upto_region 8 with (first
    | ((with_reducible refine load_note rfl (.tmp 1) rfl w.heap.size rfl N4.out ?_))
    | ((with_reducible refine alloc_note rfl rfl w4.heap.size rfl ?_))
    | ((with_reducible refine store_note_last rfl _ _ rfl _ w4.heap.size rfl rfl rfl ?_)))
  clear N4 hb4
  generalize w4.alloc (.cells (ntL n).toArray 29) = w5 at *
  generalize w4.heap.size = W at *
  obtain ⟨y0, y1, y2, y3, y4, y5, y6, y7⟩ := S5.out.N.cells
  obtain ⟨z0, z1, z2, z3, z4, z5, z6, z7⟩ := S5.out.M.cells
  have fz := S5.out.M.frozen
  rw [HH.out] at y6
  go_upto_region 14 with fail
  have S6 := hide (S5.out.setS 0)
  clear fz y0 y1 y2 y3 y4 y5 y6 y7 z0 z1 z2 z3 z4 z5 z6 z7 S5
  generalize w5.setCell ⟨W, 5, none⟩ (.int .u8 0) = w6 at *
  have S5 := S6
  clear S6
  obtain ⟨w5, rfl⟩ : ∃ w5 : World, w5 = w6 := ⟨_, rfl⟩
  obtain ⟨y0, y1, y2, y3, y4, y5, y6, y7⟩ := S5.out.N.cells
  obtain ⟨z0, z1, z2, z3, z4, z5, z6, z7⟩ := S5.out.M.cells
  have fz := S5.out.M.frozen
  rw [HH.out] at y6
  go_upto_region 16 with fail
  have S6 := hide (S5.out.setSk false)
  clear fz y0 y1 y2 y3 y4 y5 y6 y7 z0 z1 z2 z3 z4 z5 z6 z7 S5
  generalize w5.setCell ⟨W, 7, none⟩ (.bool false) = w6 at *
  have S5 := S6
  clear S6
  obtain ⟨w5, rfl⟩ : ∃ w5 : World, w5 = w6 := ⟨_, rfl⟩
  obtain ⟨y0, y1, y2, y3, y4, y5, y6, y7⟩ := S5.out.N.cells
  obtain ⟨z0, z1, z2, z3, z4, z5, z6, z7⟩ := S5.out.M.cells
  have fz := S5.out.M.frozen
  rw [HH.out] at y6
  go_upto_region 20 with fail
  have S6 := hide (S5.out.setHa false)
  clear fz y0 y1 y2 y3 y4 y5 y6 y7 z0 z1 z2 z3 z4 z5 z6 z7 S5
  generalize w5.setCell ⟨W, 6, none⟩ (.bool false) = w6 at *
  have S5 := S6
  clear S6
  obtain ⟨w5, rfl⟩ : ∃ w5 : World, w5 = w6 := ⟨_, rfl⟩
  obtain ⟨y0, y1, y2, y3, y4, y5, y6, y7⟩ := S5.out.N.cells
  rw [HH.out] at y6
  go_wp2_with fail
  refine (CO.out _).mono ?_
  rintro e wx ⟨rfl, rfl⟩
  go_wp2_with (first
    | ((refine load_note_g (by rfl) (.tmp 1) rfl w.heap.size rfl S5.out.N ?_))
    | ((refine load_note_g (by rfl) (.tmp 6) rfl W rfl S5.out.M ?_)))
  go_ret
  exact ⟨rfl, S5.out.bel⟩
theorem may_3_true_tf (n : NT) (h0 : 1 ≤ n.K) (h1 : n.K ≤ 11) (b0 : 0 ≤ n.B) (b1 : n.B ≤ 255) (hu : usesN n.K = 3) (hh : n.Ha = true) (hc : coreB n.Fr = true) (ha : (n.To == -1) = false) (w : World) :
    Calls Try.prog 20 #[.agg (ntL n).toArray] w fun e w' => e = .returned (.bool (false)) ∧ Below w.heap.size w w' := by
  have N0 := hide (NAt.new w n)
  obtain ⟨y0, y1, y2, y3, y4, y5, y6, y7⟩ := N0.out.cells
  have KI := hide (kind_any n.K (w.alloc (.cells (ntL n).toArray 29)) (by omega) (by omega))
  rw [show kindB n.K = true by simp [kindB]; omega] at KI
  have US := hide (fun w => uses_any n.K w h0 h1)
  rw [hu] at US
  have CO := hide (fun w => core_any n.Fr w)
  rw [hc] at CO
  have HH := hide hh
  clear hu h0 h1 hc hh
  go_enter Try.func20, Try.ntmps20
  go_wp2_with fail
  refine KI.out.mono ?_
  rintro e wx ⟨rfl, rfl⟩
  go_wp2_with fail
  refine (US.out _).mono ?_
  rintro e w2 ⟨rfl, hb2⟩
  have hb := hide (((Below.refl w.heap.size w).alloc (Nat.le_refl _) (.cells (ntL n).toArray 29)).trans (hb2.mono (by simp)))
  have N4 := hide (N0.out.below hb2 (by simp))
  have hb4 := hb
  clear y0 y1 y2 y3 y4 y5 y6 y7 KI US hb2 N0 hb
  obtain ⟨w4, rfl⟩ : ∃ w4 : World, w4 = w2 := ⟨_, rfl⟩
  obtain ⟨y0, y1, y2, y3, y4, y5, y6, y7⟩ := N4.out.cells
  go_wp2_with fail
  go_quiet (fail)
  have N5 := hide (N4.out.drewN nq)
  have hb5 := hide (bdrewN hb4.out nq)
  clear y0 y1 y2 y3 y4 y5 y6 y7 N4 hb4
  generalize w4.drewN nq = w5 at *
  have N4 := N5
  have hb4 := hb5
  clear N5 hb5
  obtain ⟨w4, rfl⟩ : ∃ w4 : World, w4 = w5 := ⟨_, rfl⟩
  obtain ⟨y0, y1, y2, y3, y4, y5, y6, y7⟩ := N4.out.cells
  go_wp2_with fail
  go_quiet (fail)
  have N5 := hide (N4.out.drewN nq)
  have hb5 := hide (bdrewN hb4.out nq)
  clear y0 y1 y2 y3 y4 y5 y6 y7 N4 hb4
  generalize w4.drewN nq = w5 at *
  have N4 := N5
  have hb4 := hb5
  clear N5 hb5
  obtain ⟨w4, rfl⟩ : ∃ w4 : World, w4 = w5 := ⟨_, rfl⟩
  have S5 : Hid (MSt w (w4.alloc (.cells (ntL n).toArray 29)) w.heap.size w4.heap.size n n) :=
    hide ⟨N4.out.alloc _, NAt.new w4 n, hb4.out.alloc hb4.out.size _, hb4.out.size, by have := N4.out.lt; omega⟩
  go_upto_region 8 with (first
    | ((with_reducible refine load_note rfl (.tmp 1) rfl w.heap.size rfl N4.out ?_))
    | ((with_reducible refine alloc_note rfl rfl w4.heap.size rfl ?_))
    | ((with_reducible refine store_note_last rfl _ _ rfl _ w4.heap.size rfl rfl rfl ?_)))
  clear N4 hb4
  generalize w4.alloc (.cells (ntL n).toArray 29) = w5 at *
  generalize w4.heap.size = W at *
  obtain ⟨y0, y1, y2, y3, y4, y5, y6, y7⟩ := S5.out.N.cells
  obtain ⟨z0, z1, z2, z3, z4, z5, z6, z7⟩ := S5.out.M.cells
  have fz := S5.out.M.frozen
  rw [HH.out] at y6
  go_upto_region 14 with fail
  have S6 := hide (S5.out.setS 0)
  clear fz y0 y1 y2 y3 y4 y5 y6 y7 z0 z1 z2 z3 z4 z5 z6 z7 S5
  generalize w5.setCell ⟨W, 5, none⟩ (.int .u8 0) = w6 at *
  have S5 := S6
  clear S6
  obtain ⟨w5, rfl⟩ : ∃ w5 : World, w5 = w6 := ⟨_, rfl⟩
  obtain ⟨y0, y1, y2, y3, y4, y5, y6, y7⟩ := S5.out.N.cells
  obtain ⟨z0, z1, z2, z3, z4, z5, z6, z7⟩ := S5.out.M.cells
  have fz := S5.out.M.frozen
  rw [HH.out] at y6
  go_upto_region 16 with fail
  have S6 := hide (S5.out.setSk false)
  clear fz y0 y1 y2 y3 y4 y5 y6 y7 z0 z1 z2 z3 z4 z5 z6 z7 S5
  generalize w5.setCell ⟨W, 7, none⟩ (.bool false) = w6 at *
  have S5 := S6
  clear S6
  obtain ⟨w5, rfl⟩ : ∃ w5 : World, w5 = w6 := ⟨_, rfl⟩
  obtain ⟨y0, y1, y2, y3, y4, y5, y6, y7⟩ := S5.out.N.cells
  obtain ⟨z0, z1, z2, z3, z4, z5, z6, z7⟩ := S5.out.M.cells
  have fz := S5.out.M.frozen
  rw [HH.out] at y6
  go_upto_region 20 with fail
  have S6 := hide (S5.out.setHa false)
  clear fz y0 y1 y2 y3 y4 y5 y6 y7 z0 z1 z2 z3 z4 z5 z6 z7 S5
  generalize w5.setCell ⟨W, 6, none⟩ (.bool false) = w6 at *
  have S5 := S6
  clear S6
  obtain ⟨w5, rfl⟩ : ∃ w5 : World, w5 = w6 := ⟨_, rfl⟩
  obtain ⟨y0, y1, y2, y3, y4, y5, y6, y7⟩ := S5.out.N.cells
  rw [HH.out] at y6
  go_wp2_with fail
  refine (CO.out _).mono ?_
  rintro e wx ⟨rfl, rfl⟩
  go_wp2_with fail
  go_ret
  exact ⟨rfl, S5.out.bel⟩
theorem may_3_true_ff (n : NT) (h0 : 1 ≤ n.K) (h1 : n.K ≤ 11) (b0 : 0 ≤ n.B) (b1 : n.B ≤ 255) (hu : usesN n.K = 3) (hh : n.Ha = true) (hc : coreB n.Fr = false) (w : World) :
    Calls Try.prog 20 #[.agg (ntL n).toArray] w fun e w' => e = .returned (.bool (false)) ∧ Below w.heap.size w w' := by
  have N0 := hide (NAt.new w n)
  obtain ⟨y0, y1, y2, y3, y4, y5, y6, y7⟩ := N0.out.cells
  have KI := hide (kind_any n.K (w.alloc (.cells (ntL n).toArray 29)) (by omega) (by omega))
  rw [show kindB n.K = true by simp [kindB]; omega] at KI
  have US := hide (fun w => uses_any n.K w h0 h1)
  rw [hu] at US
  have CO := hide (fun w => core_any n.Fr w)
  rw [hc] at CO
  have HH := hide hh
  clear hu h0 h1 hc hh
  go_enter Try.func20, Try.ntmps20
  go_wp2_with fail
  refine KI.out.mono ?_
  rintro e wx ⟨rfl, rfl⟩
  go_wp2_with fail
  refine (US.out _).mono ?_
  rintro e w2 ⟨rfl, hb2⟩
  have hb := hide (((Below.refl w.heap.size w).alloc (Nat.le_refl _) (.cells (ntL n).toArray 29)).trans (hb2.mono (by simp)))
  have N4 := hide (N0.out.below hb2 (by simp))
  have hb4 := hb
  clear y0 y1 y2 y3 y4 y5 y6 y7 KI US hb2 N0 hb
  obtain ⟨w4, rfl⟩ : ∃ w4 : World, w4 = w2 := ⟨_, rfl⟩
  obtain ⟨y0, y1, y2, y3, y4, y5, y6, y7⟩ := N4.out.cells
  go_wp2_with fail
  go_quiet (fail)
  have N5 := hide (N4.out.drewN nq)
  have hb5 := hide (bdrewN hb4.out nq)
  clear y0 y1 y2 y3 y4 y5 y6 y7 N4 hb4
  generalize w4.drewN nq = w5 at *
  have N4 := N5
  have hb4 := hb5
  clear N5 hb5
  obtain ⟨w4, rfl⟩ : ∃ w4 : World, w4 = w5 := ⟨_, rfl⟩
  obtain ⟨y0, y1, y2, y3, y4, y5, y6, y7⟩ := N4.out.cells
  go_wp2_with fail
  go_quiet (fail)
  have N5 := hide (N4.out.drewN nq)
  have hb5 := hide (bdrewN hb4.out nq)
  clear y0 y1 y2 y3 y4 y5 y6 y7 N4 hb4
  generalize w4.drewN nq = w5 at *
  have N4 := N5
  have hb4 := hb5
  clear N5 hb5
  obtain ⟨w4, rfl⟩ : ∃ w4 : World, w4 = w5 := ⟨_, rfl⟩
  have S5 : Hid (MSt w (w4.alloc (.cells (ntL n).toArray 29)) w.heap.size w4.heap.size n n) :=
    hide ⟨N4.out.alloc _, NAt.new w4 n, hb4.out.alloc hb4.out.size _, hb4.out.size, by have := N4.out.lt; omega⟩
  go_upto_region 8 with (first
    | ((with_reducible refine load_note rfl (.tmp 1) rfl w.heap.size rfl N4.out ?_))
    | ((with_reducible refine alloc_note rfl rfl w4.heap.size rfl ?_))
    | ((with_reducible refine store_note_last rfl _ _ rfl _ w4.heap.size rfl rfl rfl ?_)))
  clear N4 hb4
  generalize w4.alloc (.cells (ntL n).toArray 29) = w5 at *
  generalize w4.heap.size = W at *
  obtain ⟨y0, y1, y2, y3, y4, y5, y6, y7⟩ := S5.out.N.cells
  obtain ⟨z0, z1, z2, z3, z4, z5, z6, z7⟩ := S5.out.M.cells
  have fz := S5.out.M.frozen
  rw [HH.out] at y6
  go_upto_region 14 with fail
  have S6 := hide (S5.out.setS 0)
  clear fz y0 y1 y2 y3 y4 y5 y6 y7 z0 z1 z2 z3 z4 z5 z6 z7 S5
  generalize w5.setCell ⟨W, 5, none⟩ (.int .u8 0) = w6 at *
  have S5 := S6
  clear S6
  obtain ⟨w5, rfl⟩ : ∃ w5 : World, w5 = w6 := ⟨_, rfl⟩
  obtain ⟨y0, y1, y2, y3, y4, y5, y6, y7⟩ := S5.out.N.cells
  obtain ⟨z0, z1, z2, z3, z4, z5, z6, z7⟩ := S5.out.M.cells
  have fz := S5.out.M.frozen
  rw [HH.out] at y6
  go_upto_region 16 with fail
  have S6 := hide (S5.out.setSk false)
  clear fz y0 y1 y2 y3 y4 y5 y6 y7 z0 z1 z2 z3 z4 z5 z6 z7 S5
  generalize w5.setCell ⟨W, 7, none⟩ (.bool false) = w6 at *
  have S5 := S6
  clear S6
  obtain ⟨w5, rfl⟩ : ∃ w5 : World, w5 = w6 := ⟨_, rfl⟩
  obtain ⟨y0, y1, y2, y3, y4, y5, y6, y7⟩ := S5.out.N.cells
  obtain ⟨z0, z1, z2, z3, z4, z5, z6, z7⟩ := S5.out.M.cells
  have fz := S5.out.M.frozen
  rw [HH.out] at y6
  go_upto_region 20 with fail
  have S6 := hide (S5.out.setHa false)
  clear fz y0 y1 y2 y3 y4 y5 y6 y7 z0 z1 z2 z3 z4 z5 z6 z7 S5
  generalize w5.setCell ⟨W, 6, none⟩ (.bool false) = w6 at *
  have S5 := S6
  clear S6
  obtain ⟨w5, rfl⟩ : ∃ w5 : World, w5 = w6 := ⟨_, rfl⟩
  obtain ⟨y0, y1, y2, y3, y4, y5, y6, y7⟩ := S5.out.N.cells
  rw [HH.out] at y6
  go_wp2_with fail
  refine (CO.out _).mono ?_
  rintro e wx ⟨rfl, rfl⟩
  go_wp2_with fail
  go_ret
  exact ⟨rfl, S5.out.bel⟩
theorem may_3_false_tt (n : NT) (h0 : 1 ≤ n.K) (h1 : n.K ≤ 11) (b0 : 0 ≤ n.B) (b1 : n.B ≤ 255) (hu : usesN n.K = 3) (hh : n.Ha = false) (hc : coreB n.Fr = true) (ha : (n.To == -1) = true) (w : World) :
    Calls Try.prog 20 #[.agg (ntL n).toArray] w fun e w' => e = .returned (.bool (eqN n { n with S := 0, Sk := false, Ha := false, f := fun _ => 0 })) ∧ Below w.heap.size w w' := by
  have N0 := hide (NAt.new w n)
  obtain ⟨y0, y1, y2, y3, y4, y5, y6, y7⟩ := N0.out.cells
  have KI := hide (kind_any n.K (w.alloc (.cells (ntL n).toArray 29)) (by omega) (by omega))
  rw [show kindB n.K = true by simp [kindB]; omega] at KI
  have US := hide (fun w => uses_any n.K w h0 h1)
  rw [hu] at US
  have CO := hide (fun w => core_any n.Fr w)
  rw [hc] at CO
  have HH := hide hh
  have EQ := fun (w : World) => eq_note n { n with S := 0, Sk := false, Ha := false, f := fun _ => 0 } w
  have EG : Try.prog.eqGuardType Try.prog.depth 29 = false := by kernel_rfl
  clear hu h0 h1 hc hh
  go_enter Try.func20, Try.ntmps20
  go_wp2_with fail
  refine KI.out.mono ?_
  rintro e wx ⟨rfl, rfl⟩
  go_wp2_with fail
  refine (US.out _).mono ?_
  rintro e w2 ⟨rfl, hb2⟩
  have hb := hide (((Below.refl w.heap.size w).alloc (Nat.le_refl _) (.cells (ntL n).toArray 29)).trans (hb2.mono (by simp)))
  have N4 := hide (N0.out.below hb2 (by simp))
  have hb4 := hb
  clear y0 y1 y2 y3 y4 y5 y6 y7 KI US hb2 N0 hb
  obtain ⟨w4, rfl⟩ : ∃ w4 : World, w4 = w2 := ⟨_, rfl⟩
  obtain ⟨y0, y1, y2, y3, y4, y5, y6, y7⟩ := N4.out.cells
  go_wp2_with fail
  go_quiet (fail)
  have N5 := hide (N4.out.drewN nq)
  have hb5 := hide (bdrewN hb4.out nq)
  clear y0 y1 y2 y3 y4 y5 y6 y7 N4 hb4
  generalize w4.drewN nq = w5 at *
  have N4 := N5
  have hb4 := hb5
  clear N5 hb5
  obtain ⟨w4, rfl⟩ : ∃ w4 : World, w4 = w5 := ⟨_, rfl⟩
  obtain ⟨y0, y1, y2, y3, y4, y5, y6, y7⟩ := N4.out.cells
  go_wp2_with fail
  go_quiet (fail)
  have N5 := hide (N4.out.drewN nq)
  have hb5 := hide (bdrewN hb4.out nq)
  clear y0 y1 y2 y3 y4 y5 y6 y7 N4 hb4
  generalize w4.drewN nq = w5 at *
  have N4 := N5
  have hb4 := hb5
  clear N5 hb5
  obtain ⟨w4, rfl⟩ : ∃ w4 : World, w4 = w5 := ⟨_, rfl⟩
  have S5 : Hid (MSt w (w4.alloc (.cells (ntL n).toArray 29)) w.heap.size w4.heap.size n n) :=
    hide ⟨N4.out.alloc _, NAt.new w4 n, hb4.out.alloc hb4.out.size _, hb4.out.size, by have := N4.out.lt; omega⟩
  go_upto_region 8 with (first
    | ((with_reducible refine load_note rfl (.tmp 1) rfl w.heap.size rfl N4.out ?_))
    | ((with_reducible refine alloc_note rfl rfl w4.heap.size rfl ?_))
    | ((with_reducible refine store_note_last rfl _ _ rfl _ w4.heap.size rfl rfl rfl ?_)))
  clear N4 hb4
  generalize w4.alloc (.cells (ntL n).toArray 29) = w5 at *
  generalize w4.heap.size = W at *
  obtain ⟨y0, y1, y2, y3, y4, y5, y6, y7⟩ := S5.out.N.cells
  obtain ⟨z0, z1, z2, z3, z4, z5, z6, z7⟩ := S5.out.M.cells
  have fz := S5.out.M.frozen
  rw [HH.out] at y6
  go_upto_region 14 with fail
  have S6 := hide (S5.out.setS 0)
  clear fz y0 y1 y2 y3 y4 y5 y6 y7 z0 z1 z2 z3 z4 z5 z6 z7 S5
  generalize w5.setCell ⟨W, 5, none⟩ (.int .u8 0) = w6 at *
  have S5 := S6
  clear S6
  obtain ⟨w5, rfl⟩ : ∃ w5 : World, w5 = w6 := ⟨_, rfl⟩
  obtain ⟨y0, y1, y2, y3, y4, y5, y6, y7⟩ := S5.out.N.cells
  obtain ⟨z0, z1, z2, z3, z4, z5, z6, z7⟩ := S5.out.M.cells
  have fz := S5.out.M.frozen
  rw [HH.out] at y6
  go_upto_region 16 with fail
  have S6 := hide (S5.out.setSk false)
  clear fz y0 y1 y2 y3 y4 y5 y6 y7 z0 z1 z2 z3 z4 z5 z6 z7 S5
  generalize w5.setCell ⟨W, 7, none⟩ (.bool false) = w6 at *
  have S5 := S6
  clear S6
  obtain ⟨w5, rfl⟩ : ∃ w5 : World, w5 = w6 := ⟨_, rfl⟩
  obtain ⟨y0, y1, y2, y3, y4, y5, y6, y7⟩ := S5.out.N.cells
  obtain ⟨z0, z1, z2, z3, z4, z5, z6, z7⟩ := S5.out.M.cells
  have fz := S5.out.M.frozen
  rw [HH.out] at y6
  go_upto_region 20 with fail
  have S6 := hide (S5.out.setHa false)
  clear fz y0 y1 y2 y3 y4 y5 y6 y7 z0 z1 z2 z3 z4 z5 z6 z7 S5
  generalize w5.setCell ⟨W, 6, none⟩ (.bool false) = w6 at *
  have S5 := S6
  clear S6
  obtain ⟨w5, rfl⟩ : ∃ w5 : World, w5 = w6 := ⟨_, rfl⟩
  obtain ⟨y0, y1, y2, y3, y4, y5, y6, y7⟩ := S5.out.N.cells
  obtain ⟨z0, z1, z2, z3, z4, z5, z6, z7⟩ := S5.out.M.cells
  have fz := S5.out.M.frozen
  rw [HH.out] at y6
  go_upto_region 22 with (first
    | ((with_reducible refine Great.wpList_readTo rfl (some 67) rfl (.agg (blk (fun _ => 0)).toArray) ?_ ?_); (· as_aux_lemma => kernel_rfl))
    | ((with_reducible refine store_data rfl _ _ rfl W rfl (fun _ => 0) rfl S5.out.M ?_)))
  have S6 := hide (S5.out.setData (fun _ => 0))
  clear fz y0 y1 y2 y3 y4 y5 y6 y7 z0 z1 z2 z3 z4 z5 z6 z7 S5
  generalize w5.setCells W 8 (blk (fun _ => 0)) = w6 at *
  have S5 := S6
  clear S6
  obtain ⟨w5, rfl⟩ : ∃ w5 : World, w5 = w6 := ⟨_, rfl⟩
  go_wp2_with fail
  refine (CO.out _).mono ?_
  rintro e wx ⟨rfl, rfl⟩
  go_wp2_with (first
    | ((refine load_note_g (by rfl) (.tmp 1) rfl w.heap.size rfl S5.out.N ?_))
    | ((refine load_note_g (by rfl) (.tmp 6) rfl W rfl S5.out.M ?_)))
  go_ret
  exact ⟨rfl, S5.out.bel⟩
theorem may_3_false_tf (n : NT) (h0 : 1 ≤ n.K) (h1 : n.K ≤ 11) (b0 : 0 ≤ n.B) (b1 : n.B ≤ 255) (hu : usesN n.K = 3) (hh : n.Ha = false) (hc : coreB n.Fr = true) (ha : (n.To == -1) = false) (w : World) :
    Calls Try.prog 20 #[.agg (ntL n).toArray] w fun e w' => e = .returned (.bool (false)) ∧ Below w.heap.size w w' := by
  have N0 := hide (NAt.new w n)
  obtain ⟨y0, y1, y2, y3, y4, y5, y6, y7⟩ := N0.out.cells
  have KI := hide (kind_any n.K (w.alloc (.cells (ntL n).toArray 29)) (by omega) (by omega))
  rw [show kindB n.K = true by simp [kindB]; omega] at KI
  have US := hide (fun w => uses_any n.K w h0 h1)
  rw [hu] at US
  have CO := hide (fun w => core_any n.Fr w)
  rw [hc] at CO
  have HH := hide hh
  clear hu h0 h1 hc hh
  go_enter Try.func20, Try.ntmps20
  go_wp2_with fail
  refine KI.out.mono ?_
  rintro e wx ⟨rfl, rfl⟩
  go_wp2_with fail
  refine (US.out _).mono ?_
  rintro e w2 ⟨rfl, hb2⟩
  have hb := hide (((Below.refl w.heap.size w).alloc (Nat.le_refl _) (.cells (ntL n).toArray 29)).trans (hb2.mono (by simp)))
  have N4 := hide (N0.out.below hb2 (by simp))
  have hb4 := hb
  clear y0 y1 y2 y3 y4 y5 y6 y7 KI US hb2 N0 hb
  obtain ⟨w4, rfl⟩ : ∃ w4 : World, w4 = w2 := ⟨_, rfl⟩
  obtain ⟨y0, y1, y2, y3, y4, y5, y6, y7⟩ := N4.out.cells
  go_wp2_with fail
  go_quiet (fail)
  have N5 := hide (N4.out.drewN nq)
  have hb5 := hide (bdrewN hb4.out nq)
  clear y0 y1 y2 y3 y4 y5 y6 y7 N4 hb4
  generalize w4.drewN nq = w5 at *
  have N4 := N5
  have hb4 := hb5
  clear N5 hb5
  obtain ⟨w4, rfl⟩ : ∃ w4 : World, w4 = w5 := ⟨_, rfl⟩
  obtain ⟨y0, y1, y2, y3, y4, y5, y6, y7⟩ := N4.out.cells
  go_wp2_with fail
  go_quiet (fail)
  have N5 := hide (N4.out.drewN nq)
  have hb5 := hide (bdrewN hb4.out nq)
  clear y0 y1 y2 y3 y4 y5 y6 y7 N4 hb4
  generalize w4.drewN nq = w5 at *
  have N4 := N5
  have hb4 := hb5
  clear N5 hb5
  obtain ⟨w4, rfl⟩ : ∃ w4 : World, w4 = w5 := ⟨_, rfl⟩
  have S5 : Hid (MSt w (w4.alloc (.cells (ntL n).toArray 29)) w.heap.size w4.heap.size n n) :=
    hide ⟨N4.out.alloc _, NAt.new w4 n, hb4.out.alloc hb4.out.size _, hb4.out.size, by have := N4.out.lt; omega⟩
  go_upto_region 8 with (first
    | ((with_reducible refine load_note rfl (.tmp 1) rfl w.heap.size rfl N4.out ?_))
    | ((with_reducible refine alloc_note rfl rfl w4.heap.size rfl ?_))
    | ((with_reducible refine store_note_last rfl _ _ rfl _ w4.heap.size rfl rfl rfl ?_)))
  clear N4 hb4
  generalize w4.alloc (.cells (ntL n).toArray 29) = w5 at *
  generalize w4.heap.size = W at *
  obtain ⟨y0, y1, y2, y3, y4, y5, y6, y7⟩ := S5.out.N.cells
  obtain ⟨z0, z1, z2, z3, z4, z5, z6, z7⟩ := S5.out.M.cells
  have fz := S5.out.M.frozen
  rw [HH.out] at y6
  go_upto_region 14 with fail
  have S6 := hide (S5.out.setS 0)
  clear fz y0 y1 y2 y3 y4 y5 y6 y7 z0 z1 z2 z3 z4 z5 z6 z7 S5
  generalize w5.setCell ⟨W, 5, none⟩ (.int .u8 0) = w6 at *
  have S5 := S6
  clear S6
  obtain ⟨w5, rfl⟩ : ∃ w5 : World, w5 = w6 := ⟨_, rfl⟩
  obtain ⟨y0, y1, y2, y3, y4, y5, y6, y7⟩ := S5.out.N.cells
  obtain ⟨z0, z1, z2, z3, z4, z5, z6, z7⟩ := S5.out.M.cells
  have fz := S5.out.M.frozen
  rw [HH.out] at y6
  go_upto_region 16 with fail
  have S6 := hide (S5.out.setSk false)
  clear fz y0 y1 y2 y3 y4 y5 y6 y7 z0 z1 z2 z3 z4 z5 z6 z7 S5
  generalize w5.setCell ⟨W, 7, none⟩ (.bool false) = w6 at *
  have S5 := S6
  clear S6
  obtain ⟨w5, rfl⟩ : ∃ w5 : World, w5 = w6 := ⟨_, rfl⟩
  obtain ⟨y0, y1, y2, y3, y4, y5, y6, y7⟩ := S5.out.N.cells
  obtain ⟨z0, z1, z2, z3, z4, z5, z6, z7⟩ := S5.out.M.cells
  have fz := S5.out.M.frozen
  rw [HH.out] at y6
  go_upto_region 20 with fail
  have S6 := hide (S5.out.setHa false)
  clear fz y0 y1 y2 y3 y4 y5 y6 y7 z0 z1 z2 z3 z4 z5 z6 z7 S5
  generalize w5.setCell ⟨W, 6, none⟩ (.bool false) = w6 at *
  have S5 := S6
  clear S6
  obtain ⟨w5, rfl⟩ : ∃ w5 : World, w5 = w6 := ⟨_, rfl⟩
  obtain ⟨y0, y1, y2, y3, y4, y5, y6, y7⟩ := S5.out.N.cells
  obtain ⟨z0, z1, z2, z3, z4, z5, z6, z7⟩ := S5.out.M.cells
  have fz := S5.out.M.frozen
  rw [HH.out] at y6
  go_upto_region 22 with (first
    | ((with_reducible refine Great.wpList_readTo rfl (some 67) rfl (.agg (blk (fun _ => 0)).toArray) ?_ ?_); (· as_aux_lemma => kernel_rfl))
    | ((with_reducible refine store_data rfl _ _ rfl W rfl (fun _ => 0) rfl S5.out.M ?_)))
  have S6 := hide (S5.out.setData (fun _ => 0))
  clear fz y0 y1 y2 y3 y4 y5 y6 y7 z0 z1 z2 z3 z4 z5 z6 z7 S5
  generalize w5.setCells W 8 (blk (fun _ => 0)) = w6 at *
  have S5 := S6
  clear S6
  obtain ⟨w5, rfl⟩ : ∃ w5 : World, w5 = w6 := ⟨_, rfl⟩
  go_wp2_with fail
  refine (CO.out _).mono ?_
  rintro e wx ⟨rfl, rfl⟩
  go_wp2_with fail
  go_ret
  exact ⟨rfl, S5.out.bel⟩
theorem may_3_false_ff (n : NT) (h0 : 1 ≤ n.K) (h1 : n.K ≤ 11) (b0 : 0 ≤ n.B) (b1 : n.B ≤ 255) (hu : usesN n.K = 3) (hh : n.Ha = false) (hc : coreB n.Fr = false) (w : World) :
    Calls Try.prog 20 #[.agg (ntL n).toArray] w fun e w' => e = .returned (.bool (false)) ∧ Below w.heap.size w w' := by
  have N0 := hide (NAt.new w n)
  obtain ⟨y0, y1, y2, y3, y4, y5, y6, y7⟩ := N0.out.cells
  have KI := hide (kind_any n.K (w.alloc (.cells (ntL n).toArray 29)) (by omega) (by omega))
  rw [show kindB n.K = true by simp [kindB]; omega] at KI
  have US := hide (fun w => uses_any n.K w h0 h1)
  rw [hu] at US
  have CO := hide (fun w => core_any n.Fr w)
  rw [hc] at CO
  have HH := hide hh
  clear hu h0 h1 hc hh
  go_enter Try.func20, Try.ntmps20
  go_wp2_with fail
  refine KI.out.mono ?_
  rintro e wx ⟨rfl, rfl⟩
  go_wp2_with fail
  refine (US.out _).mono ?_
  rintro e w2 ⟨rfl, hb2⟩
  have hb := hide (((Below.refl w.heap.size w).alloc (Nat.le_refl _) (.cells (ntL n).toArray 29)).trans (hb2.mono (by simp)))
  have N4 := hide (N0.out.below hb2 (by simp))
  have hb4 := hb
  clear y0 y1 y2 y3 y4 y5 y6 y7 KI US hb2 N0 hb
  obtain ⟨w4, rfl⟩ : ∃ w4 : World, w4 = w2 := ⟨_, rfl⟩
  obtain ⟨y0, y1, y2, y3, y4, y5, y6, y7⟩ := N4.out.cells
  go_wp2_with fail
  go_quiet (fail)
  have N5 := hide (N4.out.drewN nq)
  have hb5 := hide (bdrewN hb4.out nq)
  clear y0 y1 y2 y3 y4 y5 y6 y7 N4 hb4
  generalize w4.drewN nq = w5 at *
  have N4 := N5
  have hb4 := hb5
  clear N5 hb5
  obtain ⟨w4, rfl⟩ : ∃ w4 : World, w4 = w5 := ⟨_, rfl⟩
  obtain ⟨y0, y1, y2, y3, y4, y5, y6, y7⟩ := N4.out.cells
  go_wp2_with fail
  go_quiet (fail)
  have N5 := hide (N4.out.drewN nq)
  have hb5 := hide (bdrewN hb4.out nq)
  clear y0 y1 y2 y3 y4 y5 y6 y7 N4 hb4
  generalize w4.drewN nq = w5 at *
  have N4 := N5
  have hb4 := hb5
  clear N5 hb5
  obtain ⟨w4, rfl⟩ : ∃ w4 : World, w4 = w5 := ⟨_, rfl⟩
  have S5 : Hid (MSt w (w4.alloc (.cells (ntL n).toArray 29)) w.heap.size w4.heap.size n n) :=
    hide ⟨N4.out.alloc _, NAt.new w4 n, hb4.out.alloc hb4.out.size _, hb4.out.size, by have := N4.out.lt; omega⟩
  go_upto_region 8 with (first
    | ((with_reducible refine load_note rfl (.tmp 1) rfl w.heap.size rfl N4.out ?_))
    | ((with_reducible refine alloc_note rfl rfl w4.heap.size rfl ?_))
    | ((with_reducible refine store_note_last rfl _ _ rfl _ w4.heap.size rfl rfl rfl ?_)))
  clear N4 hb4
  generalize w4.alloc (.cells (ntL n).toArray 29) = w5 at *
  generalize w4.heap.size = W at *
  obtain ⟨y0, y1, y2, y3, y4, y5, y6, y7⟩ := S5.out.N.cells
  obtain ⟨z0, z1, z2, z3, z4, z5, z6, z7⟩ := S5.out.M.cells
  have fz := S5.out.M.frozen
  rw [HH.out] at y6
  go_upto_region 14 with fail
  have S6 := hide (S5.out.setS 0)
  clear fz y0 y1 y2 y3 y4 y5 y6 y7 z0 z1 z2 z3 z4 z5 z6 z7 S5
  generalize w5.setCell ⟨W, 5, none⟩ (.int .u8 0) = w6 at *
  have S5 := S6
  clear S6
  obtain ⟨w5, rfl⟩ : ∃ w5 : World, w5 = w6 := ⟨_, rfl⟩
  obtain ⟨y0, y1, y2, y3, y4, y5, y6, y7⟩ := S5.out.N.cells
  obtain ⟨z0, z1, z2, z3, z4, z5, z6, z7⟩ := S5.out.M.cells
  have fz := S5.out.M.frozen
  rw [HH.out] at y6
  go_upto_region 16 with fail
  have S6 := hide (S5.out.setSk false)
  clear fz y0 y1 y2 y3 y4 y5 y6 y7 z0 z1 z2 z3 z4 z5 z6 z7 S5
  generalize w5.setCell ⟨W, 7, none⟩ (.bool false) = w6 at *
  have S5 := S6
  clear S6
  obtain ⟨w5, rfl⟩ : ∃ w5 : World, w5 = w6 := ⟨_, rfl⟩
  obtain ⟨y0, y1, y2, y3, y4, y5, y6, y7⟩ := S5.out.N.cells
  obtain ⟨z0, z1, z2, z3, z4, z5, z6, z7⟩ := S5.out.M.cells
  have fz := S5.out.M.frozen
  rw [HH.out] at y6
  go_upto_region 20 with fail
  have S6 := hide (S5.out.setHa false)
  clear fz y0 y1 y2 y3 y4 y5 y6 y7 z0 z1 z2 z3 z4 z5 z6 z7 S5
  generalize w5.setCell ⟨W, 6, none⟩ (.bool false) = w6 at *
  have S5 := S6
  clear S6
  obtain ⟨w5, rfl⟩ : ∃ w5 : World, w5 = w6 := ⟨_, rfl⟩
  obtain ⟨y0, y1, y2, y3, y4, y5, y6, y7⟩ := S5.out.N.cells
  obtain ⟨z0, z1, z2, z3, z4, z5, z6, z7⟩ := S5.out.M.cells
  have fz := S5.out.M.frozen
  rw [HH.out] at y6
  go_upto_region 22 with (first
    | ((with_reducible refine Great.wpList_readTo rfl (some 67) rfl (.agg (blk (fun _ => 0)).toArray) ?_ ?_); (· as_aux_lemma => kernel_rfl))
    | ((with_reducible refine store_data rfl _ _ rfl W rfl (fun _ => 0) rfl S5.out.M ?_)))
  have S6 := hide (S5.out.setData (fun _ => 0))
  clear fz y0 y1 y2 y3 y4 y5 y6 y7 z0 z1 z2 z3 z4 z5 z6 z7 S5
  generalize w5.setCells W 8 (blk (fun _ => 0)) = w6 at *
  have S5 := S6
  clear S6
  obtain ⟨w5, rfl⟩ : ∃ w5 : World, w5 = w6 := ⟨_, rfl⟩
  go_wp2_with fail
  refine (CO.out _).mono ?_
  rintro e wx ⟨rfl, rfl⟩
  go_wp2_with fail
  go_ret
  exact ⟨rfl, S5.out.bel⟩
theorem may_41_true_tt (n : NT) (h0 : 1 ≤ n.K) (h1 : n.K ≤ 11) (b0 : 0 ≤ n.B) (b1 : n.B ≤ 255) (hu : usesN n.K = 41) (hh : n.Ha = true) (hc : coreB n.Fr = true) (ha : (n.To == -1) = true) (w : World) :
    Calls Try.prog 20 #[.agg (ntL n).toArray] w fun e w' => e = .returned (.bool (eqN n { n with St := 0, S := 0, Ha := true })) ∧ Below w.heap.size w w' := by
  have N0 := hide (NAt.new w n)
  obtain ⟨y0, y1, y2, y3, y4, y5, y6, y7⟩ := N0.out.cells
  have KI := hide (kind_any n.K (w.alloc (.cells (ntL n).toArray 29)) (by omega) (by omega))
  rw [show kindB n.K = true by simp [kindB]; omega] at KI
  have US := hide (fun w => uses_any n.K w h0 h1)
  rw [hu] at US
  have CO := hide (fun w => core_any n.Fr w)
  rw [hc] at CO
  have HH := hide hh
  have EQ := fun (w : World) => eq_note n { n with St := 0, S := 0, Ha := true } w
  have EG : Try.prog.eqGuardType Try.prog.depth 29 = false := by kernel_rfl
  clear hu h0 h1 hc hh
  go_enter Try.func20, Try.ntmps20
  go_wp2_with fail
  refine KI.out.mono ?_
  rintro e wx ⟨rfl, rfl⟩
  go_wp2_with fail
  refine (US.out _).mono ?_
  rintro e w2 ⟨rfl, hb2⟩
  have hb := hide (((Below.refl w.heap.size w).alloc (Nat.le_refl _) (.cells (ntL n).toArray 29)).trans (hb2.mono (by simp)))
  have N4 := hide (N0.out.below hb2 (by simp))
  have hb4 := hb
  clear y0 y1 y2 y3 y4 y5 y6 y7 KI US hb2 N0 hb
  obtain ⟨w4, rfl⟩ : ∃ w4 : World, w4 = w2 := ⟨_, rfl⟩
  obtain ⟨y0, y1, y2, y3, y4, y5, y6, y7⟩ := N4.out.cells
  go_wp2_with fail
  go_quiet (fail)
  have N5 := hide (N4.out.drewN nq)
  have hb5 := hide (bdrewN hb4.out nq)
  clear y0 y1 y2 y3 y4 y5 y6 y7 N4 hb4
  generalize w4.drewN nq = w5 at *
  have N4 := N5
  have hb4 := hb5
  clear N5 hb5
  obtain ⟨w4, rfl⟩ : ∃ w4 : World, w4 = w5 := ⟨_, rfl⟩
  obtain ⟨y0, y1, y2, y3, y4, y5, y6, y7⟩ := N4.out.cells
  go_wp2_with fail
  go_quiet (fail)
  have N5 := hide (N4.out.drewN nq)
  have hb5 := hide (bdrewN hb4.out nq)
  clear y0 y1 y2 y3 y4 y5 y6 y7 N4 hb4
  generalize w4.drewN nq = w5 at *
  have N4 := N5
  have hb4 := hb5
  clear N5 hb5
  obtain ⟨w4, rfl⟩ : ∃ w4 : World, w4 = w5 := ⟨_, rfl⟩
  have S5 : Hid (MSt w (w4.alloc (.cells (ntL n).toArray 29)) w.heap.size w4.heap.size n n) :=
    hide ⟨N4.out.alloc _, NAt.new w4 n, hb4.out.alloc hb4.out.size _, hb4.out.size, by have := N4.out.lt; omega⟩
  go_upto_region 8 with (first
    | ((with_reducible refine load_note rfl (.tmp 1) rfl w.heap.size rfl N4.out ?_))
    | ((with_reducible refine alloc_note rfl rfl w4.heap.size rfl ?_))
    | ((with_reducible refine store_note_last rfl _ _ rfl _ w4.heap.size rfl rfl rfl ?_)))
  clear N4 hb4
  generalize w4.alloc (.cells (ntL n).toArray 29) = w5 at *
  generalize w4.heap.size = W at *
  obtain ⟨y0, y1, y2, y3, y4, y5, y6, y7⟩ := S5.out.N.cells
  obtain ⟨z0, z1, z2, z3, z4, z5, z6, z7⟩ := S5.out.M.cells
  have fz := S5.out.M.frozen
  rw [HH.out] at y6
  go_upto_region 10 with fail
  have S6 := hide (S5.out.setSt 0)
  clear fz y0 y1 y2 y3 y4 y5 y6 y7 z0 z1 z2 z3 z4 z5 z6 z7 S5
  generalize w5.setCell ⟨W, 4, none⟩ (.int .u64 0) = w6 at *
  have S5 := S6
  clear S6
  obtain ⟨w5, rfl⟩ : ∃ w5 : World, w5 = w6 := ⟨_, rfl⟩
  obtain ⟨y0, y1, y2, y3, y4, y5, y6, y7⟩ := S5.out.N.cells
  obtain ⟨z0, z1, z2, z3, z4, z5, z6, z7⟩ := S5.out.M.cells
  have fz := S5.out.M.frozen
  rw [HH.out] at y6
  go_upto_region 14 with fail
  have S6 := hide (S5.out.setS 0)
  clear fz y0 y1 y2 y3 y4 y5 y6 y7 z0 z1 z2 z3 z4 z5 z6 z7 S5
  generalize w5.setCell ⟨W, 5, none⟩ (.int .u8 0) = w6 at *
  have S5 := S6
  clear S6
  obtain ⟨w5, rfl⟩ : ∃ w5 : World, w5 = w6 := ⟨_, rfl⟩
  obtain ⟨y0, y1, y2, y3, y4, y5, y6, y7⟩ := S5.out.N.cells
  obtain ⟨z0, z1, z2, z3, z4, z5, z6, z7⟩ := S5.out.M.cells
  have fz := S5.out.M.frozen
  rw [HH.out] at y6
  go_upto_region 20 with fail
  have S6 := hide (S5.out.setHa true)
  clear fz y0 y1 y2 y3 y4 y5 y6 y7 z0 z1 z2 z3 z4 z5 z6 z7 S5
  generalize w5.setCell ⟨W, 6, none⟩ (.bool true) = w6 at *
  have S5 := S6
  clear S6
  obtain ⟨w5, rfl⟩ : ∃ w5 : World, w5 = w6 := ⟨_, rfl⟩
  obtain ⟨y0, y1, y2, y3, y4, y5, y6, y7⟩ := S5.out.N.cells
  rw [HH.out] at y6
  go_wp2_with fail
  refine (CO.out _).mono ?_
  rintro e wx ⟨rfl, rfl⟩
  go_wp2_with (first
    | ((refine load_note_g (by rfl) (.tmp 1) rfl w.heap.size rfl S5.out.N ?_))
    | ((refine load_note_g (by rfl) (.tmp 6) rfl W rfl S5.out.M ?_)))
  go_ret
  exact ⟨rfl, S5.out.bel⟩
theorem may_41_true_tf (n : NT) (h0 : 1 ≤ n.K) (h1 : n.K ≤ 11) (b0 : 0 ≤ n.B) (b1 : n.B ≤ 255) (hu : usesN n.K = 41) (hh : n.Ha = true) (hc : coreB n.Fr = true) (ha : (n.To == -1) = false) (w : World) :
    Calls Try.prog 20 #[.agg (ntL n).toArray] w fun e w' => e = .returned (.bool (false)) ∧ Below w.heap.size w w' := by
  have N0 := hide (NAt.new w n)
  obtain ⟨y0, y1, y2, y3, y4, y5, y6, y7⟩ := N0.out.cells
  have KI := hide (kind_any n.K (w.alloc (.cells (ntL n).toArray 29)) (by omega) (by omega))
  rw [show kindB n.K = true by simp [kindB]; omega] at KI
  have US := hide (fun w => uses_any n.K w h0 h1)
  rw [hu] at US
  have CO := hide (fun w => core_any n.Fr w)
  rw [hc] at CO
  have HH := hide hh
  clear hu h0 h1 hc hh
  go_enter Try.func20, Try.ntmps20
  go_wp2_with fail
  refine KI.out.mono ?_
  rintro e wx ⟨rfl, rfl⟩
  go_wp2_with fail
  refine (US.out _).mono ?_
  rintro e w2 ⟨rfl, hb2⟩
  have hb := hide (((Below.refl w.heap.size w).alloc (Nat.le_refl _) (.cells (ntL n).toArray 29)).trans (hb2.mono (by simp)))
  have N4 := hide (N0.out.below hb2 (by simp))
  have hb4 := hb
  clear y0 y1 y2 y3 y4 y5 y6 y7 KI US hb2 N0 hb
  obtain ⟨w4, rfl⟩ : ∃ w4 : World, w4 = w2 := ⟨_, rfl⟩
  obtain ⟨y0, y1, y2, y3, y4, y5, y6, y7⟩ := N4.out.cells
  go_wp2_with fail
  go_quiet (fail)
  have N5 := hide (N4.out.drewN nq)
  have hb5 := hide (bdrewN hb4.out nq)
  clear y0 y1 y2 y3 y4 y5 y6 y7 N4 hb4
  generalize w4.drewN nq = w5 at *
  have N4 := N5
  have hb4 := hb5
  clear N5 hb5
  obtain ⟨w4, rfl⟩ : ∃ w4 : World, w4 = w5 := ⟨_, rfl⟩
  obtain ⟨y0, y1, y2, y3, y4, y5, y6, y7⟩ := N4.out.cells
  go_wp2_with fail
  go_quiet (fail)
  have N5 := hide (N4.out.drewN nq)
  have hb5 := hide (bdrewN hb4.out nq)
  clear y0 y1 y2 y3 y4 y5 y6 y7 N4 hb4
  generalize w4.drewN nq = w5 at *
  have N4 := N5
  have hb4 := hb5
  clear N5 hb5
  obtain ⟨w4, rfl⟩ : ∃ w4 : World, w4 = w5 := ⟨_, rfl⟩
  have S5 : Hid (MSt w (w4.alloc (.cells (ntL n).toArray 29)) w.heap.size w4.heap.size n n) :=
    hide ⟨N4.out.alloc _, NAt.new w4 n, hb4.out.alloc hb4.out.size _, hb4.out.size, by have := N4.out.lt; omega⟩
  go_upto_region 8 with (first
    | ((with_reducible refine load_note rfl (.tmp 1) rfl w.heap.size rfl N4.out ?_))
    | ((with_reducible refine alloc_note rfl rfl w4.heap.size rfl ?_))
    | ((with_reducible refine store_note_last rfl _ _ rfl _ w4.heap.size rfl rfl rfl ?_)))
  clear N4 hb4
  generalize w4.alloc (.cells (ntL n).toArray 29) = w5 at *
  generalize w4.heap.size = W at *
  obtain ⟨y0, y1, y2, y3, y4, y5, y6, y7⟩ := S5.out.N.cells
  obtain ⟨z0, z1, z2, z3, z4, z5, z6, z7⟩ := S5.out.M.cells
  have fz := S5.out.M.frozen
  rw [HH.out] at y6
  go_upto_region 10 with fail
  have S6 := hide (S5.out.setSt 0)
  clear fz y0 y1 y2 y3 y4 y5 y6 y7 z0 z1 z2 z3 z4 z5 z6 z7 S5
  generalize w5.setCell ⟨W, 4, none⟩ (.int .u64 0) = w6 at *
  have S5 := S6
  clear S6
  obtain ⟨w5, rfl⟩ : ∃ w5 : World, w5 = w6 := ⟨_, rfl⟩
  obtain ⟨y0, y1, y2, y3, y4, y5, y6, y7⟩ := S5.out.N.cells
  obtain ⟨z0, z1, z2, z3, z4, z5, z6, z7⟩ := S5.out.M.cells
  have fz := S5.out.M.frozen
  rw [HH.out] at y6
  go_upto_region 14 with fail
  have S6 := hide (S5.out.setS 0)
  clear fz y0 y1 y2 y3 y4 y5 y6 y7 z0 z1 z2 z3 z4 z5 z6 z7 S5
  generalize w5.setCell ⟨W, 5, none⟩ (.int .u8 0) = w6 at *
  have S5 := S6
  clear S6
  obtain ⟨w5, rfl⟩ : ∃ w5 : World, w5 = w6 := ⟨_, rfl⟩
  obtain ⟨y0, y1, y2, y3, y4, y5, y6, y7⟩ := S5.out.N.cells
  obtain ⟨z0, z1, z2, z3, z4, z5, z6, z7⟩ := S5.out.M.cells
  have fz := S5.out.M.frozen
  rw [HH.out] at y6
  go_upto_region 20 with fail
  have S6 := hide (S5.out.setHa true)
  clear fz y0 y1 y2 y3 y4 y5 y6 y7 z0 z1 z2 z3 z4 z5 z6 z7 S5
  generalize w5.setCell ⟨W, 6, none⟩ (.bool true) = w6 at *
  have S5 := S6
  clear S6
  obtain ⟨w5, rfl⟩ : ∃ w5 : World, w5 = w6 := ⟨_, rfl⟩
  obtain ⟨y0, y1, y2, y3, y4, y5, y6, y7⟩ := S5.out.N.cells
  rw [HH.out] at y6
  go_wp2_with fail
  refine (CO.out _).mono ?_
  rintro e wx ⟨rfl, rfl⟩
  go_wp2_with fail
  go_ret
  exact ⟨rfl, S5.out.bel⟩
theorem may_41_true_ff (n : NT) (h0 : 1 ≤ n.K) (h1 : n.K ≤ 11) (b0 : 0 ≤ n.B) (b1 : n.B ≤ 255) (hu : usesN n.K = 41) (hh : n.Ha = true) (hc : coreB n.Fr = false) (w : World) :
    Calls Try.prog 20 #[.agg (ntL n).toArray] w fun e w' => e = .returned (.bool (false)) ∧ Below w.heap.size w w' := by
  have N0 := hide (NAt.new w n)
  obtain ⟨y0, y1, y2, y3, y4, y5, y6, y7⟩ := N0.out.cells
  have KI := hide (kind_any n.K (w.alloc (.cells (ntL n).toArray 29)) (by omega) (by omega))
  rw [show kindB n.K = true by simp [kindB]; omega] at KI
  have US := hide (fun w => uses_any n.K w h0 h1)
  rw [hu] at US
  have CO := hide (fun w => core_any n.Fr w)
  rw [hc] at CO
  have HH := hide hh
  clear hu h0 h1 hc hh
  go_enter Try.func20, Try.ntmps20
  go_wp2_with fail
  refine KI.out.mono ?_
  rintro e wx ⟨rfl, rfl⟩
  go_wp2_with fail
  refine (US.out _).mono ?_
  rintro e w2 ⟨rfl, hb2⟩
  have hb := hide (((Below.refl w.heap.size w).alloc (Nat.le_refl _) (.cells (ntL n).toArray 29)).trans (hb2.mono (by simp)))
  have N4 := hide (N0.out.below hb2 (by simp))
  have hb4 := hb
  clear y0 y1 y2 y3 y4 y5 y6 y7 KI US hb2 N0 hb
  obtain ⟨w4, rfl⟩ : ∃ w4 : World, w4 = w2 := ⟨_, rfl⟩
  obtain ⟨y0, y1, y2, y3, y4, y5, y6, y7⟩ := N4.out.cells
  go_wp2_with fail
  go_quiet (fail)
  have N5 := hide (N4.out.drewN nq)
  have hb5 := hide (bdrewN hb4.out nq)
  clear y0 y1 y2 y3 y4 y5 y6 y7 N4 hb4
  generalize w4.drewN nq = w5 at *
  have N4 := N5
  have hb4 := hb5
  clear N5 hb5
  obtain ⟨w4, rfl⟩ : ∃ w4 : World, w4 = w5 := ⟨_, rfl⟩
  obtain ⟨y0, y1, y2, y3, y4, y5, y6, y7⟩ := N4.out.cells
  go_wp2_with fail
  go_quiet (fail)
  have N5 := hide (N4.out.drewN nq)
  have hb5 := hide (bdrewN hb4.out nq)
  clear y0 y1 y2 y3 y4 y5 y6 y7 N4 hb4
  generalize w4.drewN nq = w5 at *
  have N4 := N5
  have hb4 := hb5
  clear N5 hb5
  obtain ⟨w4, rfl⟩ : ∃ w4 : World, w4 = w5 := ⟨_, rfl⟩
  have S5 : Hid (MSt w (w4.alloc (.cells (ntL n).toArray 29)) w.heap.size w4.heap.size n n) :=
    hide ⟨N4.out.alloc _, NAt.new w4 n, hb4.out.alloc hb4.out.size _, hb4.out.size, by have := N4.out.lt; omega⟩
  go_upto_region 8 with (first
    | ((with_reducible refine load_note rfl (.tmp 1) rfl w.heap.size rfl N4.out ?_))
    | ((with_reducible refine alloc_note rfl rfl w4.heap.size rfl ?_))
    | ((with_reducible refine store_note_last rfl _ _ rfl _ w4.heap.size rfl rfl rfl ?_)))
  clear N4 hb4
  generalize w4.alloc (.cells (ntL n).toArray 29) = w5 at *
  generalize w4.heap.size = W at *
  obtain ⟨y0, y1, y2, y3, y4, y5, y6, y7⟩ := S5.out.N.cells
  obtain ⟨z0, z1, z2, z3, z4, z5, z6, z7⟩ := S5.out.M.cells
  have fz := S5.out.M.frozen
  rw [HH.out] at y6
  go_upto_region 10 with fail
  have S6 := hide (S5.out.setSt 0)
  clear fz y0 y1 y2 y3 y4 y5 y6 y7 z0 z1 z2 z3 z4 z5 z6 z7 S5
  generalize w5.setCell ⟨W, 4, none⟩ (.int .u64 0) = w6 at *
  have S5 := S6
  clear S6
  obtain ⟨w5, rfl⟩ : ∃ w5 : World, w5 = w6 := ⟨_, rfl⟩
  obtain ⟨y0, y1, y2, y3, y4, y5, y6, y7⟩ := S5.out.N.cells
  obtain ⟨z0, z1, z2, z3, z4, z5, z6, z7⟩ := S5.out.M.cells
  have fz := S5.out.M.frozen
  rw [HH.out] at y6
  go_upto_region 14 with fail
  have S6 := hide (S5.out.setS 0)
  clear fz y0 y1 y2 y3 y4 y5 y6 y7 z0 z1 z2 z3 z4 z5 z6 z7 S5
  generalize w5.setCell ⟨W, 5, none⟩ (.int .u8 0) = w6 at *
  have S5 := S6
  clear S6
  obtain ⟨w5, rfl⟩ : ∃ w5 : World, w5 = w6 := ⟨_, rfl⟩
  obtain ⟨y0, y1, y2, y3, y4, y5, y6, y7⟩ := S5.out.N.cells
  obtain ⟨z0, z1, z2, z3, z4, z5, z6, z7⟩ := S5.out.M.cells
  have fz := S5.out.M.frozen
  rw [HH.out] at y6
  go_upto_region 20 with fail
  have S6 := hide (S5.out.setHa true)
  clear fz y0 y1 y2 y3 y4 y5 y6 y7 z0 z1 z2 z3 z4 z5 z6 z7 S5
  generalize w5.setCell ⟨W, 6, none⟩ (.bool true) = w6 at *
  have S5 := S6
  clear S6
  obtain ⟨w5, rfl⟩ : ∃ w5 : World, w5 = w6 := ⟨_, rfl⟩
  obtain ⟨y0, y1, y2, y3, y4, y5, y6, y7⟩ := S5.out.N.cells
  rw [HH.out] at y6
  go_wp2_with fail
  refine (CO.out _).mono ?_
  rintro e wx ⟨rfl, rfl⟩
  go_wp2_with fail
  go_ret
  exact ⟨rfl, S5.out.bel⟩
theorem may_41_false_tt (n : NT) (h0 : 1 ≤ n.K) (h1 : n.K ≤ 11) (b0 : 0 ≤ n.B) (b1 : n.B ≤ 255) (hu : usesN n.K = 41) (hh : n.Ha = false) (hc : coreB n.Fr = true) (ha : (n.To == -1) = true) (w : World) :
    Calls Try.prog 20 #[.agg (ntL n).toArray] w fun e w' => e = .returned (.bool (eqN n { n with St := 0, S := 0, Ha := true, f := fun _ => 0 })) ∧ Below w.heap.size w w' := by
  have N0 := hide (NAt.new w n)
  obtain ⟨y0, y1, y2, y3, y4, y5, y6, y7⟩ := N0.out.cells
  have KI := hide (kind_any n.K (w.alloc (.cells (ntL n).toArray 29)) (by omega) (by omega))
  rw [show kindB n.K = true by simp [kindB]; omega] at KI
  have US := hide (fun w => uses_any n.K w h0 h1)
  rw [hu] at US
  have CO := hide (fun w => core_any n.Fr w)
  rw [hc] at CO
  have HH := hide hh
  have EQ := fun (w : World) => eq_note n { n with St := 0, S := 0, Ha := true, f := fun _ => 0 } w
  have EG : Try.prog.eqGuardType Try.prog.depth 29 = false := by kernel_rfl
  clear hu h0 h1 hc hh
  go_enter Try.func20, Try.ntmps20
  go_wp2_with fail
  refine KI.out.mono ?_
  rintro e wx ⟨rfl, rfl⟩
  go_wp2_with fail
  refine (US.out _).mono ?_
  rintro e w2 ⟨rfl, hb2⟩
  have hb := hide (((Below.refl w.heap.size w).alloc (Nat.le_refl _) (.cells (ntL n).toArray 29)).trans (hb2.mono (by simp)))
  have N4 := hide (N0.out.below hb2 (by simp))
  have hb4 := hb
  clear y0 y1 y2 y3 y4 y5 y6 y7 KI US hb2 N0 hb
  obtain ⟨w4, rfl⟩ : ∃ w4 : World, w4 = w2 := ⟨_, rfl⟩
  obtain ⟨y0, y1, y2, y3, y4, y5, y6, y7⟩ := N4.out.cells
  go_wp2_with fail
  go_quiet (fail)
  have N5 := hide (N4.out.drewN nq)
  have hb5 := hide (bdrewN hb4.out nq)
  clear y0 y1 y2 y3 y4 y5 y6 y7 N4 hb4
  generalize w4.drewN nq = w5 at *
  have N4 := N5
  have hb4 := hb5
  clear N5 hb5
  obtain ⟨w4, rfl⟩ : ∃ w4 : World, w4 = w5 := ⟨_, rfl⟩
  obtain ⟨y0, y1, y2, y3, y4, y5, y6, y7⟩ := N4.out.cells
  go_wp2_with fail
  go_quiet (fail)
  have N5 := hide (N4.out.drewN nq)
  have hb5 := hide (bdrewN hb4.out nq)
  clear y0 y1 y2 y3 y4 y5 y6 y7 N4 hb4
  generalize w4.drewN nq = w5 at *
  have N4 := N5
  have hb4 := hb5
  clear N5 hb5
  obtain ⟨w4, rfl⟩ : ∃ w4 : World, w4 = w5 := ⟨_, rfl⟩
  have S5 : Hid (MSt w (w4.alloc (.cells (ntL n).toArray 29)) w.heap.size w4.heap.size n n) :=
    hide ⟨N4.out.alloc _, NAt.new w4 n, hb4.out.alloc hb4.out.size _, hb4.out.size, by have := N4.out.lt; omega⟩
  go_upto_region 8 with (first
    | ((with_reducible refine load_note rfl (.tmp 1) rfl w.heap.size rfl N4.out ?_))
    | ((with_reducible refine alloc_note rfl rfl w4.heap.size rfl ?_))
    | ((with_reducible refine store_note_last rfl _ _ rfl _ w4.heap.size rfl rfl rfl ?_)))
  clear N4 hb4
  generalize w4.alloc (.cells (ntL n).toArray 29) = w5 at *
  generalize w4.heap.size = W at *
  obtain ⟨y0, y1, y2, y3, y4, y5, y6, y7⟩ := S5.out.N.cells
  obtain ⟨z0, z1, z2, z3, z4, z5, z6, z7⟩ := S5.out.M.cells
  have fz := S5.out.M.frozen
  rw [HH.out] at y6
  go_upto_region 10 with fail
  have S6 := hide (S5.out.setSt 0)
  clear fz y0 y1 y2 y3 y4 y5 y6 y7 z0 z1 z2 z3 z4 z5 z6 z7 S5
  generalize w5.setCell ⟨W, 4, none⟩ (.int .u64 0) = w6 at *
  have S5 := S6
  clear S6
  obtain ⟨w5, rfl⟩ : ∃ w5 : World, w5 = w6 := ⟨_, rfl⟩
  obtain ⟨y0, y1, y2, y3, y4, y5, y6, y7⟩ := S5.out.N.cells
  obtain ⟨z0, z1, z2, z3, z4, z5, z6, z7⟩ := S5.out.M.cells
  have fz := S5.out.M.frozen
  rw [HH.out] at y6
  go_upto_region 14 with fail
  have S6 := hide (S5.out.setS 0)
  clear fz y0 y1 y2 y3 y4 y5 y6 y7 z0 z1 z2 z3 z4 z5 z6 z7 S5
  generalize w5.setCell ⟨W, 5, none⟩ (.int .u8 0) = w6 at *
  have S5 := S6
  clear S6
  obtain ⟨w5, rfl⟩ : ∃ w5 : World, w5 = w6 := ⟨_, rfl⟩
  obtain ⟨y0, y1, y2, y3, y4, y5, y6, y7⟩ := S5.out.N.cells
  obtain ⟨z0, z1, z2, z3, z4, z5, z6, z7⟩ := S5.out.M.cells
  have fz := S5.out.M.frozen
  rw [HH.out] at y6
  go_upto_region 20 with fail
  have S6 := hide (S5.out.setHa true)
  clear fz y0 y1 y2 y3 y4 y5 y6 y7 z0 z1 z2 z3 z4 z5 z6 z7 S5
  generalize w5.setCell ⟨W, 6, none⟩ (.bool true) = w6 at *
  have S5 := S6
  clear S6
  obtain ⟨w5, rfl⟩ : ∃ w5 : World, w5 = w6 := ⟨_, rfl⟩
  obtain ⟨y0, y1, y2, y3, y4, y5, y6, y7⟩ := S5.out.N.cells
  obtain ⟨z0, z1, z2, z3, z4, z5, z6, z7⟩ := S5.out.M.cells
  have fz := S5.out.M.frozen
  rw [HH.out] at y6
  go_upto_region 22 with (first
    | ((with_reducible refine Great.wpList_readTo rfl (some 67) rfl (.agg (blk (fun _ => 0)).toArray) ?_ ?_); (· as_aux_lemma => kernel_rfl))
    | ((with_reducible refine store_data rfl _ _ rfl W rfl (fun _ => 0) rfl S5.out.M ?_)))
  have S6 := hide (S5.out.setData (fun _ => 0))
  clear fz y0 y1 y2 y3 y4 y5 y6 y7 z0 z1 z2 z3 z4 z5 z6 z7 S5
  generalize w5.setCells W 8 (blk (fun _ => 0)) = w6 at *
  have S5 := S6
  clear S6
  obtain ⟨w5, rfl⟩ : ∃ w5 : World, w5 = w6 := ⟨_, rfl⟩
  go_wp2_with fail
  refine (CO.out _).mono ?_
  rintro e wx ⟨rfl, rfl⟩
  go_wp2_with (first
    | ((refine load_note_g (by rfl) (.tmp 1) rfl w.heap.size rfl S5.out.N ?_))
    | ((refine load_note_g (by rfl) (.tmp 6) rfl W rfl S5.out.M ?_)))
  go_ret
  exact ⟨rfl, S5.out.bel⟩
theorem may_41_false_tf (n : NT) (h0 : 1 ≤ n.K) (h1 : n.K ≤ 11) (b0 : 0 ≤ n.B) (b1 : n.B ≤ 255) (hu : usesN n.K = 41) (hh : n.Ha = false) (hc : coreB n.Fr = true) (ha : (n.To == -1) = false) (w : World) :
    Calls Try.prog 20 #[.agg (ntL n).toArray] w fun e w' => e = .returned (.bool (false)) ∧ Below w.heap.size w w' := by
  have N0 := hide (NAt.new w n)
  obtain ⟨y0, y1, y2, y3, y4, y5, y6, y7⟩ := N0.out.cells
  have KI := hide (kind_any n.K (w.alloc (.cells (ntL n).toArray 29)) (by omega) (by omega))
  rw [show kindB n.K = true by simp [kindB]; omega] at KI
  have US := hide (fun w => uses_any n.K w h0 h1)
  rw [hu] at US
  have CO := hide (fun w => core_any n.Fr w)
  rw [hc] at CO
  have HH := hide hh
  clear hu h0 h1 hc hh
  go_enter Try.func20, Try.ntmps20
  go_wp2_with fail
  refine KI.out.mono ?_
  rintro e wx ⟨rfl, rfl⟩
  go_wp2_with fail
  refine (US.out _).mono ?_
  rintro e w2 ⟨rfl, hb2⟩
  have hb := hide (((Below.refl w.heap.size w).alloc (Nat.le_refl _) (.cells (ntL n).toArray 29)).trans (hb2.mono (by simp)))
  have N4 := hide (N0.out.below hb2 (by simp))
  have hb4 := hb
  clear y0 y1 y2 y3 y4 y5 y6 y7 KI US hb2 N0 hb
  obtain ⟨w4, rfl⟩ : ∃ w4 : World, w4 = w2 := ⟨_, rfl⟩
  obtain ⟨y0, y1, y2, y3, y4, y5, y6, y7⟩ := N4.out.cells
  go_wp2_with fail
  go_quiet (fail)
  have N5 := hide (N4.out.drewN nq)
  have hb5 := hide (bdrewN hb4.out nq)
  clear y0 y1 y2 y3 y4 y5 y6 y7 N4 hb4
  generalize w4.drewN nq = w5 at *
  have N4 := N5
  have hb4 := hb5
  clear N5 hb5
  obtain ⟨w4, rfl⟩ : ∃ w4 : World, w4 = w5 := ⟨_, rfl⟩
  obtain ⟨y0, y1, y2, y3, y4, y5, y6, y7⟩ := N4.out.cells
  go_wp2_with fail
  go_quiet (fail)
  have N5 := hide (N4.out.drewN nq)
  have hb5 := hide (bdrewN hb4.out nq)
  clear y0 y1 y2 y3 y4 y5 y6 y7 N4 hb4
  generalize w4.drewN nq = w5 at *
  have N4 := N5
  have hb4 := hb5
  clear N5 hb5
  obtain ⟨w4, rfl⟩ : ∃ w4 : World, w4 = w5 := ⟨_, rfl⟩
  have S5 : Hid (MSt w (w4.alloc (.cells (ntL n).toArray 29)) w.heap.size w4.heap.size n n) :=
    hide ⟨N4.out.alloc _, NAt.new w4 n, hb4.out.alloc hb4.out.size _, hb4.out.size, by have := N4.out.lt; omega⟩
  go_upto_region 8 with (first
    | ((with_reducible refine load_note rfl (.tmp 1) rfl w.heap.size rfl N4.out ?_))
    | ((with_reducible refine alloc_note rfl rfl w4.heap.size rfl ?_))
    | ((with_reducible refine store_note_last rfl _ _ rfl _ w4.heap.size rfl rfl rfl ?_)))
  clear N4 hb4
  generalize w4.alloc (.cells (ntL n).toArray 29) = w5 at *
  generalize w4.heap.size = W at *
  obtain ⟨y0, y1, y2, y3, y4, y5, y6, y7⟩ := S5.out.N.cells
  obtain ⟨z0, z1, z2, z3, z4, z5, z6, z7⟩ := S5.out.M.cells
  have fz := S5.out.M.frozen
  rw [HH.out] at y6
  go_upto_region 10 with fail
  have S6 := hide (S5.out.setSt 0)
  clear fz y0 y1 y2 y3 y4 y5 y6 y7 z0 z1 z2 z3 z4 z5 z6 z7 S5
  generalize w5.setCell ⟨W, 4, none⟩ (.int .u64 0) = w6 at *
  have S5 := S6
  clear S6
  obtain ⟨w5, rfl⟩ : ∃ w5 : World, w5 = w6 := ⟨_, rfl⟩
  obtain ⟨y0, y1, y2, y3, y4, y5, y6, y7⟩ := S5.out.N.cells
  obtain ⟨z0, z1, z2, z3, z4, z5, z6, z7⟩ := S5.out.M.cells
  have fz := S5.out.M.frozen
  rw [HH.out] at y6
  go_upto_region 14 with fail
  have S6 := hide (S5.out.setS 0)
  clear fz y0 y1 y2 y3 y4 y5 y6 y7 z0 z1 z2 z3 z4 z5 z6 z7 S5
  generalize w5.setCell ⟨W, 5, none⟩ (.int .u8 0) = w6 at *
  have S5 := S6
  clear S6
  obtain ⟨w5, rfl⟩ : ∃ w5 : World, w5 = w6 := ⟨_, rfl⟩
  obtain ⟨y0, y1, y2, y3, y4, y5, y6, y7⟩ := S5.out.N.cells
  obtain ⟨z0, z1, z2, z3, z4, z5, z6, z7⟩ := S5.out.M.cells
  have fz := S5.out.M.frozen
  rw [HH.out] at y6
  go_upto_region 20 with fail
  have S6 := hide (S5.out.setHa true)
  clear fz y0 y1 y2 y3 y4 y5 y6 y7 z0 z1 z2 z3 z4 z5 z6 z7 S5
  generalize w5.setCell ⟨W, 6, none⟩ (.bool true) = w6 at *
  have S5 := S6
  clear S6
  obtain ⟨w5, rfl⟩ : ∃ w5 : World, w5 = w6 := ⟨_, rfl⟩
  obtain ⟨y0, y1, y2, y3, y4, y5, y6, y7⟩ := S5.out.N.cells
  obtain ⟨z0, z1, z2, z3, z4, z5, z6, z7⟩ := S5.out.M.cells
  have fz := S5.out.M.frozen
  rw [HH.out] at y6
  go_upto_region 22 with (first
    | ((with_reducible refine Great.wpList_readTo rfl (some 67) rfl (.agg (blk (fun _ => 0)).toArray) ?_ ?_); (· as_aux_lemma => kernel_rfl))
    | ((with_reducible refine store_data rfl _ _ rfl W rfl (fun _ => 0) rfl S5.out.M ?_)))
  have S6 := hide (S5.out.setData (fun _ => 0))
  clear fz y0 y1 y2 y3 y4 y5 y6 y7 z0 z1 z2 z3 z4 z5 z6 z7 S5
  generalize w5.setCells W 8 (blk (fun _ => 0)) = w6 at *
  have S5 := S6
  clear S6
  obtain ⟨w5, rfl⟩ : ∃ w5 : World, w5 = w6 := ⟨_, rfl⟩
  go_wp2_with fail
  refine (CO.out _).mono ?_
  rintro e wx ⟨rfl, rfl⟩
  go_wp2_with fail
  go_ret
  exact ⟨rfl, S5.out.bel⟩
theorem may_41_false_ff (n : NT) (h0 : 1 ≤ n.K) (h1 : n.K ≤ 11) (b0 : 0 ≤ n.B) (b1 : n.B ≤ 255) (hu : usesN n.K = 41) (hh : n.Ha = false) (hc : coreB n.Fr = false) (w : World) :
    Calls Try.prog 20 #[.agg (ntL n).toArray] w fun e w' => e = .returned (.bool (false)) ∧ Below w.heap.size w w' := by
  have N0 := hide (NAt.new w n)
  obtain ⟨y0, y1, y2, y3, y4, y5, y6, y7⟩ := N0.out.cells
  have KI := hide (kind_any n.K (w.alloc (.cells (ntL n).toArray 29)) (by omega) (by omega))
  rw [show kindB n.K = true by simp [kindB]; omega] at KI
  have US := hide (fun w => uses_any n.K w h0 h1)
  rw [hu] at US
  have CO := hide (fun w => core_any n.Fr w)
  rw [hc] at CO
  have HH := hide hh
  clear hu h0 h1 hc hh
  go_enter Try.func20, Try.ntmps20
  go_wp2_with fail
  refine KI.out.mono ?_
  rintro e wx ⟨rfl, rfl⟩
  go_wp2_with fail
  refine (US.out _).mono ?_
  rintro e w2 ⟨rfl, hb2⟩
  have hb := hide (((Below.refl w.heap.size w).alloc (Nat.le_refl _) (.cells (ntL n).toArray 29)).trans (hb2.mono (by simp)))
  have N4 := hide (N0.out.below hb2 (by simp))
  have hb4 := hb
  clear y0 y1 y2 y3 y4 y5 y6 y7 KI US hb2 N0 hb
  obtain ⟨w4, rfl⟩ : ∃ w4 : World, w4 = w2 := ⟨_, rfl⟩
  obtain ⟨y0, y1, y2, y3, y4, y5, y6, y7⟩ := N4.out.cells
  go_wp2_with fail
  go_quiet (fail)
  have N5 := hide (N4.out.drewN nq)
  have hb5 := hide (bdrewN hb4.out nq)
  clear y0 y1 y2 y3 y4 y5 y6 y7 N4 hb4
  generalize w4.drewN nq = w5 at *
  have N4 := N5
  have hb4 := hb5
  clear N5 hb5
  obtain ⟨w4, rfl⟩ : ∃ w4 : World, w4 = w5 := ⟨_, rfl⟩
  obtain ⟨y0, y1, y2, y3, y4, y5, y6, y7⟩ := N4.out.cells
  go_wp2_with fail
  go_quiet (fail)
  have N5 := hide (N4.out.drewN nq)
  have hb5 := hide (bdrewN hb4.out nq)
  clear y0 y1 y2 y3 y4 y5 y6 y7 N4 hb4
  generalize w4.drewN nq = w5 at *
  have N4 := N5
  have hb4 := hb5
  clear N5 hb5
  obtain ⟨w4, rfl⟩ : ∃ w4 : World, w4 = w5 := ⟨_, rfl⟩
  have S5 : Hid (MSt w (w4.alloc (.cells (ntL n).toArray 29)) w.heap.size w4.heap.size n n) :=
    hide ⟨N4.out.alloc _, NAt.new w4 n, hb4.out.alloc hb4.out.size _, hb4.out.size, by have := N4.out.lt; omega⟩
  go_upto_region 8 with (first
    | ((with_reducible refine load_note rfl (.tmp 1) rfl w.heap.size rfl N4.out ?_))
    | ((with_reducible refine alloc_note rfl rfl w4.heap.size rfl ?_))
    | ((with_reducible refine store_note_last rfl _ _ rfl _ w4.heap.size rfl rfl rfl ?_)))
  clear N4 hb4
  generalize w4.alloc (.cells (ntL n).toArray 29) = w5 at *
  generalize w4.heap.size = W at *
  obtain ⟨y0, y1, y2, y3, y4, y5, y6, y7⟩ := S5.out.N.cells
  obtain ⟨z0, z1, z2, z3, z4, z5, z6, z7⟩ := S5.out.M.cells
  have fz := S5.out.M.frozen
  rw [HH.out] at y6
  go_upto_region 10 with fail
  have S6 := hide (S5.out.setSt 0)
  clear fz y0 y1 y2 y3 y4 y5 y6 y7 z0 z1 z2 z3 z4 z5 z6 z7 S5
  generalize w5.setCell ⟨W, 4, none⟩ (.int .u64 0) = w6 at *
  have S5 := S6
  clear S6
  obtain ⟨w5, rfl⟩ : ∃ w5 : World, w5 = w6 := ⟨_, rfl⟩
  obtain ⟨y0, y1, y2, y3, y4, y5, y6, y7⟩ := S5.out.N.cells
  obtain ⟨z0, z1, z2, z3, z4, z5, z6, z7⟩ := S5.out.M.cells
  have fz := S5.out.M.frozen
  rw [HH.out] at y6
  go_upto_region 14 with fail
  have S6 := hide (S5.out.setS 0)
  clear fz y0 y1 y2 y3 y4 y5 y6 y7 z0 z1 z2 z3 z4 z5 z6 z7 S5
  generalize w5.setCell ⟨W, 5, none⟩ (.int .u8 0) = w6 at *
  have S5 := S6
  clear S6
  obtain ⟨w5, rfl⟩ : ∃ w5 : World, w5 = w6 := ⟨_, rfl⟩
  obtain ⟨y0, y1, y2, y3, y4, y5, y6, y7⟩ := S5.out.N.cells
  obtain ⟨z0, z1, z2, z3, z4, z5, z6, z7⟩ := S5.out.M.cells
  have fz := S5.out.M.frozen
  rw [HH.out] at y6
  go_upto_region 20 with fail
  have S6 := hide (S5.out.setHa true)
  clear fz y0 y1 y2 y3 y4 y5 y6 y7 z0 z1 z2 z3 z4 z5 z6 z7 S5
  generalize w5.setCell ⟨W, 6, none⟩ (.bool true) = w6 at *
  have S5 := S6
  clear S6
  obtain ⟨w5, rfl⟩ : ∃ w5 : World, w5 = w6 := ⟨_, rfl⟩
  obtain ⟨y0, y1, y2, y3, y4, y5, y6, y7⟩ := S5.out.N.cells
  obtain ⟨z0, z1, z2, z3, z4, z5, z6, z7⟩ := S5.out.M.cells
  have fz := S5.out.M.frozen
  rw [HH.out] at y6
  go_upto_region 22 with (first
    | ((with_reducible refine Great.wpList_readTo rfl (some 67) rfl (.agg (blk (fun _ => 0)).toArray) ?_ ?_); (· as_aux_lemma => kernel_rfl))
    | ((with_reducible refine store_data rfl _ _ rfl W rfl (fun _ => 0) rfl S5.out.M ?_)))
  have S6 := hide (S5.out.setData (fun _ => 0))
  clear fz y0 y1 y2 y3 y4 y5 y6 y7 z0 z1 z2 z3 z4 z5 z6 z7 S5
  generalize w5.setCells W 8 (blk (fun _ => 0)) = w6 at *
  have S5 := S6
  clear S6
  obtain ⟨w5, rfl⟩ : ∃ w5 : World, w5 = w6 := ⟨_, rfl⟩
  go_wp2_with fail
  refine (CO.out _).mono ?_
  rintro e wx ⟨rfl, rfl⟩
  go_wp2_with fail
  go_ret
  exact ⟨rfl, S5.out.bel⟩
theorem may_2_true_tt (n : NT) (h0 : 1 ≤ n.K) (h1 : n.K ≤ 11) (b0 : 0 ≤ n.B) (b1 : n.B ≤ 255) (hu : usesN n.K = 2) (hh : n.Ha = true) (hc : coreB n.To = true) (ha : (n.Fr == -1) = true) (w : World) :
    Calls Try.prog 20 #[.agg (ntL n).toArray] w fun e w' => e = .returned (.bool (eqN n { n with S := 0, Sk := false, Ha := false })) ∧ Below w.heap.size w w' := by
  have N0 := hide (NAt.new w n)
  obtain ⟨y0, y1, y2, y3, y4, y5, y6, y7⟩ := N0.out.cells
  have KI := hide (kind_any n.K (w.alloc (.cells (ntL n).toArray 29)) (by omega) (by omega))
  rw [show kindB n.K = true by simp [kindB]; omega] at KI
  have US := hide (fun w => uses_any n.K w h0 h1)
  rw [hu] at US
  have CO := hide (fun w => core_any n.To w)
  rw [hc] at CO
  have HH := hide hh
  have EQ := fun (w : World) => eq_note n { n with S := 0, Sk := false, Ha := false } w
  have EG : Try.prog.eqGuardType Try.prog.depth 29 = false := by kernel_rfl
  clear hu h0 h1 hc hh
  go_enter Try.func20, Try.ntmps20
  go_wp2_with fail
  refine KI.out.mono ?_
  rintro e wx ⟨rfl, rfl⟩
  go_wp2_with fail
  refine (US.out _).mono ?_
  rintro e w2 ⟨rfl, hb2⟩
  have hb := hide (((Below.refl w.heap.size w).alloc (Nat.le_refl _) (.cells (ntL n).toArray 29)).trans (hb2.mono (by simp)))
  have N4 := hide (N0.out.below hb2 (by simp))
  have hb4 := hb
  clear y0 y1 y2 y3 y4 y5 y6 y7 KI US hb2 N0 hb
  obtain ⟨w4, rfl⟩ : ∃ w4 : World, w4 = w2 := ⟨_, rfl⟩
  obtain ⟨y0, y1, y2, y3, y4, y5, y6, y7⟩ := N4.out.cells
  go_wp2_with fail
  go_quiet (fail)
  have N5 := hide (N4.out.drewN nq)
  have hb5 := hide (bdrewN hb4.out nq)
  clear y0 y1 y2 y3 y4 y5 y6 y7 N4 hb4
  generalize w4.drewN nq = w5 at *
  have N4 := N5
  have hb4 := hb5
  clear N5 hb5
  obtain ⟨w4, rfl⟩ : ∃ w4 : World, w4 = w5 := ⟨_, rfl⟩
  have S5 : Hid (MSt w (w4.alloc (.cells (ntL n).toArray 29)) w.heap.size w4.heap.size n n) :=
    hide ⟨N4.out.alloc _, NAt.new w4 n, hb4.out.alloc hb4.out.size _, hb4.out.size, by have := N4.out.lt; omega⟩
  go_upto_region 8 with (first
    | ((with_reducible refine load_note rfl (.tmp 1) rfl w.heap.size rfl N4.out ?_))
    | ((with_reducible refine alloc_note rfl rfl w4.heap.size rfl ?_))
    | ((with_reducible refine store_note_last rfl _ _ rfl _ w4.heap.size rfl rfl rfl ?_)))
  clear N4 hb4
  generalize w4.alloc (.cells (ntL n).toArray 29) = w5 at *
  generalize w4.heap.size = W at *
  obtain ⟨y0, y1, y2, y3, y4, y5, y6, y7⟩ := S5.out.N.cells
  obtain ⟨z0, z1, z2, z3, z4, z5, z6, z7⟩ := S5.out.M.cells
  have fz := S5.out.M.frozen
  rw [HH.out] at y6
  go_upto_region 14 with fail
  have S6 := hide (S5.out.setS 0)
  clear fz y0 y1 y2 y3 y4 y5 y6 y7 z0 z1 z2 z3 z4 z5 z6 z7 S5
  generalize w5.setCell ⟨W, 5, none⟩ (.int .u8 0) = w6 at *
  have S5 := S6
  clear S6
  obtain ⟨w5, rfl⟩ : ∃ w5 : World, w5 = w6 := ⟨_, rfl⟩
  obtain ⟨y0, y1, y2, y3, y4, y5, y6, y7⟩ := S5.out.N.cells
  obtain ⟨z0, z1, z2, z3, z4, z5, z6, z7⟩ := S5.out.M.cells
  have fz := S5.out.M.frozen
  rw [HH.out] at y6
  go_upto_region 16 with fail
  have S6 := hide (S5.out.setSk false)
  clear fz y0 y1 y2 y3 y4 y5 y6 y7 z0 z1 z2 z3 z4 z5 z6 z7 S5
  generalize w5.setCell ⟨W, 7, none⟩ (.bool false) = w6 at *
  have S5 := S6
  clear S6
  obtain ⟨w5, rfl⟩ : ∃ w5 : World, w5 = w6 := ⟨_, rfl⟩
  obtain ⟨y0, y1, y2, y3, y4, y5, y6, y7⟩ := S5.out.N.cells
  obtain ⟨z0, z1, z2, z3, z4, z5, z6, z7⟩ := S5.out.M.cells
  have fz := S5.out.M.frozen
  rw [HH.out] at y6
  go_upto_region 20 with fail
  have S6 := hide (S5.out.setHa false)
  clear fz y0 y1 y2 y3 y4 y5 y6 y7 z0 z1 z2 z3 z4 z5 z6 z7 S5
  generalize w5.setCell ⟨W, 6, none⟩ (.bool false) = w6 at *
  have S5 := S6
  clear S6
  obtain ⟨w5, rfl⟩ : ∃ w5 : World, w5 = w6 := ⟨_, rfl⟩
  obtain ⟨y0, y1, y2, y3, y4, y5, y6, y7⟩ := S5.out.N.cells
  rw [HH.out] at y6
  go_wp2_with fail
  refine (CO.out _).mono ?_
  rintro e wx ⟨rfl, rfl⟩
  go_wp2_with (first
    | ((refine load_note_g (by rfl) (.tmp 1) rfl w.heap.size rfl S5.out.N ?_))
    | ((refine load_note_g (by rfl) (.tmp 6) rfl W rfl S5.out.M ?_)))
  go_ret
  exact ⟨rfl, S5.out.bel⟩
theorem may_2_true_tf (n : NT) (h0 : 1 ≤ n.K) (h1 : n.K ≤ 11) (b0 : 0 ≤ n.B) (b1 : n.B ≤ 255) (hu : usesN n.K = 2) (hh : n.Ha = true) (hc : coreB n.To = true) (ha : (n.Fr == -1) = false) (w : World) :
    Calls Try.prog 20 #[.agg (ntL n).toArray] w fun e w' => e = .returned (.bool (false)) ∧ Below w.heap.size w w' := by
  have N0 := hide (NAt.new w n)
  obtain ⟨y0, y1, y2, y3, y4, y5, y6, y7⟩ := N0.out.cells
  have KI := hide (kind_any n.K (w.alloc (.cells (ntL n).toArray 29)) (by omega) (by omega))
  rw [show kindB n.K = true by simp [kindB]; omega] at KI
  have US := hide (fun w => uses_any n.K w h0 h1)
  rw [hu] at US
  have CO := hide (fun w => core_any n.To w)
  rw [hc] at CO
  have HH := hide hh
  clear hu h0 h1 hc hh
  go_enter Try.func20, Try.ntmps20
  go_wp2_with fail
  refine KI.out.mono ?_
  rintro e wx ⟨rfl, rfl⟩
  go_wp2_with fail
  refine (US.out _).mono ?_
  rintro e w2 ⟨rfl, hb2⟩
  have hb := hide (((Below.refl w.heap.size w).alloc (Nat.le_refl _) (.cells (ntL n).toArray 29)).trans (hb2.mono (by simp)))
  have N4 := hide (N0.out.below hb2 (by simp))
  have hb4 := hb
  clear y0 y1 y2 y3 y4 y5 y6 y7 KI US hb2 N0 hb
  obtain ⟨w4, rfl⟩ : ∃ w4 : World, w4 = w2 := ⟨_, rfl⟩
  obtain ⟨y0, y1, y2, y3, y4, y5, y6, y7⟩ := N4.out.cells
  go_wp2_with fail
  go_quiet (fail)
  have N5 := hide (N4.out.drewN nq)
  have hb5 := hide (bdrewN hb4.out nq)
  clear y0 y1 y2 y3 y4 y5 y6 y7 N4 hb4
  generalize w4.drewN nq = w5 at *
  have N4 := N5
  have hb4 := hb5
  clear N5 hb5
  obtain ⟨w4, rfl⟩ : ∃ w4 : World, w4 = w5 := ⟨_, rfl⟩
  have S5 : Hid (MSt w (w4.alloc (.cells (ntL n).toArray 29)) w.heap.size w4.heap.size n n) :=
    hide ⟨N4.out.alloc _, NAt.new w4 n, hb4.out.alloc hb4.out.size _, hb4.out.size, by have := N4.out.lt; omega⟩
  go_upto_region 8 with (first
    | ((with_reducible refine load_note rfl (.tmp 1) rfl w.heap.size rfl N4.out ?_))
    | ((with_reducible refine alloc_note rfl rfl w4.heap.size rfl ?_))
    | ((with_reducible refine store_note_last rfl _ _ rfl _ w4.heap.size rfl rfl rfl ?_)))
  clear N4 hb4
  generalize w4.alloc (.cells (ntL n).toArray 29) = w5 at *
  generalize w4.heap.size = W at *
  obtain ⟨y0, y1, y2, y3, y4, y5, y6, y7⟩ := S5.out.N.cells
  obtain ⟨z0, z1, z2, z3, z4, z5, z6, z7⟩ := S5.out.M.cells
  have fz := S5.out.M.frozen
  rw [HH.out] at y6
  go_upto_region 14 with fail
  have S6 := hide (S5.out.setS 0)
  clear fz y0 y1 y2 y3 y4 y5 y6 y7 z0 z1 z2 z3 z4 z5 z6 z7 S5
  generalize w5.setCell ⟨W, 5, none⟩ (.int .u8 0) = w6 at *
  have S5 := S6
  clear S6
  obtain ⟨w5, rfl⟩ : ∃ w5 : World, w5 = w6 := ⟨_, rfl⟩
  obtain ⟨y0, y1, y2, y3, y4, y5, y6, y7⟩ := S5.out.N.cells
  obtain ⟨z0, z1, z2, z3, z4, z5, z6, z7⟩ := S5.out.M.cells
  have fz := S5.out.M.frozen
  rw [HH.out] at y6
  go_upto_region 16 with fail
  have S6 := hide (S5.out.setSk false)
  clear fz y0 y1 y2 y3 y4 y5 y6 y7 z0 z1 z2 z3 z4 z5 z6 z7 S5
  generalize w5.setCell ⟨W, 7, none⟩ (.bool false) = w6 at *
  have S5 := S6
  clear S6
  obtain ⟨w5, rfl⟩ : ∃ w5 : World, w5 = w6 := ⟨_, rfl⟩
  obtain ⟨y0, y1, y2, y3, y4, y5, y6, y7⟩ := S5.out.N.cells
  obtain ⟨z0, z1, z2, z3, z4, z5, z6, z7⟩ := S5.out.M.cells
  have fz := S5.out.M.frozen
  rw [HH.out] at y6
  go_upto_region 20 with fail
  have S6 := hide (S5.out.setHa false)
  clear fz y0 y1 y2 y3 y4 y5 y6 y7 z0 z1 z2 z3 z4 z5 z6 z7 S5
  generalize w5.setCell ⟨W, 6, none⟩ (.bool false) = w6 at *
  have S5 := S6
  clear S6
  obtain ⟨w5, rfl⟩ : ∃ w5 : World, w5 = w6 := ⟨_, rfl⟩
  obtain ⟨y0, y1, y2, y3, y4, y5, y6, y7⟩ := S5.out.N.cells
  rw [HH.out] at y6
  go_wp2_with fail
  refine (CO.out _).mono ?_
  rintro e wx ⟨rfl, rfl⟩
  go_wp2_with fail
  go_ret
  exact ⟨rfl, S5.out.bel⟩
theorem may_2_true_ff (n : NT) (h0 : 1 ≤ n.K) (h1 : n.K ≤ 11) (b0 : 0 ≤ n.B) (b1 : n.B ≤ 255) (hu : usesN n.K = 2) (hh : n.Ha = true) (hc : coreB n.To = false) (w : World) :
    Calls Try.prog 20 #[.agg (ntL n).toArray] w fun e w' => e = .returned (.bool (false)) ∧ Below w.heap.size w w' := by
  have N0 := hide (NAt.new w n)
  obtain ⟨y0, y1, y2, y3, y4, y5, y6, y7⟩ := N0.out.cells
  have KI := hide (kind_any n.K (w.alloc (.cells (ntL n).toArray 29)) (by omega) (by omega))
  rw [show kindB n.K = true by simp [kindB]; omega] at KI
  have US := hide (fun w => uses_any n.K w h0 h1)
  rw [hu] at US
  have CO := hide (fun w => core_any n.To w)
  rw [hc] at CO
  have HH := hide hh
  clear hu h0 h1 hc hh
  go_enter Try.func20, Try.ntmps20
  go_wp2_with fail
  refine KI.out.mono ?_
  rintro e wx ⟨rfl, rfl⟩
  go_wp2_with fail
  refine (US.out _).mono ?_
  rintro e w2 ⟨rfl, hb2⟩
  have hb := hide (((Below.refl w.heap.size w).alloc (Nat.le_refl _) (.cells (ntL n).toArray 29)).trans (hb2.mono (by simp)))
  have N4 := hide (N0.out.below hb2 (by simp))
  have hb4 := hb
  clear y0 y1 y2 y3 y4 y5 y6 y7 KI US hb2 N0 hb
  obtain ⟨w4, rfl⟩ : ∃ w4 : World, w4 = w2 := ⟨_, rfl⟩
  obtain ⟨y0, y1, y2, y3, y4, y5, y6, y7⟩ := N4.out.cells
  go_wp2_with fail
  go_quiet (fail)
  have N5 := hide (N4.out.drewN nq)
  have hb5 := hide (bdrewN hb4.out nq)
  clear y0 y1 y2 y3 y4 y5 y6 y7 N4 hb4
  generalize w4.drewN nq = w5 at *
  have N4 := N5
  have hb4 := hb5
  clear N5 hb5
  obtain ⟨w4, rfl⟩ : ∃ w4 : World, w4 = w5 := ⟨_, rfl⟩
  have S5 : Hid (MSt w (w4.alloc (.cells (ntL n).toArray 29)) w.heap.size w4.heap.size n n) :=
    hide ⟨N4.out.alloc _, NAt.new w4 n, hb4.out.alloc hb4.out.size _, hb4.out.size, by have := N4.out.lt; omega⟩
  go_upto_region 8 with (first
    | ((with_reducible refine load_note rfl (.tmp 1) rfl w.heap.size rfl N4.out ?_))
    | ((with_reducible refine alloc_note rfl rfl w4.heap.size rfl ?_))
    | ((with_reducible refine store_note_last rfl _ _ rfl _ w4.heap.size rfl rfl rfl ?_)))
  clear N4 hb4
  generalize w4.alloc (.cells (ntL n).toArray 29) = w5 at *
  generalize w4.heap.size = W at *
  obtain ⟨y0, y1, y2, y3, y4, y5, y6, y7⟩ := S5.out.N.cells
  obtain ⟨z0, z1, z2, z3, z4, z5, z6, z7⟩ := S5.out.M.cells
  have fz := S5.out.M.frozen
  rw [HH.out] at y6
  go_upto_region 14 with fail
  have S6 := hide (S5.out.setS 0)
  clear fz y0 y1 y2 y3 y4 y5 y6 y7 z0 z1 z2 z3 z4 z5 z6 z7 S5
  generalize w5.setCell ⟨W, 5, none⟩ (.int .u8 0) = w6 at *
  have S5 := S6
  clear S6
  obtain ⟨w5, rfl⟩ : ∃ w5 : World, w5 = w6 := ⟨_, rfl⟩
  obtain ⟨y0, y1, y2, y3, y4, y5, y6, y7⟩ := S5.out.N.cells
  obtain ⟨z0, z1, z2, z3, z4, z5, z6, z7⟩ := S5.out.M.cells
  have fz := S5.out.M.frozen
  rw [HH.out] at y6
  go_upto_region 16 with fail
  have S6 := hide (S5.out.setSk false)
  clear fz y0 y1 y2 y3 y4 y5 y6 y7 z0 z1 z2 z3 z4 z5 z6 z7 S5
  generalize w5.setCell ⟨W, 7, none⟩ (.bool false) = w6 at *
  have S5 := S6
  clear S6
  obtain ⟨w5, rfl⟩ : ∃ w5 : World, w5 = w6 := ⟨_, rfl⟩
  obtain ⟨y0, y1, y2, y3, y4, y5, y6, y7⟩ := S5.out.N.cells
  obtain ⟨z0, z1, z2, z3, z4, z5, z6, z7⟩ := S5.out.M.cells
  have fz := S5.out.M.frozen
  rw [HH.out] at y6
  go_upto_region 20 with fail
  have S6 := hide (S5.out.setHa false)
  clear fz y0 y1 y2 y3 y4 y5 y6 y7 z0 z1 z2 z3 z4 z5 z6 z7 S5
  generalize w5.setCell ⟨W, 6, none⟩ (.bool false) = w6 at *
  have S5 := S6
  clear S6
  obtain ⟨w5, rfl⟩ : ∃ w5 : World, w5 = w6 := ⟨_, rfl⟩
  obtain ⟨y0, y1, y2, y3, y4, y5, y6, y7⟩ := S5.out.N.cells
  rw [HH.out] at y6
  go_wp2_with fail
  refine (CO.out _).mono ?_
  rintro e wx ⟨rfl, rfl⟩
  go_wp2_with fail
  go_ret
  exact ⟨rfl, S5.out.bel⟩
theorem may_2_false_tt (n : NT) (h0 : 1 ≤ n.K) (h1 : n.K ≤ 11) (b0 : 0 ≤ n.B) (b1 : n.B ≤ 255) (hu : usesN n.K = 2) (hh : n.Ha = false) (hc : coreB n.To = true) (ha : (n.Fr == -1) = true) (w : World) :
    Calls Try.prog 20 #[.agg (ntL n).toArray] w fun e w' => e = .returned (.bool (eqN n { n with S := 0, Sk := false, Ha := false, f := fun _ => 0 })) ∧ Below w.heap.size w w' := by
  have N0 := hide (NAt.new w n)
  obtain ⟨y0, y1, y2, y3, y4, y5, y6, y7⟩ := N0.out.cells
  have KI := hide (kind_any n.K (w.alloc (.cells (ntL n).toArray 29)) (by omega) (by omega))
  rw [show kindB n.K = true by simp [kindB]; omega] at KI
  have US := hide (fun w => uses_any n.K w h0 h1)
  rw [hu] at US
  have CO := hide (fun w => core_any n.To w)
  rw [hc] at CO
  have HH := hide hh
  have EQ := fun (w : World) => eq_note n { n with S := 0, Sk := false, Ha := false, f := fun _ => 0 } w
  have EG : Try.prog.eqGuardType Try.prog.depth 29 = false := by kernel_rfl
  clear hu h0 h1 hc hh
  go_enter Try.func20, Try.ntmps20
  go_wp2_with fail
  refine KI.out.mono ?_
  rintro e wx ⟨rfl, rfl⟩
  go_wp2_with fail
  refine (US.out _).mono ?_
  rintro e w2 ⟨rfl, hb2⟩
  have hb := hide (((Below.refl w.heap.size w).alloc (Nat.le_refl _) (.cells (ntL n).toArray 29)).trans (hb2.mono (by simp)))
  have N4 := hide (N0.out.below hb2 (by simp))
  have hb4 := hb
  clear y0 y1 y2 y3 y4 y5 y6 y7 KI US hb2 N0 hb
  obtain ⟨w4, rfl⟩ : ∃ w4 : World, w4 = w2 := ⟨_, rfl⟩
  obtain ⟨y0, y1, y2, y3, y4, y5, y6, y7⟩ := N4.out.cells
  go_wp2_with fail
  go_quiet (fail)
  have N5 := hide (N4.out.drewN nq)
  have hb5 := hide (bdrewN hb4.out nq)
  clear y0 y1 y2 y3 y4 y5 y6 y7 N4 hb4
  generalize w4.drewN nq = w5 at *
  have N4 := N5
  have hb4 := hb5
  clear N5 hb5
  obtain ⟨w4, rfl⟩ : ∃ w4 : World, w4 = w5 := ⟨_, rfl⟩
  have S5 : Hid (MSt w (w4.alloc (.cells (ntL n).toArray 29)) w.heap.size w4.heap.size n n) :=
    hide ⟨N4.out.alloc _, NAt.new w4 n, hb4.out.alloc hb4.out.size _, hb4.out.size, by have := N4.out.lt; omega⟩
  go_upto_region 8 with (first
    | ((with_reducible refine load_note rfl (.tmp 1) rfl w.heap.size rfl N4.out ?_))
    | ((with_reducible refine alloc_note rfl rfl w4.heap.size rfl ?_))
    | ((with_reducible refine store_note_last rfl _ _ rfl _ w4.heap.size rfl rfl rfl ?_)))
  clear N4 hb4
  generalize w4.alloc (.cells (ntL n).toArray 29) = w5 at *
  generalize w4.heap.size = W at *
  obtain ⟨y0, y1, y2, y3, y4, y5, y6, y7⟩ := S5.out.N.cells
  obtain ⟨z0, z1, z2, z3, z4, z5, z6, z7⟩ := S5.out.M.cells
  have fz := S5.out.M.frozen
  rw [HH.out] at y6
  go_upto_region 14 with fail
  have S6 := hide (S5.out.setS 0)
  clear fz y0 y1 y2 y3 y4 y5 y6 y7 z0 z1 z2 z3 z4 z5 z6 z7 S5
  generalize w5.setCell ⟨W, 5, none⟩ (.int .u8 0) = w6 at *
  have S5 := S6
  clear S6
  obtain ⟨w5, rfl⟩ : ∃ w5 : World, w5 = w6 := ⟨_, rfl⟩
  obtain ⟨y0, y1, y2, y3, y4, y5, y6, y7⟩ := S5.out.N.cells
  obtain ⟨z0, z1, z2, z3, z4, z5, z6, z7⟩ := S5.out.M.cells
  have fz := S5.out.M.frozen
  rw [HH.out] at y6
  go_upto_region 16 with fail
  have S6 := hide (S5.out.setSk false)
  clear fz y0 y1 y2 y3 y4 y5 y6 y7 z0 z1 z2 z3 z4 z5 z6 z7 S5
  generalize w5.setCell ⟨W, 7, none⟩ (.bool false) = w6 at *
  have S5 := S6
  clear S6
  obtain ⟨w5, rfl⟩ : ∃ w5 : World, w5 = w6 := ⟨_, rfl⟩
  obtain ⟨y0, y1, y2, y3, y4, y5, y6, y7⟩ := S5.out.N.cells
  obtain ⟨z0, z1, z2, z3, z4, z5, z6, z7⟩ := S5.out.M.cells
  have fz := S5.out.M.frozen
  rw [HH.out] at y6
  go_upto_region 20 with fail
  have S6 := hide (S5.out.setHa false)
  clear fz y0 y1 y2 y3 y4 y5 y6 y7 z0 z1 z2 z3 z4 z5 z6 z7 S5
  generalize w5.setCell ⟨W, 6, none⟩ (.bool false) = w6 at *
  have S5 := S6
  clear S6
  obtain ⟨w5, rfl⟩ : ∃ w5 : World, w5 = w6 := ⟨_, rfl⟩
  obtain ⟨y0, y1, y2, y3, y4, y5, y6, y7⟩ := S5.out.N.cells
  obtain ⟨z0, z1, z2, z3, z4, z5, z6, z7⟩ := S5.out.M.cells
  have fz := S5.out.M.frozen
  rw [HH.out] at y6
  go_upto_region 22 with (first
    | ((with_reducible refine Great.wpList_readTo rfl (some 67) rfl (.agg (blk (fun _ => 0)).toArray) ?_ ?_); (· as_aux_lemma => kernel_rfl))
    | ((with_reducible refine store_data rfl _ _ rfl W rfl (fun _ => 0) rfl S5.out.M ?_)))
  have S6 := hide (S5.out.setData (fun _ => 0))
  clear fz y0 y1 y2 y3 y4 y5 y6 y7 z0 z1 z2 z3 z4 z5 z6 z7 S5
  generalize w5.setCells W 8 (blk (fun _ => 0)) = w6 at *
  have S5 := S6
  clear S6
  obtain ⟨w5, rfl⟩ : ∃ w5 : World, w5 = w6 := ⟨_, rfl⟩
  go_wp2_with fail
  refine (CO.out _).mono ?_
  rintro e wx ⟨rfl, rfl⟩
  go_wp2_with (first
    | ((refine load_note_g (by rfl) (.tmp 1) rfl w.heap.size rfl S5.out.N ?_))
    | ((refine load_note_g (by rfl) (.tmp 6) rfl W rfl S5.out.M ?_)))
  go_ret
  exact ⟨rfl, S5.out.bel⟩
theorem may_2_false_tf (n : NT) (h0 : 1 ≤ n.K) (h1 : n.K ≤ 11) (b0 : 0 ≤ n.B) (b1 : n.B ≤ 255) (hu : usesN n.K = 2) (hh : n.Ha = false) (hc : coreB n.To = true) (ha : (n.Fr == -1) = false) (w : World) :
    Calls Try.prog 20 #[.agg (ntL n).toArray] w fun e w' => e = .returned (.bool (false)) ∧ Below w.heap.size w w' := by
  have N0 := hide (NAt.new w n)
  obtain ⟨y0, y1, y2, y3, y4, y5, y6, y7⟩ := N0.out.cells
  have KI := hide (kind_any n.K (w.alloc (.cells (ntL n).toArray 29)) (by omega) (by omega))
  rw [show kindB n.K = true by simp [kindB]; omega] at KI
  have US := hide (fun w => uses_any n.K w h0 h1)
  rw [hu] at US
  have CO := hide (fun w => core_any n.To w)
  rw [hc] at CO
  have HH := hide hh
  clear hu h0 h1 hc hh
  go_enter Try.func20, Try.ntmps20
  go_wp2_with fail
  refine KI.out.mono ?_
  rintro e wx ⟨rfl, rfl⟩
  go_wp2_with fail
  refine (US.out _).mono ?_
  rintro e w2 ⟨rfl, hb2⟩
  have hb := hide (((Below.refl w.heap.size w).alloc (Nat.le_refl _) (.cells (ntL n).toArray 29)).trans (hb2.mono (by simp)))
  have N4 := hide (N0.out.below hb2 (by simp))
  have hb4 := hb
  clear y0 y1 y2 y3 y4 y5 y6 y7 KI US hb2 N0 hb
  obtain ⟨w4, rfl⟩ : ∃ w4 : World, w4 = w2 := ⟨_, rfl⟩
  obtain ⟨y0, y1, y2, y3, y4, y5, y6, y7⟩ := N4.out.cells
  go_wp2_with fail
  go_quiet (fail)
  have N5 := hide (N4.out.drewN nq)
  have hb5 := hide (bdrewN hb4.out nq)
  clear y0 y1 y2 y3 y4 y5 y6 y7 N4 hb4
  generalize w4.drewN nq = w5 at *
  have N4 := N5
  have hb4 := hb5
  clear N5 hb5
  obtain ⟨w4, rfl⟩ : ∃ w4 : World, w4 = w5 := ⟨_, rfl⟩
  have S5 : Hid (MSt w (w4.alloc (.cells (ntL n).toArray 29)) w.heap.size w4.heap.size n n) :=
    hide ⟨N4.out.alloc _, NAt.new w4 n, hb4.out.alloc hb4.out.size _, hb4.out.size, by have := N4.out.lt; omega⟩
  go_upto_region 8 with (first
    | ((with_reducible refine load_note rfl (.tmp 1) rfl w.heap.size rfl N4.out ?_))
    | ((with_reducible refine alloc_note rfl rfl w4.heap.size rfl ?_))
    | ((with_reducible refine store_note_last rfl _ _ rfl _ w4.heap.size rfl rfl rfl ?_)))
  clear N4 hb4
  generalize w4.alloc (.cells (ntL n).toArray 29) = w5 at *
  generalize w4.heap.size = W at *
  obtain ⟨y0, y1, y2, y3, y4, y5, y6, y7⟩ := S5.out.N.cells
  obtain ⟨z0, z1, z2, z3, z4, z5, z6, z7⟩ := S5.out.M.cells
  have fz := S5.out.M.frozen
  rw [HH.out] at y6
  go_upto_region 14 with fail
  have S6 := hide (S5.out.setS 0)
  clear fz y0 y1 y2 y3 y4 y5 y6 y7 z0 z1 z2 z3 z4 z5 z6 z7 S5
  generalize w5.setCell ⟨W, 5, none⟩ (.int .u8 0) = w6 at *
  have S5 := S6
  clear S6
  obtain ⟨w5, rfl⟩ : ∃ w5 : World, w5 = w6 := ⟨_, rfl⟩
  obtain ⟨y0, y1, y2, y3, y4, y5, y6, y7⟩ := S5.out.N.cells
  obtain ⟨z0, z1, z2, z3, z4, z5, z6, z7⟩ := S5.out.M.cells
  have fz := S5.out.M.frozen
  rw [HH.out] at y6
  go_upto_region 16 with fail
  have S6 := hide (S5.out.setSk false)
  clear fz y0 y1 y2 y3 y4 y5 y6 y7 z0 z1 z2 z3 z4 z5 z6 z7 S5
  generalize w5.setCell ⟨W, 7, none⟩ (.bool false) = w6 at *
  have S5 := S6
  clear S6
  obtain ⟨w5, rfl⟩ : ∃ w5 : World, w5 = w6 := ⟨_, rfl⟩
  obtain ⟨y0, y1, y2, y3, y4, y5, y6, y7⟩ := S5.out.N.cells
  obtain ⟨z0, z1, z2, z3, z4, z5, z6, z7⟩ := S5.out.M.cells
  have fz := S5.out.M.frozen
  rw [HH.out] at y6
  go_upto_region 20 with fail
  have S6 := hide (S5.out.setHa false)
  clear fz y0 y1 y2 y3 y4 y5 y6 y7 z0 z1 z2 z3 z4 z5 z6 z7 S5
  generalize w5.setCell ⟨W, 6, none⟩ (.bool false) = w6 at *
  have S5 := S6
  clear S6
  obtain ⟨w5, rfl⟩ : ∃ w5 : World, w5 = w6 := ⟨_, rfl⟩
  obtain ⟨y0, y1, y2, y3, y4, y5, y6, y7⟩ := S5.out.N.cells
  obtain ⟨z0, z1, z2, z3, z4, z5, z6, z7⟩ := S5.out.M.cells
  have fz := S5.out.M.frozen
  rw [HH.out] at y6
  go_upto_region 22 with (first
    | ((with_reducible refine Great.wpList_readTo rfl (some 67) rfl (.agg (blk (fun _ => 0)).toArray) ?_ ?_); (· as_aux_lemma => kernel_rfl))
    | ((with_reducible refine store_data rfl _ _ rfl W rfl (fun _ => 0) rfl S5.out.M ?_)))
  have S6 := hide (S5.out.setData (fun _ => 0))
  clear fz y0 y1 y2 y3 y4 y5 y6 y7 z0 z1 z2 z3 z4 z5 z6 z7 S5
  generalize w5.setCells W 8 (blk (fun _ => 0)) = w6 at *
  have S5 := S6
  clear S6
  obtain ⟨w5, rfl⟩ : ∃ w5 : World, w5 = w6 := ⟨_, rfl⟩
  go_wp2_with fail
  refine (CO.out _).mono ?_
  rintro e wx ⟨rfl, rfl⟩
  go_wp2_with fail
  go_ret
  exact ⟨rfl, S5.out.bel⟩
theorem may_2_false_ff (n : NT) (h0 : 1 ≤ n.K) (h1 : n.K ≤ 11) (b0 : 0 ≤ n.B) (b1 : n.B ≤ 255) (hu : usesN n.K = 2) (hh : n.Ha = false) (hc : coreB n.To = false) (w : World) :
    Calls Try.prog 20 #[.agg (ntL n).toArray] w fun e w' => e = .returned (.bool (false)) ∧ Below w.heap.size w w' := by
  have N0 := hide (NAt.new w n)
  obtain ⟨y0, y1, y2, y3, y4, y5, y6, y7⟩ := N0.out.cells
  have KI := hide (kind_any n.K (w.alloc (.cells (ntL n).toArray 29)) (by omega) (by omega))
  rw [show kindB n.K = true by simp [kindB]; omega] at KI
  have US := hide (fun w => uses_any n.K w h0 h1)
  rw [hu] at US
  have CO := hide (fun w => core_any n.To w)
  rw [hc] at CO
  have HH := hide hh
  clear hu h0 h1 hc hh
  go_enter Try.func20, Try.ntmps20
  go_wp2_with fail
  refine KI.out.mono ?_
  rintro e wx ⟨rfl, rfl⟩
  go_wp2_with fail
  refine (US.out _).mono ?_
  rintro e w2 ⟨rfl, hb2⟩
  have hb := hide (((Below.refl w.heap.size w).alloc (Nat.le_refl _) (.cells (ntL n).toArray 29)).trans (hb2.mono (by simp)))
  have N4 := hide (N0.out.below hb2 (by simp))
  have hb4 := hb
  clear y0 y1 y2 y3 y4 y5 y6 y7 KI US hb2 N0 hb
  obtain ⟨w4, rfl⟩ : ∃ w4 : World, w4 = w2 := ⟨_, rfl⟩
  obtain ⟨y0, y1, y2, y3, y4, y5, y6, y7⟩ := N4.out.cells
  go_wp2_with fail
  go_quiet (fail)
  have N5 := hide (N4.out.drewN nq)
  have hb5 := hide (bdrewN hb4.out nq)
  clear y0 y1 y2 y3 y4 y5 y6 y7 N4 hb4
  generalize w4.drewN nq = w5 at *
  have N4 := N5
  have hb4 := hb5
  clear N5 hb5
  obtain ⟨w4, rfl⟩ : ∃ w4 : World, w4 = w5 := ⟨_, rfl⟩
  have S5 : Hid (MSt w (w4.alloc (.cells (ntL n).toArray 29)) w.heap.size w4.heap.size n n) :=
    hide ⟨N4.out.alloc _, NAt.new w4 n, hb4.out.alloc hb4.out.size _, hb4.out.size, by have := N4.out.lt; omega⟩
  go_upto_region 8 with (first
    | ((with_reducible refine load_note rfl (.tmp 1) rfl w.heap.size rfl N4.out ?_))
    | ((with_reducible refine alloc_note rfl rfl w4.heap.size rfl ?_))
    | ((with_reducible refine store_note_last rfl _ _ rfl _ w4.heap.size rfl rfl rfl ?_)))
  clear N4 hb4
  generalize w4.alloc (.cells (ntL n).toArray 29) = w5 at *
  generalize w4.heap.size = W at *
  obtain ⟨y0, y1, y2, y3, y4, y5, y6, y7⟩ := S5.out.N.cells
  obtain ⟨z0, z1, z2, z3, z4, z5, z6, z7⟩ := S5.out.M.cells
  have fz := S5.out.M.frozen
  rw [HH.out] at y6
  go_upto_region 14 with fail
  have S6 := hide (S5.out.setS 0)
  clear fz y0 y1 y2 y3 y4 y5 y6 y7 z0 z1 z2 z3 z4 z5 z6 z7 S5
  generalize w5.setCell ⟨W, 5, none⟩ (.int .u8 0) = w6 at *
  have S5 := S6
  clear S6
  obtain ⟨w5, rfl⟩ : ∃ w5 : World, w5 = w6 := ⟨_, rfl⟩
  obtain ⟨y0, y1, y2, y3, y4, y5, y6, y7⟩ := S5.out.N.cells
  obtain ⟨z0, z1, z2, z3, z4, z5, z6, z7⟩ := S5.out.M.cells
  have fz := S5.out.M.frozen
  rw [HH.out] at y6
  go_upto_region 16 with fail
  have S6 := hide (S5.out.setSk false)
  clear fz y0 y1 y2 y3 y4 y5 y6 y7 z0 z1 z2 z3 z4 z5 z6 z7 S5
  generalize w5.setCell ⟨W, 7, none⟩ (.bool false) = w6 at *
  have S5 := S6
  clear S6
  obtain ⟨w5, rfl⟩ : ∃ w5 : World, w5 = w6 := ⟨_, rfl⟩
  obtain ⟨y0, y1, y2, y3, y4, y5, y6, y7⟩ := S5.out.N.cells
  obtain ⟨z0, z1, z2, z3, z4, z5, z6, z7⟩ := S5.out.M.cells
  have fz := S5.out.M.frozen
  rw [HH.out] at y6
  go_upto_region 20 with fail
  have S6 := hide (S5.out.setHa false)
  clear fz y0 y1 y2 y3 y4 y5 y6 y7 z0 z1 z2 z3 z4 z5 z6 z7 S5
  generalize w5.setCell ⟨W, 6, none⟩ (.bool false) = w6 at *
  have S5 := S6
  clear S6
  obtain ⟨w5, rfl⟩ : ∃ w5 : World, w5 = w6 := ⟨_, rfl⟩
  obtain ⟨y0, y1, y2, y3, y4, y5, y6, y7⟩ := S5.out.N.cells
  obtain ⟨z0, z1, z2, z3, z4, z5, z6, z7⟩ := S5.out.M.cells
  have fz := S5.out.M.frozen
  rw [HH.out] at y6
  go_upto_region 22 with (first
    | ((with_reducible refine Great.wpList_readTo rfl (some 67) rfl (.agg (blk (fun _ => 0)).toArray) ?_ ?_); (· as_aux_lemma => kernel_rfl))
    | ((with_reducible refine store_data rfl _ _ rfl W rfl (fun _ => 0) rfl S5.out.M ?_)))
  have S6 := hide (S5.out.setData (fun _ => 0))
  clear fz y0 y1 y2 y3 y4 y5 y6 y7 z0 z1 z2 z3 z4 z5 z6 z7 S5
  generalize w5.setCells W 8 (blk (fun _ => 0)) = w6 at *
  have S5 := S6
  clear S6
  obtain ⟨w5, rfl⟩ : ∃ w5 : World, w5 = w6 := ⟨_, rfl⟩
  go_wp2_with fail
  refine (CO.out _).mono ?_
  rintro e wx ⟨rfl, rfl⟩
  go_wp2_with fail
  go_ret
  exact ⟨rfl, S5.out.bel⟩
end Go.Proofs.Ytnjojcikahiieaa.NMayA
