/-
  The document's May walked: kinds of the classes a, b.
-/
import Derived.Test.YtnjojcikahiieaaNMaySt
namespace Go.Proofs.Ytnjojcikahiieaa.NRefA
open Go.RowKit Base Blks NRec NSmall NLaw NMaySt
set_option linter.unusedVariables false
set_option linter.unusedSimpArgs false
set_option maxRecDepth 100000
theorem ref_a_at (n : NT) (hk : n.K = 1 ∨ n.K = 2 ∨ n.K = 10) (b0 : 0 ≤ n.B) (b1 : n.B ≤ 255) (p0 : (n.To != -1) = true) (w : World) :
    Calls Try.prog 17 #[.agg (ntL n).toArray] w fun e w' => e = .returned (.bool (false)) ∧ Below w.heap.size w w' := by
  have N0 := hide (NAt.new w n)
  have hb := hide ((Below.refl w.heap.size w).alloc (Nat.le_refl _) (.cells (ntL n).toArray 29))
  have k1 : 1 ≤ n.K := by omega
  have k2 : n.K ≤ 11 := by omega
  have HO := hide (fun w => home_any n.K w k1 k2)
  have SO := hide (fun w => stamp_any n.K w k1 k2)
  have eh : homeB n.K = true := by unfold homeB; simp only [decide_eq_true_iff]; omega
  have es : stampB n.K = true := by unfold stampB; simp only [decide_eq_true_iff]; omega
  have t6 : (n.K == 6) = false := by rw [beq_eq_false_iff_ne]; omega
  have t6' : (n.K != 6) = true := by rw [bne_iff_ne]; omega
  have t3 : (n.K == 3) = false := by rw [beq_eq_false_iff_ne]; omega
  have t3' : (n.K != 3) = true := by rw [bne_iff_ne]; omega
  have t9' : (n.K != 9) = true := by rw [bne_iff_ne]; omega
  rw [eh] at HO
  rw [es] at SO
  clear eh es hk
  obtain ⟨y0, y1, y2, y3, y4, y5, y6, y7⟩ := N0.out.cells
  go_enter Try.func17, Try.ntmps17
  go_wp2_with fail
  refine (HO.out _).mono ?_
  rintro e wx ⟨rfl, rfl⟩
  go_wp2
  go_ret
  exact ⟨rfl, hb.out⟩
theorem ref_a_lo (n : NT) (hk : n.K = 1 ∨ n.K = 2 ∨ n.K = 10) (b0 : 0 ≤ n.B) (b1 : n.B ≤ 255) (p0 : (n.To != -1) = false) (p1 : n.Fr < 0) (w : World) :
    Calls Try.prog 17 #[.agg (ntL n).toArray] w fun e w' => e = .returned (.bool (false)) ∧ Below w.heap.size w w' := by
  have N0 := hide (NAt.new w n)
  have hb := hide ((Below.refl w.heap.size w).alloc (Nat.le_refl _) (.cells (ntL n).toArray 29))
  have k1 : 1 ≤ n.K := by omega
  have k2 : n.K ≤ 11 := by omega
  have HO := hide (fun w => home_any n.K w k1 k2)
  have SO := hide (fun w => stamp_any n.K w k1 k2)
  have eh : homeB n.K = true := by unfold homeB; simp only [decide_eq_true_iff]; omega
  have es : stampB n.K = true := by unfold stampB; simp only [decide_eq_true_iff]; omega
  have t6 : (n.K == 6) = false := by rw [beq_eq_false_iff_ne]; omega
  have t6' : (n.K != 6) = true := by rw [bne_iff_ne]; omega
  have t3 : (n.K == 3) = false := by rw [beq_eq_false_iff_ne]; omega
  have t3' : (n.K != 3) = true := by rw [bne_iff_ne]; omega
  have t9' : (n.K != 9) = true := by rw [bne_iff_ne]; omega
  rw [eh] at HO
  rw [es] at SO
  clear eh es hk
  obtain ⟨y0, y1, y2, y3, y4, y5, y6, y7⟩ := N0.out.cells
  go_enter Try.func17, Try.ntmps17
  go_wp2_with fail
  refine (HO.out _).mono ?_
  rintro e wx ⟨rfl, rfl⟩
  go_wp2
  go_ret
  exact ⟨rfl, hb.out⟩
theorem ref_a_hi (n : NT) (hk : n.K = 1 ∨ n.K = 2 ∨ n.K = 10) (b0 : 0 ≤ n.B) (b1 : n.B ≤ 255) (p0 : (n.To != -1) = false) (p1 : 0 ≤ n.Fr) (p2 : 15 < n.Fr) (w : World) :
    Calls Try.prog 17 #[.agg (ntL n).toArray] w fun e w' => e = .returned (.bool (false)) ∧ Below w.heap.size w w' := by
  have N0 := hide (NAt.new w n)
  have hb := hide ((Below.refl w.heap.size w).alloc (Nat.le_refl _) (.cells (ntL n).toArray 29))
  have k1 : 1 ≤ n.K := by omega
  have k2 : n.K ≤ 11 := by omega
  have HO := hide (fun w => home_any n.K w k1 k2)
  have SO := hide (fun w => stamp_any n.K w k1 k2)
  have eh : homeB n.K = true := by unfold homeB; simp only [decide_eq_true_iff]; omega
  have es : stampB n.K = true := by unfold stampB; simp only [decide_eq_true_iff]; omega
  have t6 : (n.K == 6) = false := by rw [beq_eq_false_iff_ne]; omega
  have t6' : (n.K != 6) = true := by rw [bne_iff_ne]; omega
  have t3 : (n.K == 3) = false := by rw [beq_eq_false_iff_ne]; omega
  have t3' : (n.K != 3) = true := by rw [bne_iff_ne]; omega
  have t9' : (n.K != 9) = true := by rw [bne_iff_ne]; omega
  rw [eh] at HO
  rw [es] at SO
  clear eh es hk
  obtain ⟨y0, y1, y2, y3, y4, y5, y6, y7⟩ := N0.out.cells
  go_enter Try.func17, Try.ntmps17
  go_wp2_with fail
  refine (HO.out _).mono ?_
  rintro e wx ⟨rfl, rfl⟩
  go_wp2
  go_ret
  exact ⟨rfl, hb.out⟩
theorem ref_a_s0 (n : NT) (hk : n.K = 1 ∨ n.K = 2 ∨ n.K = 10) (b0 : 0 ≤ n.B) (b1 : n.B ≤ 255) (p0 : (n.To != -1) = false) (p1 : 0 ≤ n.Fr) (p2 : n.Fr ≤ 15) (p3 : (n.S != 0) = true) (w : World) :
    Calls Try.prog 17 #[.agg (ntL n).toArray] w fun e w' => e = .returned (.bool (false)) ∧ Below w.heap.size w w' := by
  have N0 := hide (NAt.new w n)
  have hb := hide ((Below.refl w.heap.size w).alloc (Nat.le_refl _) (.cells (ntL n).toArray 29))
  have k1 : 1 ≤ n.K := by omega
  have k2 : n.K ≤ 11 := by omega
  have HO := hide (fun w => home_any n.K w k1 k2)
  have SO := hide (fun w => stamp_any n.K w k1 k2)
  have eh : homeB n.K = true := by unfold homeB; simp only [decide_eq_true_iff]; omega
  have es : stampB n.K = true := by unfold stampB; simp only [decide_eq_true_iff]; omega
  have t6 : (n.K == 6) = false := by rw [beq_eq_false_iff_ne]; omega
  have t6' : (n.K != 6) = true := by rw [bne_iff_ne]; omega
  have t3 : (n.K == 3) = false := by rw [beq_eq_false_iff_ne]; omega
  have t3' : (n.K != 3) = true := by rw [bne_iff_ne]; omega
  have t9' : (n.K != 9) = true := by rw [bne_iff_ne]; omega
  rw [eh] at HO
  rw [es] at SO
  clear eh es hk
  obtain ⟨y0, y1, y2, y3, y4, y5, y6, y7⟩ := N0.out.cells
  go_enter Try.func17, Try.ntmps17
  go_wp2_with fail
  refine (HO.out _).mono ?_
  rintro e wx ⟨rfl, rfl⟩
  go_wp2_with fail
  refine (SO.out _).mono ?_
  rintro e wx ⟨rfl, rfl⟩
  go_wp2
  go_ret
  exact ⟨rfl, hb.out⟩
theorem ref_a_sk (n : NT) (hk : n.K = 1 ∨ n.K = 2 ∨ n.K = 10) (b0 : 0 ≤ n.B) (b1 : n.B ≤ 255) (p0 : (n.To != -1) = false) (p1 : 0 ≤ n.Fr) (p2 : n.Fr ≤ 15) (p3 : (n.S != 0) = false) (p4 : n.Sk = true) (w : World) :
    Calls Try.prog 17 #[.agg (ntL n).toArray] w fun e w' => e = .returned (.bool (false)) ∧ Below w.heap.size w w' := by
  have N0 := hide (NAt.new w n)
  have hb := hide ((Below.refl w.heap.size w).alloc (Nat.le_refl _) (.cells (ntL n).toArray 29))
  have k1 : 1 ≤ n.K := by omega
  have k2 : n.K ≤ 11 := by omega
  have HO := hide (fun w => home_any n.K w k1 k2)
  have SO := hide (fun w => stamp_any n.K w k1 k2)
  have eh : homeB n.K = true := by unfold homeB; simp only [decide_eq_true_iff]; omega
  have es : stampB n.K = true := by unfold stampB; simp only [decide_eq_true_iff]; omega
  have t6 : (n.K == 6) = false := by rw [beq_eq_false_iff_ne]; omega
  have t6' : (n.K != 6) = true := by rw [bne_iff_ne]; omega
  have t3 : (n.K == 3) = false := by rw [beq_eq_false_iff_ne]; omega
  have t3' : (n.K != 3) = true := by rw [bne_iff_ne]; omega
  have t9' : (n.K != 9) = true := by rw [bne_iff_ne]; omega
  rw [eh] at HO
  rw [es] at SO
  have P4 := hide p4
  clear eh es hk p4
  obtain ⟨y0, y1, y2, y3, y4, y5, y6, y7⟩ := N0.out.cells
  rw [P4.out] at y7
  go_enter Try.func17, Try.ntmps17
  go_wp2_with fail
  refine (HO.out _).mono ?_
  rintro e wx ⟨rfl, rfl⟩
  go_wp2_with fail
  refine (SO.out _).mono ?_
  rintro e wx ⟨rfl, rfl⟩
  go_wp2
  go_ret
  exact ⟨rfl, hb.out⟩
theorem ref_a_ha (n : NT) (hk : n.K = 1 ∨ n.K = 2 ∨ n.K = 10) (b0 : 0 ≤ n.B) (b1 : n.B ≤ 255) (p0 : (n.To != -1) = false) (p1 : 0 ≤ n.Fr) (p2 : n.Fr ≤ 15) (p3 : (n.S != 0) = false) (p4 : n.Sk = false) (p5 : n.Ha = true) (w : World) :
    Calls Try.prog 17 #[.agg (ntL n).toArray] w fun e w' => e = .returned (.bool (false)) ∧ Below w.heap.size w w' := by
  have N0 := hide (NAt.new w n)
  have hb := hide ((Below.refl w.heap.size w).alloc (Nat.le_refl _) (.cells (ntL n).toArray 29))
  have k1 : 1 ≤ n.K := by omega
  have k2 : n.K ≤ 11 := by omega
  have HO := hide (fun w => home_any n.K w k1 k2)
  have SO := hide (fun w => stamp_any n.K w k1 k2)
  have eh : homeB n.K = true := by unfold homeB; simp only [decide_eq_true_iff]; omega
  have es : stampB n.K = true := by unfold stampB; simp only [decide_eq_true_iff]; omega
  have t6 : (n.K == 6) = false := by rw [beq_eq_false_iff_ne]; omega
  have t6' : (n.K != 6) = true := by rw [bne_iff_ne]; omega
  have t3 : (n.K == 3) = false := by rw [beq_eq_false_iff_ne]; omega
  have t3' : (n.K != 3) = true := by rw [bne_iff_ne]; omega
  have t9' : (n.K != 9) = true := by rw [bne_iff_ne]; omega
  rw [eh] at HO
  rw [es] at SO
  have P4 := hide p4
  have P5 := hide p5
  clear eh es hk p4 p5
  obtain ⟨y0, y1, y2, y3, y4, y5, y6, y7⟩ := N0.out.cells
  rw [P4.out] at y7
  rw [P5.out] at y6
  go_enter Try.func17, Try.ntmps17
  go_wp2_with fail
  refine (HO.out _).mono ?_
  rintro e wx ⟨rfl, rfl⟩
  go_wp2_with fail
  refine (SO.out _).mono ?_
  rintro e wx ⟨rfl, rfl⟩
  go_wp2
  go_ret
  exact ⟨rfl, hb.out⟩
theorem ref_a_h0 (n : NT) (hk : n.K = 1 ∨ n.K = 2 ∨ n.K = 10) (b0 : 0 ≤ n.B) (b1 : n.B ≤ 255) (p0 : (n.To != -1) = false) (p1 : 0 ≤ n.Fr) (p2 : n.Fr ≤ 15) (p3 : (n.S != 0) = false) (p4 : n.Sk = false) (p5 : n.Ha = false) (w : World) :
    Calls Try.prog 17 #[.agg (ntL n).toArray] w fun e w' => e = .returned (.bool (eqB n.f (fun _ => 0))) ∧ Below w.heap.size w w' := by
  have N0 := hide (NAt.new w n)
  have hb := hide ((Below.refl w.heap.size w).alloc (Nat.le_refl _) (.cells (ntL n).toArray 29))
  have k1 : 1 ≤ n.K := by omega
  have k2 : n.K ≤ 11 := by omega
  have HO := hide (fun w => home_any n.K w k1 k2)
  have SO := hide (fun w => stamp_any n.K w k1 k2)
  have eh : homeB n.K = true := by unfold homeB; simp only [decide_eq_true_iff]; omega
  have es : stampB n.K = true := by unfold stampB; simp only [decide_eq_true_iff]; omega
  have t6 : (n.K == 6) = false := by rw [beq_eq_false_iff_ne]; omega
  have t6' : (n.K != 6) = true := by rw [bne_iff_ne]; omega
  have t3 : (n.K == 3) = false := by rw [beq_eq_false_iff_ne]; omega
  have t3' : (n.K != 3) = true := by rw [bne_iff_ne]; omega
  have t9' : (n.K != 9) = true := by rw [bne_iff_ne]; omega
  rw [eh] at HO
  rw [es] at SO
  have P4 := hide p4
  have P5 := hide p5
  have EQ : ∀ w : World, (Op.equalIn 10000 27 (.agg (blk n.f).toArray) (.agg #[.int .u32 0, .int .u32 0, .int .u32 0, .int .u32 0, .int .u32 0, .int .u32 0, .int .u32 0, .int .u32 0, .int .u32 0, .int .u32 0, .int .u32 0, .int .u32 0, .int .u32 0, .int .u32 0, .int .u32 0, .int .u32 0])).run Try.prog w = .ok (eqB n.f (fun _ => 0)) w := fun w => eqBlock n.f (fun _ => 0) w 9997
  have EG : Try.prog.eqGuardType Try.prog.depth 27 = false := by kernel_rfl
  clear eh es hk p4 p5
  obtain ⟨y0, y1, y2, y3, y4, y5, y6, y7⟩ := N0.out.cells
  rw [P4.out] at y7
  rw [P5.out] at y6
  go_enter Try.func17, Try.ntmps17
  go_wp2_with fail
  refine (HO.out _).mono ?_
  rintro e wx ⟨rfl, rfl⟩
  go_wp2_with fail
  refine (SO.out _).mono ?_
  rintro e wx ⟨rfl, rfl⟩
  go_upto_region 14 with fail
  go_wp2_with (first
    | ((refine load_data_g (by rfl) (.tmp 122) rfl w.heap.size rfl N0.out ?_)))
  go_ret
  exact ⟨rfl, hb.out⟩
theorem ref_b_at (n : NT) (hk : n.K = 3) (b0 : 0 ≤ n.B) (b1 : n.B ≤ 255) (p0 : (n.To != -1) = true) (w : World) :
    Calls Try.prog 17 #[.agg (ntL n).toArray] w fun e w' => e = .returned (.bool (false)) ∧ Below w.heap.size w w' := by
  have N0 := hide (NAt.new w n)
  have hb := hide ((Below.refl w.heap.size w).alloc (Nat.le_refl _) (.cells (ntL n).toArray 29))
  have k1 : 1 ≤ n.K := by omega
  have k2 : n.K ≤ 11 := by omega
  have HO := hide (fun w => home_any n.K w k1 k2)
  have SO := hide (fun w => stamp_any n.K w k1 k2)
  have eh : homeB n.K = true := by unfold homeB; simp only [decide_eq_true_iff]; omega
  have es : stampB n.K = false := by unfold stampB; simp only [decide_eq_false_iff_not]; omega
  have t6 : (n.K == 6) = false := by rw [beq_eq_false_iff_ne]; omega
  have t6' : (n.K != 6) = true := by rw [bne_iff_ne]; omega
  have t3 : (n.K == 3) = true := by rw [beq_iff_eq]; omega
  have t3' : (n.K != 3) = false := by rw [bne_eq_false_iff_eq]; omega
  have t9' : (n.K != 9) = true := by rw [bne_iff_ne]; omega
  rw [eh] at HO
  rw [es] at SO
  clear eh es hk
  obtain ⟨y0, y1, y2, y3, y4, y5, y6, y7⟩ := N0.out.cells
  go_enter Try.func17, Try.ntmps17
  go_wp2_with fail
  refine (HO.out _).mono ?_
  rintro e wx ⟨rfl, rfl⟩
  go_wp2
  go_ret
  exact ⟨rfl, hb.out⟩
theorem ref_b_lo (n : NT) (hk : n.K = 3) (b0 : 0 ≤ n.B) (b1 : n.B ≤ 255) (p0 : (n.To != -1) = false) (p1 : n.Fr < 0) (w : World) :
    Calls Try.prog 17 #[.agg (ntL n).toArray] w fun e w' => e = .returned (.bool (false)) ∧ Below w.heap.size w w' := by
  have N0 := hide (NAt.new w n)
  have hb := hide ((Below.refl w.heap.size w).alloc (Nat.le_refl _) (.cells (ntL n).toArray 29))
  have k1 : 1 ≤ n.K := by omega
  have k2 : n.K ≤ 11 := by omega
  have HO := hide (fun w => home_any n.K w k1 k2)
  have SO := hide (fun w => stamp_any n.K w k1 k2)
  have eh : homeB n.K = true := by unfold homeB; simp only [decide_eq_true_iff]; omega
  have es : stampB n.K = false := by unfold stampB; simp only [decide_eq_false_iff_not]; omega
  have t6 : (n.K == 6) = false := by rw [beq_eq_false_iff_ne]; omega
  have t6' : (n.K != 6) = true := by rw [bne_iff_ne]; omega
  have t3 : (n.K == 3) = true := by rw [beq_iff_eq]; omega
  have t3' : (n.K != 3) = false := by rw [bne_eq_false_iff_eq]; omega
  have t9' : (n.K != 9) = true := by rw [bne_iff_ne]; omega
  rw [eh] at HO
  rw [es] at SO
  clear eh es hk
  obtain ⟨y0, y1, y2, y3, y4, y5, y6, y7⟩ := N0.out.cells
  go_enter Try.func17, Try.ntmps17
  go_wp2_with fail
  refine (HO.out _).mono ?_
  rintro e wx ⟨rfl, rfl⟩
  go_wp2
  go_ret
  exact ⟨rfl, hb.out⟩
theorem ref_b_hi (n : NT) (hk : n.K = 3) (b0 : 0 ≤ n.B) (b1 : n.B ≤ 255) (p0 : (n.To != -1) = false) (p1 : 0 ≤ n.Fr) (p2 : 15 < n.Fr) (w : World) :
    Calls Try.prog 17 #[.agg (ntL n).toArray] w fun e w' => e = .returned (.bool (false)) ∧ Below w.heap.size w w' := by
  have N0 := hide (NAt.new w n)
  have hb := hide ((Below.refl w.heap.size w).alloc (Nat.le_refl _) (.cells (ntL n).toArray 29))
  have k1 : 1 ≤ n.K := by omega
  have k2 : n.K ≤ 11 := by omega
  have HO := hide (fun w => home_any n.K w k1 k2)
  have SO := hide (fun w => stamp_any n.K w k1 k2)
  have eh : homeB n.K = true := by unfold homeB; simp only [decide_eq_true_iff]; omega
  have es : stampB n.K = false := by unfold stampB; simp only [decide_eq_false_iff_not]; omega
  have t6 : (n.K == 6) = false := by rw [beq_eq_false_iff_ne]; omega
  have t6' : (n.K != 6) = true := by rw [bne_iff_ne]; omega
  have t3 : (n.K == 3) = true := by rw [beq_iff_eq]; omega
  have t3' : (n.K != 3) = false := by rw [bne_eq_false_iff_eq]; omega
  have t9' : (n.K != 9) = true := by rw [bne_iff_ne]; omega
  rw [eh] at HO
  rw [es] at SO
  clear eh es hk
  obtain ⟨y0, y1, y2, y3, y4, y5, y6, y7⟩ := N0.out.cells
  go_enter Try.func17, Try.ntmps17
  go_wp2_with fail
  refine (HO.out _).mono ?_
  rintro e wx ⟨rfl, rfl⟩
  go_wp2
  go_ret
  exact ⟨rfl, hb.out⟩
theorem ref_b_st (n : NT) (hk : n.K = 3) (b0 : 0 ≤ n.B) (b1 : n.B ≤ 255) (p0 : (n.To != -1) = false) (p1 : 0 ≤ n.Fr) (p2 : n.Fr ≤ 15) (p3 : (n.St != 0) = true) (w : World) :
    Calls Try.prog 17 #[.agg (ntL n).toArray] w fun e w' => e = .returned (.bool (false)) ∧ Below w.heap.size w w' := by
  have N0 := hide (NAt.new w n)
  have hb := hide ((Below.refl w.heap.size w).alloc (Nat.le_refl _) (.cells (ntL n).toArray 29))
  have k1 : 1 ≤ n.K := by omega
  have k2 : n.K ≤ 11 := by omega
  have HO := hide (fun w => home_any n.K w k1 k2)
  have SO := hide (fun w => stamp_any n.K w k1 k2)
  have eh : homeB n.K = true := by unfold homeB; simp only [decide_eq_true_iff]; omega
  have es : stampB n.K = false := by unfold stampB; simp only [decide_eq_false_iff_not]; omega
  have t6 : (n.K == 6) = false := by rw [beq_eq_false_iff_ne]; omega
  have t6' : (n.K != 6) = true := by rw [bne_iff_ne]; omega
  have t3 : (n.K == 3) = true := by rw [beq_iff_eq]; omega
  have t3' : (n.K != 3) = false := by rw [bne_eq_false_iff_eq]; omega
  have t9' : (n.K != 9) = true := by rw [bne_iff_ne]; omega
  rw [eh] at HO
  rw [es] at SO
  clear eh es hk
  obtain ⟨y0, y1, y2, y3, y4, y5, y6, y7⟩ := N0.out.cells
  go_enter Try.func17, Try.ntmps17
  go_wp2_with fail
  refine (HO.out _).mono ?_
  rintro e wx ⟨rfl, rfl⟩
  go_wp2_with fail
  refine (SO.out _).mono ?_
  rintro e wx ⟨rfl, rfl⟩
  go_wp2
  go_ret
  exact ⟨rfl, hb.out⟩
theorem ref_b_s0 (n : NT) (hk : n.K = 3) (b0 : 0 ≤ n.B) (b1 : n.B ≤ 255) (p0 : (n.To != -1) = false) (p1 : 0 ≤ n.Fr) (p2 : n.Fr ≤ 15) (p3 : (n.St != 0) = false) (p4 : (n.S != 0) = true) (w : World) :
    Calls Try.prog 17 #[.agg (ntL n).toArray] w fun e w' => e = .returned (.bool (false)) ∧ Below w.heap.size w w' := by
  have N0 := hide (NAt.new w n)
  have hb := hide ((Below.refl w.heap.size w).alloc (Nat.le_refl _) (.cells (ntL n).toArray 29))
  have k1 : 1 ≤ n.K := by omega
  have k2 : n.K ≤ 11 := by omega
  have HO := hide (fun w => home_any n.K w k1 k2)
  have SO := hide (fun w => stamp_any n.K w k1 k2)
  have eh : homeB n.K = true := by unfold homeB; simp only [decide_eq_true_iff]; omega
  have es : stampB n.K = false := by unfold stampB; simp only [decide_eq_false_iff_not]; omega
  have t6 : (n.K == 6) = false := by rw [beq_eq_false_iff_ne]; omega
  have t6' : (n.K != 6) = true := by rw [bne_iff_ne]; omega
  have t3 : (n.K == 3) = true := by rw [beq_iff_eq]; omega
  have t3' : (n.K != 3) = false := by rw [bne_eq_false_iff_eq]; omega
  have t9' : (n.K != 9) = true := by rw [bne_iff_ne]; omega
  rw [eh] at HO
  rw [es] at SO
  clear eh es hk
  obtain ⟨y0, y1, y2, y3, y4, y5, y6, y7⟩ := N0.out.cells
  go_enter Try.func17, Try.ntmps17
  go_wp2_with fail
  refine (HO.out _).mono ?_
  rintro e wx ⟨rfl, rfl⟩
  go_wp2_with fail
  refine (SO.out _).mono ?_
  rintro e wx ⟨rfl, rfl⟩
  go_wp2
  go_ret
  exact ⟨rfl, hb.out⟩
theorem ref_b_ha (n : NT) (hk : n.K = 3) (b0 : 0 ≤ n.B) (b1 : n.B ≤ 255) (p0 : (n.To != -1) = false) (p1 : 0 ≤ n.Fr) (p2 : n.Fr ≤ 15) (p3 : (n.St != 0) = false) (p4 : (n.S != 0) = false) (p5 : n.Ha = false) (w : World) :
    Calls Try.prog 17 #[.agg (ntL n).toArray] w fun e w' => e = .returned (.bool (false)) ∧ Below w.heap.size w w' := by
  have N0 := hide (NAt.new w n)
  have hb := hide ((Below.refl w.heap.size w).alloc (Nat.le_refl _) (.cells (ntL n).toArray 29))
  have k1 : 1 ≤ n.K := by omega
  have k2 : n.K ≤ 11 := by omega
  have HO := hide (fun w => home_any n.K w k1 k2)
  have SO := hide (fun w => stamp_any n.K w k1 k2)
  have eh : homeB n.K = true := by unfold homeB; simp only [decide_eq_true_iff]; omega
  have es : stampB n.K = false := by unfold stampB; simp only [decide_eq_false_iff_not]; omega
  have t6 : (n.K == 6) = false := by rw [beq_eq_false_iff_ne]; omega
  have t6' : (n.K != 6) = true := by rw [bne_iff_ne]; omega
  have t3 : (n.K == 3) = true := by rw [beq_iff_eq]; omega
  have t3' : (n.K != 3) = false := by rw [bne_eq_false_iff_eq]; omega
  have t9' : (n.K != 9) = true := by rw [bne_iff_ne]; omega
  rw [eh] at HO
  rw [es] at SO
  have P5 := hide p5
  clear eh es hk p5
  obtain ⟨y0, y1, y2, y3, y4, y5, y6, y7⟩ := N0.out.cells
  rw [P5.out] at y6
  go_enter Try.func17, Try.ntmps17
  go_wp2_with fail
  refine (HO.out _).mono ?_
  rintro e wx ⟨rfl, rfl⟩
  go_wp2_with fail
  refine (SO.out _).mono ?_
  rintro e wx ⟨rfl, rfl⟩
  go_wp2
  go_ret
  exact ⟨rfl, hb.out⟩
theorem ref_b_ok (n : NT) (hk : n.K = 3) (b0 : 0 ≤ n.B) (b1 : n.B ≤ 255) (p0 : (n.To != -1) = false) (p1 : 0 ≤ n.Fr) (p2 : n.Fr ≤ 15) (p3 : (n.St != 0) = false) (p4 : (n.S != 0) = false) (p5 : n.Ha = true) (w : World) :
    Calls Try.prog 17 #[.agg (ntL n).toArray] w fun e w' => e = .returned (.bool (true)) ∧ Below w.heap.size w w' := by
  have N0 := hide (NAt.new w n)
  have hb := hide ((Below.refl w.heap.size w).alloc (Nat.le_refl _) (.cells (ntL n).toArray 29))
  have k1 : 1 ≤ n.K := by omega
  have k2 : n.K ≤ 11 := by omega
  have HO := hide (fun w => home_any n.K w k1 k2)
  have SO := hide (fun w => stamp_any n.K w k1 k2)
  have eh : homeB n.K = true := by unfold homeB; simp only [decide_eq_true_iff]; omega
  have es : stampB n.K = false := by unfold stampB; simp only [decide_eq_false_iff_not]; omega
  have t6 : (n.K == 6) = false := by rw [beq_eq_false_iff_ne]; omega
  have t6' : (n.K != 6) = true := by rw [bne_iff_ne]; omega
  have t3 : (n.K == 3) = true := by rw [beq_iff_eq]; omega
  have t3' : (n.K != 3) = false := by rw [bne_eq_false_iff_eq]; omega
  have t9' : (n.K != 9) = true := by rw [bne_iff_ne]; omega
  rw [eh] at HO
  rw [es] at SO
  have P5 := hide p5
  clear eh es hk p5
  obtain ⟨y0, y1, y2, y3, y4, y5, y6, y7⟩ := N0.out.cells
  rw [P5.out] at y6
  go_enter Try.func17, Try.ntmps17
  go_wp2_with fail
  refine (HO.out _).mono ?_
  rintro e wx ⟨rfl, rfl⟩
  go_wp2_with fail
  refine (SO.out _).mono ?_
  rintro e wx ⟨rfl, rfl⟩
  go_wp2
  go_ret
  exact ⟨rfl, hb.out⟩
end Go.Proofs.Ytnjojcikahiieaa.NRefA
