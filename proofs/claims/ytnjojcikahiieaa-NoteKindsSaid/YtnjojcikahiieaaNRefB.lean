/-
  The document's May walked: kinds of the classes c, d.
-/
import Derived.Test.YtnjojcikahiieaaNMaySt
namespace Go.Proofs.Ytnjojcikahiieaa.NRefB
open Go.RowKit Base Blks NRec NSmall NLaw NMaySt
set_option linter.unusedVariables false
set_option linter.unusedSimpArgs false
set_option maxRecDepth 100000
theorem ref_c_at (n : NT) (hk : n.K = 4 ∨ n.K = 5 ∨ n.K = 7) (b0 : 0 ≤ n.B) (b1 : n.B ≤ 255) (p0 : (n.Fr != -1) = true) (w : World) :
    Calls Try.prog 17 #[.agg (ntL n).toArray] w fun e w' => e = .returned (.bool (false)) ∧ Below w.heap.size w w' := by
  have N0 := hide (NAt.new w n)
  have hb := hide ((Below.refl w.heap.size w).alloc (Nat.le_refl _) (.cells (ntL n).toArray 29))
  have k1 : 1 ≤ n.K := by omega
  have k2 : n.K ≤ 11 := by omega
  have HO := hide (fun w => home_any n.K w k1 k2)
  have SO := hide (fun w => stamp_any n.K w k1 k2)
  have eh : homeB n.K = false := by unfold homeB; simp only [decide_eq_false_iff_not]; omega
  have es : stampB n.K = true := by unfold stampB; simp only [decide_eq_true_iff]; omega
  have t6 : (n.K == 6) = false := by rw [beq_eq_false_iff_ne]; omega
  have t6' : (n.K != 6) = true := by rw [bne_iff_ne]; omega
  have t3 : (n.K == 3) = false := by rw [beq_eq_false_iff_ne]; omega
  have t3' : (n.K != 3) = true := by rw [bne_iff_ne]; omega
  have t9' : (n.K != 9) = true := by rw [bne_iff_ne]; omega
  rw [eh] at HO
  rw [es] at SO
  clear eh es hk
  obtain ⟨y0, y1, y2, y3, y4, y5, y6, y7⟩ := N0.out.cells
  go_enter Try.func17, Try.ntmps17
  go_wp2_with fail
  refine (HO.out _).mono ?_
  rintro e wx ⟨rfl, rfl⟩
  go_wp2
  go_ret
  exact ⟨rfl, hb.out⟩
theorem ref_c_lo (n : NT) (hk : n.K = 4 ∨ n.K = 5 ∨ n.K = 7) (b0 : 0 ≤ n.B) (b1 : n.B ≤ 255) (p0 : (n.Fr != -1) = false) (p1 : n.To < 0) (w : World) :
    Calls Try.prog 17 #[.agg (ntL n).toArray] w fun e w' => e = .returned (.bool (false)) ∧ Below w.heap.size w w' := by
  have N0 := hide (NAt.new w n)
  have hb := hide ((Below.refl w.heap.size w).alloc (Nat.le_refl _) (.cells (ntL n).toArray 29))
  have k1 : 1 ≤ n.K := by omega
  have k2 : n.K ≤ 11 := by omega
  have HO := hide (fun w => home_any n.K w k1 k2)
  have SO := hide (fun w => stamp_any n.K w k1 k2)
  have eh : homeB n.K = false := by unfold homeB; simp only [decide_eq_false_iff_not]; omega
  have es : stampB n.K = true := by unfold stampB; simp only [decide_eq_true_iff]; omega
  have t6 : (n.K == 6) = false := by rw [beq_eq_false_iff_ne]; omega
  have t6' : (n.K != 6) = true := by rw [bne_iff_ne]; omega
  have t3 : (n.K == 3) = false := by rw [beq_eq_false_iff_ne]; omega
  have t3' : (n.K != 3) = true := by rw [bne_iff_ne]; omega
  have t9' : (n.K != 9) = true := by rw [bne_iff_ne]; omega
  rw [eh] at HO
  rw [es] at SO
  clear eh es hk
  obtain ⟨y0, y1, y2, y3, y4, y5, y6, y7⟩ := N0.out.cells
  go_enter Try.func17, Try.ntmps17
  go_wp2_with fail
  refine (HO.out _).mono ?_
  rintro e wx ⟨rfl, rfl⟩
  go_wp2
  go_ret
  exact ⟨rfl, hb.out⟩
theorem ref_c_hi (n : NT) (hk : n.K = 4 ∨ n.K = 5 ∨ n.K = 7) (b0 : 0 ≤ n.B) (b1 : n.B ≤ 255) (p0 : (n.Fr != -1) = false) (p1 : 0 ≤ n.To) (p2 : 15 < n.To) (w : World) :
    Calls Try.prog 17 #[.agg (ntL n).toArray] w fun e w' => e = .returned (.bool (false)) ∧ Below w.heap.size w w' := by
  have N0 := hide (NAt.new w n)
  have hb := hide ((Below.refl w.heap.size w).alloc (Nat.le_refl _) (.cells (ntL n).toArray 29))
  have k1 : 1 ≤ n.K := by omega
  have k2 : n.K ≤ 11 := by omega
  have HO := hide (fun w => home_any n.K w k1 k2)
  have SO := hide (fun w => stamp_any n.K w k1 k2)
  have eh : homeB n.K = false := by unfold homeB; simp only [decide_eq_false_iff_not]; omega
  have es : stampB n.K = true := by unfold stampB; simp only [decide_eq_true_iff]; omega
  have t6 : (n.K == 6) = false := by rw [beq_eq_false_iff_ne]; omega
  have t6' : (n.K != 6) = true := by rw [bne_iff_ne]; omega
  have t3 : (n.K == 3) = false := by rw [beq_eq_false_iff_ne]; omega
  have t3' : (n.K != 3) = true := by rw [bne_iff_ne]; omega
  have t9' : (n.K != 9) = true := by rw [bne_iff_ne]; omega
  rw [eh] at HO
  rw [es] at SO
  clear eh es hk
  obtain ⟨y0, y1, y2, y3, y4, y5, y6, y7⟩ := N0.out.cells
  go_enter Try.func17, Try.ntmps17
  go_wp2_with fail
  refine (HO.out _).mono ?_
  rintro e wx ⟨rfl, rfl⟩
  go_wp2
  go_ret
  exact ⟨rfl, hb.out⟩
theorem ref_c_s0 (n : NT) (hk : n.K = 4 ∨ n.K = 5 ∨ n.K = 7) (b0 : 0 ≤ n.B) (b1 : n.B ≤ 255) (p0 : (n.Fr != -1) = false) (p1 : 0 ≤ n.To) (p2 : n.To ≤ 15) (p3 : (n.S != 0) = true) (w : World) :
    Calls Try.prog 17 #[.agg (ntL n).toArray] w fun e w' => e = .returned (.bool (false)) ∧ Below w.heap.size w w' := by
  have N0 := hide (NAt.new w n)
  have hb := hide ((Below.refl w.heap.size w).alloc (Nat.le_refl _) (.cells (ntL n).toArray 29))
  have k1 : 1 ≤ n.K := by omega
  have k2 : n.K ≤ 11 := by omega
  have HO := hide (fun w => home_any n.K w k1 k2)
  have SO := hide (fun w => stamp_any n.K w k1 k2)
  have eh : homeB n.K = false := by unfold homeB; simp only [decide_eq_false_iff_not]; omega
  have es : stampB n.K = true := by unfold stampB; simp only [decide_eq_true_iff]; omega
  have t6 : (n.K == 6) = false := by rw [beq_eq_false_iff_ne]; omega
  have t6' : (n.K != 6) = true := by rw [bne_iff_ne]; omega
  have t3 : (n.K == 3) = false := by rw [beq_eq_false_iff_ne]; omega
  have t3' : (n.K != 3) = true := by rw [bne_iff_ne]; omega
  have t9' : (n.K != 9) = true := by rw [bne_iff_ne]; omega
  rw [eh] at HO
  rw [es] at SO
  clear eh es hk
  obtain ⟨y0, y1, y2, y3, y4, y5, y6, y7⟩ := N0.out.cells
  go_enter Try.func17, Try.ntmps17
  go_wp2_with fail
  refine (HO.out _).mono ?_
  rintro e wx ⟨rfl, rfl⟩
  go_wp2_with fail
  refine (SO.out _).mono ?_
  rintro e wx ⟨rfl, rfl⟩
  go_wp2
  go_ret
  exact ⟨rfl, hb.out⟩
theorem ref_c_sk (n : NT) (hk : n.K = 4 ∨ n.K = 5 ∨ n.K = 7) (b0 : 0 ≤ n.B) (b1 : n.B ≤ 255) (p0 : (n.Fr != -1) = false) (p1 : 0 ≤ n.To) (p2 : n.To ≤ 15) (p3 : (n.S != 0) = false) (p4 : n.Sk = true) (w : World) :
    Calls Try.prog 17 #[.agg (ntL n).toArray] w fun e w' => e = .returned (.bool (false)) ∧ Below w.heap.size w w' := by
  have N0 := hide (NAt.new w n)
  have hb := hide ((Below.refl w.heap.size w).alloc (Nat.le_refl _) (.cells (ntL n).toArray 29))
  have k1 : 1 ≤ n.K := by omega
  have k2 : n.K ≤ 11 := by omega
  have HO := hide (fun w => home_any n.K w k1 k2)
  have SO := hide (fun w => stamp_any n.K w k1 k2)
  have eh : homeB n.K = false := by unfold homeB; simp only [decide_eq_false_iff_not]; omega
  have es : stampB n.K = true := by unfold stampB; simp only [decide_eq_true_iff]; omega
  have t6 : (n.K == 6) = false := by rw [beq_eq_false_iff_ne]; omega
  have t6' : (n.K != 6) = true := by rw [bne_iff_ne]; omega
  have t3 : (n.K == 3) = false := by rw [beq_eq_false_iff_ne]; omega
  have t3' : (n.K != 3) = true := by rw [bne_iff_ne]; omega
  have t9' : (n.K != 9) = true := by rw [bne_iff_ne]; omega
  rw [eh] at HO
  rw [es] at SO
  have P4 := hide p4
  clear eh es hk p4
  obtain ⟨y0, y1, y2, y3, y4, y5, y6, y7⟩ := N0.out.cells
  rw [P4.out] at y7
  go_enter Try.func17, Try.ntmps17
  go_wp2_with fail
  refine (HO.out _).mono ?_
  rintro e wx ⟨rfl, rfl⟩
  go_wp2_with fail
  refine (SO.out _).mono ?_
  rintro e wx ⟨rfl, rfl⟩
  go_wp2
  go_ret
  exact ⟨rfl, hb.out⟩
theorem ref_c_ha (n : NT) (hk : n.K = 4 ∨ n.K = 5 ∨ n.K = 7) (b0 : 0 ≤ n.B) (b1 : n.B ≤ 255) (p0 : (n.Fr != -1) = false) (p1 : 0 ≤ n.To) (p2 : n.To ≤ 15) (p3 : (n.S != 0) = false) (p4 : n.Sk = false) (p5 : n.Ha = true) (w : World) :
    Calls Try.prog 17 #[.agg (ntL n).toArray] w fun e w' => e = .returned (.bool (false)) ∧ Below w.heap.size w w' := by
  have N0 := hide (NAt.new w n)
  have hb := hide ((Below.refl w.heap.size w).alloc (Nat.le_refl _) (.cells (ntL n).toArray 29))
  have k1 : 1 ≤ n.K := by omega
  have k2 : n.K ≤ 11 := by omega
  have HO := hide (fun w => home_any n.K w k1 k2)
  have SO := hide (fun w => stamp_any n.K w k1 k2)
  have eh : homeB n.K = false := by unfold homeB; simp only [decide_eq_false_iff_not]; omega
  have es : stampB n.K = true := by unfold stampB; simp only [decide_eq_true_iff]; omega
  have t6 : (n.K == 6) = false := by rw [beq_eq_false_iff_ne]; omega
  have t6' : (n.K != 6) = true := by rw [bne_iff_ne]; omega
  have t3 : (n.K == 3) = false := by rw [beq_eq_false_iff_ne]; omega
  have t3' : (n.K != 3) = true := by rw [bne_iff_ne]; omega
  have t9' : (n.K != 9) = true := by rw [bne_iff_ne]; omega
  rw [eh] at HO
  rw [es] at SO
  have P4 := hide p4
  have P5 := hide p5
  clear eh es hk p4 p5
  obtain ⟨y0, y1, y2, y3, y4, y5, y6, y7⟩ := N0.out.cells
  rw [P4.out] at y7
  rw [P5.out] at y6
  go_enter Try.func17, Try.ntmps17
  go_wp2_with fail
  refine (HO.out _).mono ?_
  rintro e wx ⟨rfl, rfl⟩
  go_wp2_with fail
  refine (SO.out _).mono ?_
  rintro e wx ⟨rfl, rfl⟩
  go_wp2
  go_ret
  exact ⟨rfl, hb.out⟩
theorem ref_c_h0 (n : NT) (hk : n.K = 4 ∨ n.K = 5 ∨ n.K = 7) (b0 : 0 ≤ n.B) (b1 : n.B ≤ 255) (p0 : (n.Fr != -1) = false) (p1 : 0 ≤ n.To) (p2 : n.To ≤ 15) (p3 : (n.S != 0) = false) (p4 : n.Sk = false) (p5 : n.Ha = false) (w : World) :
    Calls Try.prog 17 #[.agg (ntL n).toArray] w fun e w' => e = .returned (.bool (eqB n.f (fun _ => 0))) ∧ Below w.heap.size w w' := by
  have N0 := hide (NAt.new w n)
  have hb := hide ((Below.refl w.heap.size w).alloc (Nat.le_refl _) (.cells (ntL n).toArray 29))
  have k1 : 1 ≤ n.K := by omega
  have k2 : n.K ≤ 11 := by omega
  have HO := hide (fun w => home_any n.K w k1 k2)
  have SO := hide (fun w => stamp_any n.K w k1 k2)
  have eh : homeB n.K = false := by unfold homeB; simp only [decide_eq_false_iff_not]; omega
  have es : stampB n.K = true := by unfold stampB; simp only [decide_eq_true_iff]; omega
  have t6 : (n.K == 6) = false := by rw [beq_eq_false_iff_ne]; omega
  have t6' : (n.K != 6) = true := by rw [bne_iff_ne]; omega
  have t3 : (n.K == 3) = false := by rw [beq_eq_false_iff_ne]; omega
  have t3' : (n.K != 3) = true := by rw [bne_iff_ne]; omega
  have t9' : (n.K != 9) = true := by rw [bne_iff_ne]; omega
  rw [eh] at HO
  rw [es] at SO
  have P4 := hide p4
  have P5 := hide p5
  have EQ : ∀ w : World, (Op.equalIn 10000 27 (.agg (blk n.f).toArray) (.agg #[.int .u32 0, .int .u32 0, .int .u32 0, .int .u32 0, .int .u32 0, .int .u32 0, .int .u32 0, .int .u32 0, .int .u32 0, .int .u32 0, .int .u32 0, .int .u32 0, .int .u32 0, .int .u32 0, .int .u32 0, .int .u32 0])).run Try.prog w = .ok (eqB n.f (fun _ => 0)) w := fun w => eqBlock n.f (fun _ => 0) w 9997
  have EG : Try.prog.eqGuardType Try.prog.depth 27 = false := by kernel_rfl
  clear eh es hk p4 p5
  obtain ⟨y0, y1, y2, y3, y4, y5, y6, y7⟩ := N0.out.cells
  rw [P4.out] at y7
  rw [P5.out] at y6
  go_enter Try.func17, Try.ntmps17
  go_wp2_with fail
  refine (HO.out _).mono ?_
  rintro e wx ⟨rfl, rfl⟩
  go_wp2_with fail
  refine (SO.out _).mono ?_
  rintro e wx ⟨rfl, rfl⟩
  go_upto_region 14 with fail
  go_wp2_with (first
    | ((refine load_data_g (by rfl) (.tmp 122) rfl w.heap.size rfl N0.out ?_)))
  go_ret
  exact ⟨rfl, hb.out⟩
theorem ref_d_at (n : NT) (hk : n.K = 6) (b0 : 0 ≤ n.B) (b1 : n.B ≤ 255) (p0 : (n.Fr != -1) = true) (w : World) :
    Calls Try.prog 17 #[.agg (ntL n).toArray] w fun e w' => e = .returned (.bool (false)) ∧ Below w.heap.size w w' := by
  have N0 := hide (NAt.new w n)
  have hb := hide ((Below.refl w.heap.size w).alloc (Nat.le_refl _) (.cells (ntL n).toArray 29))
  have k1 : 1 ≤ n.K := by omega
  have k2 : n.K ≤ 11 := by omega
  have HO := hide (fun w => home_any n.K w k1 k2)
  have SO := hide (fun w => stamp_any n.K w k1 k2)
  have eh : homeB n.K = false := by unfold homeB; simp only [decide_eq_false_iff_not]; omega
  have es : stampB n.K = false := by unfold stampB; simp only [decide_eq_false_iff_not]; omega
  have t6 : (n.K == 6) = true := by rw [beq_iff_eq]; omega
  have t6' : (n.K != 6) = false := by rw [bne_eq_false_iff_eq]; omega
  have t3 : (n.K == 3) = false := by rw [beq_eq_false_iff_ne]; omega
  have t3' : (n.K != 3) = true := by rw [bne_iff_ne]; omega
  have t9' : (n.K != 9) = true := by rw [bne_iff_ne]; omega
  rw [eh] at HO
  rw [es] at SO
  clear eh es hk
  obtain ⟨y0, y1, y2, y3, y4, y5, y6, y7⟩ := N0.out.cells
  go_enter Try.func17, Try.ntmps17
  go_wp2_with fail
  refine (HO.out _).mono ?_
  rintro e wx ⟨rfl, rfl⟩
  go_wp2
  go_ret
  exact ⟨rfl, hb.out⟩
theorem ref_d_lo (n : NT) (hk : n.K = 6) (b0 : 0 ≤ n.B) (b1 : n.B ≤ 255) (p0 : (n.Fr != -1) = false) (p1 : n.To < 0) (w : World) :
    Calls Try.prog 17 #[.agg (ntL n).toArray] w fun e w' => e = .returned (.bool (false)) ∧ Below w.heap.size w w' := by
  have N0 := hide (NAt.new w n)
  have hb := hide ((Below.refl w.heap.size w).alloc (Nat.le_refl _) (.cells (ntL n).toArray 29))
  have k1 : 1 ≤ n.K := by omega
  have k2 : n.K ≤ 11 := by omega
  have HO := hide (fun w => home_any n.K w k1 k2)
  have SO := hide (fun w => stamp_any n.K w k1 k2)
  have eh : homeB n.K = false := by unfold homeB; simp only [decide_eq_false_iff_not]; omega
  have es : stampB n.K = false := by unfold stampB; simp only [decide_eq_false_iff_not]; omega
  have t6 : (n.K == 6) = true := by rw [beq_iff_eq]; omega
  have t6' : (n.K != 6) = false := by rw [bne_eq_false_iff_eq]; omega
  have t3 : (n.K == 3) = false := by rw [beq_eq_false_iff_ne]; omega
  have t3' : (n.K != 3) = true := by rw [bne_iff_ne]; omega
  have t9' : (n.K != 9) = true := by rw [bne_iff_ne]; omega
  rw [eh] at HO
  rw [es] at SO
  clear eh es hk
  obtain ⟨y0, y1, y2, y3, y4, y5, y6, y7⟩ := N0.out.cells
  go_enter Try.func17, Try.ntmps17
  go_wp2_with fail
  refine (HO.out _).mono ?_
  rintro e wx ⟨rfl, rfl⟩
  go_wp2
  go_ret
  exact ⟨rfl, hb.out⟩
theorem ref_d_hi (n : NT) (hk : n.K = 6) (b0 : 0 ≤ n.B) (b1 : n.B ≤ 255) (p0 : (n.Fr != -1) = false) (p1 : 0 ≤ n.To) (p2 : 15 < n.To) (w : World) :
    Calls Try.prog 17 #[.agg (ntL n).toArray] w fun e w' => e = .returned (.bool (false)) ∧ Below w.heap.size w w' := by
  have N0 := hide (NAt.new w n)
  have hb := hide ((Below.refl w.heap.size w).alloc (Nat.le_refl _) (.cells (ntL n).toArray 29))
  have k1 : 1 ≤ n.K := by omega
  have k2 : n.K ≤ 11 := by omega
  have HO := hide (fun w => home_any n.K w k1 k2)
  have SO := hide (fun w => stamp_any n.K w k1 k2)
  have eh : homeB n.K = false := by unfold homeB; simp only [decide_eq_false_iff_not]; omega
  have es : stampB n.K = false := by unfold stampB; simp only [decide_eq_false_iff_not]; omega
  have t6 : (n.K == 6) = true := by rw [beq_iff_eq]; omega
  have t6' : (n.K != 6) = false := by rw [bne_eq_false_iff_eq]; omega
  have t3 : (n.K == 3) = false := by rw [beq_eq_false_iff_ne]; omega
  have t3' : (n.K != 3) = true := by rw [bne_iff_ne]; omega
  have t9' : (n.K != 9) = true := by rw [bne_iff_ne]; omega
  rw [eh] at HO
  rw [es] at SO
  clear eh es hk
  obtain ⟨y0, y1, y2, y3, y4, y5, y6, y7⟩ := N0.out.cells
  go_enter Try.func17, Try.ntmps17
  go_wp2_with fail
  refine (HO.out _).mono ?_
  rintro e wx ⟨rfl, rfl⟩
  go_wp2
  go_ret
  exact ⟨rfl, hb.out⟩
theorem ref_d_st (n : NT) (hk : n.K = 6) (b0 : 0 ≤ n.B) (b1 : n.B ≤ 255) (p0 : (n.Fr != -1) = false) (p1 : 0 ≤ n.To) (p2 : n.To ≤ 15) (p3 : (n.St != 0) = true) (w : World) :
    Calls Try.prog 17 #[.agg (ntL n).toArray] w fun e w' => e = .returned (.bool (false)) ∧ Below w.heap.size w w' := by
  have N0 := hide (NAt.new w n)
  have hb := hide ((Below.refl w.heap.size w).alloc (Nat.le_refl _) (.cells (ntL n).toArray 29))
  have k1 : 1 ≤ n.K := by omega
  have k2 : n.K ≤ 11 := by omega
  have HO := hide (fun w => home_any n.K w k1 k2)
  have SO := hide (fun w => stamp_any n.K w k1 k2)
  have eh : homeB n.K = false := by unfold homeB; simp only [decide_eq_false_iff_not]; omega
  have es : stampB n.K = false := by unfold stampB; simp only [decide_eq_false_iff_not]; omega
  have t6 : (n.K == 6) = true := by rw [beq_iff_eq]; omega
  have t6' : (n.K != 6) = false := by rw [bne_eq_false_iff_eq]; omega
  have t3 : (n.K == 3) = false := by rw [beq_eq_false_iff_ne]; omega
  have t3' : (n.K != 3) = true := by rw [bne_iff_ne]; omega
  have t9' : (n.K != 9) = true := by rw [bne_iff_ne]; omega
  rw [eh] at HO
  rw [es] at SO
  clear eh es hk
  obtain ⟨y0, y1, y2, y3, y4, y5, y6, y7⟩ := N0.out.cells
  go_enter Try.func17, Try.ntmps17
  go_wp2_with fail
  refine (HO.out _).mono ?_
  rintro e wx ⟨rfl, rfl⟩
  go_wp2_with fail
  refine (SO.out _).mono ?_
  rintro e wx ⟨rfl, rfl⟩
  go_wp2
  go_ret
  exact ⟨rfl, hb.out⟩
theorem ref_d_s0 (n : NT) (hk : n.K = 6) (b0 : 0 ≤ n.B) (b1 : n.B ≤ 255) (p0 : (n.Fr != -1) = false) (p1 : 0 ≤ n.To) (p2 : n.To ≤ 15) (p3 : (n.St != 0) = false) (p4 : n.S < 1) (w : World) :
    Calls Try.prog 17 #[.agg (ntL n).toArray] w fun e w' => e = .returned (.bool (false)) ∧ Below w.heap.size w w' := by
  have N0 := hide (NAt.new w n)
  have hb := hide ((Below.refl w.heap.size w).alloc (Nat.le_refl _) (.cells (ntL n).toArray 29))
  have k1 : 1 ≤ n.K := by omega
  have k2 : n.K ≤ 11 := by omega
  have HO := hide (fun w => home_any n.K w k1 k2)
  have SO := hide (fun w => stamp_any n.K w k1 k2)
  have eh : homeB n.K = false := by unfold homeB; simp only [decide_eq_false_iff_not]; omega
  have es : stampB n.K = false := by unfold stampB; simp only [decide_eq_false_iff_not]; omega
  have t6 : (n.K == 6) = true := by rw [beq_iff_eq]; omega
  have t6' : (n.K != 6) = false := by rw [bne_eq_false_iff_eq]; omega
  have t3 : (n.K == 3) = false := by rw [beq_eq_false_iff_ne]; omega
  have t3' : (n.K != 3) = true := by rw [bne_iff_ne]; omega
  have t9' : (n.K != 9) = true := by rw [bne_iff_ne]; omega
  rw [eh] at HO
  rw [es] at SO
  clear eh es hk
  obtain ⟨y0, y1, y2, y3, y4, y5, y6, y7⟩ := N0.out.cells
  go_enter Try.func17, Try.ntmps17
  go_wp2_with fail
  refine (HO.out _).mono ?_
  rintro e wx ⟨rfl, rfl⟩
  go_wp2_with fail
  refine (SO.out _).mono ?_
  rintro e wx ⟨rfl, rfl⟩
  go_wp2
  go_ret
  exact ⟨rfl, hb.out⟩
theorem ref_d_s3 (n : NT) (hk : n.K = 6) (b0 : 0 ≤ n.B) (b1 : n.B ≤ 255) (p0 : (n.Fr != -1) = false) (p1 : 0 ≤ n.To) (p2 : n.To ≤ 15) (p3 : (n.St != 0) = false) (p4 : 1 ≤ n.S) (p5 : 3 < n.S) (w : World) :
    Calls Try.prog 17 #[.agg (ntL n).toArray] w fun e w' => e = .returned (.bool (false)) ∧ Below w.heap.size w w' := by
  have N0 := hide (NAt.new w n)
  have hb := hide ((Below.refl w.heap.size w).alloc (Nat.le_refl _) (.cells (ntL n).toArray 29))
  have k1 : 1 ≤ n.K := by omega
  have k2 : n.K ≤ 11 := by omega
  have HO := hide (fun w => home_any n.K w k1 k2)
  have SO := hide (fun w => stamp_any n.K w k1 k2)
  have eh : homeB n.K = false := by unfold homeB; simp only [decide_eq_false_iff_not]; omega
  have es : stampB n.K = false := by unfold stampB; simp only [decide_eq_false_iff_not]; omega
  have t6 : (n.K == 6) = true := by rw [beq_iff_eq]; omega
  have t6' : (n.K != 6) = false := by rw [bne_eq_false_iff_eq]; omega
  have t3 : (n.K == 3) = false := by rw [beq_eq_false_iff_ne]; omega
  have t3' : (n.K != 3) = true := by rw [bne_iff_ne]; omega
  have t9' : (n.K != 9) = true := by rw [bne_iff_ne]; omega
  rw [eh] at HO
  rw [es] at SO
  clear eh es hk
  obtain ⟨y0, y1, y2, y3, y4, y5, y6, y7⟩ := N0.out.cells
  go_enter Try.func17, Try.ntmps17
  go_wp2_with fail
  refine (HO.out _).mono ?_
  rintro e wx ⟨rfl, rfl⟩
  go_wp2_with fail
  refine (SO.out _).mono ?_
  rintro e wx ⟨rfl, rfl⟩
  go_wp2
  go_ret
  exact ⟨rfl, hb.out⟩
theorem ref_d_sk (n : NT) (hk : n.K = 6) (b0 : 0 ≤ n.B) (b1 : n.B ≤ 255) (p0 : (n.Fr != -1) = false) (p1 : 0 ≤ n.To) (p2 : n.To ≤ 15) (p3 : (n.St != 0) = false) (p4 : 1 ≤ n.S) (p5 : n.S ≤ 3) (p6 : n.Sk = true) (w : World) :
    Calls Try.prog 17 #[.agg (ntL n).toArray] w fun e w' => e = .returned (.bool (false)) ∧ Below w.heap.size w w' := by
  have N0 := hide (NAt.new w n)
  have hb := hide ((Below.refl w.heap.size w).alloc (Nat.le_refl _) (.cells (ntL n).toArray 29))
  have k1 : 1 ≤ n.K := by omega
  have k2 : n.K ≤ 11 := by omega
  have HO := hide (fun w => home_any n.K w k1 k2)
  have SO := hide (fun w => stamp_any n.K w k1 k2)
  have eh : homeB n.K = false := by unfold homeB; simp only [decide_eq_false_iff_not]; omega
  have es : stampB n.K = false := by unfold stampB; simp only [decide_eq_false_iff_not]; omega
  have t6 : (n.K == 6) = true := by rw [beq_iff_eq]; omega
  have t6' : (n.K != 6) = false := by rw [bne_eq_false_iff_eq]; omega
  have t3 : (n.K == 3) = false := by rw [beq_eq_false_iff_ne]; omega
  have t3' : (n.K != 3) = true := by rw [bne_iff_ne]; omega
  have t9' : (n.K != 9) = true := by rw [bne_iff_ne]; omega
  rw [eh] at HO
  rw [es] at SO
  have P6 := hide p6
  clear eh es hk p6
  obtain ⟨y0, y1, y2, y3, y4, y5, y6, y7⟩ := N0.out.cells
  rw [P6.out] at y7
  go_enter Try.func17, Try.ntmps17
  go_wp2_with fail
  refine (HO.out _).mono ?_
  rintro e wx ⟨rfl, rfl⟩
  go_wp2_with fail
  refine (SO.out _).mono ?_
  rintro e wx ⟨rfl, rfl⟩
  go_wp2
  go_ret
  exact ⟨rfl, hb.out⟩
theorem ref_d_ha (n : NT) (hk : n.K = 6) (b0 : 0 ≤ n.B) (b1 : n.B ≤ 255) (p0 : (n.Fr != -1) = false) (p1 : 0 ≤ n.To) (p2 : n.To ≤ 15) (p3 : (n.St != 0) = false) (p4 : 1 ≤ n.S) (p5 : n.S ≤ 3) (p6 : n.Sk = false) (p7 : n.Ha = false) (w : World) :
    Calls Try.prog 17 #[.agg (ntL n).toArray] w fun e w' => e = .returned (.bool (false)) ∧ Below w.heap.size w w' := by
  have N0 := hide (NAt.new w n)
  have hb := hide ((Below.refl w.heap.size w).alloc (Nat.le_refl _) (.cells (ntL n).toArray 29))
  have k1 : 1 ≤ n.K := by omega
  have k2 : n.K ≤ 11 := by omega
  have HO := hide (fun w => home_any n.K w k1 k2)
  have SO := hide (fun w => stamp_any n.K w k1 k2)
  have eh : homeB n.K = false := by unfold homeB; simp only [decide_eq_false_iff_not]; omega
  have es : stampB n.K = false := by unfold stampB; simp only [decide_eq_false_iff_not]; omega
  have t6 : (n.K == 6) = true := by rw [beq_iff_eq]; omega
  have t6' : (n.K != 6) = false := by rw [bne_eq_false_iff_eq]; omega
  have t3 : (n.K == 3) = false := by rw [beq_eq_false_iff_ne]; omega
  have t3' : (n.K != 3) = true := by rw [bne_iff_ne]; omega
  have t9' : (n.K != 9) = true := by rw [bne_iff_ne]; omega
  rw [eh] at HO
  rw [es] at SO
  have P6 := hide p6
  have P7 := hide p7
  clear eh es hk p6 p7
  obtain ⟨y0, y1, y2, y3, y4, y5, y6, y7⟩ := N0.out.cells
  rw [P6.out] at y7
  rw [P7.out] at y6
  go_enter Try.func17, Try.ntmps17
  go_wp2_with fail
  refine (HO.out _).mono ?_
  rintro e wx ⟨rfl, rfl⟩
  go_wp2_with fail
  refine (SO.out _).mono ?_
  rintro e wx ⟨rfl, rfl⟩
  go_wp2
  go_ret
  exact ⟨rfl, hb.out⟩
theorem ref_d_ok (n : NT) (hk : n.K = 6) (b0 : 0 ≤ n.B) (b1 : n.B ≤ 255) (p0 : (n.Fr != -1) = false) (p1 : 0 ≤ n.To) (p2 : n.To ≤ 15) (p3 : (n.St != 0) = false) (p4 : 1 ≤ n.S) (p5 : n.S ≤ 3) (p6 : n.Sk = false) (p7 : n.Ha = true) (w : World) :
    Calls Try.prog 17 #[.agg (ntL n).toArray] w fun e w' => e = .returned (.bool (true)) ∧ Below w.heap.size w w' := by
  have N0 := hide (NAt.new w n)
  have hb := hide ((Below.refl w.heap.size w).alloc (Nat.le_refl _) (.cells (ntL n).toArray 29))
  have k1 : 1 ≤ n.K := by omega
  have k2 : n.K ≤ 11 := by omega
  have HO := hide (fun w => home_any n.K w k1 k2)
  have SO := hide (fun w => stamp_any n.K w k1 k2)
  have eh : homeB n.K = false := by unfold homeB; simp only [decide_eq_false_iff_not]; omega
  have es : stampB n.K = false := by unfold stampB; simp only [decide_eq_false_iff_not]; omega
  have t6 : (n.K == 6) = true := by rw [beq_iff_eq]; omega
  have t6' : (n.K != 6) = false := by rw [bne_eq_false_iff_eq]; omega
  have t3 : (n.K == 3) = false := by rw [beq_eq_false_iff_ne]; omega
  have t3' : (n.K != 3) = true := by rw [bne_iff_ne]; omega
  have t9' : (n.K != 9) = true := by rw [bne_iff_ne]; omega
  rw [eh] at HO
  rw [es] at SO
  have P6 := hide p6
  have P7 := hide p7
  clear eh es hk p6 p7
  obtain ⟨y0, y1, y2, y3, y4, y5, y6, y7⟩ := N0.out.cells
  rw [P6.out] at y7
  rw [P7.out] at y6
  go_enter Try.func17, Try.ntmps17
  go_wp2_with fail
  refine (HO.out _).mono ?_
  rintro e wx ⟨rfl, rfl⟩
  go_wp2_with fail
  refine (SO.out _).mono ?_
  rintro e wx ⟨rfl, rfl⟩
  go_wp2
  go_ret
  exact ⟨rfl, hb.out⟩
end Go.Proofs.Ytnjojcikahiieaa.NRefB
