/-
  The laws of the layer 'code' walked: CodeKnown, CodePuts, CodeTakes, CodeBack, CodeOne: each returns true.
-/
import Derived.Test.YtgodjedijkfciaaDoorWorks
namespace Go.Proofs.YtgodjedijkfciaaDoor.Laws
open Go.RowKit Base CodePlain CodeBits CodeTab CodePut CodeTake Works
set_option linter.unusedVariables false

theorem errX_beq (k : Nat) (a b c n : Int) : (errX k a b c n == 0) = mayB k a b c n := by
  unfold errX
  cases mayB k a b c n <;> simp
theorem puts (k : Nat) (a b c n : Int) (hk0 : k ≤ 255) (w : World) (hT : Tab w) :
    Calls Tryd.prog 4 #[code5 k a b c n] w fun e w' => e = .returned (.bool true) ∧ Below w.heap.size w w' := by
  have HP := hide (fun w hT => put_any k a b c n hk0 w hT)
  have HR := hide (fun w => CodeRef.put_any k a b c n hk0 w)
  have HM := hide (fun w hT => CodeMay.may_any k a b c n hk0 w hT)
  have HQ := hide (fun w => CodeRefMay.may_any k a b c n hk0 w)
  have HE := errX_beq k a b c n
  have S1 := St.new (w0 := w) hT (Below.refl _ _) #[.int .u8 (k : Int), .int .i64 a, .int .i64 b, .int .i64 c, .int .i64 n]
  clear hT
  unfold code5 at *
  generalize putX k a b c n = x at *
  generalize errX k a b c n = er at *
  generalize mayB k a b c n = m at *
  go_enter Tryd.func4, Tryd.ntmps4
  go_wp2_with fail
  refine (HP.out _ (St.tab S1)).mono ?_
  rintro e w1 ⟨rfl, hb1⟩
  have S2 := St.below S1 hb1
  have hc := St.c5 S2
  clear hb1
  go_wp2_with fail
  clear hc
  refine (HR.out _).mono ?_
  rintro e w2 ⟨rfl, hb2⟩
  have S3 := St.drew (St.below S2 hb2)
  have hc := St.c5 S3
  clear hb2
  go_wp2_with fail
  go_region_held3 (fun w' => w'.cell? ⟨w.heap.size, 0, none⟩ = some (.int .u8 (k : Int)) ∧ w'.cell? ⟨w.heap.size, 1, none⟩ = some (.int .i64 a) ∧ w'.cell? ⟨w.heap.size, 2, none⟩ = some (.int .i64 b) ∧ w'.cell? ⟨w.heap.size, 3, none⟩ = some (.int .i64 c) ∧ w'.cell? ⟨w.heap.size, 4, none⟩ = some (.int .i64 n)) (first | exact hc | exact St.c5 (by assumption))
    (first | (go_at_call 12; refine (HM.out _ (St.tab (by assumption))).mono ?_; rintro e w3 ⟨rfl, hb3⟩; have S4 := St.below (by assumption) hb3; clear hb3) | (go_at_call 13; refine (HQ.out _).mono ?_; rintro e w4 ⟨rfl, hb4⟩; have S5 := St.below (by assumption) hb4; clear hb4) | (go_at_call 10; refine (works_any _ (St.tab (by assumption))).mono ?_; rintro e w5 ⟨rfl, hb5⟩; have S6 := St.below (by assumption) hb5; clear hb5))
  all_goals
    go_wp2
    go_ret
    exact ⟨rfl, St.bel (by assumption)⟩

theorem takeV_form (x : Int) : ∃ o a b c n : Int, takeV x = .agg #[.int .u8 o, .int .i64 a, .int .i64 b, .int .i64 c, .int .i64 n] := by
  unfold takeV
  split
  · exact ⟨_, _, _, _, _, rfl⟩
  · exact ⟨_, _, _, _, _, rfl⟩
theorem takes (x : Int) (hx0 : 0 ≤ x) (hx1 : x < 4294967296) (w : World) (hT : Tab w) :
    Calls Tryd.prog 5 #[.int .u32 x] w fun e w' => e = .returned (.bool true) ∧ Below w.heap.size w w' := by
  have HP := hide (fun w hT => take_any x hx0 hx1 w hT)
  have HR := hide (fun w => CodeRef.take_any x hx0 hx1 w)
  obtain ⟨o, a, b, c, n, hv⟩ := takeV_form x
  rw [hv] at HP HR
  generalize takeE x = er at *
  have HT := hide hT
  clear hT hv
  go_enter Tryd.func5, Tryd.ntmps5
  go_wp2_with fail
  refine (HP.out _ HT.out).mono ?_
  rintro e w1 ⟨rfl, hb1⟩
  have S2 := St.new (HT.out.below hb1) hb1 #[.int .u8 o, .int .i64 a, .int .i64 b, .int .i64 c, .int .i64 n]
  clear hb1
  go_wp2_with fail
  refine (HR.out _).mono ?_
  rintro e w2 ⟨rfl, hb2⟩
  have S3 := St.below S2 hb2
  have S4 := St.below S3 ((Below.refl w2.heap.size w2).alloc (Nat.le_refl _) (.cells #[.int .u8 o, .int .i64 a, .int .i64 b, .int .i64 c, .int .i64 n] 27))
  have hc := St.c5 S4
  clear hb2
  go_wp2_with fail
  refine (works_any _ (St.tab S4)).mono ?_
  rintro e w3 ⟨rfl, hb3⟩
  have S5 := St.below S4 hb3
  go_wp2
  go_ret
  exact ⟨rfl, St.bel S5⟩

theorem back_tail (x : Int) (hx0 : 0 ≤ x) (hx1 : x < 4294967296) : (isB x = true ∧ ∃ (k : Nat) (a b c n : Int), k ≤ 255 ∧ takeV x = code5 k a b c n ∧ takeE x = 0 ∧ mayB k a b c n = true ∧ word k a b c n = x) ∨ (isB x = false ∧ takeV x = .agg #[.int .u8 0, .int .i64 0, .int .i64 0, .int .i64 0, .int .i64 0] ∧ takeE x = 6) := by
  cases h : isB x
  · exact .inr ⟨rfl, by simp [takeV, h], by simp [takeE, h]⟩
  · refine .inl ⟨rfl, tK x, _, _, _, _, by unfold tK; omega, by simp only [takeV, h, if_true]; rfl, by simp [takeE, h], ?_, ?_⟩
    · unfold isB at h
      simp only [Bool.and_eq_true] at h
      exact h.1
    · unfold isB at h
      simp only [Bool.and_eq_true, decide_eq_true_eq] at h
      exact h.2
theorem take_back {k : Nat} {a b c n : Int} (hm : mayB k a b c n = true) : takeV (word k a b c n) = code5 k a b c n ∧ takeE (word k a b c n) = 0 := by
  obtain ⟨h1, h2, h3, h4, h5⟩ := take_word hm
  have hi := is_word hm
  refine ⟨?_, by simp [takeE, hi]⟩
  simp only [takeV, hi, if_true]
  rw [h1, h2, h3, h4, h5]
set_option maxHeartbeats 1000000 in
theorem back (k : Nat) (a b c n x : Int) (hk0 : k ≤ 255) (hx0 : 0 ≤ x) (hx1 : x < 4294967296) (w : World) (hT : Tab w) :
    Calls Tryd.prog 6 #[code5 k a b c n, .int .u32 x] w fun e w' => e = .returned (.bool true) ∧ Below w.heap.size w w' := by
  have HP := hide (fun w hT => put_any k a b c n hk0 w hT)
  have HK := hide (fun w hT => take_any x hx0 hx1 w hT)
  have S1 := St.new (w0 := w) hT (Below.refl _ _) #[.int .u8 (k : Int), .int .i64 a, .int .i64 b, .int .i64 c, .int .i64 n]
  have HBT := hide (back_tail x hx0 hx1)
  clear hT
  cases hm : mayB k a b c n
  · rw [show putX k a b c n = 0 by simp [putX, hm], show errX k a b c n = 2 by simp [errX, hm]] at HP
    clear hm
    unfold code5 at *
    go_enter Tryd.func6, Tryd.ntmps6
    go_wp2_with fail
    refine (HP.out _ (St.tab S1)).mono ?_
    rintro e w1 ⟨rfl, hb1⟩
    have S2 := St.below S1 hb1
    clear hb1
    rcases HBT.out with ⟨_, k', a', b', c', n', hk', hv, hE, hm', hw⟩ | ⟨_, hv, hE⟩
    · rw [hv, hE] at HK
      have HQ := hide (fun w hT => put_any k' a' b' c' n' hk' w hT)
      rw [show putX k' a' b' c' n' = x by simp [putX, hm', hw], show errX k' a' b' c' n' = 0 by simp [errX, hm']] at HQ
      clear hv hE hm' hw HBT
      unfold code5 at *
      go_wp2_with fail
      refine (HK.out _ (St.tab S2)).mono ?_
      rintro e w2 ⟨rfl, hb2⟩
      have S3 := St.new ((St.tab S2).below hb2) (below_then (St.bel S2) hb2) #[.int .u8 (k' : Int), .int .i64 a', .int .i64 b', .int .i64 c', .int .i64 n']
      clear hb2
      go_wp2_with fail
      refine (HQ.out _ (St.tab S3)).mono ?_
      rintro e w3 ⟨rfl, hb3⟩
      have S4 := St.below S3 hb3
      clear hb3
      go_wp2_with fail
      refine (works_any _ (St.tab S4)).mono ?_
      rintro e w4 ⟨rfl, hb4⟩
      have S5 := St.below S4 hb4
      go_wp2
      go_ret
      exact ⟨rfl, St.bel S5⟩
    · rw [hv, hE] at HK
      clear hv hE HBT
      go_wp2_with fail
      refine (HK.out _ (St.tab S2)).mono ?_
      rintro e w2 ⟨rfl, hb2⟩
      have S3 := St.new ((St.tab S2).below hb2) (below_then (St.bel S2) hb2) #[.int .u8 0, .int .i64 0, .int .i64 0, .int .i64 0, .int .i64 0]
      clear hb2
      go_wp2_with fail
      refine (works_any _ (St.tab S3)).mono ?_
      rintro e w4 ⟨rfl, hb4⟩
      have S5 := St.below S3 hb4
      go_wp2
      go_ret
      exact ⟨rfl, St.bel S5⟩
  · have hbd := word_bd hm
    have HB2 := hide (fun w hT => take_any (word k a b c n) hbd.1 hbd.2 w hT)
    rw [(take_back hm).1, (take_back hm).2] at HB2
    rw [show putX k a b c n = word k a b c n by simp [putX, hm], show errX k a b c n = 0 by simp [errX, hm]] at HP
    clear hm hbd
    generalize word k a b c n = y at *
    unfold code5 at *
    go_enter Tryd.func6, Tryd.ntmps6
    go_wp2_with fail
    refine (HP.out _ (St.tab S1)).mono ?_
    rintro e w1 ⟨rfl, hb1⟩
    have S2 := St.below S1 hb1
    clear hb1
    go_wp2_with fail
    refine (HB2.out _ (St.tab S2)).mono ?_
    rintro e w2 ⟨rfl, hb2⟩
    have S3 := St.below (St.below S2 hb2) ((Below.refl w2.heap.size w2).alloc (Nat.le_refl _) (.cells #[.int .u8 (k : Int), .int .i64 a, .int .i64 b, .int .i64 c, .int .i64 n] 27))
    have hc := St.c5 S3
    clear hb2
    go_wp2_with fail
    rcases HBT.out with ⟨_, k', a', b', c', n', hk', hv, hE, hm', hw⟩ | ⟨_, hv, hE⟩
    · rw [hv, hE] at HK
      have HQ := hide (fun w hT => put_any k' a' b' c' n' hk' w hT)
      rw [show putX k' a' b' c' n' = x by simp [putX, hm', hw], show errX k' a' b' c' n' = 0 by simp [errX, hm']] at HQ
      clear hv hE hm' hw HBT hc
      unfold code5 at *
      refine (HK.out _ (St.tab S3)).mono ?_
      rintro e w3 ⟨rfl, hb3⟩
      have S4 := St.new ((St.tab S3).below hb3) (below_then (St.bel S3) hb3) #[.int .u8 (k' : Int), .int .i64 a', .int .i64 b', .int .i64 c', .int .i64 n']
      clear hb3
      go_wp2_with fail
      refine (HQ.out _ (St.tab S4)).mono ?_
      rintro e w4 ⟨rfl, hb4⟩
      have S5 := St.below S4 hb4
      clear hb4
      go_wp2_with fail
      refine (works_any _ (St.tab S5)).mono ?_
      rintro e w5 ⟨rfl, hb5⟩
      have S6 := St.below S5 hb5
      go_wp2
      go_ret
      exact ⟨rfl, St.bel S6⟩
    · rw [hv, hE] at HK
      clear hv hE HBT hc
      refine (HK.out _ (St.tab S3)).mono ?_
      rintro e w3 ⟨rfl, hb3⟩
      have S4 := St.new ((St.tab S3).below hb3) (below_then (St.bel S3) hb3) #[.int .u8 0, .int .i64 0, .int .i64 0, .int .i64 0, .int .i64 0]
      clear hb3
      go_wp2_with fail
      refine (works_any _ (St.tab S4)).mono ?_
      rintro e w5 ⟨rfl, hb5⟩
      have S6 := St.below S4 hb5
      go_wp2
      go_ret
      exact ⟨rfl, St.bel S6⟩

theorem known (w : World) (hT : Tab w) : Calls Tryd.prog 3 #[] w fun e w' => e = .returned (.bool true) ∧ Below w.heap.size w w' := by
  have H1 := hide (fun w hT => put_any 0 0 0 0 0 (by omega) w hT)
  have H2 := hide (fun w hT => put_any 12 2 0 0 (-1) (by omega) w hT)
  rw [show putX 0 0 0 0 0 = 0 by decide, show errX 0 0 0 0 0 = 0 by decide] at H1
  rw [show putX 12 2 0 0 (-1) = 817889279 by decide, show errX 12 2 0 0 (-1) = 0 by decide] at H2
  have H3 := hide (fun w hT => take_any 1476395008 (by omega) (by omega) w hT)
  have H4 := hide (fun w hT => take_any 1 (by omega) (by omega) w hT)
  rw [show takeV 1476395008 = .agg #[.int .u8 0, .int .i64 0, .int .i64 0, .int .i64 0, .int .i64 0] from rfl, show takeE 1476395008 = 6 by decide] at H3
  rw [show takeV 1 = .agg #[.int .u8 0, .int .i64 0, .int .i64 0, .int .i64 0, .int .i64 0] from rfl, show takeE 1 = 6 by decide] at H4
  have HT := hide hT
  clear hT
  unfold code5 at H1 H2
  go_enter Tryd.func3, Tryd.ntmps3
  go_wp2_with fail
  refine (H1.out _ HT.out).mono ?_
  rintro e w1 ⟨rfl, hb1⟩
  have T1 := hide (HT.out.below hb1)
  go_wp2_with fail
  refine (H2.out _ T1.out).mono ?_
  rintro e w2 ⟨rfl, hb2⟩
  have T2 := hide (T1.out.below hb2)
  have B2 := hide (below_then hb1 hb2)
  clear hb1 hb2
  go_wp2_with fail
  refine (H3.out _ T2.out).mono ?_
  rintro e w3 ⟨rfl, hb3⟩
  have S3 := St.new (T2.out.below hb3) (below_then B2.out hb3) #[.int .u8 0, .int .i64 0, .int .i64 0, .int .i64 0, .int .i64 0]
  clear hb3
  go_wp2_with fail
  refine (H4.out _ (St.tab S3)).mono ?_
  rintro e w4 ⟨rfl, hb4⟩
  have S4 := St.new ((St.tab S3).below hb4) (below_then (St.bel S3) hb4) #[.int .u8 0, .int .i64 0, .int .i64 0, .int .i64 0, .int .i64 0]
  clear hb4
  go_wp2_with fail
  refine (works_any _ (St.tab S4)).mono ?_
  rintro e w5 ⟨rfl, hb5⟩
  have S5 := St.below S4 hb5
  go_wp2
  go_ret
  exact ⟨rfl, St.bel S5⟩
end Go.Proofs.YtgodjedijkfciaaDoor.Laws
