/-
  Way walked: both legs.
-/
import Derived.Test.YtiedahchpkfmgaaGStep
namespace Go.Proofs.Ytiedahchpkfmgaa.GWay
open Go Ieee Go.RowKit Base Fl GAbs GWalk GPlaces Words GStep
set_option linter.unusedVariables false
set_option linter.unusedSimpArgs false

def Xp (a c : Int) (k : Nat) : Int := if c - a < 0 then a - k else a + k
theorem Xp_zero (a c : Int) : Xp a c 0 = a := by unfold Xp; split <;> simp
theorem Xp_all (a c : Int) : Xp a c (c - a).natAbs = c := by unfold Xp; split <;> omega
theorem one_fl : fl 1 = 4607182418800017408 := by decide +kernel
theorem zero_fl : fl 0 = 0 := by decide +kernel
theorem leg1 {w0 : World} {A O : Nat} {v : Value} {n : Nat} {xs : List Value} {a b c : Int} (ha : inI a) (hb : inI b) (hc : inI c) (hn : n ≤ 4194304) (w : World) (h : SSt w0 w A O (plW a b) v n xs) :
    Calls Try.prog 18 #[.complex .f64 4607182418800017408 0, .float .f64 (fl (c - a)), .pointer (some ⟨A, 0, none⟩), .pointer (some ⟨O, 0, none⟩)] w fun e w' => (∃ u, e = .returned u) ∧ ∃ v', SSt w0 w' A O (plW c b) v' (n + (c - a).natAbs) (xs ++ legL (Xp a c) (fun _ => b) (c - a).natAbs) := by
  obtain ⟨a0, a1⟩ := ha
  obtain ⟨b0, b1⟩ := hb
  obtain ⟨c0, c1⟩ := hc
  have hx := Xp_all a c
  by_cases hs : c - a < 0
  · have := step_neg w0 A O v n xs (Xp a c) (fun _ => b) (c - a).natAbs (by omega) hn (by omega) 4607182418800017408 0 (fl (-1)) mz (by
      have h1 := neg_fl 1 (by decide) (by decide)
      show pure (Value.complex .f64 (Op.negFloat .f64 4607182418800017408) (Op.negFloat .f64 0)) = _
      rw [← one_fl, h1]
      rfl) (fun k hk => by
      constructor
      · have e : Xp a c (k + 1) = Xp a c k + (-1) := by unfold Xp; rw [if_pos hs, if_pos hs]; omega
        rw [e]
        exact add_fl _ _ (by unfold Xp; rw [if_pos hs]; omega) (by decide) (by unfold Xp; rw [if_pos hs]; omega)
      · exact add_mz b (by omega)) w (by rw [Xp_zero]; exact h)
    rw [hx, show (-(((c - a).natAbs : Nat) : Int)) = c - a by omega] at this
    exact this
  · have := step_pos w0 A O v n xs (Xp a c) (fun _ => b) (c - a).natAbs (by omega) hn 4607182418800017408 0 (fun k hk => by
      constructor
      · have e : Xp a c (k + 1) = Xp a c k + 1 := by unfold Xp; rw [if_neg hs, if_neg hs]; omega
        rw [e, ← one_fl]
        exact add_fl _ _ (by unfold Xp; rw [if_neg hs]; omega) (by decide) (by unfold Xp; rw [if_neg hs]; omega)
      · have := add_fl b 0 (by omega) (by decide) (by omega)
        rw [zero_fl, Int.add_zero] at this
        exact this) w (by rw [Xp_zero]; exact h)
    rw [hx, show ((((c - a).natAbs : Nat) : Int)) = c - a by omega] at this
    exact this
theorem leg2 {w0 : World} {A O : Nat} {v : Value} {n : Nat} {xs : List Value} {c b d : Int} (hc : inI c) (hb : inI b) (hd : inI d) (hn : n ≤ 4194304) (w : World) (h : SSt w0 w A O (plW c b) v n xs) :
    Calls Try.prog 18 #[.complex .f64 0 4607182418800017408, .float .f64 (fl (d - b)), .pointer (some ⟨A, 0, none⟩), .pointer (some ⟨O, 0, none⟩)] w fun e w' => (∃ u, e = .returned u) ∧ ∃ v', SSt w0 w' A O (plW c d) v' (n + (d - b).natAbs) (xs ++ legL (fun _ => c) (Xp b d) (d - b).natAbs) := by
  obtain ⟨a0, a1⟩ := hc
  obtain ⟨b0, b1⟩ := hb
  obtain ⟨c0, c1⟩ := hd
  have hx := Xp_all b d
  by_cases hs : d - b < 0
  · have := step_neg w0 A O v n xs (fun _ => c) (Xp b d) (d - b).natAbs (by omega) hn (by omega) 0 4607182418800017408 mz (fl (-1)) (by
      have h1 := neg_fl 1 (by decide) (by decide)
      show pure (Value.complex .f64 (Op.negFloat .f64 0) (Op.negFloat .f64 4607182418800017408)) = _
      rw [← one_fl, h1]
      rfl) (fun k hk => by
      constructor
      · exact add_mz c (by omega)
      · have e : Xp b d (k + 1) = Xp b d k + (-1) := by unfold Xp; rw [if_pos hs, if_pos hs]; omega
        rw [e]
        exact add_fl _ _ (by unfold Xp; rw [if_pos hs]; omega) (by decide) (by unfold Xp; rw [if_pos hs]; omega)) w (by rw [Xp_zero]; exact h)
    rw [hx, show (-(((d - b).natAbs : Nat) : Int)) = d - b by omega] at this
    exact this
  · have := step_pos w0 A O v n xs (fun _ => c) (Xp b d) (d - b).natAbs (by omega) hn 0 4607182418800017408 (fun k hk => by
      constructor
      · have := add_fl c 0 (by omega) (by decide) (by omega)
        rw [zero_fl, Int.add_zero] at this
        exact this
      · have e : Xp b d (k + 1) = Xp b d k + 1 := by unfold Xp; rw [if_neg hs, if_neg hs]; omega
        rw [e, ← one_fl]
        exact add_fl _ _ (by unfold Xp; rw [if_neg hs]; omega) (by decide) (by unfold Xp; rw [if_neg hs]; omega)) w (by rw [Xp_zero]; exact h)
    rw [hx, show ((((d - b).natAbs : Nat) : Int)) = d - b by omega] at this
    exact this
/-- The places met. -/
def wayL (a b c d : Int) : List Value := legL (Xp a c) (fun _ => b) (c - a).natAbs ++ legL (fun _ => c) (Xp b d) (d - b).natAbs
def wayN (a b c d : Int) : Nat := (c - a).natAbs + (d - b).natAbs
section
variable (a b c d : Int)
theorem Way_no (a0 : -9223372036854775808 ≤ a) (a1 : a ≤ 9223372036854775807) (b0 : -9223372036854775808 ≤ b) (b1 : b ≤ 9223372036854775807) (c0 : -9223372036854775808 ≤ c) (c1 : c ≤ 9223372036854775807) (d0 : -9223372036854775808 ≤ d) (d1 : d ≤ 9223372036854775807)
    (h : ((inB a && inB b) && (inB c && inB d)) = false) (w : World) :
    Calls Try.prog 11 #[plW a b, plW c d] w fun e w' => e = .returned (.tuple #[.slice none 0 0, .int .i64 2]) ∧ Below w.heap.size w w' := by
  have H := hide (fun w => Hops_no a b c d a0 a1 b0 b1 c0 c1 d0 d1 h w)
  clear a0 a1 b0 b1 c0 c1 d0 d1 h
  unfold plW at *
  generalize fl a = s5 at *
  generalize fl b = s6 at *
  generalize fl c = s7 at *
  generalize fl d = s8 at *
  have HB := hide ((Below.refl w.heap.size w).alloc (Nat.le_refl _) (.cells #[.complex .f64 s5 s6] 22))
  go_enter Try.func11, Try.ntmps11
  go_wp2_with fail
  refine (H.out _).mono ?_
  rintro e w1 ⟨rfl, rfl⟩
  go_wp2
  go_ret2
  exact ⟨rfl, HB.out⟩
theorem Way_far (ha : inI a) (hb : inI b) (hc : inI c) (hd : inI d) (h : 4096 < ab (c - a) + ab (d - b)) (w : World) :
    Calls Try.prog 11 #[plW a b, plW c d] w fun e w' => e = .returned (.tuple #[.slice none 0 0, .int .i64 5]) ∧ Below w.heap.size w w' := by
  have H := hide (fun w => Hops_yes a b c d ha hb hc hd w)
  clear ha hb hc hd
  unfold plW at *
  generalize ab (c - a) + ab (d - b) = n at *
  generalize fl a = s5 at *
  generalize fl b = s6 at *
  generalize fl c = s7 at *
  generalize fl d = s8 at *
  have HB := hide ((Below.refl w.heap.size w).alloc (Nat.le_refl _) (.cells #[.complex .f64 s5 s6] 22))
  go_enter Try.func11, Try.ntmps11
  go_wp2_with fail
  refine (H.out _).mono ?_
  rintro e w1 ⟨rfl, rfl⟩
  go_wp2
  go_ret2
  exact ⟨rfl, HB.out⟩
theorem Way_ok (ha : inI a) (hb : inI b) (hc : inI c) (hd : inI d) (h : ab (c - a) + ab (d - b) ≤ 4096) (w : World) :
    Calls Try.prog 11 #[plW a b, plW c d] w fun e w' => ∃ v, e = .returned (.tuple #[v, .int .i64 0]) ∧ w'.ownsRow w.heap.size 22 1 v (wayN a b c d) (wayL a b c d) ∧ Below w.heap.size w w' := by
  have H := hide (fun w => Hops_yes a b c d ha hb hc hd w)
  have hab : (c - a).natAbs ≤ 4096 := by unfold ab at h; omega
  have L1 := hide (fun (w0 : World) A O v w (h : SSt w0 w A O (plW a b) v 0 []) => leg1 ha hb hc (by omega) w h)
  have L2 := hide (fun (w0 : World) A O v xs w (h : SSt w0 w A O (plW c b) v (0 + (c - a).natAbs) xs) => leg2 hc hb hd (by omega) w h)
  have S0 : Hid (SSt w ((w.alloc (.cells #[plW a b] 22)).alloc (.cells #[.slice none 0 0] 33)) w.heap.size (w.heap.size + 1) (plW a b) (.slice none 0 0) 0 []) := hide
    ⟨(Blk.new w _ _).alloc _, Blk.new_at _ _ _ (by simp), World.ownsRow_nil _ _ _ _, ((Below.refl w.heap.size w).alloc (Nat.le_refl _) _).alloc (by simp) _, Nat.le_refl _, Nat.le_succ _, by omega, by simp [Value.ownBlock]⟩
  obtain ⟨a0, a1⟩ := ha
  obtain ⟨b0, b1⟩ := hb
  obtain ⟨c0, c1⟩ := hc
  obtain ⟨d0, d1⟩ := hd
  have hs1 : ∀ w, (binOp .sub 43 (.float .f64 (fl c)) (.float .f64 (fl a))).run Try.prog w = .ok (.float .f64 (fl (c - a))) w := fun w =>
    run_float_arith w .sub _ _ _ _ _ (by unfold floatBits; simp only [fmt]; exact sub_fl _ _ (by omega) (by omega) (by omega))
  have hs2 : ∀ w, (binOp .sub 43 (.float .f64 (fl d)) (.float .f64 (fl b))).run Try.prog w = .ok (.float .f64 (fl (d - b))) w := fun w =>
    run_float_arith w .sub _ _ _ _ _ (by unfold floatBits; simp only [fmt]; exact sub_fl _ _ (by omega) (by omega) (by omega))
  clear a0 a1 b0 b1 c0 c1 d0 d1 hab
  have hW := hide (show wayL a b c d = ([] ++ legL (Xp a c) (fun _ => b) (c - a).natAbs) ++ legL (fun _ => c) (Xp b d) (d - b).natAbs by rw [List.nil_append]; rfl)
  have hN := hide (show wayN a b c d = 0 + (c - a).natAbs + (d - b).natAbs by unfold wayN; omega)
  generalize ab (c - a) + ab (d - b) = n at *
  generalize legL (Xp a c) (fun _ => b) (c - a).natAbs = l1 at *
  generalize legL (fun _ => c) (Xp b d) (d - b).natAbs = l2 at *
  generalize (c - a).natAbs = n1 at *
  generalize (d - b).natAbs = n2 at *
  unfold plW at *
  generalize fl (c - a) = s3 at *
  generalize fl (d - b) = s4 at *
  generalize fl a = s5 at *
  generalize fl b = s6 at *
  generalize fl c = s7 at *
  generalize fl d = s8 at *
  go_enter Try.func11, Try.ntmps11
  go_wp2_with fail
  refine (H.out _).mono ?_
  rintro e w1 ⟨rfl, rfl⟩
  go_upto_region 8 with fail
  generalize (w.alloc (.cells #[.complex .f64 s5 s6] 22)).alloc (.cells #[.slice none 0 0] 33) = w2 at *
  generalize w.heap.size + 1 = O at *
  generalize hA : w.heap.size = A at *
  obtain ⟨cA, fA, cO, fO⟩ := S0.out.cells
  go_wp2_with fail
  refine (L1.out _ _ _ _ _ S0.out).mono ?_
  rintro e w3 ⟨⟨u, rfl⟩, v3, S3⟩
  have HS3 := hide S3
  clear cA fA cO fO S0 S3
  obtain ⟨cA, fA, cO, fO⟩ := HS3.out.cells
  go_wp2_with fail
  refine (L2.out _ _ _ _ _ _ HS3.out).mono ?_
  rintro e w4 ⟨⟨u, rfl⟩, v4, S4⟩
  have HS4 := hide S4
  clear cA fA cO fO HS3 S4
  obtain ⟨cA, fA, cO, fO⟩ := HS4.out.cells
  go_wp2_with fail
  go_ret2
  refine ⟨v4, rfl, ?_, ?_⟩
  · have := HS4.out.own
    rw [← hN.out, ← hW.out] at this
    exact hA ▸ this
  · exact hA ▸ HS4.out.bel
end
end Go.Proofs.Ytiedahchpkfmgaa.GWay
