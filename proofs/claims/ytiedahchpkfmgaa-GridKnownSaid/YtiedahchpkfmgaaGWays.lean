/-
  GridWays walked: any two places. It returns true.
-/
import Derived.Test.YtiedahchpkfmgaaGRef
import Derived.Deep.QuietTactic
import Derived.BigQuiet
namespace Go.Proofs.Ytiedahchpkfmgaa.GWays
open Go Ieee Go.RowKit Base Fl GAbs GWalk GPlaces Words GStep GWay GRef
set_option linter.unusedVariables false
set_option linter.unusedSimpArgs false

def px (a c : Int) (i : Nat) : Int := if i < (c - a).natAbs then Xp a c (i + 1) else c
def py (a b c d : Int) (i : Nat) : Int := if i < (c - a).natAbs then b else Xp b d (i - (c - a).natAbs + 1)
theorem wayL_at (a b c d : Int) (i : Nat) (h : i < wayN a b c d) : (wayL a b c d)[i]? = some (plW (px a c i) (py a b c d i)) := by
  unfold wayL px py
  unfold wayN at h
  by_cases hi : i < (c - a).natAbs
  · rw [if_pos hi, if_pos hi, List.getElem?_append_left (by simp [legL]; omega)]
    simp [legL, hi]
  · rw [if_neg hi, if_neg hi, List.getElem?_append_right (by simp [legL]; omega)]
    have e : (legL (Xp a c) (fun _ => b) (c - a).natAbs).length = (c - a).natAbs := by simp [legL]
    rw [e]
    have : i - (c - a).natAbs < (d - b).natAbs := by omega
    simp [legL, this]
theorem legR_len (X Y : Nat → Int) : ∀ n, (legR X Y n).length = n * 2
  | 0 => rfl
  | n + 1 => by rw [legR_succ, List.length_append, legR_len X Y n]; simp; omega
theorem legR_at (X Y : Nat → Int) : ∀ (n i : Nat), i < n → (legR X Y n)[i * 2]? = some (.int .i64 (X (i + 1))) ∧ (legR X Y n)[i * 2 + 1]? = some (.int .i64 (Y (i + 1)))
  | 0, i, h => absurd h (by omega)
  | n + 1, i, h => by
    rw [legR_succ]
    by_cases c : i < n
    · rw [List.getElem?_append_left (by rw [legR_len]; omega), List.getElem?_append_left (by rw [legR_len]; omega)]
      exact legR_at X Y n i c
    · have e : i = n := by omega
      subst e
      rw [List.getElem?_append_right (by rw [legR_len]; omega), List.getElem?_append_right (by rw [legR_len]; omega), legR_len]
      simp
theorem wayR_at (a b c d : Int) (i : Nat) (h : i < wayN a b c d) :
    (legR (Xp a c) (fun _ => b) (c - a).natAbs ++ legR (fun _ => c) (Xp b d) (d - b).natAbs)[i * 2]? = some (.int .i64 (px a c i)) ∧
    (legR (Xp a c) (fun _ => b) (c - a).natAbs ++ legR (fun _ => c) (Xp b d) (d - b).natAbs)[i * 2 + 1]? = some (.int .i64 (py a b c d i)) := by
  unfold px py
  unfold wayN at h
  by_cases hi : i < (c - a).natAbs
  · rw [if_pos hi, if_pos hi, List.getElem?_append_left (by rw [legR_len]; omega), List.getElem?_append_left (by rw [legR_len]; omega)]
    exact legR_at _ _ _ i hi
  · rw [if_neg hi, if_neg hi, List.getElem?_append_right (by rw [legR_len]; omega), List.getElem?_append_right (by rw [legR_len]; omega), legR_len]
    have := legR_at (fun _ => c) (Xp b d) (d - b).natAbs (i - (c - a).natAbs) (by omega)
    rw [show i * 2 - (c - a).natAbs * 2 = (i - (c - a).natAbs) * 2 by omega, show i * 2 + 1 - (c - a).natAbs * 2 = (i - (c - a).natAbs) * 2 + 1 by omega]
    exact this
theorem own_shape {w : World} {base : Nat} {e : TypeId} {size : Nat} {v : Value} {n : Nat} {xs : List Value} (h : w.ownsRow base e size v n xs) : ∃ A cap g, v = .slice A n cap ∧ n ≤ cap ∧ (0 < n → A = some ⟨g, 0, none⟩) ∧ (0 < n → g < w.heap.size ∧ ∀ j u, xs[j]? = some u → w.cell? ⟨g, j, none⟩ = some u) := by
  rcases h.2 with ⟨rfl, rfl⟩ | ⟨g, cap, cur, rfl, hb, hh, hc, hm, hs, ht⟩
  · exact ⟨none, 0, 0, rfl, Nat.le_refl _, fun h => absurd h (by omega), fun h => absurd h (by omega)⟩
  · refine ⟨_, cap, g, rfl, hc, fun _ => rfl, fun hn => ⟨(Array.getElem?_eq_some_iff.1 hh).1, fun j u hu => ?_⟩⟩
    rw [cell_of_row w g j cur e (0, 0) hh, ← Array.getElem?_toList]
    rw [← ht, List.getElem?_take] at hu
    split at hu
    · exact hu
    · cases hu
section
variable (a b c d : Int)
theorem ways_out (a0 : -9223372036854775808 ≤ a) (a1 : a ≤ 9223372036854775807) (b0 : -9223372036854775808 ≤ b) (b1 : b ≤ 9223372036854775807) (c0 : -9223372036854775808 ≤ c) (c1 : c ≤ 9223372036854775807) (d0 : -9223372036854775808 ≤ d) (d1 : d ≤ 9223372036854775807)
    (h : ((inB a && inB b) && (inB c && inB d)) = false) (w : World) :
    Calls Try.prog 4 #[.int .i64 a, .int .i64 b, .int .i64 c, .int .i64 d] w fun e w' => e = .returned (.bool true) ∧ Below w.heap.size w w' := by
  have H := hide (fun w => Hops_no a b c d a0 a1 b0 b1 c0 c1 d0 d1 h w)
  have W := hide (fun w => Way_no a b c d a0 a1 b0 b1 c0 c1 d0 d1 h w)
  have P1 := hide (fun w => place_any a b w)
  have P2 := hide (fun w => place_any c d w)
  have I1 := hide (fun w => Is_any a b w)
  have I2 := hide (fun w => Is_any c d w)
  clear a0 a1 b0 b1 c0 c1 d0 d1
  generalize (inB a && inB b) = p at *
  generalize (inB c && inB d) = q at *
  generalize plW a b = z at *
  generalize plW c d = z' at *
  have hpq : p = false ∨ (p = true ∧ q = false) := by cases p <;> simp_all
  clear h
  rcases hpq with rfl | ⟨rfl, rfl⟩
  all_goals
    go_enter Try.func4, Try.ntmps4
    go_wp2_with fail
    refine (P1.out _).mono ?_
    rintro e w1 ⟨rfl, rfl⟩
    go_wp2_with fail
    refine (P2.out _).mono ?_
    rintro e w1 ⟨rfl, rfl⟩
    go_wp2_with fail
    refine (H.out _).mono ?_
    rintro e w1 ⟨rfl, rfl⟩
    go_wp2_with fail
    refine (P1.out _).mono ?_
    rintro e w1 ⟨rfl, rfl⟩
    go_wp2_with fail
    refine (P2.out _).mono ?_
    rintro e w1 ⟨rfl, rfl⟩
    go_wp2_with fail
    refine (W.out _).mono ?_
    rintro e w1 ⟨rfl, hb1⟩
    have HB := hide hb1
    clear hb1
    go_wp2_with (first
      | ((with_reducible refine (I1.out _).mono ?_); rintro e w1 ⟨rfl, rfl⟩; clear I1)
      | ((with_reducible refine (I2.out _).mono ?_); rintro e w1 ⟨rfl, rfl⟩; clear I2)
      | ((with_reducible refine (works_any _).mono ?_); rintro e w1 ⟨rfl, rfl⟩))
    go_ret
    exact ⟨rfl, HB.out⟩
theorem ways_far (ha : inI a) (hb : inI b) (hc : inI c) (hd : inI d) (h : 4096 < ab (c - a) + ab (d - b)) (w : World) :
    Calls Try.prog 4 #[.int .i64 a, .int .i64 b, .int .i64 c, .int .i64 d] w fun e w' => e = .returned (.bool true) ∧ Below w.heap.size w w' := by
  have H := hide (fun w => Hops_yes a b c d ha hb hc hd w)
  have W := hide (fun w => Way_far a b c d ha hb hc hd h w)
  have P1 := hide (fun w => place_any a b w)
  have P2 := hide (fun w => place_any c d w)
  have I1 := hide (fun w => Is_any a b w)
  have I2 := hide (fun w => Is_any c d w)
  have HR := hide (fun w => HopsR a b c d ha hb hc hd w)
  rw [inB_of ha, inB_of hb] at I1
  rw [inB_of hc, inB_of hd] at I2
  clear ha hb hc hd
  generalize ab (c - a) + ab (d - b) = n at *
  generalize plW a b = z at *
  generalize plW c d = z' at *
  go_enter Try.func4, Try.ntmps4
  go_wp2_with fail
  refine (P1.out _).mono ?_
  rintro e w1 ⟨rfl, rfl⟩
  go_wp2_with fail
  refine (P2.out _).mono ?_
  rintro e w1 ⟨rfl, rfl⟩
  go_wp2_with fail
  refine (H.out _).mono ?_
  rintro e w1 ⟨rfl, rfl⟩
  go_wp2_with fail
  refine (P1.out _).mono ?_
  rintro e w1 ⟨rfl, rfl⟩
  go_wp2_with fail
  refine (P2.out _).mono ?_
  rintro e w1 ⟨rfl, rfl⟩
  go_wp2_with fail
  refine (W.out _).mono ?_
  rintro e w1 ⟨rfl, hb1⟩
  have HB := hide hb1
  clear hb1
  go_wp2_with (first
    | ((with_reducible refine (I1.out _).mono ?_); rintro e w1 ⟨rfl, rfl⟩; clear I1)
    | ((with_reducible refine (I2.out _).mono ?_); rintro e w1 ⟨rfl, rfl⟩; clear I2)
    | ((with_reducible refine (HR.out _).mono ?_); rintro e w1 ⟨rfl, rfl⟩; clear HR)
    | ((with_reducible refine (works_any _).mono ?_); rintro e w1 ⟨rfl, rfl⟩))
  go_ret
  exact ⟨rfl, HB.out⟩
/-- Both ways in memory. -/
structure Two (w0 w : World) (g h : Nat) (N : Nat) (X Y : Nat → Int) : Prop where
  one : ∀ i, i < N → w.cell? ⟨g, i, none⟩ = some (plW (X i) (Y i))
  two : ∀ i, i < N → w.cell? ⟨h, i * 2, none⟩ = some (.int .i64 (X i)) ∧ w.cell? ⟨h, i * 2 + 1, none⟩ = some (.int .i64 (Y i))
  bel : Below w0.heap.size w0 w
theorem Two.drewN {w0 w : World} {g h N : Nat} {X Y : Nat → Int} (t : Two w0 w g h N X Y) (k : Nat) : Two w0 (w.drewN k) g h N X Y := ⟨t.one, t.two, bdrewN t.bel k⟩
theorem px_in {a c : Int} (ha : inI a) (hc : inI c) (i : Nat) : inI (px a c i) := by
  obtain ⟨a0, a1⟩ := ha
  obtain ⟨c0, c1⟩ := hc
  unfold px Xp inI
  split <;> (try split) <;> omega
theorem py_in {a b c d : Int} (hb : inI b) (hd : inI d) (i : Nat) (h : i < wayN a b c d) : inI (py a b c d i) := by
  obtain ⟨a0, a1⟩ := hb
  obtain ⟨c0, c1⟩ := hd
  unfold wayN at h
  unfold py Xp inI
  split <;> (try split) <;> omega
theorem ways_near (ha : inI a) (hb : inI b) (hc : inI c) (hd : inI d) (h : ab (c - a) + ab (d - b) ≤ 4096) (w : World) :
    Calls Try.prog 4 #[.int .i64 a, .int .i64 b, .int .i64 c, .int .i64 d] w fun e w' => e = .returned (.bool true) ∧ Below w.heap.size w w' := by
  have H := hide (fun w => Hops_yes a b c d ha hb hc hd w)
  have W := hide (fun w => Way_ok a b c d ha hb hc hd h w)
  have WR := hide (fun w => WayR a b c d ha hb hc hd w)
  have P1 := hide (fun w => place_any a b w)
  have P2 := hide (fun w => place_any c d w)
  have I1 := hide (fun w => Is_any a b w)
  have I2 := hide (fun w => Is_any c d w)
  have HR := hide (fun w => HopsR a b c d ha hb hc hd w)
  rw [inB_of ha, inB_of hb] at I1
  rw [inB_of hc, inB_of hd] at I2
  have hN : wayN a b c d ≤ 4096 := by unfold wayN; unfold ab at h; omega
  have LA := hide (wayL_at a b c d)
  have LR := hide (wayR_at a b c d)
  have OX := hide (fun i (hi : i < wayN a b c d) => ord_self (px a c i) (by have := px_in ha hc i; unfold inI at this; omega))
  have OY := hide (fun i (hi : i < wayN a b c d) => ord_self (py a b c d i) (by have := py_in hb hd i hi; unfold inI at this; omega))
  clear ha hb hc hd
  generalize legR (Xp a c) (fun _ => b) (c - a).natAbs ++ legR (fun _ => c) (Xp b d) (d - b).natAbs = LR0 at *
  generalize wayL a b c d = LA0 at *
  generalize wayN a b c d = N at *
  generalize px a c = X at *
  generalize py a b c d = Y at *
  generalize ab (c - a) + ab (d - b) = n at *
  generalize plW a b = z at *
  generalize plW c d = z' at *
  go_enter Try.func4, Try.ntmps4
  go_wp2_with fail
  refine (P1.out _).mono ?_
  rintro e w1 ⟨rfl, rfl⟩
  go_wp2_with fail
  refine (P2.out _).mono ?_
  rintro e w1 ⟨rfl, rfl⟩
  go_wp2_with fail
  refine (H.out _).mono ?_
  rintro e w1 ⟨rfl, rfl⟩
  go_wp2_with fail
  refine (P1.out _).mono ?_
  rintro e w1 ⟨rfl, rfl⟩
  go_wp2_with fail
  refine (P2.out _).mono ?_
  rintro e w1 ⟨rfl, rfl⟩
  go_wp2_with fail
  refine (W.out _).mono ?_
  rintro e w1 ⟨v1, rfl, own1, hb1⟩
  obtain ⟨A1, cap1, g1, rfl, hc1, hA1, hcell1⟩ := own_shape own1
  have HA1 := hide hA1
  have HC1 := hide hcell1
  have HB := hide hb1
  clear hb1 own1 hA1 hcell1 W H P1 P2
  go_wp2_with (first
    | ((with_reducible refine (I1.out _).mono ?_); rintro e w1 ⟨rfl, rfl⟩; clear I1)
    | ((with_reducible refine (I2.out _).mono ?_); rintro e w1 ⟨rfl, rfl⟩; clear I2)
    | ((with_reducible refine (HR.out _).mono ?_); rintro e w1 ⟨rfl, rfl⟩; clear HR))
  refine (WR.out _).mono ?_
  rintro e w2 ⟨v2, rfl, own2, hb2⟩
  obtain ⟨A2, cap2, g2, rfl, hc2, hA2, hcell2⟩ := own_shape own2
  have HA2 := hide hA2
  have S0 : Hid (Two w w2 g1 g2 N X Y) := hide ⟨fun i hi => (hb2.cell (p := ⟨g1, i, none⟩) (HC1.out (by omega)).1).trans ((HC1.out (by omega)).2 i _ (LA.out i hi)),
    fun i hi => ⟨(hcell2 (by omega)).2 _ _ (LR.out i hi).1, (hcell2 (by omega)).2 _ _ (LR.out i hi).2⟩, below_then HB.out hb2⟩
  clear hb2 own2 hA2 hcell2 WR HC1 HB LA LR
  go_wp2_with fail
  go_loopw [103] (fun i wr => ∃ k : Nat, k ≤ N ∧ i = .int .i64 k ∧ Hid (Two w wr g1 g2 N X Y)) (fun i _ => N - (intOf i).toNat)
  case atStart => exact ⟨0, by omega, rfl, S0⟩
  case round =>
    clear S0
    obtain ⟨k, hk, rfl, hS⟩ := hrel
    by_cases hlt : k < N
    · obtain rfl := HA1.out (by omega)
      obtain rfl := HA2.out (by omega)
      have hlt' : (k : Int) < (N : Int) := by omega
      have k1 := hS.out.one k hlt
      obtain ⟨k2, k3⟩ := hS.out.two k hlt
      have o1 := OX.out k hlt
      have o2 := OY.out k hlt
      have PL := hide (fun w => place_any (X k) (Y k) w)
      unfold plW at k1 PL
      generalize fl (X k) = xx at *
      generalize fl (Y k) = yy at *
      go_wp2_with fail
      go_quiet ((go_at_call 8; exact Calls.quiet_of_same ((PL.out _).mono (fun e w' h => ⟨h.1, h.2.symm⟩))))
      have hS2 := hide (hS.out.drewN nq)
      clear hS k1 k2 k3 PL
      go_wp2_with fail
      go_roundw
      case rel => exact ⟨k + 1, by omega, by go_num, hS2⟩
      case measure => simp [intOf]; omega
    · obtain rfl : k = N := by omega
      go_wp2_with fail
      refine (works_any _).mono ?_
      rintro e w3 ⟨rfl, rfl⟩
      go_wp2_with fail
      go_ret
      exact ⟨rfl, hS.out.bel⟩
theorem ways (a0 : -9223372036854775808 ≤ a) (a1 : a ≤ 9223372036854775807) (b0 : -9223372036854775808 ≤ b) (b1 : b ≤ 9223372036854775807) (c0 : -9223372036854775808 ≤ c) (c1 : c ≤ 9223372036854775807) (d0 : -9223372036854775808 ≤ d) (d1 : d ≤ 9223372036854775807) (w : World) :
    Calls Try.prog 4 #[.int .i64 a, .int .i64 b, .int .i64 c, .int .i64 d] w fun e w' => e = .returned (.bool true) ∧ Below w.heap.size w w' := by
  rcases Bool.eq_false_or_eq_true ((inB a && inB b) && (inB c && inB d)) with h | h
  · have hh : inI a ∧ inI b ∧ inI c ∧ inI d := by
      simp only [Bool.and_eq_true, inB, decide_eq_true_eq] at h
      unfold inI
      omega
    obtain ⟨ha, hb, hc, hd⟩ := hh
    by_cases hn : 4096 < ab (c - a) + ab (d - b)
    · exact ways_far a b c d ha hb hc hd hn w
    · exact ways_near a b c d ha hb hc hd (by omega) w
  · exact ways_out a b c d a0 a1 b0 b1 c0 c1 d0 d1 h w
end
end Go.Proofs.Ytiedahchpkfmgaa.GWays
