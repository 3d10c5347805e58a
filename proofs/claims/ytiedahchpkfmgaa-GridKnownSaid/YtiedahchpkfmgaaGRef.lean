/-
  The document's way walked: both loops; its Is, abs, Hops.
-/
import Derived.Test.YtiedahchpkfmgaaGWay
namespace Go.Proofs.Ytiedahchpkfmgaa.GRef
open Go Ieee Go.RowKit Base Fl GAbs GWalk GPlaces Words GStep GWay
set_option linter.unusedVariables false
set_option linter.unusedSimpArgs false

theorem Is_any (a b : Int) (w : World) : Calls Try.prog 12 #[.int .i64 a, .int .i64 b] w fun e w' => e = .returned (.bool (inB a && inB b)) ∧ w = w' := by
  by_cases h1 : -1048576 ≤ a
  · by_cases h2 : a ≤ 1048576
    · have ea : inB a = true := inB_of ⟨h1, h2⟩
      by_cases h3 : -1048576 ≤ b
      · by_cases h4 : b ≤ 1048576
        · have eb : inB b = true := inB_of ⟨h3, h4⟩
          rw [ea, eb]
          clear ea eb
          go_enter Try.func12, Try.ntmps12
          go_wp2
          go_ret
          exact ⟨rfl, rfl⟩
        · have eb : inB b = false := by simp [inB]; omega
          rw [ea, eb]
          clear ea eb
          go_enter Try.func12, Try.ntmps12
          go_wp2
          go_ret
          exact ⟨rfl, rfl⟩
      · have eb : inB b = false := by simp [inB]; omega
        rw [ea, eb]
        clear ea eb
        go_enter Try.func12, Try.ntmps12
        go_wp2
        go_ret
        exact ⟨rfl, rfl⟩
    · have ea : inB a = false := by simp [inB]; omega
      rw [ea]
      clear ea
      go_enter Try.func12, Try.ntmps12
      go_wp2
      go_ret
      exact ⟨rfl, rfl⟩
  · have ea : inB a = false := by simp [inB]; omega
    rw [ea]
    clear ea
    go_enter Try.func12, Try.ntmps12
    go_wp2
    go_ret
    exact ⟨rfl, rfl⟩
theorem absR (n : Int) (h0 : -2097152 ≤ n) (h1 : n ≤ 2097152) (w : World) : Calls Try.prog 19 #[.int .i64 n] w fun e w' => e = .returned (.int .i64 (ab n)) ∧ w = w' := by
  by_cases h : n < 0
  · have e : ab n = -n := by unfold ab; omega
    rw [e]
    clear e
    go_enter Try.func19, Try.ntmps19
    go_wp2
    go_ret
    exact ⟨rfl, rfl⟩
  · have e : ab n = n := by unfold ab; omega
    rw [e]
    clear e
    go_enter Try.func19, Try.ntmps19
    go_wp2
    go_ret
    exact ⟨rfl, rfl⟩
theorem HopsR (a b c d : Int) (ha : inI a) (hb : inI b) (hc : inI c) (hd : inI d) (w : World) :
    Calls Try.prog 13 #[.int .i64 a, .int .i64 b, .int .i64 c, .int .i64 d] w fun e w' => e = .returned (.int .i64 (ab (c - a) + ab (d - b))) ∧ w = w' := by
  obtain ⟨a0, a1⟩ := ha
  obtain ⟨b0, b1⟩ := hb
  obtain ⟨c0, c1⟩ := hc
  obtain ⟨d0, d1⟩ := hd
  have A1 := hide (fun w => absR (c - a) (by omega) (by omega) w)
  have A2 := hide (fun w => absR (d - b) (by omega) (by omega) w)
  have p0 : 0 ≤ ab (c - a) := by unfold ab; omega
  have p1 : ab (c - a) ≤ 2097152 := by unfold ab; omega
  have p2 : 0 ≤ ab (d - b) := by unfold ab; omega
  have p3 : ab (d - b) ≤ 2097152 := by unfold ab; omega
  go_enter Try.func13, Try.ntmps13
  go_wp2_with fail
  refine (A1.out _).mono ?_
  rintro e w1 ⟨rfl, rfl⟩
  go_wp2_with fail
  refine (A2.out _).mono ?_
  rintro e w1 ⟨rfl, rfl⟩
  go_wp2
  go_ret
  exact ⟨rfl, rfl⟩
def legR (X Y : Nat → Int) (k : Nat) : List Value := (List.range k).flatMap fun i => [.int .i64 (X (i + 1)), .int .i64 (Y (i + 1))]
theorem legR_succ (X Y : Nat → Int) (k : Nat) : legR X Y (k + 1) = legR X Y k ++ [.int .i64 (X (k + 1)), .int .i64 (Y (k + 1))] := by simp [legR, List.range_succ]
theorem infoP : (Try.prog.info? 40).map (fun i => (i.zero, i.size, i.bytes)) = some (some (.agg #[.int .i64 0, .int .i64 0]), 2, 16) := by kernel_rfl
theorem reads_two (w : World) (t : TypeId) (u v : Value) : Reads (w.alloc (.cells #[u, v] t)) (w.heap.size + 1) 2 (some ⟨w.heap.size, 0, none⟩) 1 [u, v] := by
  have hB := Blk.new w t #[u, v]
  refine ⟨rfl, fun _ => ⟨⟨w.heap.size, 0, none⟩, rfl, Nat.lt_succ_self _, fun j x hx => ?_⟩⟩
  have e : (⟨w.heap.size, 0, none⟩ : Addr).add j = ⟨w.heap.size, j, none⟩ := by unfold Addr.add; split <;> simp_all
  rw [e, hB.cell j]
  simpa using hx
theorem one_ii (p q : Int) : ∀ u ∈ [Value.int .i64 p, .int .i64 q], u.oneCell' = true := by
  intro u hu
  simp at hu
  rcases hu with rfl | rfl <;> rfl
/-- What was laid so far. -/
structure RSt (w0 w : World) (v : Value) (n : Nat) (xs : List Value) : Prop where
  own : w.ownsRow w0.heap.size 40 2 v n xs
  bel : Below w0.heap.size w0 w
theorem RSt.alloc {w0 w : World} {v : Value} {n : Nat} {xs : List Value} (h : RSt w0 w v n xs) (o : Obj) : RSt w0 (w.alloc o) v n xs := ⟨h.own.alloc o, h.bel.alloc h.bel.size o⟩
theorem RSt.next {w0 w w' : World} {v v' : Value} {n n' : Nat} {xs xs' : List Value} (h : RSt w0 w v n xs) (ho : w'.ownsRow w0.heap.size 40 2 v' n' xs') (hg : w.grownBy w' v.ownBlock) : RSt w0 w' v' n' xs' :=
  ⟨ho, h.bel.trans (below_of_grown hg (fun k hk => (h.own.lt k hk).1) h.bel.size)⟩
theorem WayR (a b c d : Int) (ha : inI a) (hb : inI b) (hc : inI c) (hd : inI d) (w : World) :
    Calls Try.prog 14 #[.int .i64 a, .int .i64 b, .int .i64 c, .int .i64 d] w fun e w' => ∃ v, e = .returned v ∧ w'.ownsRow w.heap.size 40 2 v (wayN a b c d) (legR (Xp a c) (fun _ => b) (c - a).natAbs ++ legR (fun _ => c) (Xp b d) (d - b).natAbs) ∧ Below w.heap.size w w' := by
  obtain ⟨a0, a1⟩ := ha
  obtain ⟨b0, b1⟩ := hb
  obtain ⟨c0, c1⟩ := hc
  obtain ⟨d0, d1⟩ := hd
  obtain ⟨i0, hi0, hz0, hz1, hz2⟩ := info_parts infoP
  have S0 : Hid (RSt w w (.slice none 0 0) 0 []) := hide ⟨World.ownsRow_nil _ _ _ _, Below.refl _ _⟩
  have HX := hide (Xp_all a c)
  have HY := hide (Xp_all b d)
  go_enter Try.func14, Try.ntmps14
  go_wp2_with fail
  go_loopw [0, 9] (fun s0 s9 wr => ∃ (k : Nat) (x : Int) (v : Value), k ≤ (c - a).natAbs ∧ Hid (x = Xp a c k) ∧ s0 = .int .i64 x ∧ v = s9 ∧ Hid (RSt w wr v k (legR (Xp a c) (fun _ => b) k))) (fun s0 _ _ => (c - intOf s0).natAbs)
  case atStart => exact ⟨0, a, _, by omega, hide (Xp_zero a c).symm, rfl, rfl, S0⟩
  case round =>
    clear S0
    obtain ⟨k, x, v, hk, hx, rfl, rfl, hS⟩ := hrel
    by_cases hlt : k < (c - a).natAbs
    · have HL := hide (legR_succ (Xp a c) (fun _ => b) k)
      by_cases hs : c - a < 0
      · have ex : x = a - k := by have := hx.out; unfold Xp at this; rw [if_pos hs] at this; exact this
        have ex' : Xp a c (k + 1) = x - 1 := by unfold Xp; rw [if_pos hs]; omega
        have l1 : (x != c) = true := by rw [bne_iff_ne]; omega
        have l2 : ¬ x < c := by omega
        have HL2 := hide l2
        have HL1' := hide l1
        have g0 : -1048576 ≤ x - 1 := by omega
        have g1 : x - 1 ≤ 1048576 := by omega
        have g2 : -1048576 ≤ x := by omega
        have g3 : x ≤ 1048576 := by omega
        have HXX := hide ex'
        rw [ex'] at HL
        clear ex ex'
        have hS3 := hide (hS.out.alloc (.cells #[.int .i64 (x - 1), .int .i64 b] 40))
        have HR := hide (reads_two wr 40 (.int .i64 (x - 1)) (.int .i64 b))
        have HO := hide (one_ii (x - 1) b)
        have hm1 : k + 1 ≤ maxLen := by unfold maxLen; omega
        have HZ := hide hS3.out.bel.size
        have HYY := hide (show (k + 1) * 16 ≤ 140737488355328 by omega)
        go_wp2_with (first
          | (at_builtin; refine wpList_append_any _ rfl (.tmp 20) (.tmp 24) 38 rfl w.heap.size 40 i0 _ 2 16 Try.underlying38 hi0 hz0 hz1 hz2 rfl (by omega) _ (k) (legR (Xp a c) (fun _ => b) k) rfl hS3.out.own (wr.heap.size + 1) (some ⟨wr.heap.size, 0, none⟩) 1 1 [.int .i64 (x - 1), .int .i64 b] rfl HR.out HO.out hm1 HYY.out HZ.out ?_; intro v6 w6 hown6 hg6 hat6; have HS6 := hide (hS3.out.next hown6 hg6); clear hown6 hg6 hat6))
        exact ⟨⟨k + 1, x - 1, v6, by omega, hide HXX.out.symm, rfl, rfl, by rw [HL.out]; exact HS6⟩, by have e1 := HL2.out; have e2 := HL1'.out; rw [bne_iff_ne] at e2; simp [intOf]; omega⟩
      · have ex : x = a + k := by have := hx.out; unfold Xp at this; rw [if_neg hs] at this; exact this
        have ex' : Xp a c (k + 1) = x + 1 := by unfold Xp; rw [if_neg hs]; omega
        have l1 : (x != c) = true := by rw [bne_iff_ne]; omega
        have l2 : x < c := by omega
        have HL2 := hide l2
        have HL1' := hide l1
        have g0 : -1048576 ≤ x + 1 := by omega
        have g1 : x + 1 ≤ 1048576 := by omega
        have g2 : -1048576 ≤ x := by omega
        have g3 : x ≤ 1048576 := by omega
        have HXX := hide ex'
        rw [ex'] at HL
        clear ex ex'
        have hS3 := hide (hS.out.alloc (.cells #[.int .i64 (x + 1), .int .i64 b] 40))
        have HR := hide (reads_two wr 40 (.int .i64 (x + 1)) (.int .i64 b))
        have HO := hide (one_ii (x + 1) b)
        have hm1 : k + 1 ≤ maxLen := by unfold maxLen; omega
        have HZ := hide hS3.out.bel.size
        have HYY := hide (show (k + 1) * 16 ≤ 140737488355328 by omega)
        go_wp2_with (first
          | (at_builtin; refine wpList_append_any _ rfl (.tmp 20) (.tmp 24) 38 rfl w.heap.size 40 i0 _ 2 16 Try.underlying38 hi0 hz0 hz1 hz2 rfl (by omega) _ (k) (legR (Xp a c) (fun _ => b) k) rfl hS3.out.own (wr.heap.size + 1) (some ⟨wr.heap.size, 0, none⟩) 1 1 [.int .i64 (x + 1), .int .i64 b] rfl HR.out HO.out hm1 HYY.out HZ.out ?_; intro v6 w6 hown6 hg6 hat6; have HS6 := hide (hS3.out.next hown6 hg6); clear hown6 hg6 hat6))
        exact ⟨⟨k + 1, x + 1, v6, by omega, hide HXX.out.symm, rfl, rfl, by rw [HL.out]; exact HS6⟩, by have e1 := HL2.out; have e2 := HL1'.out; rw [bne_iff_ne] at e2; simp [intOf]; omega⟩
    · obtain rfl : k = (c - a).natAbs := by omega
      have hx' := hx.out
      rw [HX.out] at hx'
      subst hx'
      have l1 : (x != x) = false := by simp
      generalize hN1 : (x - a).natAbs = N1 at *
      generalize hL1 : legR (Xp a x) (fun _ => b) N1 = L1 at *
      have HN1 := hide hN1
      have HL1 := hide hL1
      have hn1 : N1 ≤ 2097152 := by omega
      clear hN1 hL1 hk hlt hx HX
      go_wp2_with fail
      go_loopw [1, 9] (fun s0 s9 wr => ∃ (k : Nat) (y : Int) (v : Value), k ≤ (d - b).natAbs ∧ Hid (y = Xp b d k) ∧ s0 = .int .i64 y ∧ v = s9 ∧ Hid (RSt w wr v (N1 + k) (L1 ++ legR (fun _ => x) (Xp b d) k))) (fun s0 _ _ => (d - intOf s0).natAbs)
      case atStart => exact ⟨0, b, v, by omega, hide (Xp_zero b d).symm, rfl, rfl, by simpa [legR] using hS⟩
      case round =>
        clear hS
        obtain ⟨k, y, v, hk, hx, rfl, rfl, hS⟩ := hrel
        by_cases hlt : k < (d - b).natAbs
        · have HL := hide (legR_succ (fun _ => x) (Xp b d) k)
          by_cases hs : d - b < 0
          · have ex : y = b - k := by have := hx.out; unfold Xp at this; rw [if_pos hs] at this; exact this
            have ex' : Xp b d (k + 1) = y - 1 := by unfold Xp; rw [if_pos hs]; omega
            have l1 : (y != d) = true := by rw [bne_iff_ne]; omega
            have l2 : ¬ y < d := by omega
            have HL2 := hide l2
            have HL1' := hide l1
            have g0 : -1048576 ≤ y - 1 := by omega
            have g1 : y - 1 ≤ 1048576 := by omega
            have g2 : -1048576 ≤ y := by omega
            have g3 : y ≤ 1048576 := by omega
            have HXX := hide ex'
            rw [ex'] at HL
            clear ex ex'
            have hS3 := hide (hS.out.alloc (.cells #[.int .i64 x, .int .i64 (y - 1)] 40))
            have HR := hide (reads_two wr 40 (.int .i64 x) (.int .i64 (y - 1)))
            have HO := hide (one_ii x (y - 1))
            have hm1 : N1 + k + 1 ≤ maxLen := by unfold maxLen; omega
            have HZ := hide hS3.out.bel.size
            have HYY := hide (show (N1 + k + 1) * 16 ≤ 140737488355328 by omega)
            go_wp2_with (first
              | (at_builtin; refine wpList_append_any _ rfl (.tmp 36) (.tmp 40) 38 rfl w.heap.size 40 i0 _ 2 16 Try.underlying38 hi0 hz0 hz1 hz2 rfl (by omega) _ (N1 + k) (L1 ++ legR (fun _ => x) (Xp b d) k) rfl hS3.out.own (wr.heap.size + 1) (some ⟨wr.heap.size, 0, none⟩) 1 1 [.int .i64 x, .int .i64 (y - 1)] rfl HR.out HO.out hm1 HYY.out HZ.out ?_; intro v6 w6 hown6 hg6 hat6; have HS6 := hide (hS3.out.next hown6 hg6); clear hown6 hg6 hat6))
            exact ⟨⟨k + 1, y - 1, v6, by omega, hide HXX.out.symm, rfl, rfl, by rw [HL.out, ← List.append_assoc]; exact HS6⟩, by have e1 := HL2.out; have e2 := HL1'.out; rw [bne_iff_ne] at e2; simp [intOf]; omega⟩
          · have ex : y = b + k := by have := hx.out; unfold Xp at this; rw [if_neg hs] at this; exact this
            have ex' : Xp b d (k + 1) = y + 1 := by unfold Xp; rw [if_neg hs]; omega
            have l1 : (y != d) = true := by rw [bne_iff_ne]; omega
            have l2 : y < d := by omega
            have HL2 := hide l2
            have HL1' := hide l1
            have g0 : -1048576 ≤ y + 1 := by omega
            have g1 : y + 1 ≤ 1048576 := by omega
            have g2 : -1048576 ≤ y := by omega
            have g3 : y ≤ 1048576 := by omega
            have HXX := hide ex'
            rw [ex'] at HL
            clear ex ex'
            have hS3 := hide (hS.out.alloc (.cells #[.int .i64 x, .int .i64 (y + 1)] 40))
            have HR := hide (reads_two wr 40 (.int .i64 x) (.int .i64 (y + 1)))
            have HO := hide (one_ii x (y + 1))
            have hm1 : N1 + k + 1 ≤ maxLen := by unfold maxLen; omega
            have HZ := hide hS3.out.bel.size
            have HYY := hide (show (N1 + k + 1) * 16 ≤ 140737488355328 by omega)
            go_wp2_with (first
              | (at_builtin; refine wpList_append_any _ rfl (.tmp 36) (.tmp 40) 38 rfl w.heap.size 40 i0 _ 2 16 Try.underlying38 hi0 hz0 hz1 hz2 rfl (by omega) _ (N1 + k) (L1 ++ legR (fun _ => x) (Xp b d) k) rfl hS3.out.own (wr.heap.size + 1) (some ⟨wr.heap.size, 0, none⟩) 1 1 [.int .i64 x, .int .i64 (y + 1)] rfl HR.out HO.out hm1 HYY.out HZ.out ?_; intro v6 w6 hown6 hg6 hat6; have HS6 := hide (hS3.out.next hown6 hg6); clear hown6 hg6 hat6))
            exact ⟨⟨k + 1, y + 1, v6, by omega, hide HXX.out.symm, rfl, rfl, by rw [HL.out, ← List.append_assoc]; exact HS6⟩, by have e1 := HL2.out; have e2 := HL1'.out; rw [bne_iff_ne] at e2; simp [intOf]; omega⟩
        · obtain rfl : k = (d - b).natAbs := by omega
          have hx' := hx.out
          rw [HY.out] at hx'
          subst hx'
          have l2 : (y != y) = false := by simp
          go_wp2_with fail
          go_ret
          refine ⟨v, rfl, ?_, hS.out.bel⟩
          rw [HN1.out, HL1.out, show wayN a b x y = N1 + (y - b).natAbs by unfold wayN; rw [HN1.out]]
          exact hS.out.own
end Go.Proofs.Ytiedahchpkfmgaa.GRef
