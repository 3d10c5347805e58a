/-
  The laws of the layer 'plan' walked: PlanSets, PlanBack.
-/
import Derived.Test.YtchlbnpgbndpaaaLaws
namespace Go.Proofs.Ytchlbnpgbndpaaa.Laws2
open Go.RowKit Plain Base May RefMay Walk Laws
set_option linter.unusedVariables false

theorem mod_next {b s : Int} (hb : 0 ≤ b) (hs : pow2 s = true) (h1 : s ≠ 1) : (b + 1) % s ≠ b % s := by
  have h := of_decide_eq_true hs
  rcases h with rfl | rfl | rfl | rfl | rfl <;> omega
theorem set_ok (c0 c1 c2 c3 c4 c5 c6 c7 block : Int) (hm : mayB c0 c1 c2 c3 c4 c5 c6 c7 = true) (h0 : 0 ≤ block) (hb : block ≤ 9223372036854775807) (w : World) :
    Calls Try.prog 12 #[.agg #[.int .i64 c0, .int .i64 c1, .int .i64 c2, .int .i64 c3, .int .i64 c4, .int .i64 c5, .int .i64 c6, .int .i64 c7], .int .i64 block] w fun e w' => e = .returned (.int .i64 (block % c1)) ∧ Below w.heap.size w w' := by
  have h := Set_true c0 c1 c2 c3 c4 c5 c6 c7 block hm hb w
  rwa [if_neg (by omega)] at h

theorem psets (c0 c1 c2 c3 c4 c5 c6 c7 block : Int) (hi0 : -9223372036854775808 ≤ block) (hi1 : block ≤ 9223372036854775807) (w : World) :
    Calls Try.prog 5 #[.agg #[.int .i64 c0, .int .i64 c1, .int .i64 c2, .int .i64 c3, .int .i64 c4, .int .i64 c5, .int .i64 c6, .int .i64 c7], .int .i64 block] w fun e w' => e = .returned (.bool true) ∧ Below w.heap.size w w' := by
  cases hm : mayB c0 c1 c2 c3 c4 c5 c6 c7
  · have S := hide (fun w1 => Set_false c0 c1 c2 c3 c4 c5 c6 c7 block hm w1)
    have M := hide (fun w1 => May_false c0 c1 c2 c3 c4 c5 c6 c7 hm w1)
    clear hm
    go_enter Try.func5, Try.ntmps5
    go_wp2_with fail
    refine (S.out _).mono ?_
    rintro e w1 ⟨rfl, hb1⟩
    obtain ⟨q0, q1, q2, q3, q4, q5, q6, q7, q8⟩ := cfg_next hb1 (cfg_first w c0 c1 c2 c3 c4 c5 c6 c7)
    go_wp2_with fail
    refine (M.out _).mono ?_
    rintro e w2 ⟨rfl, hb2⟩
    obtain ⟨q0, q1, q2, q3, q4, q5, q6, q7, q8⟩ := cfg_next hb2 ⟨q0, q1, q2, q3, q4, q5, q6, q7, q8⟩
    go_wp2_with fail
    refine (works_any _).mono ?_
    rintro e w3 ⟨rfl, hb3⟩
    go_wp2
    go_ret
    exact ⟨rfl, below_then q8 hb3⟩

  · have M := hide (fun w1 => May_true c0 c1 c2 c3 c4 c5 c6 c7 hm w1)
    have bb := (may_bounds hm).2.1
    obtain ⟨b1, b2⟩ := bb
    by_cases hneg : block < 0
    · have S := Set_true c0 c1 c2 c3 c4 c5 c6 c7 block hm hi1
      simp only [if_pos hneg] at S
      have S := hide S
      clear hm
      go_enter Try.func5, Try.ntmps5
      go_wp2_with fail
      refine (S.out _).mono ?_
      rintro e w1 ⟨rfl, hb1⟩
      obtain ⟨q0, q1, q2, q3, q4, q5, q6, q7, q8⟩ := cfg_next hb1 (cfg_first w c0 c1 c2 c3 c4 c5 c6 c7)
      go_wp2_with fail
      refine (M.out _).mono ?_
      rintro e w2 ⟨rfl, hb2⟩
      obtain ⟨q0, q1, q2, q3, q4, q5, q6, q7, q8⟩ := cfg_next hb2 ⟨q0, q1, q2, q3, q4, q5, q6, q7, q8⟩
      go_wp2_with fail
      refine (works_any _).mono ?_
      rintro e w3 ⟨rfl, hb3⟩
      go_wp2
      go_ret
      exact ⟨rfl, below_then q8 hb3⟩

    · have S := hide (fun w1 => set_ok c0 c1 c2 c3 c4 c5 c6 c7 block hm (by omega) hi1 w1)
      have hs0 : 0 ≤ block % c1 := Int.emod_nonneg _ (by omega)
      have hs1 : block % c1 < c1 := Int.emod_lt_of_pos _ (by omega)
      by_cases hbig : 1099511627776 < block
      · clear hm
        by_cases hz : block % c1 = 0
        · have S := S.out
          rw [hz] at S
          have S := hide S
          clear hs0 hs1 hz
          go_enter Try.func5, Try.ntmps5
          go_wp2_with fail
          refine (S.out _).mono ?_
          rintro e w1 ⟨rfl, hb1⟩
          obtain ⟨q0, q1, q2, q3, q4, q5, q6, q7, q8⟩ := cfg_next hb1 (cfg_first w c0 c1 c2 c3 c4 c5 c6 c7)
          go_wp2_with fail
          refine (M.out _).mono ?_
          rintro e w2 ⟨rfl, hb2⟩
          obtain ⟨q0, q1, q2, q3, q4, q5, q6, q7, q8⟩ := cfg_next hb2 ⟨q0, q1, q2, q3, q4, q5, q6, q7, q8⟩
          go_wp2_with fail
          refine (works_any _).mono ?_
          rintro e w3 ⟨rfl, hb3⟩
          go_wp2
          go_ret
          exact ⟨rfl, below_then q8 hb3⟩

        · have S := S.out
          have k : (block % c1 == 0) = false := by rw [beq_eq_false_iff_ne]; exact hz
          generalize block % c1 = s at *
          have S := hide S
          clear hz
          go_enter Try.func5, Try.ntmps5
          go_wp2_with fail
          refine (S.out _).mono ?_
          rintro e w1 ⟨rfl, hb1⟩
          obtain ⟨q0, q1, q2, q3, q4, q5, q6, q7, q8⟩ := cfg_next hb1 (cfg_first w c0 c1 c2 c3 c4 c5 c6 c7)
          go_wp2_with fail
          refine (M.out _).mono ?_
          rintro e w2 ⟨rfl, hb2⟩
          obtain ⟨q0, q1, q2, q3, q4, q5, q6, q7, q8⟩ := cfg_next hb2 ⟨q0, q1, q2, q3, q4, q5, q6, q7, q8⟩
          go_wp2_with fail
          refine (M.out _).mono ?_
          rintro e w3 ⟨rfl, hb3⟩
          obtain ⟨q0, q1, q2, q3, q4, q5, q6, q7, q8⟩ := cfg_next hb3 ⟨q0, q1, q2, q3, q4, q5, q6, q7, q8⟩
          go_wp2_with fail
          refine (works_any _).mono ?_
          rintro e w4 ⟨rfl, hb4⟩
          go_wp2
          go_ret
          exact ⟨rfl, below_then q8 hb4⟩

      · have S1 := fun w1 => set_ok c0 c1 c2 c3 c4 c5 c6 c7 (block + 1) hm (by omega) (by omega) w1
        have S2 := fun w1 => set_ok c0 c1 c2 c3 c4 c5 c6 c7 (block + c1) hm (by omega) (by omega) w1
        have hn : c1 ≠ 1 → (block + 1) % c1 ≠ block % c1 := mod_next (by omega) (may_bounds hm).2.2.2.2.2.1
        have he : (block + c1) % c1 = block % c1 := Int.add_emod_right ..
        simp only [he] at S2
        have S := S.out
        clear hm he
        by_cases h1 : c1 = 1
        · have k1 : (c1 == 1) = true := by rw [beq_iff_eq]; exact h1
          clear hn
          generalize block % c1 = s at *
          have S := hide S
          have S1 := hide S1
          have S2 := hide S2
          clear h1
          go_enter Try.func5, Try.ntmps5
          go_wp2_with fail
          refine (S.out _).mono ?_
          rintro e w1 ⟨rfl, hb1⟩
          obtain ⟨q0, q1, q2, q3, q4, q5, q6, q7, q8⟩ := cfg_next hb1 (cfg_first w c0 c1 c2 c3 c4 c5 c6 c7)
          go_wp2_with fail
          refine (M.out _).mono ?_
          rintro e w2 ⟨rfl, hb2⟩
          obtain ⟨q0, q1, q2, q3, q4, q5, q6, q7, q8⟩ := cfg_next hb2 ⟨q0, q1, q2, q3, q4, q5, q6, q7, q8⟩
          go_wp2_with fail
          refine (S2.out _).mono ?_
          rintro e w3 ⟨rfl, hb3⟩
          obtain ⟨q0, q1, q2, q3, q4, q5, q6, q7, q8⟩ := cfg_next hb3 ⟨q0, q1, q2, q3, q4, q5, q6, q7, q8⟩
          go_wp2_with fail
          refine (works_any _).mono ?_
          rintro e w4 ⟨rfl, hb4⟩
          go_wp2
          go_ret
          exact ⟨rfl, below_then q8 hb4⟩

        · have k1 : (c1 == 1) = false := by rw [beq_eq_false_iff_ne]; exact h1
          have hn := hn h1
          generalize block % c1 = s at *
          generalize (block + 1) % c1 = s' at *
          have k2 : (s' != s) = true := by rw [bne_iff_ne]; exact hn
          have S := hide S
          have S1 := hide S1
          have S2 := hide S2
          clear h1 hn
          go_enter Try.func5, Try.ntmps5
          go_wp2_with fail
          refine (S.out _).mono ?_
          rintro e w1 ⟨rfl, hb1⟩
          obtain ⟨q0, q1, q2, q3, q4, q5, q6, q7, q8⟩ := cfg_next hb1 (cfg_first w c0 c1 c2 c3 c4 c5 c6 c7)
          go_wp2_with fail
          refine (M.out _).mono ?_
          rintro e w2 ⟨rfl, hb2⟩
          obtain ⟨q0, q1, q2, q3, q4, q5, q6, q7, q8⟩ := cfg_next hb2 ⟨q0, q1, q2, q3, q4, q5, q6, q7, q8⟩
          go_wp2_with fail
          refine (S1.out _).mono ?_
          rintro e w3 ⟨rfl, hb3⟩
          obtain ⟨q0, q1, q2, q3, q4, q5, q6, q7, q8⟩ := cfg_next hb3 ⟨q0, q1, q2, q3, q4, q5, q6, q7, q8⟩
          go_wp2_with fail
          refine (S2.out _).mono ?_
          rintro e w4 ⟨rfl, hb4⟩
          obtain ⟨q0, q1, q2, q3, q4, q5, q6, q7, q8⟩ := cfg_next hb4 ⟨q0, q1, q2, q3, q4, q5, q6, q7, q8⟩
          go_wp2_with fail
          refine (works_any _).mono ?_
          rintro e w5 ⟨rfl, hb5⟩
          go_wp2
          go_ret
          exact ⟨rfl, below_then q8 hb5⟩


theorem pback (c0 c1 c2 c3 c4 c5 c6 c7 block word : Int) (w : World) :
    Calls Try.prog 9 #[.agg #[.int .i64 c0, .int .i64 c1, .int .i64 c2, .int .i64 c3, .int .i64 c4, .int .i64 c5, .int .i64 c6, .int .i64 c7], .int .i64 block, .int .i64 word] w fun e w' => e = .returned (.bool true) ∧ Below w.heap.size w w' := by
  by_cases h : block < 0 ∨ 255 < block ∨ word < 0 ∨ 15 < word
  · have A := hide (fun w1 => Addr_false block word h w1)
    obtain ⟨x, y, z, B, _⟩ := where_both c0 c1 c2 c3 c4 c5 c6 c7 0 (by omega) (by omega)
    have B := hide B
    clear h
    go_enter Try.func9, Try.ntmps9
    go_wp2_with fail
    refine (A.out _).mono ?_
    rintro e wx ⟨rfl, rfl⟩
    go_wp2_with fail
    refine (B.out _).mono ?_
    rintro e w1 ⟨rfl, hb1⟩
    obtain ⟨q0, q1, q2, q3, q4, q5, q6, q7, q8⟩ := cfg_next hb1 (cfg_first w c0 c1 c2 c3 c4 c5 c6 c7)
    go_wp2_with fail
    refine (works_any _).mono ?_
    rintro e w2 ⟨rfl, hb2⟩
    go_wp2
    go_ret
    exact ⟨rfl, below_then q8 hb2⟩

  · have g : 0 ≤ block ∧ block ≤ 255 ∧ 0 ≤ word ∧ word ≤ 15 := by omega
    obtain ⟨g0, g1, g2, g3⟩ := g
    clear h
    have A := fun w1 => Addr_true block word g0 g1 g2 g3 w1
    have q1 : (64 * block + 4 * word) / 64 = block := by omega
    have q2 : (64 * block + 4 * word) / 4 % 16 = word := by omega
    have q3 : (64 * block + 4 * word) % 4 = 0 := by omega
    have r0 : 0 ≤ 64 * block + 4 * word := by omega
    have r1 : 64 * block + 4 * word ≤ 4294967295 := by omega
    generalize 64 * block + 4 * word = ad at *
    have A := hide A
    cases hm : mayB c0 c1 c2 c3 c4 c5 c6 c7
    · have B := hide (fun w1 => Where_false c0 c1 c2 c3 c4 c5 c6 c7 ad hm w1)
      have M := hide (fun w1 => May_false c0 c1 c2 c3 c4 c5 c6 c7 hm w1)
      clear hm q1 q2 q3
      go_enter Try.func9, Try.ntmps9
      go_wp2_with fail
      refine (A.out _).mono ?_
      rintro e wx ⟨rfl, rfl⟩
      go_wp2_with fail
      refine (B.out _).mono ?_
      rintro e w1 ⟨rfl, hb1⟩
      obtain ⟨q0, q1, q2, q3, q4, q5, q6, q7, q8⟩ := cfg_next hb1 (cfg_first w c0 c1 c2 c3 c4 c5 c6 c7)
      go_wp2_with fail
      refine (M.out _).mono ?_
      rintro e w2 ⟨rfl, hb2⟩
      obtain ⟨q0, q1, q2, q3, q4, q5, q6, q7, q8⟩ := cfg_next hb2 ⟨q0, q1, q2, q3, q4, q5, q6, q7, q8⟩
      go_wp2_with fail
      refine (works_any _).mono ?_
      rintro e w3 ⟨rfl, hb3⟩
      go_wp2
      go_ret
      exact ⟨rfl, below_then q8 hb3⟩

    · have B := fun w1 => Where_true c0 c1 c2 c3 c4 c5 c6 c7 ad hm r0 r1 q3 w1
      rw [q1, q2] at B
      have M := hide (fun w1 => May_true c0 c1 c2 c3 c4 c5 c6 c7 hm w1)
      have D := fun w1 => Data_true c0 c1 c2 c3 c4 c5 c6 c7 hm w1
      have bb := may_bounds hm
      obtain ⟨b0, b1⟩ := bb.2.1
      obtain ⟨b2, b3⟩ := bb.2.2.2.1
      obtain ⟨b4, b5⟩ := bb.2.2.2.2.2.2
      have S := hide (fun w1 => set_ok c0 c1 c2 c3 c4 c5 c6 c7 block hm g0 (by omega) w1)
      have hs1 : block % c1 < c1 := Int.emod_lt_of_pos _ (by omega)
      generalize c0 * c4 = pr at *
      generalize block % c1 = sb at *
      have D := hide D
      clear hm q1 q2 q3 bb
      by_cases e1 : c3 ≤ block
      · simp only [if_pos e1] at B
        have d1 : decide (block < c3) = false := by rw [decide_eq_false_iff_not]; omega
        have d2 : decide (c3 ≤ block) = true := by rw [decide_eq_true_iff]; exact e1
        have B := hide B
        go_enter Try.func9, Try.ntmps9
        go_wp2_with fail
        refine (A.out _).mono ?_
        rintro e wx ⟨rfl, rfl⟩
        go_wp2_with fail
        refine (B.out _).mono ?_
        rintro e w1 ⟨rfl, hb1⟩
        obtain ⟨q0, q1, q2, q3, q4, q5, q6, q7, q8⟩ := cfg_next hb1 (cfg_first w c0 c1 c2 c3 c4 c5 c6 c7)
        go_wp2_with fail
        refine (M.out _).mono ?_
        rintro e w2 ⟨rfl, hb2⟩
        obtain ⟨q0, q1, q2, q3, q4, q5, q6, q7, q8⟩ := cfg_next hb2 ⟨q0, q1, q2, q3, q4, q5, q6, q7, q8⟩
        go_wp2_with fail
        refine (D.out _).mono ?_
        rintro e w3 ⟨rfl, hb3⟩
        obtain ⟨q0, q1, q2, q3, q4, q5, q6, q7, q8⟩ := cfg_next hb3 ⟨q0, q1, q2, q3, q4, q5, q6, q7, q8⟩
        go_wp2_with fail
        refine (works_any _).mono ?_
        rintro e w4 ⟨rfl, hb4⟩
        go_wp2
        go_ret
        exact ⟨rfl, below_then q8 hb4⟩

      · simp only [if_neg e1] at B
        by_cases e2 : c3 - pr ≤ block
        · simp only [if_pos e2] at B
          have d1 : decide (block < c3) = true := by rw [decide_eq_true_iff]; omega
          have d2 : decide (c3 ≤ block) = false := by rw [decide_eq_false_iff_not]; exact e1
          have B := hide B
          go_enter Try.func9, Try.ntmps9
          go_wp2_with fail
          refine (A.out _).mono ?_
          rintro e wx ⟨rfl, rfl⟩
          go_wp2_with fail
          refine (B.out _).mono ?_
          rintro e w1 ⟨rfl, hb1⟩
          obtain ⟨q0, q1, q2, q3, q4, q5, q6, q7, q8⟩ := cfg_next hb1 (cfg_first w c0 c1 c2 c3 c4 c5 c6 c7)
          go_wp2_with fail
          refine (M.out _).mono ?_
          rintro e w2 ⟨rfl, hb2⟩
          obtain ⟨q0, q1, q2, q3, q4, q5, q6, q7, q8⟩ := cfg_next hb2 ⟨q0, q1, q2, q3, q4, q5, q6, q7, q8⟩
          go_wp2_with fail
          refine (D.out _).mono ?_
          rintro e w3 ⟨rfl, hb3⟩
          obtain ⟨q0, q1, q2, q3, q4, q5, q6, q7, q8⟩ := cfg_next hb3 ⟨q0, q1, q2, q3, q4, q5, q6, q7, q8⟩
          go_wp2_with fail
          refine (works_any _).mono ?_
          rintro e w4 ⟨rfl, hb4⟩
          go_wp2
          go_ret
          exact ⟨rfl, below_then q8 hb4⟩

        · simp only [if_neg e2] at B
          have B := hide B
          go_enter Try.func9, Try.ntmps9
          go_wp2_with fail
          refine (A.out _).mono ?_
          rintro e wx ⟨rfl, rfl⟩
          go_wp2_with fail
          refine (B.out _).mono ?_
          rintro e w1 ⟨rfl, hb1⟩
          obtain ⟨q0, q1, q2, q3, q4, q5, q6, q7, q8⟩ := cfg_next hb1 (cfg_first w c0 c1 c2 c3 c4 c5 c6 c7)
          go_wp2_with fail
          refine (M.out _).mono ?_
          rintro e w2 ⟨rfl, hb2⟩
          obtain ⟨q0, q1, q2, q3, q4, q5, q6, q7, q8⟩ := cfg_next hb2 ⟨q0, q1, q2, q3, q4, q5, q6, q7, q8⟩
          go_wp2_with fail
          refine (D.out _).mono ?_
          rintro e w3 ⟨rfl, hb3⟩
          obtain ⟨q0, q1, q2, q3, q4, q5, q6, q7, q8⟩ := cfg_next hb3 ⟨q0, q1, q2, q3, q4, q5, q6, q7, q8⟩
          have S4 := cfg_drew ⟨q0, q1, q2, q3, q4, q5, q6, q7, q8⟩
          clear q0 q1 q2 q3 q4 q5 q6 q7 q8
          go_wp2_with fail
          go_region_held3 (fun w' => (w'.cell? ⟨w.heap.size, 0, none⟩ = some (.int .i64 c0) ∧ w'.cell? ⟨w.heap.size, 1, none⟩ = some (.int .i64 c1) ∧ w'.cell? ⟨w.heap.size, 2, none⟩ = some (.int .i64 c2) ∧ w'.cell? ⟨w.heap.size, 3, none⟩ = some (.int .i64 c3) ∧ w'.cell? ⟨w.heap.size, 4, none⟩ = some (.int .i64 c4) ∧ w'.cell? ⟨w.heap.size, 5, none⟩ = some (.int .i64 c5) ∧ w'.cell? ⟨w.heap.size, 6, none⟩ = some (.int .i64 c6) ∧ w'.cell? ⟨w.heap.size, 7, none⟩ = some (.int .i64 c7) ∧ Below w.heap.size w w')) (first | exact S4 | exact cfg_next (by assumption) (by assumption) | assumption)
            (first | (go_at_call 12; refine (S.out _).mono ?_; rintro e w4 ⟨rfl, hb4⟩) | (go_at_call 14; refine (works_any _).mono ?_; rintro e w5 ⟨rfl, hb5⟩))
          all_goals
            go_wp2
            go_ret
            exact ⟨rfl, cfg_below (by assumption)⟩
end Go.Proofs.Ytchlbnpgbndpaaa.Laws2
