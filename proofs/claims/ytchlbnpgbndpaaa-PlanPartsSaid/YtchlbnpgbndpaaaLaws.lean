/-
  The laws of the layer 'plan' walked: PlanWhere, PlanAddrs, PlanSets, PlanKnown, PlanMay, PlanBack.
-/
import Derived.Test.YtchlbnpgbndpaaaWalk
namespace Go.Proofs.Ytchlbnpgbndpaaa.Laws
open Go.RowKit Plain Base May RefMay Walk
set_option linter.unusedVariables false

theorem two_may : mayB 2 2 2 10 1 1 1 1 = true := by decide
theorem where_two (addr : Int) (x y z : Int) (h0 : 0 ≤ addr) (h1 : addr ≤ 4294967295) (h4 : addr % 4 = 0)
    (h : (if (10 : Int) ≤ addr / 64 then Value.tuple #[.int .i64 0, .int .i64 0, .int .i64 5] else if (10 : Int) - 2 * 1 ≤ addr / 64 then .tuple #[.int .i64 0, .int .i64 0, .int .i64 51] else .tuple #[.int .i64 (addr / 64), .int .i64 (addr / 4 % 16), .int .i64 0]) = .tuple #[.int .i64 x, .int .i64 y, .int .i64 z]) (w : World) :
    Calls Try.prog 10 #[.agg #[.int .i64 2, .int .i64 2, .int .i64 2, .int .i64 10, .int .i64 1, .int .i64 1, .int .i64 1, .int .i64 1], .int .u32 addr] w fun e w' => e = .returned (.tuple #[.int .i64 x, .int .i64 y, .int .i64 z]) ∧ Below w.heap.size w w' := by
  rw [← h]
  exact Where_true 2 2 2 10 1 1 1 1 addr two_may h0 h1 h4 w

theorem works_any (w : World) : Calls Try.prog 14 #[] w fun e w' => e = .returned (.bool true) ∧ Below w.heap.size w w' := by
  have W1 := hide (fun w1 => where_two 68 1 1 0 (by omega) (by omega) (by omega) rfl w1)
  have D1 := hide (fun w1 => Data_true 2 2 2 10 1 1 1 1 two_may w1)
  have M1 := hide (fun w1 => May_false 0 0 0 0 0 0 0 0 (by decide) w1)
  go_enter Try.func14, Try.ntmps14
  go_wp2_with fail
  refine (two_any _).mono ?_
  rintro e w1 ⟨rfl, hb1⟩
  go_wp2_with fail
  refine (W1.out _).mono ?_
  rintro e w2 ⟨rfl, hb2⟩
  go_wp2_with fail
  refine (two_any _).mono ?_
  rintro e w3 ⟨rfl, hb3⟩
  go_wp2_with fail
  refine (D1.out _).mono ?_
  rintro e w4 ⟨rfl, hb4⟩
  go_wp2_with fail
  refine (M1.out _).mono ?_
  rintro e w5 ⟨rfl, hb5⟩
  go_wp2
  go_ret
  exact ⟨rfl, below_then (below_then (below_then (below_then hb1 hb2) hb3) hb4) hb5⟩

/-- Both answer alike, at any plan, any address. -/
theorem where_both (c0 c1 c2 c3 c4 c5 c6 c7 addr : Int) (h0 : 0 ≤ addr) (h1 : addr ≤ 4294967295) : ∃ x y z : Int,
    (∀ w, Calls Try.prog 10 #[.agg #[.int .i64 c0, .int .i64 c1, .int .i64 c2, .int .i64 c3, .int .i64 c4, .int .i64 c5, .int .i64 c6, .int .i64 c7], .int .u32 addr] w fun e w' => e = .returned (.tuple #[.int .i64 x, .int .i64 y, .int .i64 z]) ∧ Below w.heap.size w w') ∧
    (∀ w, Calls Try.prog 11 #[.agg #[.int .i64 c0, .int .i64 c1, .int .i64 c2, .int .i64 c3, .int .i64 c4, .int .i64 c5, .int .i64 c6, .int .i64 c7], .int .u32 addr] w fun e w' => e = .returned (.tuple #[.int .i64 x, .int .i64 y, .int .i64 z]) ∧ Below w.heap.size w w') := by
  cases hm : mayB c0 c1 c2 c3 c4 c5 c6 c7
  · exact ⟨0, 0, 2, fun w => Where_false c0 c1 c2 c3 c4 c5 c6 c7 addr hm w, fun w => WhereR_false c0 c1 c2 c3 c4 c5 c6 c7 addr hm w⟩
  · by_cases h4 : addr % 4 = 0
    · have A := fun w => Where_true c0 c1 c2 c3 c4 c5 c6 c7 addr hm h0 h1 h4 w
      have B := fun w => WhereR_true c0 c1 c2 c3 c4 c5 c6 c7 addr hm h0 h1 h4 w
      by_cases e1 : c3 ≤ addr / 64
      · simp only [if_pos e1] at A B
        exact ⟨_, _, _, A, B⟩
      · simp only [if_neg e1] at A B
        by_cases e2 : c3 - c0 * c4 ≤ addr / 64
        · simp only [if_pos e2] at A B
          exact ⟨_, _, _, A, B⟩
        · simp only [if_neg e2] at A B
          exact ⟨_, _, _, A, B⟩
    · exact ⟨0, 0, 50, fun w => Where_align c0 c1 c2 c3 c4 c5 c6 c7 addr hm h0 h1 h4 w, fun w => WhereR_align c0 c1 c2 c3 c4 c5 c6 c7 addr hm h0 h1 h4 w⟩
theorem set_both (c0 c1 c2 c3 c4 c5 c6 c7 block : Int) (hb : block ≤ 9223372036854775807) : ∃ x : Int,
    (∀ w, Calls Try.prog 12 #[.agg #[.int .i64 c0, .int .i64 c1, .int .i64 c2, .int .i64 c3, .int .i64 c4, .int .i64 c5, .int .i64 c6, .int .i64 c7], .int .i64 block] w fun e w' => e = .returned (.int .i64 x) ∧ Below w.heap.size w w') ∧
    (∀ w, Calls Try.prog 13 #[.agg #[.int .i64 c0, .int .i64 c1, .int .i64 c2, .int .i64 c3, .int .i64 c4, .int .i64 c5, .int .i64 c6, .int .i64 c7], .int .i64 block] w fun e w' => e = .returned (.int .i64 x) ∧ Below w.heap.size w w') := by
  cases hm : mayB c0 c1 c2 c3 c4 c5 c6 c7
  · exact ⟨0, fun w => Set_false c0 c1 c2 c3 c4 c5 c6 c7 block hm w, fun w => SetR_false c0 c1 c2 c3 c4 c5 c6 c7 block hm w⟩
  · exact ⟨_, fun w => Set_true c0 c1 c2 c3 c4 c5 c6 c7 block hm hb w, fun w => SetR_true c0 c1 c2 c3 c4 c5 c6 c7 block hm hb w⟩
theorem log_both (c0 c1 c2 c3 c4 c5 c6 c7 core : Int) : ∃ x y z : Int,
    (∀ w, Calls Try.prog 17 #[.agg #[.int .i64 c0, .int .i64 c1, .int .i64 c2, .int .i64 c3, .int .i64 c4, .int .i64 c5, .int .i64 c6, .int .i64 c7], .int .i64 core] w fun e w' => e = .returned (.tuple #[.int .i64 x, .int .i64 y, .int .i64 z]) ∧ Below w.heap.size w w') ∧
    (∀ w, Calls Try.prog 21 #[.agg #[.int .i64 c0, .int .i64 c1, .int .i64 c2, .int .i64 c3, .int .i64 c4, .int .i64 c5, .int .i64 c6, .int .i64 c7], .int .i64 core] w fun e w' => e = .returned (.tuple #[.int .i64 x, .int .i64 y, .int .i64 z]) ∧ Below w.heap.size w w') := by
  cases hm : mayB c0 c1 c2 c3 c4 c5 c6 c7
  · exact ⟨0, 0, 2, fun w => Log_false c0 c1 c2 c3 c4 c5 c6 c7 core hm w, fun w => LogR_false c0 c1 c2 c3 c4 c5 c6 c7 core hm w⟩
  · by_cases h : core < 0 ∨ c0 ≤ core
    · exact ⟨0, 0, 5, fun w => Log_range c0 c1 c2 c3 c4 c5 c6 c7 core hm h w, fun w => LogR_range c0 c1 c2 c3 c4 c5 c6 c7 core hm h w⟩
    · exact ⟨_, _, _, fun w => Log_true c0 c1 c2 c3 c4 c5 c6 c7 core hm (by omega) (by omega) w, fun w => LogR_true c0 c1 c2 c3 c4 c5 c6 c7 core hm (by omega) (by omega) w⟩

theorem pwhere (c0 c1 c2 c3 c4 c5 c6 c7 addr block : Int) (h0 : 0 ≤ addr) (h1 : addr ≤ 4294967295) (hb : block ≤ 9223372036854775807) (w : World) :
    Calls Try.prog 3 #[.agg #[.int .i64 c0, .int .i64 c1, .int .i64 c2, .int .i64 c3, .int .i64 c4, .int .i64 c5, .int .i64 c6, .int .i64 c7], .int .u32 addr, .int .i64 block] w fun e w' => e = .returned (.bool true) ∧ Below w.heap.size w w' := by
  obtain ⟨x, y, z, A, B⟩ := where_both c0 c1 c2 c3 c4 c5 c6 c7 addr h0 h1
  obtain ⟨s, D, F⟩ := set_both c0 c1 c2 c3 c4 c5 c6 c7 block hb
  have A := hide A
  have B := hide B
  have D := hide D
  have F := hide F
  clear h0 h1 hb
  go_enter Try.func3, Try.ntmps3
  go_wp2_with fail
  refine (A.out _).mono ?_
  rintro e w1 ⟨rfl, hb1⟩
  have S1 := cfg_next hb1 (cfg_first w c0 c1 c2 c3 c4 c5 c6 c7)
  obtain ⟨q0, q1, q2, q3, q4, q5, q6, q7, q8⟩ := S1
  go_wp2_with fail
  refine (B.out _).mono ?_
  rintro e w2 ⟨rfl, hb2⟩
  have S2 := cfg_drew (cfg_next hb2 ⟨q0, q1, q2, q3, q4, q5, q6, q7, q8⟩)
  clear q0 q1 q2 q3 q4 q5 q6 q7 q8
  go_wp2_with fail
  go_region_held3 (fun w' => (w'.cell? ⟨w.heap.size, 0, none⟩ = some (.int .i64 c0) ∧ w'.cell? ⟨w.heap.size, 1, none⟩ = some (.int .i64 c1) ∧ w'.cell? ⟨w.heap.size, 2, none⟩ = some (.int .i64 c2) ∧ w'.cell? ⟨w.heap.size, 3, none⟩ = some (.int .i64 c3) ∧ w'.cell? ⟨w.heap.size, 4, none⟩ = some (.int .i64 c4) ∧ w'.cell? ⟨w.heap.size, 5, none⟩ = some (.int .i64 c5) ∧ w'.cell? ⟨w.heap.size, 6, none⟩ = some (.int .i64 c6) ∧ w'.cell? ⟨w.heap.size, 7, none⟩ = some (.int .i64 c7) ∧ Below w.heap.size w w')) (first | exact S2 | exact cfg_next (by assumption) (by assumption) | assumption)
    (first | (go_at_call 12; refine (D.out _).mono ?_; rintro e w3 ⟨rfl, hb3⟩) | (go_at_call 13; refine (F.out _).mono ?_; rintro e w4 ⟨rfl, hb4⟩) | (go_at_call 14; refine (works_any _).mono ?_; rintro e w5 ⟨rfl, hb5⟩))
  all_goals
    go_wp2
    go_ret
    exact ⟨rfl, cfg_below (by assumption)⟩

theorem paddrs (block word : Int) (w : World) :
    Calls Try.prog 4 #[.int .i64 block, .int .i64 word] w fun e w' => e = .returned (.bool true) ∧ Below w.heap.size w w' := by
  by_cases h : block < 0 ∨ 255 < block ∨ word < 0 ∨ 15 < word
  · have A := hide (fun w1 => Addr_false block word h w1)
    by_cases k0 : block < 0
    · clear h
      go_enter Try.func4, Try.ntmps4
      go_wp2_with (first | (go_at_call 15; refine (A.out _).mono ?_; rintro e w' ⟨rfl, rfl⟩) | (go_at_call 14; refine (works_any _).mono ?_; rintro e w2 ⟨rfl, hb2⟩))
      go_ret
      exact ⟨rfl, hb2⟩
    by_cases k1 : 255 < block
    · clear h
      go_enter Try.func4, Try.ntmps4
      go_wp2_with (first | (go_at_call 15; refine (A.out _).mono ?_; rintro e w' ⟨rfl, rfl⟩) | (go_at_call 14; refine (works_any _).mono ?_; rintro e w2 ⟨rfl, hb2⟩))
      go_ret
      exact ⟨rfl, hb2⟩
    by_cases k2 : word < 0
    · clear h
      go_enter Try.func4, Try.ntmps4
      go_wp2_with (first | (go_at_call 15; refine (A.out _).mono ?_; rintro e w' ⟨rfl, rfl⟩) | (go_at_call 14; refine (works_any _).mono ?_; rintro e w2 ⟨rfl, hb2⟩))
      go_ret
      exact ⟨rfl, hb2⟩
    have k3 : 15 < word := by omega
    clear h
    go_enter Try.func4, Try.ntmps4
    go_wp2_with (first | (go_at_call 15; refine (A.out _).mono ?_; rintro e w' ⟨rfl, rfl⟩) | (go_at_call 14; refine (works_any _).mono ?_; rintro e w2 ⟨rfl, hb2⟩))
    go_ret
    exact ⟨rfl, hb2⟩
  · have g : 0 ≤ block ∧ block ≤ 255 ∧ 0 ≤ word ∧ word ≤ 15 := by omega
    obtain ⟨g0, g1, g2, g3⟩ := g
    have A := hide (fun w1 => Addr_true block word g0 g1 g2 g3 w1)
    clear h
    go_enter Try.func4, Try.ntmps4
    go_wp2_with (first | (go_at_call 15; refine (A.out _).mono ?_; rintro e w' ⟨rfl, rfl⟩) | (go_at_call 14; refine (works_any _).mono ?_; rintro e w2 ⟨rfl, hb2⟩))
    go_ret
    exact ⟨rfl, hb2⟩

theorem pknown (w : World) : Calls Try.prog 6 #[] w fun e w' => e = .returned (.bool true) ∧ Below w.heap.size w w' := by
  have L := hide (fun w1 => Log_true 2 2 2 10 1 1 1 1 1 two_may (by omega) (by omega) w1)
  have W1 := hide (fun w1 => Where_align 2 2 2 10 1 1 1 1 70 two_may (by omega) (by omega) (by omega) w1)
  have W2 := hide (fun w1 => where_two 512 0 0 51 (by omega) (by omega) (by omega) rfl w1)
  have W3 := hide (fun w1 => where_two 640 0 0 5 (by omega) (by omega) (by omega) rfl w1)
  have M1 := hide (fun w1 => May_false 2 3 2 10 1 1 1 1 (by decide) w1)
  have M2 := hide (fun w1 => May_false 2 2 2 2 1 1 1 1 (by decide) w1)
  go_enter Try.func6, Try.ntmps6
  go_wp2_with fail
  refine (two_any _).mono ?_
  rintro e w1 ⟨rfl, hb1⟩
  go_wp2_with fail
  refine (L.out _).mono ?_
  rintro e w2 ⟨rfl, hb2⟩
  go_wp2_with fail
  refine (two_any _).mono ?_
  rintro e w3 ⟨rfl, hb3⟩
  go_wp2_with fail
  refine (W1.out _).mono ?_
  rintro e w4 ⟨rfl, hb4⟩
  go_wp2_with fail
  refine (two_any _).mono ?_
  rintro e w5 ⟨rfl, hb5⟩
  go_wp2_with fail
  refine (W2.out _).mono ?_
  rintro e w6 ⟨rfl, hb6⟩
  go_wp2_with fail
  refine (two_any _).mono ?_
  rintro e w7 ⟨rfl, hb7⟩
  go_wp2_with fail
  refine (W3.out _).mono ?_
  rintro e w8 ⟨rfl, hb8⟩
  go_wp2_with fail
  refine (two_any _).mono ?_
  rintro e w9 ⟨rfl, hb9⟩
  go_wp2_with fail
  refine (two_any _).mono ?_
  rintro e w10 ⟨rfl, hb10⟩
  have HB := hide (below_then (below_then (below_then (below_then (below_then (below_then (below_then (below_then (below_then hb1 hb2) hb3) hb4) hb5) hb6) hb7) hb8) hb9) hb10)
  clear hb1 hb2 hb3 hb4 hb5 hb6 hb7 hb8 hb9 hb10
  go_wp2_with fail
  refine (works_any _).mono ?_
  rintro e w11 ⟨rfl, hb11⟩
  obtain ⟨hc11, hf11⟩ := bcell hb11
  have hz11 := hb11.size
  simp at hz11
  have hz11' : w10.heap.size + 1 < w11.heap.size := by omega
  go_wp2_with fail
  refine (M1.out _).mono ?_
  rintro e w12 ⟨rfl, hb12⟩
  obtain ⟨hc12, hf12⟩ := bcell hb12
  have hz12 : w10.heap.size + 1 < w12.heap.size := by have := hb12.size; omega
  go_wp2_with fail
  refine (M2.out _).mono ?_
  rintro e w13 ⟨rfl, hb13⟩
  go_wp2
  go_ret
  refine ⟨rfl, ?_⟩
  refine Below.trans ?_ (hb13.mono (by have := HB.out.size; omega))
  refine Below.trans ?_ (hb12.mono (by have := HB.out.size; omega))
  refine Below.trans ?_ (hb11.mono (by have := HB.out.size; simp; omega))
  repeat (first | exact HB.out | refine Below.alloc ?_ (by have := HB.out.size; simp; try omega) _ | refine Below.setCell ?_ (by have := HB.out.size; simp; try omega) _)

theorem pmay (c0 c1 c2 c3 c4 c5 c6 c7 core : Int) (w : World) :
    Calls Try.prog 7 #[.agg #[.int .i64 c0, .int .i64 c1, .int .i64 c2, .int .i64 c3, .int .i64 c4, .int .i64 c5, .int .i64 c6, .int .i64 c7], .int .i64 core] w fun e w' => e = .returned (.bool true) ∧ Below w.heap.size w w' := by
  obtain ⟨x, y, z, A, B⟩ := log_both c0 c1 c2 c3 c4 c5 c6 c7 core
  have R := hide (fun w1 => mayR_any c0 c1 c2 c3 c4 c5 c6 c7 w1)
  have A := hide A
  have B := hide B
  cases hm : mayB c0 c1 c2 c3 c4 c5 c6 c7
  · have R := R.out
    rw [hm] at R
    have R := hide R
    have M := hide (fun w1 => May_false c0 c1 c2 c3 c4 c5 c6 c7 hm w1)
    have D := hide (fun w1 => Data_false c0 c1 c2 c3 c4 c5 c6 c7 hm w1)
    clear hm
    go_enter Try.func7, Try.ntmps7
    go_wp2_with fail
    refine (R.out _).mono ?_
    rintro e w1 ⟨rfl, hb1⟩
    obtain ⟨q0, q1, q2, q3, q4, q5, q6, q7, q8⟩ := cfg_next hb1 (cfg_first w c0 c1 c2 c3 c4 c5 c6 c7)
    go_wp2_with fail
    refine (A.out _).mono ?_
    rintro e w2 ⟨rfl, hb2⟩
    obtain ⟨q0, q1, q2, q3, q4, q5, q6, q7, q8⟩ := cfg_next hb2 ⟨q0, q1, q2, q3, q4, q5, q6, q7, q8⟩
    go_wp2_with fail
    refine (B.out _).mono ?_
    rintro e w3 ⟨rfl, hb3⟩
    obtain ⟨q0, q1, q2, q3, q4, q5, q6, q7, q8⟩ := cfg_next hb3 ⟨q0, q1, q2, q3, q4, q5, q6, q7, q8⟩
    go_wp2_with fail
    refine (M.out _).mono ?_
    rintro e w4 ⟨rfl, hb4⟩
    obtain ⟨q0, q1, q2, q3, q4, q5, q6, q7, q8⟩ := cfg_next hb4 ⟨q0, q1, q2, q3, q4, q5, q6, q7, q8⟩
    go_wp2_with fail
    refine (D.out _).mono ?_
    rintro e w5 ⟨rfl, hb5⟩
    obtain ⟨q0, q1, q2, q3, q4, q5, q6, q7, q8⟩ := cfg_next hb5 ⟨q0, q1, q2, q3, q4, q5, q6, q7, q8⟩
    go_wp2_with fail
    refine (works_any _).mono ?_
    rintro e w6 ⟨rfl, hb6⟩
    go_wp2
    go_ret
    exact ⟨rfl, below_then q8 hb6⟩
  · have R := R.out
    rw [hm] at R
    have R := hide R
    have M := hide (fun w1 => May_true c0 c1 c2 c3 c4 c5 c6 c7 hm w1)
    have D := hide (fun w1 => Data_true c0 c1 c2 c3 c4 c5 c6 c7 hm w1)
    have D2 := hide (fun w1 => DataR_true c0 c1 c2 c3 c4 c5 c6 c7 hm w1)
    clear hm
    go_enter Try.func7, Try.ntmps7
    go_wp2_with fail
    refine (R.out _).mono ?_
    rintro e w1 ⟨rfl, hb1⟩
    obtain ⟨q0, q1, q2, q3, q4, q5, q6, q7, q8⟩ := cfg_next hb1 (cfg_first w c0 c1 c2 c3 c4 c5 c6 c7)
    go_wp2_with fail
    refine (D2.out _).mono ?_
    rintro e w1 ⟨rfl, hb1⟩
    obtain ⟨q0, q1, q2, q3, q4, q5, q6, q7, q8⟩ := cfg_next hb1 ⟨q0, q1, q2, q3, q4, q5, q6, q7, q8⟩
    go_wp2_with fail
    refine (A.out _).mono ?_
    rintro e w2 ⟨rfl, hb2⟩
    obtain ⟨q0, q1, q2, q3, q4, q5, q6, q7, q8⟩ := cfg_next hb2 ⟨q0, q1, q2, q3, q4, q5, q6, q7, q8⟩
    go_wp2_with fail
    refine (B.out _).mono ?_
    rintro e w3 ⟨rfl, hb3⟩
    obtain ⟨q0, q1, q2, q3, q4, q5, q6, q7, q8⟩ := cfg_next hb3 ⟨q0, q1, q2, q3, q4, q5, q6, q7, q8⟩
    go_wp2_with fail
    refine (M.out _).mono ?_
    rintro e w4 ⟨rfl, hb4⟩
    obtain ⟨q0, q1, q2, q3, q4, q5, q6, q7, q8⟩ := cfg_next hb4 ⟨q0, q1, q2, q3, q4, q5, q6, q7, q8⟩
    go_wp2_with fail
    refine (D.out _).mono ?_
    rintro e w5 ⟨rfl, hb5⟩
    obtain ⟨q0, q1, q2, q3, q4, q5, q6, q7, q8⟩ := cfg_next hb5 ⟨q0, q1, q2, q3, q4, q5, q6, q7, q8⟩
    go_wp2_with fail
    refine (works_any _).mono ?_
    rintro e w6 ⟨rfl, hb6⟩
    go_wp2
    go_ret
    exact ⟨rfl, below_then q8 hb6⟩

end Go.Proofs.Ytchlbnpgbndpaaa.Laws
