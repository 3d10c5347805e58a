/-
  PlanParts walked: no two cores' logs have a block in common, none has a data block; together with the data they are all blocks. It returns true at any plan.
-/
import Derived.Test.YtchlbnpgbndpaaaLaws
import Derived.Deep.OwnRows
namespace Go.Proofs.Ytchlbnpgbndpaaa.Parts
open Go.RowKit Plain Base May RefMay Walk Laws
set_option linter.unusedVariables false

theorem cfg_set {w0 w1 : World} {c0 c1 c2 c3 c4 c5 c6 c7 : Int} {p : Addr} (hp : w0.heap.size < p.block) (v : Value) (h : (w1.cell? ⟨w0.heap.size, 0, none⟩ = some (.int .i64 c0) ∧ w1.cell? ⟨w0.heap.size, 1, none⟩ = some (.int .i64 c1) ∧ w1.cell? ⟨w0.heap.size, 2, none⟩ = some (.int .i64 c2) ∧ w1.cell? ⟨w0.heap.size, 3, none⟩ = some (.int .i64 c3) ∧ w1.cell? ⟨w0.heap.size, 4, none⟩ = some (.int .i64 c4) ∧ w1.cell? ⟨w0.heap.size, 5, none⟩ = some (.int .i64 c5) ∧ w1.cell? ⟨w0.heap.size, 6, none⟩ = some (.int .i64 c6) ∧ w1.cell? ⟨w0.heap.size, 7, none⟩ = some (.int .i64 c7) ∧ Below w0.heap.size w0 w1)) : ((w1.setCell p v).cell? ⟨w0.heap.size, 0, none⟩ = some (.int .i64 c0) ∧ (w1.setCell p v).cell? ⟨w0.heap.size, 1, none⟩ = some (.int .i64 c1) ∧ (w1.setCell p v).cell? ⟨w0.heap.size, 2, none⟩ = some (.int .i64 c2) ∧ (w1.setCell p v).cell? ⟨w0.heap.size, 3, none⟩ = some (.int .i64 c3) ∧ (w1.setCell p v).cell? ⟨w0.heap.size, 4, none⟩ = some (.int .i64 c4) ∧ (w1.setCell p v).cell? ⟨w0.heap.size, 5, none⟩ = some (.int .i64 c5) ∧ (w1.setCell p v).cell? ⟨w0.heap.size, 6, none⟩ = some (.int .i64 c6) ∧ (w1.setCell p v).cell? ⟨w0.heap.size, 7, none⟩ = some (.int .i64 c7) ∧ Below w0.heap.size w0 (w1.setCell p v)) := by
  obtain ⟨h0, h1, h2, h3, h4, h5, h6, h7, h8⟩ := h
  have hne : ∀ i : Nat, p ≠ ⟨w0.heap.size, i, none⟩ := fun i e => by rw [e] at hp; exact absurd hp (by simp)
  exact ⟨(World.cell?_setCell_other _ _ _ _ (hne _)).trans h0, (World.cell?_setCell_other _ _ _ _ (hne _)).trans h1, (World.cell?_setCell_other _ _ _ _ (hne _)).trans h2, (World.cell?_setCell_other _ _ _ _ (hne _)).trans h3, (World.cell?_setCell_other _ _ _ _ (hne _)).trans h4,
    (World.cell?_setCell_other _ _ _ _ (hne _)).trans h5, (World.cell?_setCell_other _ _ _ _ (hne _)).trans h6, (World.cell?_setCell_other _ _ _ _ (hne _)).trans h7, h8.setCell (by omega) v⟩

/-- The row of owners: below 'lim' each has one, from 'lim' on none has. -/
def Filled (w : World) (O n lim : Nat) : Prop := ∃ F : Nat → Int, w.rowIs O 3 n (fun j => .int .i64 (F j)) ∧ (∀ j, j < lim → F j ≠ 0) ∧ (∀ j, lim ≤ j → j < n → F j = 0)
theorem Filled.zero {w : World} {O n lim : Nat} (h : Filled w O n lim) (hl : lim < n) : w.cell? ⟨O, lim, none⟩ = some (.int .i64 0) ∧ w.frozen? ⟨O, lim, none⟩ = false := by
  obtain ⟨F, hr, h1, h2⟩ := h
  have := hr.cell hl
  rw [h2 lim (Nat.le_refl _) hl] at this
  exact ⟨this, hr.frozen _⟩
theorem Filled.nonzero {w : World} {O n lim j : Nat} (h : Filled w O n lim) (hl : j < lim) (hn : j < n) : ∃ v : Int, v ≠ 0 ∧ w.cell? ⟨O, j, none⟩ = some (.int .i64 v) := by
  obtain ⟨F, hr, h1, h2⟩ := h
  exact ⟨F j, h1 j hl, hr.cell hn⟩
theorem Filled.set {w : World} {O n lim : Nat} {x : Int} (h : Filled w O n lim) (hx : x ≠ 0) : Filled (w.setCell ⟨O, lim, none⟩ (.int .i64 x)) O n (lim + 1) := by
  obtain ⟨F, hr, h1, h2⟩ := h
  refine ⟨fun j => if j = lim then x else F j, (hr.set lim _).congr (fun i _ => by by_cases e : i = lim <;> simp [e]), fun j hj => ?_, fun j hj hn => ?_⟩
  · by_cases e : j = lim
    · simp [e, hx]
    · simp only [e, if_false]; exact h1 j (by omega)
  · have e : ¬ j = lim := by omega
    simp only [e, if_false]; exact h2 j (by omega) hn
theorem Filled.below {w w' : World} {O n lim : Nat} (h : Filled w O n lim) (hb : Below w.heap.size w w') : Filled w' O n lim := by
  obtain ⟨F, hr, h1, h2⟩ := h
  exact ⟨F, hr.of_block (hb.block _ hr.lt), h1, h2⟩
theorem Filled.lt {w : World} {O n lim : Nat} (h : Filled w O n lim) : O < w.heap.size := by
  obtain ⟨F, hr, _⟩ := h
  exact hr.lt
theorem Filled.new (w : World) (n : Nat) : Filled (w.alloc (.cells (madeCells #[.int .i64 0] n) 3)) w.heap.size n 0 :=
  ⟨fun _ => 0, World.rowIs_made w (.int .i64 0) n 3, fun j hj => absurd hj (by omega), fun _ _ _ => rfl⟩

theorem info3 : (Try.prog.info? 3).map (fun i => (i.zero, i.size, i.bytes)) = some (some (.int .i64 0), 1, 8) := by kernel_rfl
theorem make_any (n : Nat) (hn : n ≤ 256) (W : World) :
    (Instr.makeSlice 40 (.int .i64 (n : Int)) (.int .i64 (n : Int))).run Try.prog W = .ok (.slice (some ⟨W.heap.size, 0, none⟩) n n) (W.alloc (.cells (madeCells #[.int .i64 0] n) 3)) := by
  obtain ⟨i0, hi, hz0, hz1, hz2⟩ := info_parts info3
  have h := run_make (P := Try.prog) W 40 3 i0 (.int .i64 0) Try.underlying40 hi hz0 .i64 .i64 (n : Int) (n : Int) (by omega) (by omega) (by rw [hz2]; omega) (by omega)
  rw [hz1] at h
  simpa [Value.cells] using h

theorem parts_no (c0 c1 c2 c3 c4 c5 c6 c7 : Int) (hm : mayB c0 c1 c2 c3 c4 c5 c6 c7 = false) (w : World) :
    Calls Try.prog 8 #[.agg #[.int .i64 c0, .int .i64 c1, .int .i64 c2, .int .i64 c3, .int .i64 c4, .int .i64 c5, .int .i64 c6, .int .i64 c7]] w fun e w' => e = .returned (.bool true) ∧ Below w.heap.size w w' := by
  have M := hide (fun w1 => May_false c0 c1 c2 c3 c4 c5 c6 c7 hm w1)
  have D := hide (fun w1 => Data_false c0 c1 c2 c3 c4 c5 c6 c7 hm w1)
  clear hm
  go_enter Try.func8, Try.ntmps8
  go_wp2_with fail
  refine (M.out _).mono ?_
  rintro e w1 ⟨rfl, hb1⟩
  obtain ⟨q0, q1, q2, q3, q4, q5, q6, q7, q8⟩ := cfg_next hb1 (cfg_first w c0 c1 c2 c3 c4 c5 c6 c7)
  go_wp2_with fail
  refine (D.out _).mono ?_
  rintro e w2 ⟨rfl, hb2⟩
  obtain ⟨q0, q1, q2, q3, q4, q5, q6, q7, q8⟩ := cfg_next hb2 ⟨q0, q1, q2, q3, q4, q5, q6, q7, q8⟩
  go_wp2_with fail
  refine (works_any _).mono ?_
  rintro e w3 ⟨rfl, hb3⟩
  go_wp2
  go_ret
  exact ⟨rfl, below_then q8 hb3⟩

set_option maxHeartbeats 1000000 in
theorem parts_yes (m n g d : Nat) (c1 c2 c5 c6 c7 : Int) (hm : mayB (m : Int) c1 c2 (n : Int) (g : Int) c5 c6 c7 = true) (hmc : m * g + d = n) (hm1 : 1 ≤ m) (hm2 : m ≤ 16) (hn : n ≤ 256) (hg1 : 1 ≤ g) (hg2 : g ≤ 4) (hd1 : 1 ≤ d) (w : World) :
    Calls Try.prog 8 #[.agg #[.int .i64 (m : Int), .int .i64 c1, .int .i64 c2, .int .i64 (n : Int), .int .i64 (g : Int), .int .i64 c5, .int .i64 c6, .int .i64 c7]] w fun e w' => e = .returned (.bool true) ∧ Below w.heap.size w w' := by
  have hD : (n : Int) - (m : Int) * (g : Int) = (d : Int) := by rw [← Int.natCast_mul]; omega
  have D := fun w1 => Data_true (m : Int) c1 c2 (n : Int) (g : Int) c5 c6 c7 hm w1
  rw [hD] at D
  have D := hide D
  have M := hide (fun w1 => May_true (m : Int) c1 c2 (n : Int) (g : Int) c5 c6 c7 hm w1)
  have L : ∀ (k : Nat), k < m → ∀ w1, Calls Try.prog 17 #[.agg #[.int .i64 (m : Int), .int .i64 c1, .int .i64 c2, .int .i64 (n : Int), .int .i64 (g : Int), .int .i64 c5, .int .i64 c6, .int .i64 c7], .int .i64 (k : Int)] w1 fun e w' => e = .returned (.tuple #[.int .i64 ((d + k * g : Nat) : Int), .int .i64 (g : Int), .int .i64 0]) ∧ Below w1.heap.size w1 w' := fun k hk w1 => by
    have h := Log_true (m : Int) c1 c2 (n : Int) (g : Int) c5 c6 c7 (k : Int) hm (by omega) (by omega) w1
    rw [hD, ← Int.natCast_mul, ← Int.natCast_add] at h
    exact h
  have L := hide L
  have HMC := hide hmc
  have hle : d ≤ n := by omega
  clear hm hD hmc
  have MK := make_any n hn
  go_enter Try.func8, Try.ntmps8
  go_wp2_with fail
  refine (M.out _).mono ?_
  rintro e w1 ⟨rfl, hb1⟩
  have S1 := cfg_drew (cfg_next hb1 (cfg_first w (m : Int) c1 c2 (n : Int) (g : Int) c5 c6 c7))
  go_wp2_with fail
  go_region_held3 (fun w' => (w'.cell? ⟨w.heap.size, 0, none⟩ = some (.int .i64 (m : Int)) ∧ w'.cell? ⟨w.heap.size, 1, none⟩ = some (.int .i64 c1) ∧ w'.cell? ⟨w.heap.size, 2, none⟩ = some (.int .i64 c2) ∧ w'.cell? ⟨w.heap.size, 3, none⟩ = some (.int .i64 (n : Int)) ∧ w'.cell? ⟨w.heap.size, 4, none⟩ = some (.int .i64 (g : Int)) ∧ w'.cell? ⟨w.heap.size, 5, none⟩ = some (.int .i64 c5) ∧ w'.cell? ⟨w.heap.size, 6, none⟩ = some (.int .i64 c6) ∧ w'.cell? ⟨w.heap.size, 7, none⟩ = some (.int .i64 c7) ∧ Below w.heap.size w w')) (first | exact S1 | exact cfg_next (by assumption) (by assumption) | assumption)
    (first | (go_at_call 22; refine (D.out _).mono ?_; rintro e w2 ⟨rfl, hb2⟩))
  clear S1
  rename_i hS2
  obtain ⟨q0, q1, q2, q3, q4, q5, q6, q7, q8⟩ := hS2
  have hz2 : w.heap.size < w2.heap.size := block_lt_of_cell q0
  go_wp2_with fail
  refine (D.out _).mono ?_
  rintro e w3 ⟨rfl, hb3⟩
  have hb3s := hb3.size
  simp at hb3s
  have F0 := (Filled.new w2 n).below hb3
  have S3 := cfg_next hb3 ⟨(World.cell?_alloc_lt _ _ _ hz2).trans q0, (World.cell?_alloc_lt _ _ _ hz2).trans q1, (World.cell?_alloc_lt _ _ _ hz2).trans q2, (World.cell?_alloc_lt _ _ _ hz2).trans q3, (World.cell?_alloc_lt _ _ _ hz2).trans q4, (World.cell?_alloc_lt _ _ _ hz2).trans q5, (World.cell?_alloc_lt _ _ _ hz2).trans q6, (World.cell?_alloc_lt _ _ _ hz2).trans q7, q8.alloc (by omega) _⟩
  have F0 := hide F0
  have S3 := hide S3
  clear q0 q1 q2 q3 q4 q5 q6 q7 q8 hb3
  obtain ⟨O, hO⟩ : ∃ O, O = w2.heap.size := ⟨_, rfl⟩
  rw [← hO] at F0 hz2
  go_wp2_with fail
  rw [← hO]
  clear hO
  go_loopw [31] (fun i wr => ∃ k : Nat, k ≤ d ∧ i = .int .i64 k ∧ Hid (Filled wr O n k) ∧ Hid (wr.cell? ⟨w.heap.size, 0, none⟩ = some (.int .i64 (m : Int)) ∧ wr.cell? ⟨w.heap.size, 1, none⟩ = some (.int .i64 c1) ∧ wr.cell? ⟨w.heap.size, 2, none⟩ = some (.int .i64 c2) ∧ wr.cell? ⟨w.heap.size, 3, none⟩ = some (.int .i64 (n : Int)) ∧ wr.cell? ⟨w.heap.size, 4, none⟩ = some (.int .i64 (g : Int)) ∧ wr.cell? ⟨w.heap.size, 5, none⟩ = some (.int .i64 c5) ∧ wr.cell? ⟨w.heap.size, 6, none⟩ = some (.int .i64 c6) ∧ wr.cell? ⟨w.heap.size, 7, none⟩ = some (.int .i64 c7) ∧ Below w.heap.size w wr)) (fun i _ => d - (intOf i).toNat)
  case atStart => exact ⟨0, by omega, rfl, F0, S3⟩
  case round =>
    obtain ⟨k, hk, rfl, hF, hS⟩ := hrel
    by_cases hlt : k < d
    · obtain ⟨z1, z2⟩ := hF.out.zero (by omega)
      have hF2 := hide (hF.out.set (x := 100) (by omega))
      have hS2 := hide (cfg_set (p := ⟨O, k, none⟩) hz2 (.int .i64 100) hS.out)
      have hd2 : decide ((k : Int) < (d : Int)) = true := by simp; omega
      go_wp2_with fail
      go_roundw
      case rel => exact ⟨k + 1, by omega, by go_num, hF2, hS2⟩
      case measure => simp [intOf]; omega
    · have hkd : k = d := by omega
      subst hkd
      obtain ⟨q0, q1, q2, q3, q4, q5, q6, q7, q8⟩ := hS.out
      have hd3 : decide ((k : Int) < (k : Int)) = false := by simp
      go_wp2_with fail
      clear q0 q1 q2 q3 q4 q5 q6 q7 q8
      go_loopw [40] (fun i wr => ∃ c : Nat, c ≤ m ∧ i = .int .i64 c ∧ Hid (Filled wr O n (k + c * g)) ∧ Hid (wr.cell? ⟨w.heap.size, 0, none⟩ = some (.int .i64 (m : Int)) ∧ wr.cell? ⟨w.heap.size, 1, none⟩ = some (.int .i64 c1) ∧ wr.cell? ⟨w.heap.size, 2, none⟩ = some (.int .i64 c2) ∧ wr.cell? ⟨w.heap.size, 3, none⟩ = some (.int .i64 (n : Int)) ∧ wr.cell? ⟨w.heap.size, 4, none⟩ = some (.int .i64 (g : Int)) ∧ wr.cell? ⟨w.heap.size, 5, none⟩ = some (.int .i64 c5) ∧ wr.cell? ⟨w.heap.size, 6, none⟩ = some (.int .i64 c6) ∧ wr.cell? ⟨w.heap.size, 7, none⟩ = some (.int .i64 c7) ∧ Below w.heap.size w wr)) (fun i _ => m - (intOf i).toNat)
      case atStart => exact ⟨0, by omega, rfl, by simpa using hF, hS⟩
      case round =>
        obtain ⟨c, hc, rfl, hF, hS⟩ := hrel
        by_cases hcm : c < m
        · have hxg : (c + 1) * g ≤ m * g := Nat.mul_le_mul_right g hcm
          have hx1 : (c + 1) * g = c * g + g := Nat.succ_mul c g
          have hlim : k + c * g + g ≤ n := by have := HMC.out; omega
          have LC := hide (L.out c hcm)
          have HX1 := hide hx1
          clear hxg hx1
          generalize c * g = x at *
          obtain ⟨q0, q1, q2, q3, q4, q5, q6, q7, q8⟩ := hS.out
          have hd4 : decide ((c : Int) < (m : Int)) = true := by simp; omega
          go_wp2_with fail
          refine (LC.out _).mono ?_
          rintro e w5 ⟨rfl, hb5⟩
          have hF5 := hide (hF.out.below hb5)
          have S5 := cfg_next hb5 ⟨q0, q1, q2, q3, q4, q5, q6, q7, q8⟩
          have hS5 := hide S5
          obtain ⟨q0, q1, q2, q3, q4, q5, q6, q7, q8⟩ := S5
          go_wp2_with fail
          clear q0 q1 q2 q3 q4 q5 q6 q7 q8 hb5
          go_loopw [9] (fun i wr => ∃ b : Nat, k + x ≤ b ∧ b ≤ k + x + g ∧ i = .int .i64 b ∧ Hid (Filled wr O n b) ∧ Hid (wr.cell? ⟨w.heap.size, 0, none⟩ = some (.int .i64 (m : Int)) ∧ wr.cell? ⟨w.heap.size, 1, none⟩ = some (.int .i64 c1) ∧ wr.cell? ⟨w.heap.size, 2, none⟩ = some (.int .i64 c2) ∧ wr.cell? ⟨w.heap.size, 3, none⟩ = some (.int .i64 (n : Int)) ∧ wr.cell? ⟨w.heap.size, 4, none⟩ = some (.int .i64 (g : Int)) ∧ wr.cell? ⟨w.heap.size, 5, none⟩ = some (.int .i64 c5) ∧ wr.cell? ⟨w.heap.size, 6, none⟩ = some (.int .i64 c6) ∧ wr.cell? ⟨w.heap.size, 7, none⟩ = some (.int .i64 c7) ∧ Below w.heap.size w wr)) (fun i _ => k + x + g - (intOf i).toNat)
          case atStart => exact ⟨k + x, by omega, by omega, rfl, hF5, hS5⟩
          case round =>
            obtain ⟨b, hb1, hb2, rfl, hF6, hS6⟩ := hrel
            by_cases hbl : b < k + x + g
            · obtain ⟨z1, z2⟩ := hF6.out.zero (by omega)
              have hF7 := hide (hF6.out.set (x := (c : Int) + 1) (by omega))
              have hS7 := hide (cfg_set (p := ⟨O, b, none⟩) hz2 (.int .i64 ((c : Int) + 1)) hS6.out)
              go_wp2_with fail
              go_roundw
              case rel => exact ⟨b + 1, by omega, by omega, by go_num, hF7, hS7⟩
              case measure => simp [intOf]; omega
            · have hbe : b = k + x + g := by omega
              have hF8 : Hid (Filled wr O n (k + (c + 1) * g)) := by rw [HX1.out, ← Nat.add_assoc, ← hbe]; exact hF6
              clear hbe
              go_wp2_with fail
              go_roundw
              case rel => exact ⟨c + 1, by omega, by go_num, hF8, hS6⟩
              case measure => simp [intOf]; omega
        · have hce : c = m := by omega
          have hFn : Hid (Filled wr O n n) := by
            have e : k + c * g = n := by rw [hce]; have := HMC.out; omega
            rw [e] at hF
            exact hF
          have hd5 : decide ((c : Int) < (m : Int)) = false := by simp; omega
          have hbel := hide (cfg_below hS.out)
          clear hce hF
          go_wp2_with fail
          go_loop [89] (fun i => ∃ j : Nat, j ≤ n ∧ i = .int .i64 j) (fun i => n - (intOf i).toNat)
          case atStart => exact ⟨0, by omega, rfl⟩
          case round =>
            obtain ⟨j, hj, rfl⟩ := hrel
            by_cases hjn : j < n
            · obtain ⟨v, hv, hcv⟩ := hFn.out.nonzero hjn hjn
              have hvb : (v == 0) = false := by rw [beq_eq_false_iff_ne]; exact hv
              have HV := hide hv
              clear hv
              go_wp2_with fail
              go_round
              case rel => exact ⟨j + 1, by omega, by go_num⟩
              case measure => simp [intOf]; omega
            · go_wp2_with fail
              refine (works_any _).mono ?_
              rintro e w9 ⟨rfl, hb9⟩
              go_wp2
              go_ret
              exact ⟨rfl, below_then hbel.out hb9⟩

theorem parts (c0 c1 c2 c3 c4 c5 c6 c7 : Int) (w : World) : Calls Try.prog 8 #[.agg #[.int .i64 c0, .int .i64 c1, .int .i64 c2, .int .i64 c3, .int .i64 c4, .int .i64 c5, .int .i64 c6, .int .i64 c7]] w fun e w' => e = .returned (.bool true) ∧ Below w.heap.size w w' := by
  cases hm : mayB c0 c1 c2 c3 c4 c5 c6 c7
  · exact parts_no c0 c1 c2 c3 c4 c5 c6 c7 hm w
  · obtain ⟨⟨a0, a1⟩, _, _, ⟨a2, a3⟩, ⟨a4, a5⟩, _, a6, a7⟩ := may_bounds hm
    obtain ⟨m, rfl⟩ := Int.eq_ofNat_of_zero_le (show 0 ≤ c0 by omega)
    obtain ⟨n, rfl⟩ := Int.eq_ofNat_of_zero_le (show 0 ≤ c3 by omega)
    obtain ⟨g, rfl⟩ := Int.eq_ofNat_of_zero_le (show 0 ≤ c4 by omega)
    rw [← Int.natCast_mul] at a6 a7
    exact parts_yes m n g (n - m * g) c1 c2 c5 c6 c7 hm (by omega) (by omega) (by omega) (by omega) (by omega) (by omega) (by omega) w
end Go.Proofs.Ytchlbnpgbndpaaa.Parts
