/-
  VictimTurns walked: it returns true at any memory of 8 bits, any ways.
-/
import Derived.Test.YtnhppcgpplbnpaaLaws
namespace Go.Proofs.Ytnhppcgpplbnpaa.Turns
open Go.RowKit Plain Walk Laws Base
set_option linter.unusedVariables false

theorem other (m ways : Int) (hm0 : 0 ≤ m) (hm1 : m ≤ 255) (h1 : ways ≠ 1) (h2 : ways ≠ 2) (h4 : ways ≠ 4) (w : World) :
    Calls Try.prog 7 #[.int .u8 m, .int .i64 ways] w fun e w' => e = .returned (.bool true) ∧ Below w.heap.size w w' := by
  have k1 : (ways != 1) = true := by rw [bne_iff_ne]; exact h1
  have k2 : (ways != 2) = true := by rw [bne_iff_ne]; exact h2
  have k4 : (ways != 4) = true := by rw [bne_iff_ne]; exact h4
  go_enter Try.func7, Try.ntmps7
  go_wp2_with fail
  refine (works_any _).mono ?_
  rintro e w3 ⟨rfl, hb3⟩
  go_wp2
  go_ret
  exact ⟨rfl, hb3⟩

theorem turns4 (m : Int) (hm0 : 0 ≤ m) (hm1 : m ≤ 255) (w : World) :
    Calls Try.prog 7 #[.int .u8 m, .int .i64 4] w fun e w' => e = .returned (.bool true) ∧ Below w.heap.size w w' := by
  go_enter Try.func7, Try.ntmps7
  go_wp2_with fail
  go_loopw [0, 20] (fun v i wr => ∃ (a : Int) (r : Nat), 0 ≤ a ∧ a ≤ 255 ∧ r ≤ 3 ∧ v = .int .u8 a ∧ i = .int .i64 r ∧ Below w.heap.size w wr) (fun _ i _ => 3 - (intOf i).toNat)
  case atStart => exact ⟨m, 0, hm0, hm1, by omega, rfl, rfl, Below.refl _ _⟩
  case round =>
    obtain ⟨a, r, ha0, ha1, hr, rfl, rfl, hb⟩ := hrel
    by_cases hlt : r < 3
    · have hd : decide ((r : Int) < 3) = true := by simp; omega
      go_wp2_with fail
      obtain ⟨wo, rfl⟩ : ∃ wo : World, wo = wr := ⟨_, rfl⟩
      have hsz := hb.size
      go_loopw [0, 24] (fun v i wr => ∃ k : Nat, k ≤ 4 ∧ v = .int .u8 (mem 4 a k) ∧ i = .int .i64 k ∧ (∀ j : Nat, j < 4 → wr.cell? ⟨wo.heap.size, j, none⟩ = some (.int .i64 (cnt 4 a k j)) ∧ wr.frozen? ⟨wo.heap.size, j, none⟩ = false) ∧ wo.heap.size < wr.heap.size ∧ Below w.heap.size w wr) (fun _ i _ => 4 - (intOf i).toNat)
      case atStart =>
        refine ⟨0, by omega, rfl, rfl, fun j hj => ?_, by simp, hb.alloc hb.size _⟩
        have : j = 0 ∨ j = 1 ∨ j = 2 ∨ j = 3 := by omega
        rcases this with rfl | rfl | rfl | rfl <;> exact ⟨World.cell?_alloc_new _ _ _ _, World.frozen?_alloc_new _ _ _ _⟩
      case round =>
        obtain ⟨k, hk, rfl, rfl, hcells, hB, hb2⟩ := hrel
        have hmr := mem_range (W := 4) ha0 ha1 k
        by_cases hkl : k < 4
        · obtain ⟨t1, t2, t3, t4, t5, t6⟩ := turn_ok (W := 4) (k := k) (by omega) (by omega) ha0 ha1
          have V := fun w1 => vic_any (mem 4 a k) 4 hmr.1 hmr.2 w1
          have U := fun w1 => use_any (mem 4 a k) 4 (vicv (mem 4 a k) 4) hmr.1 hmr.2 w1
          have hm' : usev (mem 4 a k) 4 (vicv (mem 4 a k) 4) = mem 4 a (k + 1) := rfl
          have hc' : ∀ j, cnt 4 a (k + 1) j = cnt 4 a k j + if vicv (mem 4 a k) 4 = j then 1 else 0 := fun j => rfl
          rw [hm'] at U
          have hci := hcells (vicv (mem 4 a k) 4).toNat (by omega)
          rw [show ((vicv (mem 4 a k) 4).toNat : Int) = vicv (mem 4 a k) 4 from by omega] at hci
          generalize vicv (mem 4 a k) 4 = n at *
          have hcn : ∃ c, c = cnt 4 a k n := ⟨_, rfl⟩
          obtain ⟨c, hcn⟩ := hcn
          rw [← hcn] at hci t5 t6
          obtain ⟨hc1, hf1⟩ := hci
          rw [t3] at V
          rw [t4] at U
          have V := hide V
          have U := hide U
          have HC := hide hcells
          have HM := hide hm'
          have HK := hide hc'
          have HN := hide hcn
          clear hcells hm' hc' hcn t3 t4
          go_wp2_with fail
          refine (V.out _).mono ?_
          rintro e w1 ⟨rfl, hb3⟩
          have s3 := hb3.size
          have hc2 : w1.cell? ⟨wo.heap.size, n.toNat, none⟩ = some (.int .i64 c) := (hb3.cell (p := ⟨wo.heap.size, n.toNat, none⟩) hB).trans hc1
          have hf2 : w1.frozen? ⟨wo.heap.size, n.toNat, none⟩ = false := (hb3.frozen (p := ⟨wo.heap.size, n.toNat, none⟩) hB).trans hf1
          go_wp2_with fail
          refine (U.out _).mono ?_
          rintro e w2 ⟨rfl, hb4⟩
          have s4 := hb4.size
          simp at s4
          have hrest : (∀ j : Nat, j < 4 → w2.cell? ⟨wo.heap.size, j, none⟩ = some (.int .i64 (cnt 4 a (k + 1) j)) ∧ w2.frozen? ⟨wo.heap.size, j, none⟩ = false) := by
            intro j hj
            obtain ⟨g1, g2⟩ := HC.out j hj
            have g3 := (hb3.cell (p := ⟨wo.heap.size, j, none⟩) hB).trans g1
            have g4 := (hb3.frozen (p := ⟨wo.heap.size, j, none⟩) hB).trans g2
            refine ⟨?_, ?_⟩
            · rw [hb4.cell (p := ⟨wo.heap.size, j, none⟩) (by simp; omega), cell_set g3, HK.out]
              by_cases e : n.toNat = j
              · have e2 : n = (j : Int) := by omega
                rw [if_pos e, if_pos e2, HN.out, e2]
              · have e2 : ¬ n = (j : Int) := by omega
                rw [if_neg e, if_neg e2, Int.add_zero]
            · rw [hb4.frozen (p := ⟨wo.heap.size, j, none⟩) (by simp; omega), World.frozen?_setCell]
              exact g4
          have hend : Below w.heap.size w w2 := (((hb2.trans (hb3.mono (by have := hb2.size; omega)))).setCell (p := ⟨wo.heap.size, n.toNat, none⟩) hsz _).trans (hb4.mono (by have := hb2.size; simp; omega))
          have HR := hide hrest
          clear hrest
          go_wp2_with fail
          go_roundw
          case rel => exact ⟨k + 1, by omega, rfl, by go_num, HR.out, by omega, hend⟩
          case measure => simp [intOf]; omega
        · have hkW : k = 4 := by omega
          subst hkW
          have hdone : ∀ j : Int, 0 ≤ j → j < 4 → cnt 4 a 4 j = 1 := fun j h0 h1 => done_at (W := 4) (m := a) (j := j) (by omega) ha0 ha1 h0 h1
          have HD := hide hdone
          have HC := hide hcells
          clear hdone hcells
          have hm0 := hmr.1
          have hm1 := hmr.2
          generalize mem 4 a 4 = a' at *
          go_wp2_with fail
          go_loop [58] (fun i => ∃ j : Nat, j ≤ 4 ∧ i = .int .i64 j) (fun i => 4 - (intOf i).toNat)
          case atStart => exact ⟨0, by omega, rfl⟩
          case round =>
            obtain ⟨j, hj, rfl⟩ := hrel
            by_cases hjl : j < 4
            · have hcj := (HC.out j (by omega)).1
              rw [HD.out j (by omega) (by omega)] at hcj
              go_wp2_with fail
              go_round
              case rel => exact ⟨j + 1, by omega, by go_num⟩
              case measure => simp [intOf]; omega
            · go_wp2_with fail
              go_roundw
              case rel => exact ⟨a', r + 1, by omega, by omega, by omega, rfl, by go_num, hb2⟩
              case measure => simp [intOf]; omega
    · have : r = 3 := by omega
      subst this
      go_wp2_with fail
      refine (works_any _).mono ?_
      rintro e w3 ⟨rfl, hb3⟩
      go_wp2
      go_ret
      exact ⟨rfl, hb.trans (hb3.mono hb.size)⟩

theorem turns2 (m : Int) (hm0 : 0 ≤ m) (hm1 : m ≤ 255) (w : World) :
    Calls Try.prog 7 #[.int .u8 m, .int .i64 2] w fun e w' => e = .returned (.bool true) ∧ Below w.heap.size w w' := by
  go_enter Try.func7, Try.ntmps7
  go_wp2_with fail
  go_loopw [0, 20] (fun v i wr => ∃ (a : Int) (r : Nat), 0 ≤ a ∧ a ≤ 255 ∧ r ≤ 3 ∧ v = .int .u8 a ∧ i = .int .i64 r ∧ Below w.heap.size w wr) (fun _ i _ => 3 - (intOf i).toNat)
  case atStart => exact ⟨m, 0, hm0, hm1, by omega, rfl, rfl, Below.refl _ _⟩
  case round =>
    obtain ⟨a, r, ha0, ha1, hr, rfl, rfl, hb⟩ := hrel
    by_cases hlt : r < 3
    · have hd : decide ((r : Int) < 3) = true := by simp; omega
      go_wp2_with fail
      obtain ⟨wo, rfl⟩ : ∃ wo : World, wo = wr := ⟨_, rfl⟩
      have hsz := hb.size
      go_loopw [0, 24] (fun v i wr => ∃ k : Nat, k ≤ 2 ∧ v = .int .u8 (mem 2 a k) ∧ i = .int .i64 k ∧ (∀ j : Nat, j < 4 → wr.cell? ⟨wo.heap.size, j, none⟩ = some (.int .i64 (cnt 2 a k j)) ∧ wr.frozen? ⟨wo.heap.size, j, none⟩ = false) ∧ wo.heap.size < wr.heap.size ∧ Below w.heap.size w wr) (fun _ i _ => 2 - (intOf i).toNat)
      case atStart =>
        refine ⟨0, by omega, rfl, rfl, fun j hj => ?_, by simp, hb.alloc hb.size _⟩
        have : j = 0 ∨ j = 1 ∨ j = 2 ∨ j = 3 := by omega
        rcases this with rfl | rfl | rfl | rfl <;> exact ⟨World.cell?_alloc_new _ _ _ _, World.frozen?_alloc_new _ _ _ _⟩
      case round =>
        obtain ⟨k, hk, rfl, rfl, hcells, hB, hb2⟩ := hrel
        have hmr := mem_range (W := 2) ha0 ha1 k
        by_cases hkl : k < 2
        · obtain ⟨t1, t2, t3, t4, t5, t6⟩ := turn_ok (W := 2) (k := k) (by omega) (by omega) ha0 ha1
          have V := fun w1 => vic_any (mem 2 a k) 2 hmr.1 hmr.2 w1
          have U := fun w1 => use_any (mem 2 a k) 2 (vicv (mem 2 a k) 2) hmr.1 hmr.2 w1
          have hm' : usev (mem 2 a k) 2 (vicv (mem 2 a k) 2) = mem 2 a (k + 1) := rfl
          have hc' : ∀ j, cnt 2 a (k + 1) j = cnt 2 a k j + if vicv (mem 2 a k) 2 = j then 1 else 0 := fun j => rfl
          rw [hm'] at U
          have hci := hcells (vicv (mem 2 a k) 2).toNat (by omega)
          rw [show ((vicv (mem 2 a k) 2).toNat : Int) = vicv (mem 2 a k) 2 from by omega] at hci
          generalize vicv (mem 2 a k) 2 = n at *
          have hcn : ∃ c, c = cnt 2 a k n := ⟨_, rfl⟩
          obtain ⟨c, hcn⟩ := hcn
          rw [← hcn] at hci t5 t6
          obtain ⟨hc1, hf1⟩ := hci
          rw [t3] at V
          rw [t4] at U
          have V := hide V
          have U := hide U
          have HC := hide hcells
          have HM := hide hm'
          have HK := hide hc'
          have HN := hide hcn
          clear hcells hm' hc' hcn t3 t4
          go_wp2_with fail
          refine (V.out _).mono ?_
          rintro e w1 ⟨rfl, hb3⟩
          have s3 := hb3.size
          have hc2 : w1.cell? ⟨wo.heap.size, n.toNat, none⟩ = some (.int .i64 c) := (hb3.cell (p := ⟨wo.heap.size, n.toNat, none⟩) hB).trans hc1
          have hf2 : w1.frozen? ⟨wo.heap.size, n.toNat, none⟩ = false := (hb3.frozen (p := ⟨wo.heap.size, n.toNat, none⟩) hB).trans hf1
          go_wp2_with fail
          refine (U.out _).mono ?_
          rintro e w2 ⟨rfl, hb4⟩
          have s4 := hb4.size
          simp at s4
          have hrest : (∀ j : Nat, j < 4 → w2.cell? ⟨wo.heap.size, j, none⟩ = some (.int .i64 (cnt 2 a (k + 1) j)) ∧ w2.frozen? ⟨wo.heap.size, j, none⟩ = false) := by
            intro j hj
            obtain ⟨g1, g2⟩ := HC.out j hj
            have g3 := (hb3.cell (p := ⟨wo.heap.size, j, none⟩) hB).trans g1
            have g4 := (hb3.frozen (p := ⟨wo.heap.size, j, none⟩) hB).trans g2
            refine ⟨?_, ?_⟩
            · rw [hb4.cell (p := ⟨wo.heap.size, j, none⟩) (by simp; omega), cell_set g3, HK.out]
              by_cases e : n.toNat = j
              · have e2 : n = (j : Int) := by omega
                rw [if_pos e, if_pos e2, HN.out, e2]
              · have e2 : ¬ n = (j : Int) := by omega
                rw [if_neg e, if_neg e2, Int.add_zero]
            · rw [hb4.frozen (p := ⟨wo.heap.size, j, none⟩) (by simp; omega), World.frozen?_setCell]
              exact g4
          have hend : Below w.heap.size w w2 := (((hb2.trans (hb3.mono (by have := hb2.size; omega)))).setCell (p := ⟨wo.heap.size, n.toNat, none⟩) hsz _).trans (hb4.mono (by have := hb2.size; simp; omega))
          have HR := hide hrest
          clear hrest
          go_wp2_with fail
          go_roundw
          case rel => exact ⟨k + 1, by omega, rfl, by go_num, HR.out, by omega, hend⟩
          case measure => simp [intOf]; omega
        · have hkW : k = 2 := by omega
          subst hkW
          have hdone : ∀ j : Int, 0 ≤ j → j < 2 → cnt 2 a 2 j = 1 := fun j h0 h1 => done_at (W := 2) (m := a) (j := j) (by omega) ha0 ha1 h0 h1
          have HD := hide hdone
          have HC := hide hcells
          clear hdone hcells
          have hm0 := hmr.1
          have hm1 := hmr.2
          generalize mem 2 a 2 = a' at *
          go_wp2_with fail
          go_loop [58] (fun i => ∃ j : Nat, j ≤ 2 ∧ i = .int .i64 j) (fun i => 2 - (intOf i).toNat)
          case atStart => exact ⟨0, by omega, rfl⟩
          case round =>
            obtain ⟨j, hj, rfl⟩ := hrel
            by_cases hjl : j < 2
            · have hcj := (HC.out j (by omega)).1
              rw [HD.out j (by omega) (by omega)] at hcj
              go_wp2_with fail
              go_round
              case rel => exact ⟨j + 1, by omega, by go_num⟩
              case measure => simp [intOf]; omega
            · go_wp2_with fail
              go_roundw
              case rel => exact ⟨a', r + 1, by omega, by omega, by omega, rfl, by go_num, hb2⟩
              case measure => simp [intOf]; omega
    · have : r = 3 := by omega
      subst this
      go_wp2_with fail
      refine (works_any _).mono ?_
      rintro e w3 ⟨rfl, hb3⟩
      go_wp2
      go_ret
      exact ⟨rfl, hb.trans (hb3.mono hb.size)⟩

theorem turns1 (m : Int) (hm0 : 0 ≤ m) (hm1 : m ≤ 255) (w : World) :
    Calls Try.prog 7 #[.int .u8 m, .int .i64 1] w fun e w' => e = .returned (.bool true) ∧ Below w.heap.size w w' := by
  go_enter Try.func7, Try.ntmps7
  go_wp2_with fail
  go_loopw [0, 20] (fun v i wr => ∃ (a : Int) (r : Nat), 0 ≤ a ∧ a ≤ 255 ∧ r ≤ 3 ∧ v = .int .u8 a ∧ i = .int .i64 r ∧ Below w.heap.size w wr) (fun _ i _ => 3 - (intOf i).toNat)
  case atStart => exact ⟨m, 0, hm0, hm1, by omega, rfl, rfl, Below.refl _ _⟩
  case round =>
    obtain ⟨a, r, ha0, ha1, hr, rfl, rfl, hb⟩ := hrel
    by_cases hlt : r < 3
    · have hd : decide ((r : Int) < 3) = true := by simp; omega
      go_wp2_with fail
      obtain ⟨wo, rfl⟩ : ∃ wo : World, wo = wr := ⟨_, rfl⟩
      have hsz := hb.size
      go_loopw [0, 24] (fun v i wr => ∃ k : Nat, k ≤ 1 ∧ v = .int .u8 (mem 1 a k) ∧ i = .int .i64 k ∧ (∀ j : Nat, j < 4 → wr.cell? ⟨wo.heap.size, j, none⟩ = some (.int .i64 (cnt 1 a k j)) ∧ wr.frozen? ⟨wo.heap.size, j, none⟩ = false) ∧ wo.heap.size < wr.heap.size ∧ Below w.heap.size w wr) (fun _ i _ => 1 - (intOf i).toNat)
      case atStart =>
        refine ⟨0, by omega, rfl, rfl, fun j hj => ?_, by simp, hb.alloc hb.size _⟩
        have : j = 0 ∨ j = 1 ∨ j = 2 ∨ j = 3 := by omega
        rcases this with rfl | rfl | rfl | rfl <;> exact ⟨World.cell?_alloc_new _ _ _ _, World.frozen?_alloc_new _ _ _ _⟩
      case round =>
        obtain ⟨k, hk, rfl, rfl, hcells, hB, hb2⟩ := hrel
        have hmr := mem_range (W := 1) ha0 ha1 k
        by_cases hkl : k < 1
        · obtain ⟨t1, t2, t3, t4, t5, t6⟩ := turn_ok (W := 1) (k := k) (by omega) (by omega) ha0 ha1
          have V := fun w1 => vic_any (mem 1 a k) 1 hmr.1 hmr.2 w1
          have U := fun w1 => use_any (mem 1 a k) 1 (vicv (mem 1 a k) 1) hmr.1 hmr.2 w1
          have hm' : usev (mem 1 a k) 1 (vicv (mem 1 a k) 1) = mem 1 a (k + 1) := rfl
          have hc' : ∀ j, cnt 1 a (k + 1) j = cnt 1 a k j + if vicv (mem 1 a k) 1 = j then 1 else 0 := fun j => rfl
          rw [hm'] at U
          have hci := hcells (vicv (mem 1 a k) 1).toNat (by omega)
          rw [show ((vicv (mem 1 a k) 1).toNat : Int) = vicv (mem 1 a k) 1 from by omega] at hci
          generalize vicv (mem 1 a k) 1 = n at *
          have hcn : ∃ c, c = cnt 1 a k n := ⟨_, rfl⟩
          obtain ⟨c, hcn⟩ := hcn
          rw [← hcn] at hci t5 t6
          obtain ⟨hc1, hf1⟩ := hci
          rw [t3] at V
          rw [t4] at U
          have V := hide V
          have U := hide U
          have HC := hide hcells
          have HM := hide hm'
          have HK := hide hc'
          have HN := hide hcn
          clear hcells hm' hc' hcn t3 t4
          go_wp2_with fail
          refine (V.out _).mono ?_
          rintro e w1 ⟨rfl, hb3⟩
          have s3 := hb3.size
          have hc2 : w1.cell? ⟨wo.heap.size, n.toNat, none⟩ = some (.int .i64 c) := (hb3.cell (p := ⟨wo.heap.size, n.toNat, none⟩) hB).trans hc1
          have hf2 : w1.frozen? ⟨wo.heap.size, n.toNat, none⟩ = false := (hb3.frozen (p := ⟨wo.heap.size, n.toNat, none⟩) hB).trans hf1
          go_wp2_with fail
          refine (U.out _).mono ?_
          rintro e w2 ⟨rfl, hb4⟩
          have s4 := hb4.size
          simp at s4
          have hrest : (∀ j : Nat, j < 4 → w2.cell? ⟨wo.heap.size, j, none⟩ = some (.int .i64 (cnt 1 a (k + 1) j)) ∧ w2.frozen? ⟨wo.heap.size, j, none⟩ = false) := by
            intro j hj
            obtain ⟨g1, g2⟩ := HC.out j hj
            have g3 := (hb3.cell (p := ⟨wo.heap.size, j, none⟩) hB).trans g1
            have g4 := (hb3.frozen (p := ⟨wo.heap.size, j, none⟩) hB).trans g2
            refine ⟨?_, ?_⟩
            · rw [hb4.cell (p := ⟨wo.heap.size, j, none⟩) (by simp; omega), cell_set g3, HK.out]
              by_cases e : n.toNat = j
              · have e2 : n = (j : Int) := by omega
                rw [if_pos e, if_pos e2, HN.out, e2]
              · have e2 : ¬ n = (j : Int) := by omega
                rw [if_neg e, if_neg e2, Int.add_zero]
            · rw [hb4.frozen (p := ⟨wo.heap.size, j, none⟩) (by simp; omega), World.frozen?_setCell]
              exact g4
          have hend : Below w.heap.size w w2 := (((hb2.trans (hb3.mono (by have := hb2.size; omega)))).setCell (p := ⟨wo.heap.size, n.toNat, none⟩) hsz _).trans (hb4.mono (by have := hb2.size; simp; omega))
          have HR := hide hrest
          clear hrest
          go_wp2_with fail
          go_roundw
          case rel => exact ⟨k + 1, by omega, rfl, by go_num, HR.out, by omega, hend⟩
          case measure => simp [intOf]; omega
        · have hkW : k = 1 := by omega
          subst hkW
          have hdone : ∀ j : Int, 0 ≤ j → j < 1 → cnt 1 a 1 j = 1 := fun j h0 h1 => done_at (W := 1) (m := a) (j := j) (by omega) ha0 ha1 h0 h1
          have HD := hide hdone
          have HC := hide hcells
          clear hdone hcells
          have hm0 := hmr.1
          have hm1 := hmr.2
          generalize mem 1 a 1 = a' at *
          go_wp2_with fail
          go_loop [58] (fun i => ∃ j : Nat, j ≤ 1 ∧ i = .int .i64 j) (fun i => 1 - (intOf i).toNat)
          case atStart => exact ⟨0, by omega, rfl⟩
          case round =>
            obtain ⟨j, hj, rfl⟩ := hrel
            by_cases hjl : j < 1
            · have hcj := (HC.out j (by omega)).1
              rw [HD.out j (by omega) (by omega)] at hcj
              go_wp2_with fail
              go_round
              case rel => exact ⟨j + 1, by omega, by go_num⟩
              case measure => simp [intOf]; omega
            · go_wp2_with fail
              go_roundw
              case rel => exact ⟨a', r + 1, by omega, by omega, by omega, rfl, by go_num, hb2⟩
              case measure => simp [intOf]; omega
    · have : r = 3 := by omega
      subst this
      go_wp2_with fail
      refine (works_any _).mono ?_
      rintro e w3 ⟨rfl, hb3⟩
      go_wp2
      go_ret
      exact ⟨rfl, hb.trans (hb3.mono hb.size)⟩

theorem turns (m ways : Int) (hm0 : 0 ≤ m) (hm1 : m ≤ 255) (w : World) :
    Calls Try.prog 7 #[.int .u8 m, .int .i64 ways] w fun e w' => e = .returned (.bool true) ∧ Below w.heap.size w w' := by
  by_cases h1 : ways = 1
  · subst h1
    exact turns1 m hm0 hm1 w
  by_cases h2 : ways = 2
  · subst h2
    exact turns2 m hm0 hm1 w
  by_cases h4 : ways = 4
  · subst h4
    exact turns4 m hm0 hm1 w
  exact other m ways hm0 hm1 h1 h2 h4 w
end Go.Proofs.Ytnhppcgpplbnpaa.Turns
