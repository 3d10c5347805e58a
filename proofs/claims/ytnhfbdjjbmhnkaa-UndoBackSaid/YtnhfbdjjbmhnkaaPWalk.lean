/-
  The functions of the layer 'plan' walked, the program's and the reference's: what each answers, at any plan.
-/
import Derived.Test.YtnhfbdjjbmhnkaaPRefMay
import Derived.Deep.RegionHeld3
namespace Go.Proofs.Ytnhfbdjjbmhnkaa.PWalk
open Go.RowKit PPlain Base PMay PRefMay
set_option linter.unusedVariables false

theorem mask_of {n s : Int} (hn : 0 ≤ n) (hn2 : n ≤ 9223372036854775807) (hs : pow2 s = true) : bits .and .i64 n (s - 1) = n % s := by
  have h := of_decide_eq_true hs
  obtain ⟨k, rfl⟩ := Int.eq_ofNat_of_zero_le hn
  have e : ∀ m : Nat, m < 16 → bits .and .i64 (k : Int) (m : Int) = ((k &&& m : Nat) : Int) := fun m hm => by
    have hx : k &&& m < 2 ^ 63 := Nat.and_lt_two_pow _ (by omega)
    show IntKind.i64.wrap ((BitVec.ofInt 64 (k : Int) &&& BitVec.ofInt 64 (m : Int)).toNat : Int) = _
    have e1 : ∀ q : Nat, q < 9223372036854775808 → (BitVec.ofInt 64 (q : Int)).toNat = q := fun q hq => by
      rw [BitVec.ofInt_natCast, BitVec.toNat_ofNat]; exact Nat.mod_eq_of_lt (by omega)
    rw [BitVec.toNat_and, e1 k (by omega), e1 m (by omega), IntKind.wrap_i64]
    omega
  rcases h with rfl | rfl | rfl | rfl | rfl
  · have := e 0 (by omega); simpa using this
  · have := e 1 (by omega); rw [show (2 : Int) - 1 = ((1 : Nat) : Int) from rfl, this, nat_mask1]; omega
  · have := e 3 (by omega); rw [show (4 : Int) - 1 = ((3 : Nat) : Int) from rfl, this, nat_mask2]; omega
  · have := e 7 (by omega); rw [show (8 : Int) - 1 = ((7 : Nat) : Int) from rfl, this, nat_mask3]; omega
  · have := e 15 (by omega); rw [show (16 : Int) - 1 = ((15 : Nat) : Int) from rfl, this, nat_mask4]; omega

theorem cfg_next {B : Nat} {w0 w1 w2 : World} {c0 c1 c2 c3 c4 c5 c6 c7 : Int} (hb : Below w1.heap.size w1 w2) (h : (w1.cell? ⟨B, 0, none⟩ = some (.int .i64 c0) ∧ w1.cell? ⟨B, 1, none⟩ = some (.int .i64 c1) ∧ w1.cell? ⟨B, 2, none⟩ = some (.int .i64 c2) ∧ w1.cell? ⟨B, 3, none⟩ = some (.int .i64 c3) ∧ w1.cell? ⟨B, 4, none⟩ = some (.int .i64 c4) ∧ w1.cell? ⟨B, 5, none⟩ = some (.int .i64 c5) ∧ w1.cell? ⟨B, 6, none⟩ = some (.int .i64 c6) ∧ w1.cell? ⟨B, 7, none⟩ = some (.int .i64 c7) ∧ Below w0.heap.size w0 w1)) : (w2.cell? ⟨B, 0, none⟩ = some (.int .i64 c0) ∧ w2.cell? ⟨B, 1, none⟩ = some (.int .i64 c1) ∧ w2.cell? ⟨B, 2, none⟩ = some (.int .i64 c2) ∧ w2.cell? ⟨B, 3, none⟩ = some (.int .i64 c3) ∧ w2.cell? ⟨B, 4, none⟩ = some (.int .i64 c4) ∧ w2.cell? ⟨B, 5, none⟩ = some (.int .i64 c5) ∧ w2.cell? ⟨B, 6, none⟩ = some (.int .i64 c6) ∧ w2.cell? ⟨B, 7, none⟩ = some (.int .i64 c7) ∧ Below w0.heap.size w0 w2) := by
  obtain ⟨h0, h1, h2, h3, h4, h5, h6, h7, h8⟩ := h
  exact ⟨(hb.cell (block_lt_of_cell h0)).trans h0, (hb.cell (block_lt_of_cell h1)).trans h1, (hb.cell (block_lt_of_cell h2)).trans h2, (hb.cell (block_lt_of_cell h3)).trans h3, (hb.cell (block_lt_of_cell h4)).trans h4,
    (hb.cell (block_lt_of_cell h5)).trans h5, (hb.cell (block_lt_of_cell h6)).trans h6, (hb.cell (block_lt_of_cell h7)).trans h7, h8.trans (hb.mono h8.size)⟩
theorem cfg_drew {B : Nat} {w0 w1 : World} {c0 c1 c2 c3 c4 c5 c6 c7 : Int} (h : (w1.cell? ⟨B, 0, none⟩ = some (.int .i64 c0) ∧ w1.cell? ⟨B, 1, none⟩ = some (.int .i64 c1) ∧ w1.cell? ⟨B, 2, none⟩ = some (.int .i64 c2) ∧ w1.cell? ⟨B, 3, none⟩ = some (.int .i64 c3) ∧ w1.cell? ⟨B, 4, none⟩ = some (.int .i64 c4) ∧ w1.cell? ⟨B, 5, none⟩ = some (.int .i64 c5) ∧ w1.cell? ⟨B, 6, none⟩ = some (.int .i64 c6) ∧ w1.cell? ⟨B, 7, none⟩ = some (.int .i64 c7) ∧ Below w0.heap.size w0 w1)) : (w1.drew.cell? ⟨B, 0, none⟩ = some (.int .i64 c0) ∧ w1.drew.cell? ⟨B, 1, none⟩ = some (.int .i64 c1) ∧ w1.drew.cell? ⟨B, 2, none⟩ = some (.int .i64 c2) ∧ w1.drew.cell? ⟨B, 3, none⟩ = some (.int .i64 c3) ∧ w1.drew.cell? ⟨B, 4, none⟩ = some (.int .i64 c4) ∧ w1.drew.cell? ⟨B, 5, none⟩ = some (.int .i64 c5) ∧ w1.drew.cell? ⟨B, 6, none⟩ = some (.int .i64 c6) ∧ w1.drew.cell? ⟨B, 7, none⟩ = some (.int .i64 c7) ∧ Below w0.heap.size w0 w1.drew) := by
  obtain ⟨h0, h1, h2, h3, h4, h5, h6, h7, h8⟩ := h
  exact ⟨h0, h1, h2, h3, h4, h5, h6, h7, h8.drew⟩
theorem cfg_below {B : Nat} {w0 w1 : World} {c0 c1 c2 c3 c4 c5 c6 c7 : Int} (h : (w1.cell? ⟨B, 0, none⟩ = some (.int .i64 c0) ∧ w1.cell? ⟨B, 1, none⟩ = some (.int .i64 c1) ∧ w1.cell? ⟨B, 2, none⟩ = some (.int .i64 c2) ∧ w1.cell? ⟨B, 3, none⟩ = some (.int .i64 c3) ∧ w1.cell? ⟨B, 4, none⟩ = some (.int .i64 c4) ∧ w1.cell? ⟨B, 5, none⟩ = some (.int .i64 c5) ∧ w1.cell? ⟨B, 6, none⟩ = some (.int .i64 c6) ∧ w1.cell? ⟨B, 7, none⟩ = some (.int .i64 c7) ∧ Below w0.heap.size w0 w1)) : Below w0.heap.size w0 w1 := h.2.2.2.2.2.2.2.2
theorem cfg_first (w : World) (c0 c1 c2 c3 c4 c5 c6 c7 : Int) : ((w.alloc (.cells #[.int .i64 c0, .int .i64 c1, .int .i64 c2, .int .i64 c3, .int .i64 c4, .int .i64 c5, .int .i64 c6, .int .i64 c7] 23)).cell? ⟨w.heap.size, 0, none⟩ = some (.int .i64 c0) ∧ (w.alloc (.cells #[.int .i64 c0, .int .i64 c1, .int .i64 c2, .int .i64 c3, .int .i64 c4, .int .i64 c5, .int .i64 c6, .int .i64 c7] 23)).cell? ⟨w.heap.size, 1, none⟩ = some (.int .i64 c1) ∧ (w.alloc (.cells #[.int .i64 c0, .int .i64 c1, .int .i64 c2, .int .i64 c3, .int .i64 c4, .int .i64 c5, .int .i64 c6, .int .i64 c7] 23)).cell? ⟨w.heap.size, 2, none⟩ = some (.int .i64 c2) ∧ (w.alloc (.cells #[.int .i64 c0, .int .i64 c1, .int .i64 c2, .int .i64 c3, .int .i64 c4, .int .i64 c5, .int .i64 c6, .int .i64 c7] 23)).cell? ⟨w.heap.size, 3, none⟩ = some (.int .i64 c3) ∧ (w.alloc (.cells #[.int .i64 c0, .int .i64 c1, .int .i64 c2, .int .i64 c3, .int .i64 c4, .int .i64 c5, .int .i64 c6, .int .i64 c7] 23)).cell? ⟨w.heap.size, 4, none⟩ = some (.int .i64 c4) ∧ (w.alloc (.cells #[.int .i64 c0, .int .i64 c1, .int .i64 c2, .int .i64 c3, .int .i64 c4, .int .i64 c5, .int .i64 c6, .int .i64 c7] 23)).cell? ⟨w.heap.size, 5, none⟩ = some (.int .i64 c5) ∧ (w.alloc (.cells #[.int .i64 c0, .int .i64 c1, .int .i64 c2, .int .i64 c3, .int .i64 c4, .int .i64 c5, .int .i64 c6, .int .i64 c7] 23)).cell? ⟨w.heap.size, 6, none⟩ = some (.int .i64 c6) ∧ (w.alloc (.cells #[.int .i64 c0, .int .i64 c1, .int .i64 c2, .int .i64 c3, .int .i64 c4, .int .i64 c5, .int .i64 c6, .int .i64 c7] 23)).cell? ⟨w.heap.size, 7, none⟩ = some (.int .i64 c7) ∧ Below w.heap.size w (w.alloc (.cells #[.int .i64 c0, .int .i64 c1, .int .i64 c2, .int .i64 c3, .int .i64 c4, .int .i64 c5, .int .i64 c6, .int .i64 c7] 23))) :=
  ⟨World.cell?_alloc_new _ _ _ _, World.cell?_alloc_new _ _ _ _, World.cell?_alloc_new _ _ _ _, World.cell?_alloc_new _ _ _ _, World.cell?_alloc_new _ _ _ _, World.cell?_alloc_new _ _ _ _, World.cell?_alloc_new _ _ _ _, World.cell?_alloc_new _ _ _ _, (Below.refl _ _).alloc (Nat.le_refl _) _⟩

/-- What a plan that may be is. -/
theorem may_bounds {c0 c1 c2 c3 c4 c5 c6 c7 : Int} (h : mayB c0 c1 c2 c3 c4 c5 c6 c7 = true) : (1 ≤ c0 ∧ c0 ≤ 16) ∧ (1 ≤ c1 ∧ c1 ≤ 16) ∧ (1 ≤ c2 ∧ c2 ≤ 4) ∧ (1 ≤ c3 ∧ c3 ≤ 256) ∧ (1 ≤ c4 ∧ c4 ≤ 4) ∧ pow2 c1 = true ∧ c0 * c4 < c3 ∧ 1 ≤ c0 * c4 := by
  unfold mayB at h
  simp only [Bool.and_eq_true] at h
  obtain ⟨⟨⟨h1, h2⟩, h3⟩, h4⟩ := h
  have b := inB_iff.1 h1
  have p := prod_bd (a := c0) (b := c4) (by omega) (by omega)
  have h4' := of_decide_eq_true h4
  exact ⟨by omega, by omega, by omega, by omega, by omega, h2, h4', p.1⟩

theorem Data_false (c0 c1 c2 c3 c4 c5 c6 c7 : Int) (hm : mayB c0 c1 c2 c3 c4 c5 c6 c7 = false) (w : World) :
    Calls Try.prog 33 #[.agg #[.int .i64 c0, .int .i64 c1, .int .i64 c2, .int .i64 c3, .int .i64 c4, .int .i64 c5, .int .i64 c6, .int .i64 c7]] w fun e w' => e = .returned (.int .i64 0) ∧ Below w.heap.size w w' := by
  have M := fun w1 => may_any c0 c1 c2 c3 c4 c5 c6 c7 w1
  rw [hm] at M
  have M := hide M
  clear hm
  go_enter Try.func33, Try.ntmps33
  go_wp2_with (go_at_call 35; refine (M.out _).mono ?_; rintro e w1 ⟨rfl, hb1⟩; obtain ⟨hb1c, hb1f⟩ := bcell hb1; have hb1z : w.heap.size < w1.heap.size := (by have hsz := hb1.size; (try simp at hsz); omega))
  go_ret
  exact ⟨rfl, ((Below.refl _ _).alloc (Nat.le_refl _) _).trans (hb1.mono (by simp))⟩

theorem Data_true (c0 c1 c2 c3 c4 c5 c6 c7 : Int) (hm : mayB c0 c1 c2 c3 c4 c5 c6 c7 = true) (w : World) :
    Calls Try.prog 33 #[.agg #[.int .i64 c0, .int .i64 c1, .int .i64 c2, .int .i64 c3, .int .i64 c4, .int .i64 c5, .int .i64 c6, .int .i64 c7]] w fun e w' => e = .returned (.int .i64 (c3 - c0 * c4)) ∧ Below w.heap.size w w' := by
  have M := fun w1 => may_any c0 c1 c2 c3 c4 c5 c6 c7 w1
  have b := may_bounds hm
  have D := fun w1 => data_any c0 c1 c2 c3 c4 c5 c6 c7 b.1 b.2.2.2.1 b.2.2.2.2.1 w1
  rw [hm] at M
  generalize c0 * c4 = pr at *
  have M := hide M
  have D := hide D
  clear hm b
  go_enter Try.func33, Try.ntmps33
  go_wp2_with (first | (go_at_call 35; refine (M.out _).mono ?_; rintro e w1 ⟨rfl, hb1⟩; obtain ⟨hb1c, hb1f⟩ := bcell hb1; have hb1z : w.heap.size < w1.heap.size := (by have hsz := hb1.size; (try simp at hsz); omega)) | (go_at_call 36; refine (D.out _).mono ?_; rintro e w2 ⟨rfl, hb2⟩; obtain ⟨hb2c, hb2f⟩ := bcell hb2; have hb2z : w.heap.size < w2.heap.size := (by have hsz := hb2.size; (try simp at hsz); omega)))
  go_ret
  exact ⟨rfl, (((Below.refl _ _).alloc (Nat.le_refl _) _).trans (hb1.mono (by simp))).trans (hb2.mono (by first | omega | (simp; omega)))⟩

theorem DataR_true (c0 c1 c2 c3 c4 c5 c6 c7 : Int) (hm : mayB c0 c1 c2 c3 c4 c5 c6 c7 = true) (w : World) :
    Calls Try.prog 44 #[.agg #[.int .i64 c0, .int .i64 c1, .int .i64 c2, .int .i64 c3, .int .i64 c4, .int .i64 c5, .int .i64 c6, .int .i64 c7]] w fun e w' => e = .returned (.int .i64 (c3 - c0 * c4)) ∧ Below w.heap.size w w' := by
  obtain ⟨⟨b0, b1⟩, _, _, ⟨b2, b3⟩, ⟨b4, b5⟩, _, b6, b7⟩ := may_bounds hm
  clear hm
  go_enter Try.func44, Try.ntmps44
  go_wp2
  go_ret
  exact ⟨rfl, ((Below.refl _ _).alloc (Nat.le_refl _) _)⟩

theorem Log_false (c0 c1 c2 c3 c4 c5 c6 c7 core : Int) (hm : mayB c0 c1 c2 c3 c4 c5 c6 c7 = false) (w : World) :
    Calls Try.prog 11 #[.agg #[.int .i64 c0, .int .i64 c1, .int .i64 c2, .int .i64 c3, .int .i64 c4, .int .i64 c5, .int .i64 c6, .int .i64 c7], .int .i64 core] w fun e w' => e = .returned (.tuple #[.int .i64 0, .int .i64 0, .int .i64 2]) ∧ Below w.heap.size w w' := by
  have M := fun w1 => may_any c0 c1 c2 c3 c4 c5 c6 c7 w1
  rw [hm] at M
  have M := hide M
  clear hm
  go_enter Try.func11, Try.ntmps11
  go_wp2_with (go_at_call 35; refine (M.out _).mono ?_; rintro e w1 ⟨rfl, hb1⟩; obtain ⟨hb1c, hb1f⟩ := bcell hb1; have hb1z : w.heap.size < w1.heap.size := (by have hsz := hb1.size; (try simp at hsz); omega))
  go_ret3
  exact ⟨rfl, ((Below.refl _ _).alloc (Nat.le_refl _) _).trans (hb1.mono (by simp))⟩

theorem Log_range (c0 c1 c2 c3 c4 c5 c6 c7 core : Int) (hm : mayB c0 c1 c2 c3 c4 c5 c6 c7 = true) (h : core < 0 ∨ c0 ≤ core) (w : World) :
    Calls Try.prog 11 #[.agg #[.int .i64 c0, .int .i64 c1, .int .i64 c2, .int .i64 c3, .int .i64 c4, .int .i64 c5, .int .i64 c6, .int .i64 c7], .int .i64 core] w fun e w' => e = .returned (.tuple #[.int .i64 0, .int .i64 0, .int .i64 5]) ∧ Below w.heap.size w w' := by
  have M := fun w1 => may_any c0 c1 c2 c3 c4 c5 c6 c7 w1
  rw [hm] at M
  have M := hide M
  clear hm
  by_cases h1 : core < 0
  all_goals
    go_enter Try.func11, Try.ntmps11
    go_wp2_with (go_at_call 35; refine (M.out _).mono ?_; rintro e w1 ⟨rfl, hb1⟩; obtain ⟨hb1c, hb1f⟩ := bcell hb1; have hb1z : w.heap.size < w1.heap.size := (by have hsz := hb1.size; (try simp at hsz); omega))
    go_ret3
    exact ⟨rfl, ((Below.refl _ _).alloc (Nat.le_refl _) _).trans (hb1.mono (by simp))⟩

set_option maxHeartbeats 2000000 in
theorem Log_true (c0 c1 c2 c3 c4 c5 c6 c7 core : Int) (hm : mayB c0 c1 c2 c3 c4 c5 c6 c7 = true) (h0 : 0 ≤ core) (h1 : core < c0) (w : World) :
    Calls Try.prog 11 #[.agg #[.int .i64 c0, .int .i64 c1, .int .i64 c2, .int .i64 c3, .int .i64 c4, .int .i64 c5, .int .i64 c6, .int .i64 c7], .int .i64 core] w fun e w' => e = .returned (.tuple #[.int .i64 (c3 - c0 * c4 + core * c4), .int .i64 c4, .int .i64 0]) ∧ Below w.heap.size w w' := by
  have M := fun w1 => may_any c0 c1 c2 c3 c4 c5 c6 c7 w1
  have b := may_bounds hm
  have D := fun w1 => data_any c0 c1 c2 c3 c4 c5 c6 c7 b.1 b.2.2.2.1 b.2.2.2.2.1 w1
  have hcm : 0 ≤ core * c4 ∧ core * c4 ≤ 64 := by
    have p := prod_bd (a := core + 1) (b := c4) (by omega) b.2.2.2.2.1
    rw [Int.add_mul] at p
    have := Int.mul_nonneg h0 (show 0 ≤ c4 by omega)
    omega
  have b3 := b.2.2.2.1
  have b6 := b.2.2.2.2.2.2
  rw [hm] at M
  generalize hpr : c0 * c4 = pr at *
  generalize hcp : core * c4 = cp at *
  have HCP := hide hcp
  have M := hide M
  have D := hide D
  clear hm b hpr
  obtain ⟨hcm0, hcm1⟩ := hcm
  obtain ⟨b30, b31⟩ := b3
  obtain ⟨b60, b61⟩ := b6
  go_enter Try.func11, Try.ntmps11
  go_wp2_with (go_at_call 35; refine (M.out _).mono ?_; rintro e w1 ⟨rfl, hb1⟩; obtain ⟨hb1c, hb1f⟩ := bcell hb1; have hb1z : w.heap.size < w1.heap.size := (by have hsz := hb1.size; (try simp at hsz); omega))
  have S1 := cfg_drew (cfg_next hb1 (cfg_first w c0 c1 c2 c3 c4 c5 c6 c7))
  go_region_held3 (fun w' => (w'.cell? ⟨w.heap.size, 0, none⟩ = some (.int .i64 c0) ∧ w'.cell? ⟨w.heap.size, 1, none⟩ = some (.int .i64 c1) ∧ w'.cell? ⟨w.heap.size, 2, none⟩ = some (.int .i64 c2) ∧ w'.cell? ⟨w.heap.size, 3, none⟩ = some (.int .i64 c3) ∧ w'.cell? ⟨w.heap.size, 4, none⟩ = some (.int .i64 c4) ∧ w'.cell? ⟨w.heap.size, 5, none⟩ = some (.int .i64 c5) ∧ w'.cell? ⟨w.heap.size, 6, none⟩ = some (.int .i64 c6) ∧ w'.cell? ⟨w.heap.size, 7, none⟩ = some (.int .i64 c7) ∧ Below w.heap.size w w')) (first | exact S1 | exact cfg_next (by assumption) (by assumption) | assumption)
    (first | (go_at_call 36; refine (D.out _).mono ?_; rintro e w2 ⟨rfl, hb2⟩))
  go_wp2
  go_ret3
  refine ⟨?_, cfg_below (by assumption)⟩
  simp
  rw [IntWalk.i64_in cp (by omega), IntWalk.i64_in _ (by omega)]

theorem LogR_false (c0 c1 c2 c3 c4 c5 c6 c7 core : Int) (hm : mayB c0 c1 c2 c3 c4 c5 c6 c7 = false) (w : World) :
    Calls Try.prog 39 #[.agg #[.int .i64 c0, .int .i64 c1, .int .i64 c2, .int .i64 c3, .int .i64 c4, .int .i64 c5, .int .i64 c6, .int .i64 c7], .int .i64 core] w fun e w' => e = .returned (.tuple #[.int .i64 0, .int .i64 0, .int .i64 2]) ∧ Below w.heap.size w w' := by
  have M := fun w1 => mayR_any c0 c1 c2 c3 c4 c5 c6 c7 w1
  rw [hm] at M
  have M := hide M
  clear hm
  go_enter Try.func39, Try.ntmps39
  go_wp2_with (go_at_call 43; refine (M.out _).mono ?_; rintro e w1 ⟨rfl, hb1⟩; obtain ⟨hb1c, hb1f⟩ := bcell hb1; have hb1z : w.heap.size < w1.heap.size := (by have hsz := hb1.size; (try simp at hsz); omega))
  go_ret3
  exact ⟨rfl, ((Below.refl _ _).alloc (Nat.le_refl _) _).trans (hb1.mono (by simp))⟩

theorem LogR_range (c0 c1 c2 c3 c4 c5 c6 c7 core : Int) (hm : mayB c0 c1 c2 c3 c4 c5 c6 c7 = true) (h : core < 0 ∨ c0 ≤ core) (w : World) :
    Calls Try.prog 39 #[.agg #[.int .i64 c0, .int .i64 c1, .int .i64 c2, .int .i64 c3, .int .i64 c4, .int .i64 c5, .int .i64 c6, .int .i64 c7], .int .i64 core] w fun e w' => e = .returned (.tuple #[.int .i64 0, .int .i64 0, .int .i64 5]) ∧ Below w.heap.size w w' := by
  have M := fun w1 => mayR_any c0 c1 c2 c3 c4 c5 c6 c7 w1
  rw [hm] at M
  have M := hide M
  clear hm
  by_cases h1 : core < 0
  all_goals
    go_enter Try.func39, Try.ntmps39
    go_wp2_with (go_at_call 43; refine (M.out _).mono ?_; rintro e w1 ⟨rfl, hb1⟩; obtain ⟨hb1c, hb1f⟩ := bcell hb1; have hb1z : w.heap.size < w1.heap.size := (by have hsz := hb1.size; (try simp at hsz); omega))
    go_ret3
    exact ⟨rfl, ((Below.refl _ _).alloc (Nat.le_refl _) _).trans (hb1.mono (by simp))⟩

set_option maxHeartbeats 2000000 in
theorem LogR_true (c0 c1 c2 c3 c4 c5 c6 c7 core : Int) (hm : mayB c0 c1 c2 c3 c4 c5 c6 c7 = true) (h0 : 0 ≤ core) (h1 : core < c0) (w : World) :
    Calls Try.prog 39 #[.agg #[.int .i64 c0, .int .i64 c1, .int .i64 c2, .int .i64 c3, .int .i64 c4, .int .i64 c5, .int .i64 c6, .int .i64 c7], .int .i64 core] w fun e w' => e = .returned (.tuple #[.int .i64 (c3 - c0 * c4 + core * c4), .int .i64 c4, .int .i64 0]) ∧ Below w.heap.size w w' := by
  have M := fun w1 => mayR_any c0 c1 c2 c3 c4 c5 c6 c7 w1
  have b := may_bounds hm
  have D := fun w1 => DataR_true c0 c1 c2 c3 c4 c5 c6 c7 hm w1
  have hcm : 0 ≤ core * c4 ∧ core * c4 ≤ 64 := by
    have p := prod_bd (a := core + 1) (b := c4) (by omega) b.2.2.2.2.1
    rw [Int.add_mul] at p
    have := Int.mul_nonneg h0 (show 0 ≤ c4 by omega)
    omega
  have b3 := b.2.2.2.1
  have b6 := b.2.2.2.2.2.2
  rw [hm] at M
  generalize hpr : c0 * c4 = pr at *
  generalize hcp : core * c4 = cp at *
  have HCP := hide hcp
  have M := hide M
  have D := hide D
  clear hm b hpr
  obtain ⟨hcm0, hcm1⟩ := hcm
  obtain ⟨b30, b31⟩ := b3
  obtain ⟨b60, b61⟩ := b6
  go_enter Try.func39, Try.ntmps39
  go_wp2_with (go_at_call 43; refine (M.out _).mono ?_; rintro e w1 ⟨rfl, hb1⟩; obtain ⟨hb1c, hb1f⟩ := bcell hb1; have hb1z : w.heap.size < w1.heap.size := (by have hsz := hb1.size; (try simp at hsz); omega))
  have S1 := cfg_drew (cfg_next hb1 (cfg_first w c0 c1 c2 c3 c4 c5 c6 c7))
  go_region_held3 (fun w' => (w'.cell? ⟨w.heap.size, 0, none⟩ = some (.int .i64 c0) ∧ w'.cell? ⟨w.heap.size, 1, none⟩ = some (.int .i64 c1) ∧ w'.cell? ⟨w.heap.size, 2, none⟩ = some (.int .i64 c2) ∧ w'.cell? ⟨w.heap.size, 3, none⟩ = some (.int .i64 c3) ∧ w'.cell? ⟨w.heap.size, 4, none⟩ = some (.int .i64 c4) ∧ w'.cell? ⟨w.heap.size, 5, none⟩ = some (.int .i64 c5) ∧ w'.cell? ⟨w.heap.size, 6, none⟩ = some (.int .i64 c6) ∧ w'.cell? ⟨w.heap.size, 7, none⟩ = some (.int .i64 c7) ∧ Below w.heap.size w w')) (first | exact S1 | exact cfg_next (by assumption) (by assumption) | assumption)
    (first | (go_at_call 44; refine (D.out _).mono ?_; rintro e w2 ⟨rfl, hb2⟩))
  go_wp2
  go_ret3
  refine ⟨?_, cfg_below (by assumption)⟩
  simp
  rw [IntWalk.i64_in cp (by omega), IntWalk.i64_in _ (by omega)]

theorem Where_false (c0 c1 c2 c3 c4 c5 c6 c7 addr : Int) (hm : mayB c0 c1 c2 c3 c4 c5 c6 c7 = false) (w : World) :
    Calls Try.prog 32 #[.agg #[.int .i64 c0, .int .i64 c1, .int .i64 c2, .int .i64 c3, .int .i64 c4, .int .i64 c5, .int .i64 c6, .int .i64 c7], .int .u32 addr] w fun e w' => e = .returned (.tuple #[.int .i64 0, .int .i64 0, .int .i64 2]) ∧ Below w.heap.size w w' := by
  have M := fun w1 => may_any c0 c1 c2 c3 c4 c5 c6 c7 w1
  rw [hm] at M
  have M := hide M
  clear hm
  go_enter Try.func32, Try.ntmps32
  go_wp2_with (go_at_call 35; refine (M.out _).mono ?_; rintro e w1 ⟨rfl, hb1⟩; obtain ⟨hb1c, hb1f⟩ := bcell hb1; have hb1z : w.heap.size < w1.heap.size := (by have hsz := hb1.size; (try simp at hsz); omega))
  go_ret3
  exact ⟨rfl, ((Below.refl _ _).alloc (Nat.le_refl _) _).trans (hb1.mono (by simp))⟩

theorem Where_align (c0 c1 c2 c3 c4 c5 c6 c7 addr : Int) (hm : mayB c0 c1 c2 c3 c4 c5 c6 c7 = true) (h0 : 0 ≤ addr) (h1 : addr ≤ 4294967295) (h : addr % 4 ≠ 0) (w : World) :
    Calls Try.prog 32 #[.agg #[.int .i64 c0, .int .i64 c1, .int .i64 c2, .int .i64 c3, .int .i64 c4, .int .i64 c5, .int .i64 c6, .int .i64 c7], .int .u32 addr] w fun e w' => e = .returned (.tuple #[.int .i64 0, .int .i64 0, .int .i64 50]) ∧ Below w.heap.size w w' := by
  have M := fun w1 => may_any c0 c1 c2 c3 c4 c5 c6 c7 w1
  rw [hm] at M
  have M := hide M
  have k : (addr % 4 != 0) = true := by rw [bne_iff_ne]; exact h
  clear hm
  go_enter Try.func32, Try.ntmps32
  go_wp2_with (go_at_call 35; refine (M.out _).mono ?_; rintro e w1 ⟨rfl, hb1⟩; obtain ⟨hb1c, hb1f⟩ := bcell hb1; have hb1z : w.heap.size < w1.heap.size := (by have hsz := hb1.size; (try simp at hsz); omega))
  go_ret3
  exact ⟨rfl, ((Below.refl _ _).alloc (Nat.le_refl _) _).trans (hb1.mono (by simp))⟩

theorem Where_true (c0 c1 c2 c3 c4 c5 c6 c7 addr : Int) (hm : mayB c0 c1 c2 c3 c4 c5 c6 c7 = true) (h0 : 0 ≤ addr) (h1 : addr ≤ 4294967295) (h : addr % 4 = 0) (w : World) :
    Calls Try.prog 32 #[.agg #[.int .i64 c0, .int .i64 c1, .int .i64 c2, .int .i64 c3, .int .i64 c4, .int .i64 c5, .int .i64 c6, .int .i64 c7], .int .u32 addr] w fun e w' => e = .returned (if c3 ≤ addr / 64 then .tuple #[.int .i64 0, .int .i64 0, .int .i64 5] else if c3 - c0 * c4 ≤ addr / 64 then .tuple #[.int .i64 0, .int .i64 0, .int .i64 51] else .tuple #[.int .i64 (addr / 64), .int .i64 (addr / 4 % 16), .int .i64 0]) ∧ Below w.heap.size w w' := by
  have M := fun w1 => may_any c0 c1 c2 c3 c4 c5 c6 c7 w1
  have b := may_bounds hm
  have D := fun w1 => data_any c0 c1 c2 c3 c4 c5 c6 c7 b.1 b.2.2.2.1 b.2.2.2.2.1 w1
  obtain ⟨b30, b31⟩ := b.2.2.2.1
  obtain ⟨b60, b61⟩ := b.2.2.2.2.2.2
  rw [hm] at M
  generalize c0 * c4 = pr at *
  have k : (addr % 4 != 0) = false := by rw [bne_eq_false_iff_eq]; exact h
  have hq : addr % 64 / 4 = addr / 4 % 16 := by omega
  have hq2 : addr / 4 / 16 = addr / 64 := by omega
  have HQ := hide hq
  have HQ2 := hide hq2
  have M := hide M
  have D := hide D
  clear hm b h hq hq2
  by_cases e1 : c3 ≤ addr / 64
  · rw [if_pos e1]
    have e1' : c3 ≤ addr / 4 / 16 := by omega
    go_enter Try.func32, Try.ntmps32
    go_wp2_with (go_at_call 35; refine (M.out _).mono ?_; rintro e w1 ⟨rfl, hb1⟩; obtain ⟨hb1c, hb1f⟩ := bcell hb1; have hb1z : w.heap.size < w1.heap.size := (by have hsz := hb1.size; (try simp at hsz); omega))
    go_ret3
    exact ⟨rfl, ((Below.refl _ _).alloc (Nat.le_refl _) _).trans (hb1.mono (by simp))⟩
  · rw [if_neg e1]
    by_cases e2 : c3 - pr ≤ addr / 64
    · rw [if_pos e2]
      have e2' : c3 - pr ≤ addr / 4 / 16 := by omega
      go_enter Try.func32, Try.ntmps32
      go_wp2_with (first | (go_at_call 35; refine (M.out _).mono ?_; rintro e w1 ⟨rfl, hb1⟩; obtain ⟨hb1c, hb1f⟩ := bcell hb1; have hb1z : w.heap.size < w1.heap.size := (by have hsz := hb1.size; (try simp at hsz); omega)) | (go_at_call 36; refine (D.out _).mono ?_; rintro e w2 ⟨rfl, hb2⟩; obtain ⟨hb2c, hb2f⟩ := bcell hb2; have hb2z : w.heap.size < w2.heap.size := (by have hsz := hb2.size; (try simp at hsz); omega)))
      go_ret3
      exact ⟨rfl, (((Below.refl _ _).alloc (Nat.le_refl _) _).trans (hb1.mono (by simp))).trans (hb2.mono (by omega))⟩
    · rw [if_neg e2]
      have e2' : ¬ c3 - pr ≤ addr / 4 / 16 := by omega
      go_enter Try.func32, Try.ntmps32
      go_wp2_with (first | (go_at_call 35; refine (M.out _).mono ?_; rintro e w1 ⟨rfl, hb1⟩; obtain ⟨hb1c, hb1f⟩ := bcell hb1; have hb1z : w.heap.size < w1.heap.size := (by have hsz := hb1.size; (try simp at hsz); omega)) | (go_at_call 36; refine (D.out _).mono ?_; rintro e w2 ⟨rfl, hb2⟩; obtain ⟨hb2c, hb2f⟩ := bcell hb2; have hb2z : w.heap.size < w2.heap.size := (by have hsz := hb2.size; (try simp at hsz); omega)))
      go_ret3
      refine ⟨?_, (((Below.refl _ _).alloc (Nat.le_refl _) _).trans (hb1.mono (by simp))).trans (hb2.mono (by omega))⟩
      simp
      omega

theorem WhereR_false (c0 c1 c2 c3 c4 c5 c6 c7 addr : Int) (hm : mayB c0 c1 c2 c3 c4 c5 c6 c7 = false) (w : World) :
    Calls Try.prog 40 #[.agg #[.int .i64 c0, .int .i64 c1, .int .i64 c2, .int .i64 c3, .int .i64 c4, .int .i64 c5, .int .i64 c6, .int .i64 c7], .int .u32 addr] w fun e w' => e = .returned (.tuple #[.int .i64 0, .int .i64 0, .int .i64 2]) ∧ Below w.heap.size w w' := by
  have M := fun w1 => mayR_any c0 c1 c2 c3 c4 c5 c6 c7 w1
  rw [hm] at M
  have M := hide M
  clear hm
  go_enter Try.func40, Try.ntmps40
  go_wp2_with (go_at_call 43; refine (M.out _).mono ?_; rintro e w1 ⟨rfl, hb1⟩; obtain ⟨hb1c, hb1f⟩ := bcell hb1; have hb1z : w.heap.size < w1.heap.size := (by have hsz := hb1.size; (try simp at hsz); omega))
  go_ret3
  exact ⟨rfl, ((Below.refl _ _).alloc (Nat.le_refl _) _).trans (hb1.mono (by simp))⟩

theorem WhereR_align (c0 c1 c2 c3 c4 c5 c6 c7 addr : Int) (hm : mayB c0 c1 c2 c3 c4 c5 c6 c7 = true) (h0 : 0 ≤ addr) (h1 : addr ≤ 4294967295) (h : addr % 4 ≠ 0) (w : World) :
    Calls Try.prog 40 #[.agg #[.int .i64 c0, .int .i64 c1, .int .i64 c2, .int .i64 c3, .int .i64 c4, .int .i64 c5, .int .i64 c6, .int .i64 c7], .int .u32 addr] w fun e w' => e = .returned (.tuple #[.int .i64 0, .int .i64 0, .int .i64 50]) ∧ Below w.heap.size w w' := by
  have M := fun w1 => mayR_any c0 c1 c2 c3 c4 c5 c6 c7 w1
  rw [hm] at M
  have M := hide M
  have k : (addr % 4 != 0) = true := by rw [bne_iff_ne]; exact h
  clear hm
  go_enter Try.func40, Try.ntmps40
  go_wp2_with (go_at_call 43; refine (M.out _).mono ?_; rintro e w1 ⟨rfl, hb1⟩; obtain ⟨hb1c, hb1f⟩ := bcell hb1; have hb1z : w.heap.size < w1.heap.size := (by have hsz := hb1.size; (try simp at hsz); omega))
  go_ret3
  exact ⟨rfl, ((Below.refl _ _).alloc (Nat.le_refl _) _).trans (hb1.mono (by simp))⟩

theorem WhereR_true (c0 c1 c2 c3 c4 c5 c6 c7 addr : Int) (hm : mayB c0 c1 c2 c3 c4 c5 c6 c7 = true) (h0 : 0 ≤ addr) (h1 : addr ≤ 4294967295) (h : addr % 4 = 0) (w : World) :
    Calls Try.prog 40 #[.agg #[.int .i64 c0, .int .i64 c1, .int .i64 c2, .int .i64 c3, .int .i64 c4, .int .i64 c5, .int .i64 c6, .int .i64 c7], .int .u32 addr] w fun e w' => e = .returned (if c3 ≤ addr / 64 then .tuple #[.int .i64 0, .int .i64 0, .int .i64 5] else if c3 - c0 * c4 ≤ addr / 64 then .tuple #[.int .i64 0, .int .i64 0, .int .i64 51] else .tuple #[.int .i64 (addr / 64), .int .i64 (addr / 4 % 16), .int .i64 0]) ∧ Below w.heap.size w w' := by
  have M := fun w1 => mayR_any c0 c1 c2 c3 c4 c5 c6 c7 w1
  have b := may_bounds hm
  have D := fun w1 => DataR_true c0 c1 c2 c3 c4 c5 c6 c7 hm w1
  obtain ⟨b30, b31⟩ := b.2.2.2.1
  obtain ⟨b60, b61⟩ := b.2.2.2.2.2.2
  rw [hm] at M
  generalize c0 * c4 = pr at *
  have k : (addr % 4 != 0) = false := by rw [bne_eq_false_iff_eq]; exact h
  have hq : addr % 64 / 4 = addr / 4 % 16 := by omega
  have hq2 : addr / 4 / 16 = addr / 64 := by omega
  have HQ := hide hq
  have HQ2 := hide hq2
  have M := hide M
  have D := hide D
  clear hm b h hq hq2
  by_cases e1 : c3 ≤ addr / 64
  · rw [if_pos e1]
    have e1' : c3 ≤ addr / 4 / 16 := by omega
    go_enter Try.func40, Try.ntmps40
    go_wp2_with (go_at_call 43; refine (M.out _).mono ?_; rintro e w1 ⟨rfl, hb1⟩; obtain ⟨hb1c, hb1f⟩ := bcell hb1; have hb1z : w.heap.size < w1.heap.size := (by have hsz := hb1.size; (try simp at hsz); omega))
    go_ret3
    exact ⟨rfl, ((Below.refl _ _).alloc (Nat.le_refl _) _).trans (hb1.mono (by simp))⟩
  · rw [if_neg e1]
    by_cases e2 : c3 - pr ≤ addr / 64
    · rw [if_pos e2]
      have e2' : c3 - pr ≤ addr / 4 / 16 := by omega
      go_enter Try.func40, Try.ntmps40
      go_wp2_with (first | (go_at_call 43; refine (M.out _).mono ?_; rintro e w1 ⟨rfl, hb1⟩; obtain ⟨hb1c, hb1f⟩ := bcell hb1; have hb1z : w.heap.size < w1.heap.size := (by have hsz := hb1.size; (try simp at hsz); omega)) | (go_at_call 44; refine (D.out _).mono ?_; rintro e w2 ⟨rfl, hb2⟩; obtain ⟨hb2c, hb2f⟩ := bcell hb2; have hb2z : w.heap.size < w2.heap.size := (by have hsz := hb2.size; (try simp at hsz); omega)))
      go_ret3
      exact ⟨rfl, (((Below.refl _ _).alloc (Nat.le_refl _) _).trans (hb1.mono (by simp))).trans (hb2.mono (by omega))⟩
    · rw [if_neg e2]
      have e2' : ¬ c3 - pr ≤ addr / 4 / 16 := by omega
      go_enter Try.func40, Try.ntmps40
      go_wp2_with (first | (go_at_call 43; refine (M.out _).mono ?_; rintro e w1 ⟨rfl, hb1⟩; obtain ⟨hb1c, hb1f⟩ := bcell hb1; have hb1z : w.heap.size < w1.heap.size := (by have hsz := hb1.size; (try simp at hsz); omega)) | (go_at_call 44; refine (D.out _).mono ?_; rintro e w2 ⟨rfl, hb2⟩; obtain ⟨hb2c, hb2f⟩ := bcell hb2; have hb2z : w.heap.size < w2.heap.size := (by have hsz := hb2.size; (try simp at hsz); omega)))
      go_ret3
      refine ⟨?_, (((Below.refl _ _).alloc (Nat.le_refl _) _).trans (hb1.mono (by simp))).trans (hb2.mono (by omega))⟩
      simp
      omega

theorem Addr_true (block word : Int) (h0 : 0 ≤ block) (h1 : block ≤ 255) (h2 : 0 ≤ word) (h3 : word ≤ 15) (w : World) :
    Calls Try.prog 31 #[.int .i64 block, .int .i64 word] w fun e w' => e = .returned (.tuple #[.int .u32 (64 * block + 4 * word), .int .i64 0]) ∧ w = w' := by
  go_enter Try.func31, Try.ntmps31
  go_wp2
  go_ret2
  exact ⟨by simp; omega, rfl⟩
theorem Addr_false (block word : Int) (h : block < 0 ∨ 255 < block ∨ word < 0 ∨ 15 < word) (w : World) :
    Calls Try.prog 31 #[.int .i64 block, .int .i64 word] w fun e w' => e = .returned (.tuple #[.int .u32 0, .int .i64 5]) ∧ w = w' := by
  by_cases k0 : block < 0
  · clear h
    go_enter Try.func31, Try.ntmps31
    go_wp2
    go_ret2
    exact ⟨rfl, rfl⟩
  by_cases k1 : 255 < block
  · clear h
    go_enter Try.func31, Try.ntmps31
    go_wp2
    go_ret2
    exact ⟨rfl, rfl⟩
  by_cases k2 : word < 0
  · clear h
    go_enter Try.func31, Try.ntmps31
    go_wp2
    go_ret2
    exact ⟨rfl, rfl⟩
  have k3 : 15 < word := by omega
  clear h
  go_enter Try.func31, Try.ntmps31
  go_wp2
  go_ret2
  exact ⟨rfl, rfl⟩

end Go.Proofs.Ytnhfbdjjbmhnkaa.PWalk
