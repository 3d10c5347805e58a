/-
  May of the reference of the layer 'code' walked.
-/
import Derived.Test.YtdaglmoibijdeaaDoorCodeTab
namespace Go.Proofs.YtdaglmoibijdeaaDoor.CodeRefMay
open Go.RowKit Base CodePlain CodeBits CodeTab
set_option linter.unusedVariables false
set_option maxRecDepth 100000

theorem mayB_eq {k f : Nat} {a b c n : Int} (hk : k < 22) (hf : formN k = f) : mayB k a b c n = mayF f a b c n := by simp [mayB, hk, hf]
theorem no_ {k f : Nat} {a b c n : Int} (hk : k < 22) (hf : formN k = f) (hl : f < 7) (h : ¬ MayP f a b c n) : mayB k a b c n = false := by
  rw [mayB_eq hk hf, Bool.eq_false_iff]
  exact fun e => h ((mayF_iff hl).1 e)
theorem yes_ {k f : Nat} {a b c n : Int} (hk : k < 22) (hf : formN k = f) (hl : f < 7) (h : MayP f a b c n) : mayB k a b c n = true := by
  rw [mayB_eq hk hf]
  exact (mayF_iff hl).2 h
theorem reg_a (k : Nat) (a b c n : Int) (hk : k < 22) (r0 : regB a = false) (w : World) :
    Calls Tryd.prog 28 #[code5 k a b c n] w fun e w' => e = .returned (.bool false) ∧ Below w.heap.size w w' := by
  have hk1 : (k : Int) ≤ 21 := by omega
  clear hk
  unfold code5
  go_enter Tryd.func28, Tryd.ntmps28
  go_wp2_with (go_at_call 31; refine (regR_any _ _).mono ?_; rintro e wx ⟨rfl, rfl⟩)
  go_ret
  exact ⟨rfl, (Below.refl _ _).alloc (Nat.le_refl _) _⟩
theorem reg_b (k : Nat) (a b c n : Int) (hk : k < 22) (r0 : regB a = true) (r1 : regB b = false) (w : World) :
    Calls Tryd.prog 28 #[code5 k a b c n] w fun e w' => e = .returned (.bool false) ∧ Below w.heap.size w w' := by
  have hk1 : (k : Int) ≤ 21 := by omega
  clear hk
  unfold code5
  go_enter Tryd.func28, Tryd.ntmps28
  go_wp2_with (go_at_call 31; refine (regR_any _ _).mono ?_; rintro e wx ⟨rfl, rfl⟩)
  go_ret
  exact ⟨rfl, (Below.refl _ _).alloc (Nat.le_refl _) _⟩
theorem reg_c (k : Nat) (a b c n : Int) (hk : k < 22) (r0 : regB a = true) (r1 : regB b = true) (r2 : regB c = false) (w : World) :
    Calls Tryd.prog 28 #[code5 k a b c n] w fun e w' => e = .returned (.bool false) ∧ Below w.heap.size w w' := by
  have hk1 : (k : Int) ≤ 21 := by omega
  clear hk
  unfold code5
  go_enter Tryd.func28, Tryd.ntmps28
  go_wp2_with (go_at_call 31; refine (regR_any _ _).mono ?_; rintro e wx ⟨rfl, rfl⟩)
  go_ret
  exact ⟨rfl, (Below.refl _ _).alloc (Nat.le_refl _) _⟩
theorem m0_c (k : Nat) (a b c n : Int) (hk : k < 22) (hf : formN k = 0) (ra : regB a = true) (rb : regB b = true) (rc : regB c = true) (h0 : (c != 0) = true) (w : World) :
    Calls Tryd.prog 28 #[code5 k a b c n] w fun e w' => e = .returned (.bool false) ∧ Below w.heap.size w w' := by
  have HF := hide (fun w => form_any k (by omega) w)
  rw [hf] at HF
  have hk1 : (k : Int) < 22 := by omega
  have hr : regB 0 = true := by decide
  clear hf hk
  unfold code5
  go_enter Tryd.func28, Tryd.ntmps28
  go_wp2_with (first
    | (go_at_call 31; refine (regR_any _ _).mono ?_; rintro e wx ⟨rfl, rfl⟩)
    | (go_at_call 27; refine (HF.out _).mono ?_; rintro e wx ⟨rfl, rfl⟩))
  go_ret
  exact ⟨rfl, (Below.refl _ _).alloc (Nat.le_refl _) _⟩
theorem m0_b (k : Nat) (a b n : Int) (hk : k < 22) (hf : formN k = 0) (ra : regB a = true) (rb : regB b = true) (h0 : (b != 0) = true) (w : World) :
    Calls Tryd.prog 28 #[code5 k a b 0 n] w fun e w' => e = .returned (.bool false) ∧ Below w.heap.size w w' := by
  have HF := hide (fun w => form_any k (by omega) w)
  rw [hf] at HF
  have hk1 : (k : Int) < 22 := by omega
  have hr : regB 0 = true := by decide
  clear hf hk
  unfold code5
  go_enter Tryd.func28, Tryd.ntmps28
  go_wp2_with (first
    | (go_at_call 31; refine (regR_any _ _).mono ?_; rintro e wx ⟨rfl, rfl⟩)
    | (go_at_call 27; refine (HF.out _).mono ?_; rintro e wx ⟨rfl, rfl⟩))
  go_ret
  exact ⟨rfl, (Below.refl _ _).alloc (Nat.le_refl _) _⟩
theorem m0_a (k : Nat) (a n : Int) (hk : k < 22) (hf : formN k = 0) (ra : regB a = true) (h0 : (a != 0) = true) (w : World) :
    Calls Tryd.prog 28 #[code5 k a 0 0 n] w fun e w' => e = .returned (.bool false) ∧ Below w.heap.size w w' := by
  have HF := hide (fun w => form_any k (by omega) w)
  rw [hf] at HF
  have hk1 : (k : Int) < 22 := by omega
  have hr : regB 0 = true := by decide
  clear hf hk
  unfold code5
  go_enter Tryd.func28, Tryd.ntmps28
  go_wp2_with (first
    | (go_at_call 31; refine (regR_any _ _).mono ?_; rintro e wx ⟨rfl, rfl⟩)
    | (go_at_call 27; refine (HF.out _).mono ?_; rintro e wx ⟨rfl, rfl⟩))
  go_ret
  exact ⟨rfl, (Below.refl _ _).alloc (Nat.le_refl _) _⟩
theorem m0_n (k : Nat) (n : Int) (hk : k < 22) (hf : formN k = 0) (h0 : (n == 0) = false) (w : World) :
    Calls Tryd.prog 28 #[code5 k 0 0 0 n] w fun e w' => e = .returned (.bool false) ∧ Below w.heap.size w w' := by
  have HF := hide (fun w => form_any k (by omega) w)
  rw [hf] at HF
  have hk1 : (k : Int) < 22 := by omega
  have hr : regB 0 = true := by decide
  clear hf hk
  unfold code5
  go_enter Tryd.func28, Tryd.ntmps28
  go_wp2_with (first
    | (go_at_call 31; refine (regR_any _ _).mono ?_; rintro e wx ⟨rfl, rfl⟩)
    | (go_at_call 27; refine (HF.out _).mono ?_; rintro e wx ⟨rfl, rfl⟩))
  go_ret
  exact ⟨rfl, (Below.refl _ _).alloc (Nat.le_refl _) _⟩
theorem m0_z (k : Nat) (hk : k < 22) (hf : formN k = 0) (w : World) :
    Calls Tryd.prog 28 #[code5 k 0 0 0 0] w fun e w' => e = .returned (.bool true) ∧ Below w.heap.size w w' := by
  have HF := hide (fun w => form_any k (by omega) w)
  rw [hf] at HF
  have hk1 : (k : Int) < 22 := by omega
  have hr : regB 0 = true := by decide
  clear hf hk
  unfold code5
  go_enter Tryd.func28, Tryd.ntmps28
  go_wp2_with (first
    | (go_at_call 31; refine (regR_any _ _).mono ?_; rintro e wx ⟨rfl, rfl⟩)
    | (go_at_call 27; refine (HF.out _).mono ?_; rintro e wx ⟨rfl, rfl⟩))
  go_ret
  exact ⟨rfl, (Below.refl _ _).alloc (Nat.le_refl _) _⟩
theorem m0 (k : Nat) (a b c n : Int) (hk : k < 22) (hf : formN k = 0) (ra : regB a = true) (rb : regB b = true) (rc : regB c = true) (w : World) :
    Calls Tryd.prog 28 #[code5 k a b c n] w fun e w' => e = .returned (.bool (mayB k a b c n)) ∧ Below w.heap.size w w' := by
  have ba := regB_iff.1 ra
  have bb := regB_iff.1 rb
  have bc := regB_iff.1 rc
  by_cases hc : c = 0
  · subst hc
    by_cases hb : b = 0
    · subst hb
      by_cases ha : a = 0
      · subst ha
        by_cases hn : n = 0
        · subst hn
          rw [yes_ hk hf (by omega) (by unfold MayP; omega)]
          exact m0_z k  hk hf  w
        · rw [no_ hk hf (by omega) (by unfold MayP; omega)]
          exact m0_n k n hk hf  (by rw [beq_eq_false_iff_ne]; exact hn) w
      · rw [no_ hk hf (by omega) (by unfold MayP; omega)]
        exact m0_a k a n hk hf ra (by rw [bne_iff_ne]; exact ha) w
    · rw [no_ hk hf (by omega) (by unfold MayP; omega)]
      exact m0_b k a b n hk hf ra rb (by rw [bne_iff_ne]; exact hb) w
  · rw [no_ hk hf (by omega) (by unfold MayP; omega)]
    exact m0_c k a b c n hk hf ra rb rc (by rw [bne_iff_ne]; exact hc) w
theorem m1_n (k : Nat) (a b c n : Int) (hk : k < 22) (hf : formN k = 1) (ra : regB a = true) (rb : regB b = true) (rc : regB c = true) (h0 : (n == 0) = false) (w : World) :
    Calls Tryd.prog 28 #[code5 k a b c n] w fun e w' => e = .returned (.bool false) ∧ Below w.heap.size w w' := by
  have HF := hide (fun w => form_any k (by omega) w)
  rw [hf] at HF
  have hk1 : (k : Int) < 22 := by omega
  have hr : regB 0 = true := by decide
  clear hf hk
  unfold code5
  go_enter Tryd.func28, Tryd.ntmps28
  go_wp2_with (first
    | (go_at_call 31; refine (regR_any _ _).mono ?_; rintro e wx ⟨rfl, rfl⟩)
    | (go_at_call 27; refine (HF.out _).mono ?_; rintro e wx ⟨rfl, rfl⟩))
  go_ret
  exact ⟨rfl, (Below.refl _ _).alloc (Nat.le_refl _) _⟩
theorem m1_z (k : Nat) (a b c : Int) (hk : k < 22) (hf : formN k = 1) (ra : regB a = true) (rb : regB b = true) (rc : regB c = true) (w : World) :
    Calls Tryd.prog 28 #[code5 k a b c 0] w fun e w' => e = .returned (.bool true) ∧ Below w.heap.size w w' := by
  have HF := hide (fun w => form_any k (by omega) w)
  rw [hf] at HF
  have hk1 : (k : Int) < 22 := by omega
  have hr : regB 0 = true := by decide
  clear hf hk
  unfold code5
  go_enter Tryd.func28, Tryd.ntmps28
  go_wp2_with (first
    | (go_at_call 31; refine (regR_any _ _).mono ?_; rintro e wx ⟨rfl, rfl⟩)
    | (go_at_call 27; refine (HF.out _).mono ?_; rintro e wx ⟨rfl, rfl⟩))
  go_ret
  exact ⟨rfl, (Below.refl _ _).alloc (Nat.le_refl _) _⟩
theorem m1 (k : Nat) (a b c n : Int) (hk : k < 22) (hf : formN k = 1) (ra : regB a = true) (rb : regB b = true) (rc : regB c = true) (w : World) :
    Calls Tryd.prog 28 #[code5 k a b c n] w fun e w' => e = .returned (.bool (mayB k a b c n)) ∧ Below w.heap.size w w' := by
  have ba := regB_iff.1 ra
  have bb := regB_iff.1 rb
  have bc := regB_iff.1 rc
  by_cases hn : n = 0
  · subst hn
    rw [yes_ hk hf (by omega) (by unfold MayP; omega)]
    exact m1_z k a b c hk hf ra rb rc w
  · rw [no_ hk hf (by omega) (by unfold MayP; omega)]
    exact m1_n k a b c n hk hf ra rb rc (by rw [beq_eq_false_iff_ne]; exact hn) w
theorem m2_c (k : Nat) (a b c n : Int) (hk : k < 22) (hf : formN k = 2) (ra : regB a = true) (rb : regB b = true) (rc : regB c = true) (h0 : (c != 0) = true) (w : World) :
    Calls Tryd.prog 28 #[code5 k a b c n] w fun e w' => e = .returned (.bool false) ∧ Below w.heap.size w w' := by
  have HF := hide (fun w => form_any k (by omega) w)
  rw [hf] at HF
  have hk1 : (k : Int) < 22 := by omega
  have hr : regB 0 = true := by decide
  clear hf hk
  unfold code5
  go_enter Tryd.func28, Tryd.ntmps28
  go_wp2_with (first
    | (go_at_call 31; refine (regR_any _ _).mono ?_; rintro e wx ⟨rfl, rfl⟩)
    | (go_at_call 27; refine (HF.out _).mono ?_; rintro e wx ⟨rfl, rfl⟩))
  go_ret
  exact ⟨rfl, (Below.refl _ _).alloc (Nat.le_refl _) _⟩
theorem m2_lo (k : Nat) (a b n : Int) (hk : k < 22) (hf : formN k = 2) (ra : regB a = true) (rb : regB b = true) (h0 : decide (-8192 ≤ n) = false) (w : World) :
    Calls Tryd.prog 28 #[code5 k a b 0 n] w fun e w' => e = .returned (.bool false) ∧ Below w.heap.size w w' := by
  have HF := hide (fun w => form_any k (by omega) w)
  rw [hf] at HF
  have hk1 : (k : Int) < 22 := by omega
  have hr : regB 0 = true := by decide
  clear hf hk
  unfold code5
  go_enter Tryd.func28, Tryd.ntmps28
  go_wp2_with (first
    | (go_at_call 31; refine (regR_any _ _).mono ?_; rintro e wx ⟨rfl, rfl⟩)
    | (go_at_call 27; refine (HF.out _).mono ?_; rintro e wx ⟨rfl, rfl⟩))
  go_ret
  exact ⟨rfl, (Below.refl _ _).alloc (Nat.le_refl _) _⟩
theorem m2_hi (k : Nat) (a b n : Int) (hk : k < 22) (hf : formN k = 2) (ra : regB a = true) (rb : regB b = true) (h0 : decide (-8192 ≤ n) = true) (h1 : decide (n ≤ 8191) = false) (w : World) :
    Calls Tryd.prog 28 #[code5 k a b 0 n] w fun e w' => e = .returned (.bool false) ∧ Below w.heap.size w w' := by
  have HF := hide (fun w => form_any k (by omega) w)
  rw [hf] at HF
  have hk1 : (k : Int) < 22 := by omega
  have hr : regB 0 = true := by decide
  clear hf hk
  unfold code5
  go_enter Tryd.func28, Tryd.ntmps28
  go_wp2_with (first
    | (go_at_call 31; refine (regR_any _ _).mono ?_; rintro e wx ⟨rfl, rfl⟩)
    | (go_at_call 27; refine (HF.out _).mono ?_; rintro e wx ⟨rfl, rfl⟩))
  go_ret
  exact ⟨rfl, (Below.refl _ _).alloc (Nat.le_refl _) _⟩
theorem m2_in (k : Nat) (a b n : Int) (hk : k < 22) (hf : formN k = 2) (ra : regB a = true) (rb : regB b = true) (h0 : decide (-8192 ≤ n) = true) (h1 : decide (n ≤ 8191) = true) (w : World) :
    Calls Tryd.prog 28 #[code5 k a b 0 n] w fun e w' => e = .returned (.bool true) ∧ Below w.heap.size w w' := by
  have HF := hide (fun w => form_any k (by omega) w)
  rw [hf] at HF
  have hk1 : (k : Int) < 22 := by omega
  have hr : regB 0 = true := by decide
  clear hf hk
  unfold code5
  go_enter Tryd.func28, Tryd.ntmps28
  go_wp2_with (first
    | (go_at_call 31; refine (regR_any _ _).mono ?_; rintro e wx ⟨rfl, rfl⟩)
    | (go_at_call 27; refine (HF.out _).mono ?_; rintro e wx ⟨rfl, rfl⟩))
  go_ret
  exact ⟨rfl, (Below.refl _ _).alloc (Nat.le_refl _) _⟩
theorem m2 (k : Nat) (a b c n : Int) (hk : k < 22) (hf : formN k = 2) (ra : regB a = true) (rb : regB b = true) (rc : regB c = true) (w : World) :
    Calls Tryd.prog 28 #[code5 k a b c n] w fun e w' => e = .returned (.bool (mayB k a b c n)) ∧ Below w.heap.size w w' := by
  have ba := regB_iff.1 ra
  have bb := regB_iff.1 rb
  have bc := regB_iff.1 rc
  by_cases hc : c = 0
  · subst hc
    by_cases hl : -8192 ≤ n
    · by_cases hh : n ≤ 8191
      · rw [yes_ hk hf (by omega) (by unfold MayP; omega)]
        exact m2_in k a b n hk hf ra rb (by simpa using hl) (by simpa using hh) w
      · rw [no_ hk hf (by omega) (by unfold MayP; omega)]
        exact m2_hi k a b n hk hf ra rb (by simpa using hl) (by simpa using hh) w
    · rw [no_ hk hf (by omega) (by unfold MayP; omega)]
      exact m2_lo k a b n hk hf ra rb (by simpa using hl) w
  · rw [no_ hk hf (by omega) (by unfold MayP; omega)]
    exact m2_c k a b c n hk hf ra rb rc (by rw [bne_iff_ne]; exact hc) w
theorem m3_c (k : Nat) (a b c n : Int) (hk : k < 22) (hf : formN k = 3) (ra : regB a = true) (rb : regB b = true) (rc : regB c = true) (h0 : (c != 0) = true) (w : World) :
    Calls Tryd.prog 28 #[code5 k a b c n] w fun e w' => e = .returned (.bool false) ∧ Below w.heap.size w w' := by
  have HF := hide (fun w => form_any k (by omega) w)
  rw [hf] at HF
  have hk1 : (k : Int) < 22 := by omega
  have hr : regB 0 = true := by decide
  clear hf hk
  unfold code5
  go_enter Tryd.func28, Tryd.ntmps28
  go_wp2_with (first
    | (go_at_call 31; refine (regR_any _ _).mono ?_; rintro e wx ⟨rfl, rfl⟩)
    | (go_at_call 27; refine (HF.out _).mono ?_; rintro e wx ⟨rfl, rfl⟩))
  go_ret
  exact ⟨rfl, (Below.refl _ _).alloc (Nat.le_refl _) _⟩
theorem m3_b (k : Nat) (a b n : Int) (hk : k < 22) (hf : formN k = 3) (ra : regB a = true) (rb : regB b = true) (h0 : (b != 0) = true) (w : World) :
    Calls Tryd.prog 28 #[code5 k a b 0 n] w fun e w' => e = .returned (.bool false) ∧ Below w.heap.size w w' := by
  have HF := hide (fun w => form_any k (by omega) w)
  rw [hf] at HF
  have hk1 : (k : Int) < 22 := by omega
  have hr : regB 0 = true := by decide
  clear hf hk
  unfold code5
  go_enter Tryd.func28, Tryd.ntmps28
  go_wp2_with (first
    | (go_at_call 31; refine (regR_any _ _).mono ?_; rintro e wx ⟨rfl, rfl⟩)
    | (go_at_call 27; refine (HF.out _).mono ?_; rintro e wx ⟨rfl, rfl⟩))
  go_ret
  exact ⟨rfl, (Below.refl _ _).alloc (Nat.le_refl _) _⟩
theorem m3_lo (k : Nat) (a n : Int) (hk : k < 22) (hf : formN k = 3) (ra : regB a = true) (h0 : decide (-2097152 ≤ n) = false) (w : World) :
    Calls Tryd.prog 28 #[code5 k a 0 0 n] w fun e w' => e = .returned (.bool false) ∧ Below w.heap.size w w' := by
  have HF := hide (fun w => form_any k (by omega) w)
  rw [hf] at HF
  have hk1 : (k : Int) < 22 := by omega
  have hr : regB 0 = true := by decide
  clear hf hk
  unfold code5
  go_enter Tryd.func28, Tryd.ntmps28
  go_wp2_with (first
    | (go_at_call 31; refine (regR_any _ _).mono ?_; rintro e wx ⟨rfl, rfl⟩)
    | (go_at_call 27; refine (HF.out _).mono ?_; rintro e wx ⟨rfl, rfl⟩))
  go_ret
  exact ⟨rfl, (Below.refl _ _).alloc (Nat.le_refl _) _⟩
theorem m3_hi (k : Nat) (a n : Int) (hk : k < 22) (hf : formN k = 3) (ra : regB a = true) (h0 : decide (-2097152 ≤ n) = true) (h1 : decide (n ≤ 2097151) = false) (w : World) :
    Calls Tryd.prog 28 #[code5 k a 0 0 n] w fun e w' => e = .returned (.bool false) ∧ Below w.heap.size w w' := by
  have HF := hide (fun w => form_any k (by omega) w)
  rw [hf] at HF
  have hk1 : (k : Int) < 22 := by omega
  have hr : regB 0 = true := by decide
  clear hf hk
  unfold code5
  go_enter Tryd.func28, Tryd.ntmps28
  go_wp2_with (first
    | (go_at_call 31; refine (regR_any _ _).mono ?_; rintro e wx ⟨rfl, rfl⟩)
    | (go_at_call 27; refine (HF.out _).mono ?_; rintro e wx ⟨rfl, rfl⟩))
  go_ret
  exact ⟨rfl, (Below.refl _ _).alloc (Nat.le_refl _) _⟩
theorem m3_in (k : Nat) (a n : Int) (hk : k < 22) (hf : formN k = 3) (ra : regB a = true) (h0 : decide (-2097152 ≤ n) = true) (h1 : decide (n ≤ 2097151) = true) (w : World) :
    Calls Tryd.prog 28 #[code5 k a 0 0 n] w fun e w' => e = .returned (.bool true) ∧ Below w.heap.size w w' := by
  have HF := hide (fun w => form_any k (by omega) w)
  rw [hf] at HF
  have hk1 : (k : Int) < 22 := by omega
  have hr : regB 0 = true := by decide
  clear hf hk
  unfold code5
  go_enter Tryd.func28, Tryd.ntmps28
  go_wp2_with (first
    | (go_at_call 31; refine (regR_any _ _).mono ?_; rintro e wx ⟨rfl, rfl⟩)
    | (go_at_call 27; refine (HF.out _).mono ?_; rintro e wx ⟨rfl, rfl⟩))
  go_ret
  exact ⟨rfl, (Below.refl _ _).alloc (Nat.le_refl _) _⟩
theorem m3 (k : Nat) (a b c n : Int) (hk : k < 22) (hf : formN k = 3) (ra : regB a = true) (rb : regB b = true) (rc : regB c = true) (w : World) :
    Calls Tryd.prog 28 #[code5 k a b c n] w fun e w' => e = .returned (.bool (mayB k a b c n)) ∧ Below w.heap.size w w' := by
  have ba := regB_iff.1 ra
  have bb := regB_iff.1 rb
  have bc := regB_iff.1 rc
  by_cases hc : c = 0
  · subst hc
    by_cases hb : b = 0
    · subst hb
      by_cases hl : -2097152 ≤ n
      · by_cases hh : n ≤ 2097151
        · rw [yes_ hk hf (by omega) (by unfold MayP; omega)]
          exact m3_in k a n hk hf ra (by simpa using hl) (by simpa using hh) w
        · rw [no_ hk hf (by omega) (by unfold MayP; omega)]
          exact m3_hi k a n hk hf ra (by simpa using hl) (by simpa using hh) w
      · rw [no_ hk hf (by omega) (by unfold MayP; omega)]
        exact m3_lo k a n hk hf ra (by simpa using hl) w
    · rw [no_ hk hf (by omega) (by unfold MayP; omega)]
      exact m3_b k a b n hk hf ra rb (by rw [bne_iff_ne]; exact hb) w
  · rw [no_ hk hf (by omega) (by unfold MayP; omega)]
    exact m3_c k a b c n hk hf ra rb rc (by rw [bne_iff_ne]; exact hc) w
theorem m4_c (k : Nat) (a b c n : Int) (hk : k < 22) (hf : formN k = 4) (ra : regB a = true) (rb : regB b = true) (rc : regB c = true) (h0 : (c != 0) = true) (w : World) :
    Calls Tryd.prog 28 #[code5 k a b c n] w fun e w' => e = .returned (.bool false) ∧ Below w.heap.size w w' := by
  have HF := hide (fun w => form_any k (by omega) w)
  rw [hf] at HF
  have hk1 : (k : Int) < 22 := by omega
  have hr : regB 0 = true := by decide
  clear hf hk
  unfold code5
  go_enter Tryd.func28, Tryd.ntmps28
  go_wp2_with (first
    | (go_at_call 31; refine (regR_any _ _).mono ?_; rintro e wx ⟨rfl, rfl⟩)
    | (go_at_call 27; refine (HF.out _).mono ?_; rintro e wx ⟨rfl, rfl⟩))
  go_ret
  exact ⟨rfl, (Below.refl _ _).alloc (Nat.le_refl _) _⟩
theorem m4_b (k : Nat) (a b n : Int) (hk : k < 22) (hf : formN k = 4) (ra : regB a = true) (rb : regB b = true) (h0 : (b != 0) = true) (w : World) :
    Calls Tryd.prog 28 #[code5 k a b 0 n] w fun e w' => e = .returned (.bool false) ∧ Below w.heap.size w w' := by
  have HF := hide (fun w => form_any k (by omega) w)
  rw [hf] at HF
  have hk1 : (k : Int) < 22 := by omega
  have hr : regB 0 = true := by decide
  clear hf hk
  unfold code5
  go_enter Tryd.func28, Tryd.ntmps28
  go_wp2_with (first
    | (go_at_call 31; refine (regR_any _ _).mono ?_; rintro e wx ⟨rfl, rfl⟩)
    | (go_at_call 27; refine (HF.out _).mono ?_; rintro e wx ⟨rfl, rfl⟩))
  go_ret
  exact ⟨rfl, (Below.refl _ _).alloc (Nat.le_refl _) _⟩
theorem m4_a (k : Nat) (a n : Int) (hk : k < 22) (hf : formN k = 4) (ra : regB a = true) (h0 : (a != 0) = true) (w : World) :
    Calls Tryd.prog 28 #[code5 k a 0 0 n] w fun e w' => e = .returned (.bool false) ∧ Below w.heap.size w w' := by
  have HF := hide (fun w => form_any k (by omega) w)
  rw [hf] at HF
  have hk1 : (k : Int) < 22 := by omega
  have hr : regB 0 = true := by decide
  clear hf hk
  unfold code5
  go_enter Tryd.func28, Tryd.ntmps28
  go_wp2_with (first
    | (go_at_call 31; refine (regR_any _ _).mono ?_; rintro e wx ⟨rfl, rfl⟩)
    | (go_at_call 27; refine (HF.out _).mono ?_; rintro e wx ⟨rfl, rfl⟩))
  go_ret
  exact ⟨rfl, (Below.refl _ _).alloc (Nat.le_refl _) _⟩
theorem m4_lo (k : Nat) (n : Int) (hk : k < 22) (hf : formN k = 4) (h0 : decide (-2097152 ≤ n) = false) (w : World) :
    Calls Tryd.prog 28 #[code5 k 0 0 0 n] w fun e w' => e = .returned (.bool false) ∧ Below w.heap.size w w' := by
  have HF := hide (fun w => form_any k (by omega) w)
  rw [hf] at HF
  have hk1 : (k : Int) < 22 := by omega
  have hr : regB 0 = true := by decide
  clear hf hk
  unfold code5
  go_enter Tryd.func28, Tryd.ntmps28
  go_wp2_with (first
    | (go_at_call 31; refine (regR_any _ _).mono ?_; rintro e wx ⟨rfl, rfl⟩)
    | (go_at_call 27; refine (HF.out _).mono ?_; rintro e wx ⟨rfl, rfl⟩))
  go_ret
  exact ⟨rfl, (Below.refl _ _).alloc (Nat.le_refl _) _⟩
theorem m4_hi (k : Nat) (n : Int) (hk : k < 22) (hf : formN k = 4) (h0 : decide (-2097152 ≤ n) = true) (h1 : decide (n ≤ 2097151) = false) (w : World) :
    Calls Tryd.prog 28 #[code5 k 0 0 0 n] w fun e w' => e = .returned (.bool false) ∧ Below w.heap.size w w' := by
  have HF := hide (fun w => form_any k (by omega) w)
  rw [hf] at HF
  have hk1 : (k : Int) < 22 := by omega
  have hr : regB 0 = true := by decide
  clear hf hk
  unfold code5
  go_enter Tryd.func28, Tryd.ntmps28
  go_wp2_with (first
    | (go_at_call 31; refine (regR_any _ _).mono ?_; rintro e wx ⟨rfl, rfl⟩)
    | (go_at_call 27; refine (HF.out _).mono ?_; rintro e wx ⟨rfl, rfl⟩))
  go_ret
  exact ⟨rfl, (Below.refl _ _).alloc (Nat.le_refl _) _⟩
theorem m4_in (k : Nat) (n : Int) (hk : k < 22) (hf : formN k = 4) (h0 : decide (-2097152 ≤ n) = true) (h1 : decide (n ≤ 2097151) = true) (w : World) :
    Calls Tryd.prog 28 #[code5 k 0 0 0 n] w fun e w' => e = .returned (.bool true) ∧ Below w.heap.size w w' := by
  have HF := hide (fun w => form_any k (by omega) w)
  rw [hf] at HF
  have hk1 : (k : Int) < 22 := by omega
  have hr : regB 0 = true := by decide
  clear hf hk
  unfold code5
  go_enter Tryd.func28, Tryd.ntmps28
  go_wp2_with (first
    | (go_at_call 31; refine (regR_any _ _).mono ?_; rintro e wx ⟨rfl, rfl⟩)
    | (go_at_call 27; refine (HF.out _).mono ?_; rintro e wx ⟨rfl, rfl⟩))
  go_ret
  exact ⟨rfl, (Below.refl _ _).alloc (Nat.le_refl _) _⟩
theorem m4 (k : Nat) (a b c n : Int) (hk : k < 22) (hf : formN k = 4) (ra : regB a = true) (rb : regB b = true) (rc : regB c = true) (w : World) :
    Calls Tryd.prog 28 #[code5 k a b c n] w fun e w' => e = .returned (.bool (mayB k a b c n)) ∧ Below w.heap.size w w' := by
  have ba := regB_iff.1 ra
  have bb := regB_iff.1 rb
  have bc := regB_iff.1 rc
  by_cases hc : c = 0
  · subst hc
    by_cases hb : b = 0
    · subst hb
      by_cases ha : a = 0
      · subst ha
        by_cases hl : -2097152 ≤ n
        · by_cases hh : n ≤ 2097151
          · rw [yes_ hk hf (by omega) (by unfold MayP; omega)]
            exact m4_in k n hk hf  (by simpa using hl) (by simpa using hh) w
          · rw [no_ hk hf (by omega) (by unfold MayP; omega)]
            exact m4_hi k n hk hf  (by simpa using hl) (by simpa using hh) w
        · rw [no_ hk hf (by omega) (by unfold MayP; omega)]
          exact m4_lo k n hk hf  (by simpa using hl) w
      · rw [no_ hk hf (by omega) (by unfold MayP; omega)]
        exact m4_a k a n hk hf ra (by rw [bne_iff_ne]; exact ha) w
    · rw [no_ hk hf (by omega) (by unfold MayP; omega)]
      exact m4_b k a b n hk hf ra rb (by rw [bne_iff_ne]; exact hb) w
  · rw [no_ hk hf (by omega) (by unfold MayP; omega)]
    exact m4_c k a b c n hk hf ra rb rc (by rw [bne_iff_ne]; exact hc) w
theorem m5_c (k : Nat) (a b c n : Int) (hk : k < 22) (hf : formN k = 5) (ra : regB a = true) (rb : regB b = true) (rc : regB c = true) (h0 : (c != 0) = true) (w : World) :
    Calls Tryd.prog 28 #[code5 k a b c n] w fun e w' => e = .returned (.bool false) ∧ Below w.heap.size w w' := by
  have HF := hide (fun w => form_any k (by omega) w)
  rw [hf] at HF
  have hk1 : (k : Int) < 22 := by omega
  have hr : regB 0 = true := by decide
  clear hf hk
  unfold code5
  go_enter Tryd.func28, Tryd.ntmps28
  go_wp2_with (first
    | (go_at_call 31; refine (regR_any _ _).mono ?_; rintro e wx ⟨rfl, rfl⟩)
    | (go_at_call 27; refine (HF.out _).mono ?_; rintro e wx ⟨rfl, rfl⟩))
  go_ret
  exact ⟨rfl, (Below.refl _ _).alloc (Nat.le_refl _) _⟩
theorem m5_b (k : Nat) (a b n : Int) (hk : k < 22) (hf : formN k = 5) (ra : regB a = true) (rb : regB b = true) (h0 : (b != 0) = true) (w : World) :
    Calls Tryd.prog 28 #[code5 k a b 0 n] w fun e w' => e = .returned (.bool false) ∧ Below w.heap.size w w' := by
  have HF := hide (fun w => form_any k (by omega) w)
  rw [hf] at HF
  have hk1 : (k : Int) < 22 := by omega
  have hr : regB 0 = true := by decide
  clear hf hk
  unfold code5
  go_enter Tryd.func28, Tryd.ntmps28
  go_wp2_with (first
    | (go_at_call 31; refine (regR_any _ _).mono ?_; rintro e wx ⟨rfl, rfl⟩)
    | (go_at_call 27; refine (HF.out _).mono ?_; rintro e wx ⟨rfl, rfl⟩))
  go_ret
  exact ⟨rfl, (Below.refl _ _).alloc (Nat.le_refl _) _⟩
theorem m5_a (k : Nat) (a n : Int) (hk : k < 22) (hf : formN k = 5) (ra : regB a = true) (h0 : (a != 0) = true) (w : World) :
    Calls Tryd.prog 28 #[code5 k a 0 0 n] w fun e w' => e = .returned (.bool false) ∧ Below w.heap.size w w' := by
  have HF := hide (fun w => form_any k (by omega) w)
  rw [hf] at HF
  have hk1 : (k : Int) < 22 := by omega
  have hr : regB 0 = true := by decide
  clear hf hk
  unfold code5
  go_enter Tryd.func28, Tryd.ntmps28
  go_wp2_with (first
    | (go_at_call 31; refine (regR_any _ _).mono ?_; rintro e wx ⟨rfl, rfl⟩)
    | (go_at_call 27; refine (HF.out _).mono ?_; rintro e wx ⟨rfl, rfl⟩))
  go_ret
  exact ⟨rfl, (Below.refl _ _).alloc (Nat.le_refl _) _⟩
theorem m5_lo (k : Nat) (n : Int) (hk : k < 22) (hf : formN k = 5) (h0 : decide (0 ≤ n) = false) (w : World) :
    Calls Tryd.prog 28 #[code5 k 0 0 0 n] w fun e w' => e = .returned (.bool false) ∧ Below w.heap.size w w' := by
  have HF := hide (fun w => form_any k (by omega) w)
  rw [hf] at HF
  have hk1 : (k : Int) < 22 := by omega
  have hr : regB 0 = true := by decide
  clear hf hk
  unfold code5
  go_enter Tryd.func28, Tryd.ntmps28
  go_wp2_with (first
    | (go_at_call 31; refine (regR_any _ _).mono ?_; rintro e wx ⟨rfl, rfl⟩)
    | (go_at_call 27; refine (HF.out _).mono ?_; rintro e wx ⟨rfl, rfl⟩))
  go_ret
  exact ⟨rfl, (Below.refl _ _).alloc (Nat.le_refl _) _⟩
theorem m5_hi (k : Nat) (n : Int) (hk : k < 22) (hf : formN k = 5) (h0 : decide (0 ≤ n) = true) (h1 : decide (n ≤ 255) = false) (w : World) :
    Calls Tryd.prog 28 #[code5 k 0 0 0 n] w fun e w' => e = .returned (.bool false) ∧ Below w.heap.size w w' := by
  have HF := hide (fun w => form_any k (by omega) w)
  rw [hf] at HF
  have hk1 : (k : Int) < 22 := by omega
  have hr : regB 0 = true := by decide
  clear hf hk
  unfold code5
  go_enter Tryd.func28, Tryd.ntmps28
  go_wp2_with (first
    | (go_at_call 31; refine (regR_any _ _).mono ?_; rintro e wx ⟨rfl, rfl⟩)
    | (go_at_call 27; refine (HF.out _).mono ?_; rintro e wx ⟨rfl, rfl⟩))
  go_ret
  exact ⟨rfl, (Below.refl _ _).alloc (Nat.le_refl _) _⟩
theorem m5_in (k : Nat) (n : Int) (hk : k < 22) (hf : formN k = 5) (h0 : decide (0 ≤ n) = true) (h1 : decide (n ≤ 255) = true) (w : World) :
    Calls Tryd.prog 28 #[code5 k 0 0 0 n] w fun e w' => e = .returned (.bool true) ∧ Below w.heap.size w w' := by
  have HF := hide (fun w => form_any k (by omega) w)
  rw [hf] at HF
  have hk1 : (k : Int) < 22 := by omega
  have hr : regB 0 = true := by decide
  clear hf hk
  unfold code5
  go_enter Tryd.func28, Tryd.ntmps28
  go_wp2_with (first
    | (go_at_call 31; refine (regR_any _ _).mono ?_; rintro e wx ⟨rfl, rfl⟩)
    | (go_at_call 27; refine (HF.out _).mono ?_; rintro e wx ⟨rfl, rfl⟩))
  go_ret
  exact ⟨rfl, (Below.refl _ _).alloc (Nat.le_refl _) _⟩
theorem m5 (k : Nat) (a b c n : Int) (hk : k < 22) (hf : formN k = 5) (ra : regB a = true) (rb : regB b = true) (rc : regB c = true) (w : World) :
    Calls Tryd.prog 28 #[code5 k a b c n] w fun e w' => e = .returned (.bool (mayB k a b c n)) ∧ Below w.heap.size w w' := by
  have ba := regB_iff.1 ra
  have bb := regB_iff.1 rb
  have bc := regB_iff.1 rc
  by_cases hc : c = 0
  · subst hc
    by_cases hb : b = 0
    · subst hb
      by_cases ha : a = 0
      · subst ha
        by_cases hl : 0 ≤ n
        · by_cases hh : n ≤ 255
          · rw [yes_ hk hf (by omega) (by unfold MayP; omega)]
            exact m5_in k n hk hf  (by simpa using hl) (by simpa using hh) w
          · rw [no_ hk hf (by omega) (by unfold MayP; omega)]
            exact m5_hi k n hk hf  (by simpa using hl) (by simpa using hh) w
        · rw [no_ hk hf (by omega) (by unfold MayP; omega)]
          exact m5_lo k n hk hf  (by simpa using hl) w
      · rw [no_ hk hf (by omega) (by unfold MayP; omega)]
        exact m5_a k a n hk hf ra (by rw [bne_iff_ne]; exact ha) w
    · rw [no_ hk hf (by omega) (by unfold MayP; omega)]
      exact m5_b k a b n hk hf ra rb (by rw [bne_iff_ne]; exact hb) w
  · rw [no_ hk hf (by omega) (by unfold MayP; omega)]
    exact m5_c k a b c n hk hf ra rb rc (by rw [bne_iff_ne]; exact hc) w
theorem m6_c (k : Nat) (a b c n : Int) (hk : k < 22) (hf : formN k = 6) (ra : regB a = true) (rb : regB b = true) (rc : regB c = true) (h0 : (c != 0) = true) (w : World) :
    Calls Tryd.prog 28 #[code5 k a b c n] w fun e w' => e = .returned (.bool false) ∧ Below w.heap.size w w' := by
  have HF := hide (fun w => form_any k (by omega) w)
  rw [hf] at HF
  have hk1 : (k : Int) < 22 := by omega
  have hr : regB 0 = true := by decide
  clear hf hk
  unfold code5
  go_enter Tryd.func28, Tryd.ntmps28
  go_wp2_with (first
    | (go_at_call 31; refine (regR_any _ _).mono ?_; rintro e wx ⟨rfl, rfl⟩)
    | (go_at_call 27; refine (HF.out _).mono ?_; rintro e wx ⟨rfl, rfl⟩))
  go_ret
  exact ⟨rfl, (Below.refl _ _).alloc (Nat.le_refl _) _⟩
theorem m6_b (k : Nat) (a b n : Int) (hk : k < 22) (hf : formN k = 6) (ra : regB a = true) (rb : regB b = true) (h0 : (b != 0) = true) (w : World) :
    Calls Tryd.prog 28 #[code5 k a b 0 n] w fun e w' => e = .returned (.bool false) ∧ Below w.heap.size w w' := by
  have HF := hide (fun w => form_any k (by omega) w)
  rw [hf] at HF
  have hk1 : (k : Int) < 22 := by omega
  have hr : regB 0 = true := by decide
  clear hf hk
  unfold code5
  go_enter Tryd.func28, Tryd.ntmps28
  go_wp2_with (first
    | (go_at_call 31; refine (regR_any _ _).mono ?_; rintro e wx ⟨rfl, rfl⟩)
    | (go_at_call 27; refine (HF.out _).mono ?_; rintro e wx ⟨rfl, rfl⟩))
  go_ret
  exact ⟨rfl, (Below.refl _ _).alloc (Nat.le_refl _) _⟩
theorem m6_n (k : Nat) (a n : Int) (hk : k < 22) (hf : formN k = 6) (ra : regB a = true) (h0 : (n == 0) = false) (w : World) :
    Calls Tryd.prog 28 #[code5 k a 0 0 n] w fun e w' => e = .returned (.bool false) ∧ Below w.heap.size w w' := by
  have HF := hide (fun w => form_any k (by omega) w)
  rw [hf] at HF
  have hk1 : (k : Int) < 22 := by omega
  have hr : regB 0 = true := by decide
  clear hf hk
  unfold code5
  go_enter Tryd.func28, Tryd.ntmps28
  go_wp2_with (first
    | (go_at_call 31; refine (regR_any _ _).mono ?_; rintro e wx ⟨rfl, rfl⟩)
    | (go_at_call 27; refine (HF.out _).mono ?_; rintro e wx ⟨rfl, rfl⟩))
  go_ret
  exact ⟨rfl, (Below.refl _ _).alloc (Nat.le_refl _) _⟩
theorem m6_z (k : Nat) (a : Int) (hk : k < 22) (hf : formN k = 6) (ra : regB a = true) (w : World) :
    Calls Tryd.prog 28 #[code5 k a 0 0 0] w fun e w' => e = .returned (.bool true) ∧ Below w.heap.size w w' := by
  have HF := hide (fun w => form_any k (by omega) w)
  rw [hf] at HF
  have hk1 : (k : Int) < 22 := by omega
  have hr : regB 0 = true := by decide
  clear hf hk
  unfold code5
  go_enter Tryd.func28, Tryd.ntmps28
  go_wp2_with (first
    | (go_at_call 31; refine (regR_any _ _).mono ?_; rintro e wx ⟨rfl, rfl⟩)
    | (go_at_call 27; refine (HF.out _).mono ?_; rintro e wx ⟨rfl, rfl⟩))
  go_ret
  exact ⟨rfl, (Below.refl _ _).alloc (Nat.le_refl _) _⟩
theorem m6 (k : Nat) (a b c n : Int) (hk : k < 22) (hf : formN k = 6) (ra : regB a = true) (rb : regB b = true) (rc : regB c = true) (w : World) :
    Calls Tryd.prog 28 #[code5 k a b c n] w fun e w' => e = .returned (.bool (mayB k a b c n)) ∧ Below w.heap.size w w' := by
  have ba := regB_iff.1 ra
  have bb := regB_iff.1 rb
  have bc := regB_iff.1 rc
  by_cases hc : c = 0
  · subst hc
    by_cases hb : b = 0
    · subst hb
      by_cases hn : n = 0
      · subst hn
        rw [yes_ hk hf (by omega) (by unfold MayP; omega)]
        exact m6_z k a hk hf ra w
      · rw [no_ hk hf (by omega) (by unfold MayP; omega)]
        exact m6_n k a n hk hf ra (by rw [beq_eq_false_iff_ne]; exact hn) w
    · rw [no_ hk hf (by omega) (by unfold MayP; omega)]
      exact m6_b k a b n hk hf ra rb (by rw [bne_iff_ne]; exact hb) w
  · rw [no_ hk hf (by omega) (by unfold MayP; omega)]
    exact m6_c k a b c n hk hf ra rb rc (by rw [bne_iff_ne]; exact hc) w
theorem may_any (k : Nat) (a b c n : Int) (hk0 : k ≤ 255) (w : World) :
    Calls Tryd.prog 28 #[code5 k a b c n] w fun e w' => e = .returned (.bool (mayB k a b c n)) ∧ Below w.heap.size w w' := by
  by_cases hk : k < 22
  · have hl := formN_lt k
    have hno : ∀ x, regB x = false → ¬ (0 ≤ x ∧ x < 16) := fun x h e => by rw [regB_iff.2 e] at h; cases h
    cases ra : regB a
    · have := hno a ra
      rw [no_ hk rfl hl (by unfold MayP; omega)]
      exact reg_a k a b c n hk ra w
    cases rb : regB b
    · have := hno b rb
      rw [no_ hk rfl hl (by unfold MayP; omega)]
      exact reg_b k a b c n hk ra rb w
    cases rc : regB c
    · have := hno c rc
      rw [no_ hk rfl hl (by unfold MayP; omega)]
      exact reg_c k a b c n hk ra rb rc w
    have : formN k = 0 ∨ formN k = 1 ∨ formN k = 2 ∨ formN k = 3 ∨ formN k = 4 ∨ formN k = 5 ∨ formN k = 6 := by omega
    rcases this with h | h | h | h | h | h | h
    · exact m0 k a b c n hk h ra rb rc w
    · exact m1 k a b c n hk h ra rb rc w
    · exact m2 k a b c n hk h ra rb rc w
    · exact m3 k a b c n hk h ra rb rc w
    · exact m4 k a b c n hk h ra rb rc w
    · exact m5 k a b c n hk h ra rb rc w
    · exact m6 k a b c n hk h ra rb rc w
  · have he : mayB k a b c n = false := by simp [mayB, hk]
    rw [he]
    have hk1 : 21 < (k : Int) := by omega
    clear he hk
    unfold code5
    go_enter Tryd.func28, Tryd.ntmps28
    go_wp2
    go_ret
    exact ⟨rfl, (Below.refl _ _).alloc (Nat.le_refl _) _⟩
end Go.Proofs.YtdaglmoibijdeaaDoor.CodeRefMay
