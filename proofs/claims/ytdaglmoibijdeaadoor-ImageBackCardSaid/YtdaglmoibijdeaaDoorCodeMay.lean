/-
  May of the layer 'code' walked, over the table of the forms.
-/
import Derived.Test.YtdaglmoibijdeaaDoorCodeUsedA
import Derived.Test.YtdaglmoibijdeaaDoorCodeUsedB
import Derived.Test.YtdaglmoibijdeaaDoorCodeUsedC
namespace Go.Proofs.YtdaglmoibijdeaaDoor.CodeMay
open Go.RowKit Base CodePlain CodeBits CodeTab CodeUsed
set_option linter.unusedVariables false

theorem may0_0 (k : Nat) (a b c n : Int) (hk : k < 22) (hf : formN k = 0) (ho : okB 0 a b c n = true) (h0 : (0 == a) = false) (w : World) (hT : Tab w) :
    Calls Tryd.prog 30 #[code5 k a b c n] w fun e w' => e = .returned (.int .i64 2) ∧ Below w.heap.size w w' := by
  have HU := hide (fun w hT => used0 k a b c n hk hf w hT)
  rw [ho] at HU
  have HT := hide (hT.below ((Below.refl w.heap.size w).alloc (Nat.le_refl _) (.cells #[.int .u8 (k : Int), .int .i64 a, .int .i64 b, .int .i64 c, .int .i64 n] 38)))
  have hk1 : (k : Int) < 22 := by omega
  clear hf hT ho hk
  unfold code5 at *
  go_enter Tryd.func30, Tryd.ntmps30
  go_wp2_with fail
  refine (HU.out _ HT.out).mono ?_
  rintro e w1 ⟨rfl, hb1⟩
  have c1 := c5_of (((Blk.new w 38 #[.int .u8 (k : Int), .int .i64 a, .int .i64 b, .int .i64 c, .int .i64 n]).below hb1 (by simp)).alloc (.cells #[.int .u8 (k : Int), .int .i64 0, .int .i64 0, .int .i64 0, .int .i64 0] 38))
  have HB := hide hb1
  clear hb1
  go_wp2
  go_ret
  exact ⟨rfl, (((Below.refl w.heap.size w).alloc (Nat.le_refl _) _).trans (HB.out.mono (by simp))).alloc (Nat.le_trans (by simp) HB.out.size) _⟩
theorem may0_1 (k : Nat) (b c n : Int) (hk : k < 22) (hf : formN k = 0) (ho : okB 0 0 b c n = true) (h0 : (0 == b) = false) (w : World) (hT : Tab w) :
    Calls Tryd.prog 30 #[code5 k 0 b c n] w fun e w' => e = .returned (.int .i64 2) ∧ Below w.heap.size w w' := by
  have HU := hide (fun w hT => used0 k 0 b c n hk hf w hT)
  rw [ho] at HU
  have HT := hide (hT.below ((Below.refl w.heap.size w).alloc (Nat.le_refl _) (.cells #[.int .u8 (k : Int), .int .i64 0, .int .i64 b, .int .i64 c, .int .i64 n] 38)))
  have hk1 : (k : Int) < 22 := by omega
  clear hf hT ho hk
  unfold code5 at *
  go_enter Tryd.func30, Tryd.ntmps30
  go_wp2_with fail
  refine (HU.out _ HT.out).mono ?_
  rintro e w1 ⟨rfl, hb1⟩
  have c1 := c5_of (((Blk.new w 38 #[.int .u8 (k : Int), .int .i64 0, .int .i64 b, .int .i64 c, .int .i64 n]).below hb1 (by simp)).alloc (.cells #[.int .u8 (k : Int), .int .i64 0, .int .i64 0, .int .i64 0, .int .i64 0] 38))
  have HB := hide hb1
  clear hb1
  go_wp2
  go_ret
  exact ⟨rfl, (((Below.refl w.heap.size w).alloc (Nat.le_refl _) _).trans (HB.out.mono (by simp))).alloc (Nat.le_trans (by simp) HB.out.size) _⟩
theorem may0_2 (k : Nat) (c n : Int) (hk : k < 22) (hf : formN k = 0) (ho : okB 0 0 0 c n = true) (h0 : (0 == c) = false) (w : World) (hT : Tab w) :
    Calls Tryd.prog 30 #[code5 k 0 0 c n] w fun e w' => e = .returned (.int .i64 2) ∧ Below w.heap.size w w' := by
  have HU := hide (fun w hT => used0 k 0 0 c n hk hf w hT)
  rw [ho] at HU
  have HT := hide (hT.below ((Below.refl w.heap.size w).alloc (Nat.le_refl _) (.cells #[.int .u8 (k : Int), .int .i64 0, .int .i64 0, .int .i64 c, .int .i64 n] 38)))
  have hk1 : (k : Int) < 22 := by omega
  clear hf hT ho hk
  unfold code5 at *
  go_enter Tryd.func30, Tryd.ntmps30
  go_wp2_with fail
  refine (HU.out _ HT.out).mono ?_
  rintro e w1 ⟨rfl, hb1⟩
  have c1 := c5_of (((Blk.new w 38 #[.int .u8 (k : Int), .int .i64 0, .int .i64 0, .int .i64 c, .int .i64 n]).below hb1 (by simp)).alloc (.cells #[.int .u8 (k : Int), .int .i64 0, .int .i64 0, .int .i64 0, .int .i64 0] 38))
  have HB := hide hb1
  clear hb1
  go_wp2
  go_ret
  exact ⟨rfl, (((Below.refl w.heap.size w).alloc (Nat.le_refl _) _).trans (HB.out.mono (by simp))).alloc (Nat.le_trans (by simp) HB.out.size) _⟩
theorem may0_3 (k : Nat) (n : Int) (hk : k < 22) (hf : formN k = 0) (ho : okB 0 0 0 0 n = true) (h0 : (0 == n) = false) (w : World) (hT : Tab w) :
    Calls Tryd.prog 30 #[code5 k 0 0 0 n] w fun e w' => e = .returned (.int .i64 2) ∧ Below w.heap.size w w' := by
  have HU := hide (fun w hT => used0 k 0 0 0 n hk hf w hT)
  rw [ho] at HU
  have HT := hide (hT.below ((Below.refl w.heap.size w).alloc (Nat.le_refl _) (.cells #[.int .u8 (k : Int), .int .i64 0, .int .i64 0, .int .i64 0, .int .i64 n] 38)))
  have hk1 : (k : Int) < 22 := by omega
  clear hf hT ho hk
  unfold code5 at *
  go_enter Tryd.func30, Tryd.ntmps30
  go_wp2_with fail
  refine (HU.out _ HT.out).mono ?_
  rintro e w1 ⟨rfl, hb1⟩
  have c1 := c5_of (((Blk.new w 38 #[.int .u8 (k : Int), .int .i64 0, .int .i64 0, .int .i64 0, .int .i64 n]).below hb1 (by simp)).alloc (.cells #[.int .u8 (k : Int), .int .i64 0, .int .i64 0, .int .i64 0, .int .i64 0] 38))
  have HB := hide hb1
  clear hb1
  go_wp2
  go_ret
  exact ⟨rfl, (((Below.refl w.heap.size w).alloc (Nat.le_refl _) _).trans (HB.out.mono (by simp))).alloc (Nat.le_trans (by simp) HB.out.size) _⟩
theorem may0_ok (k : Nat) (hk : k < 22) (hf : formN k = 0) (ho : okB 0 0 0 0 0 = true) (w : World) (hT : Tab w) :
    Calls Tryd.prog 30 #[code5 k 0 0 0 0] w fun e w' => e = .returned (.int .i64 0) ∧ Below w.heap.size w w' := by
  have HU := hide (fun w hT => used0 k 0 0 0 0 hk hf w hT)
  rw [ho] at HU
  have HT := hide (hT.below ((Below.refl w.heap.size w).alloc (Nat.le_refl _) (.cells #[.int .u8 (k : Int), .int .i64 0, .int .i64 0, .int .i64 0, .int .i64 0] 38)))
  have hk1 : (k : Int) < 22 := by omega
  clear hf hT ho hk
  unfold code5 at *
  go_enter Tryd.func30, Tryd.ntmps30
  go_wp2_with fail
  refine (HU.out _ HT.out).mono ?_
  rintro e w1 ⟨rfl, hb1⟩
  have c1 := c5_of (((Blk.new w 38 #[.int .u8 (k : Int), .int .i64 0, .int .i64 0, .int .i64 0, .int .i64 0]).below hb1 (by simp)).alloc (.cells #[.int .u8 (k : Int), .int .i64 0, .int .i64 0, .int .i64 0, .int .i64 0] 38))
  have HB := hide hb1
  clear hb1
  go_wp2
  go_ret
  exact ⟨rfl, (((Below.refl w.heap.size w).alloc (Nat.le_refl _) _).trans (HB.out.mono (by simp))).alloc (Nat.le_trans (by simp) HB.out.size) _⟩
theorem may0 (k : Nat) (a b c n : Int) (hk : k < 22) (hf : formN k = 0) (w : World) (hT : Tab w) :
    Calls Tryd.prog 30 #[code5 k a b c n] w fun e w' => e = .returned (.int .i64 (errX k a b c n)) ∧ Below w.heap.size w w' := by
  have he : errX k a b c n = if mayF 0 a b c n = true then 0 else 2 := by simp [errX, mayB, hk, hf]
  rw [he]
  have ho : okB 0 a b c n = true := rfl
  by_cases ha : 0 = a
  · subst ha
    by_cases hb : 0 = b
    · subst hb
      by_cases hc : 0 = c
      · subst hc
        by_cases hn : 0 = n
        · subst hn
          rw [if_pos (by rw [mayF, ho]; simp [sameB, uA, uB, uC, uN])]
          exact may0_ok k  hk hf ho w hT
        · rw [if_neg (by simp [mayF, sameB, uA, uB, uC, uN]; intros; omega)]
          exact may0_3 k n hk hf ho (by rw [beq_eq_false_iff_ne]; exact hn) w hT
      · rw [if_neg (by simp [mayF, sameB, uA, uB, uC, uN]; intros; omega)]
        exact may0_2 k c n hk hf ho (by rw [beq_eq_false_iff_ne]; exact hc) w hT
    · rw [if_neg (by simp [mayF, sameB, uA, uB, uC, uN]; intros; omega)]
      exact may0_1 k b c n hk hf ho (by rw [beq_eq_false_iff_ne]; exact hb) w hT
  · rw [if_neg (by simp [mayF, sameB, uA, uB, uC, uN]; intros; omega)]
    exact may0_0 k a b c n hk hf ho (by rw [beq_eq_false_iff_ne]; exact ha) w hT
theorem may1_no (k : Nat) (a b c n : Int) (hk : k < 22) (hf : formN k = 1) (ho : okB 1 a b c n = false) (w : World) (hT : Tab w) :
    Calls Tryd.prog 30 #[code5 k a b c n] w fun e w' => e = .returned (.int .i64 2) ∧ Below w.heap.size w w' := by
  have HU := hide (fun w hT => used1 k a b c n hk hf w hT)
  rw [ho] at HU
  have HT := hide (hT.below ((Below.refl w.heap.size w).alloc (Nat.le_refl _) (.cells #[.int .u8 (k : Int), .int .i64 a, .int .i64 b, .int .i64 c, .int .i64 n] 38)))
  have hk1 : (k : Int) < 22 := by omega
  clear hf hT ho hk
  unfold code5 at *
  go_enter Tryd.func30, Tryd.ntmps30
  go_wp2_with fail
  refine (HU.out _ HT.out).mono ?_
  rintro e w1 ⟨rfl, hb1⟩
  have c1 := c5_of (((Blk.new w 38 #[.int .u8 (k : Int), .int .i64 a, .int .i64 b, .int .i64 c, .int .i64 n]).below hb1 (by simp)).alloc (.cells #[.int .u8 (k : Int), .int .i64 a, .int .i64 b, .int .i64 c, .int .i64 0] 38))
  have HB := hide hb1
  clear hb1
  go_wp2
  go_ret
  exact ⟨rfl, (((Below.refl w.heap.size w).alloc (Nat.le_refl _) _).trans (HB.out.mono (by simp))).alloc (Nat.le_trans (by simp) HB.out.size) _⟩
theorem may1_0 (k : Nat) (a b c n : Int) (hk : k < 22) (hf : formN k = 1) (ho : okB 1 a b c n = true) (h0 : (0 == n) = false) (w : World) (hT : Tab w) :
    Calls Tryd.prog 30 #[code5 k a b c n] w fun e w' => e = .returned (.int .i64 2) ∧ Below w.heap.size w w' := by
  have HU := hide (fun w hT => used1 k a b c n hk hf w hT)
  rw [ho] at HU
  have HT := hide (hT.below ((Below.refl w.heap.size w).alloc (Nat.le_refl _) (.cells #[.int .u8 (k : Int), .int .i64 a, .int .i64 b, .int .i64 c, .int .i64 n] 38)))
  have hk1 : (k : Int) < 22 := by omega
  clear hf hT ho hk
  unfold code5 at *
  go_enter Tryd.func30, Tryd.ntmps30
  go_wp2_with fail
  refine (HU.out _ HT.out).mono ?_
  rintro e w1 ⟨rfl, hb1⟩
  have c1 := c5_of (((Blk.new w 38 #[.int .u8 (k : Int), .int .i64 a, .int .i64 b, .int .i64 c, .int .i64 n]).below hb1 (by simp)).alloc (.cells #[.int .u8 (k : Int), .int .i64 a, .int .i64 b, .int .i64 c, .int .i64 0] 38))
  have HB := hide hb1
  clear hb1
  go_wp2
  go_ret
  exact ⟨rfl, (((Below.refl w.heap.size w).alloc (Nat.le_refl _) _).trans (HB.out.mono (by simp))).alloc (Nat.le_trans (by simp) HB.out.size) _⟩
theorem may1_ok (k : Nat) (a b c : Int) (hk : k < 22) (hf : formN k = 1) (ho : okB 1 a b c 0 = true) (w : World) (hT : Tab w) :
    Calls Tryd.prog 30 #[code5 k a b c 0] w fun e w' => e = .returned (.int .i64 0) ∧ Below w.heap.size w w' := by
  have HU := hide (fun w hT => used1 k a b c 0 hk hf w hT)
  rw [ho] at HU
  have HT := hide (hT.below ((Below.refl w.heap.size w).alloc (Nat.le_refl _) (.cells #[.int .u8 (k : Int), .int .i64 a, .int .i64 b, .int .i64 c, .int .i64 0] 38)))
  have hk1 : (k : Int) < 22 := by omega
  clear hf hT ho hk
  unfold code5 at *
  go_enter Tryd.func30, Tryd.ntmps30
  go_wp2_with fail
  refine (HU.out _ HT.out).mono ?_
  rintro e w1 ⟨rfl, hb1⟩
  have c1 := c5_of (((Blk.new w 38 #[.int .u8 (k : Int), .int .i64 a, .int .i64 b, .int .i64 c, .int .i64 0]).below hb1 (by simp)).alloc (.cells #[.int .u8 (k : Int), .int .i64 a, .int .i64 b, .int .i64 c, .int .i64 0] 38))
  have HB := hide hb1
  clear hb1
  go_wp2
  go_ret
  exact ⟨rfl, (((Below.refl w.heap.size w).alloc (Nat.le_refl _) _).trans (HB.out.mono (by simp))).alloc (Nat.le_trans (by simp) HB.out.size) _⟩
theorem may1 (k : Nat) (a b c n : Int) (hk : k < 22) (hf : formN k = 1) (w : World) (hT : Tab w) :
    Calls Tryd.prog 30 #[code5 k a b c n] w fun e w' => e = .returned (.int .i64 (errX k a b c n)) ∧ Below w.heap.size w w' := by
  have he : errX k a b c n = if mayF 1 a b c n = true then 0 else 2 := by simp [errX, mayB, hk, hf]
  rw [he]
  cases ho : okB 1 a b c n
  · rw [if_neg (by simp [mayF, ho])]
    exact may1_no k a b c n hk hf ho w hT
  · skip
    by_cases hn : 0 = n
    · subst hn
      rw [if_pos (by rw [mayF, ho]; simp [sameB, uA, uB, uC, uN])]
      exact may1_ok k a b c hk hf ho w hT
    · rw [if_neg (by simp [mayF, sameB, uA, uB, uC, uN]; intros; omega)]
      exact may1_0 k a b c n hk hf ho (by rw [beq_eq_false_iff_ne]; exact hn) w hT
theorem may2_no (k : Nat) (a b c n : Int) (hk : k < 22) (hf : formN k = 2) (ho : okB 2 a b c n = false) (w : World) (hT : Tab w) :
    Calls Tryd.prog 30 #[code5 k a b c n] w fun e w' => e = .returned (.int .i64 2) ∧ Below w.heap.size w w' := by
  have HU := hide (fun w hT => used2 k a b c n hk hf w hT)
  rw [ho] at HU
  have HT := hide (hT.below ((Below.refl w.heap.size w).alloc (Nat.le_refl _) (.cells #[.int .u8 (k : Int), .int .i64 a, .int .i64 b, .int .i64 c, .int .i64 n] 38)))
  have hk1 : (k : Int) < 22 := by omega
  clear hf hT ho hk
  unfold code5 at *
  go_enter Tryd.func30, Tryd.ntmps30
  go_wp2_with fail
  refine (HU.out _ HT.out).mono ?_
  rintro e w1 ⟨rfl, hb1⟩
  have c1 := c5_of (((Blk.new w 38 #[.int .u8 (k : Int), .int .i64 a, .int .i64 b, .int .i64 c, .int .i64 n]).below hb1 (by simp)).alloc (.cells #[.int .u8 (k : Int), .int .i64 a, .int .i64 b, .int .i64 0, .int .i64 n] 38))
  have HB := hide hb1
  clear hb1
  go_wp2
  go_ret
  exact ⟨rfl, (((Below.refl w.heap.size w).alloc (Nat.le_refl _) _).trans (HB.out.mono (by simp))).alloc (Nat.le_trans (by simp) HB.out.size) _⟩
theorem may2_0 (k : Nat) (a b c n : Int) (hk : k < 22) (hf : formN k = 2) (ho : okB 2 a b c n = true) (h0 : (0 == c) = false) (w : World) (hT : Tab w) :
    Calls Tryd.prog 30 #[code5 k a b c n] w fun e w' => e = .returned (.int .i64 2) ∧ Below w.heap.size w w' := by
  have HU := hide (fun w hT => used2 k a b c n hk hf w hT)
  rw [ho] at HU
  have HT := hide (hT.below ((Below.refl w.heap.size w).alloc (Nat.le_refl _) (.cells #[.int .u8 (k : Int), .int .i64 a, .int .i64 b, .int .i64 c, .int .i64 n] 38)))
  have hk1 : (k : Int) < 22 := by omega
  clear hf hT ho hk
  unfold code5 at *
  go_enter Tryd.func30, Tryd.ntmps30
  go_wp2_with fail
  refine (HU.out _ HT.out).mono ?_
  rintro e w1 ⟨rfl, hb1⟩
  have c1 := c5_of (((Blk.new w 38 #[.int .u8 (k : Int), .int .i64 a, .int .i64 b, .int .i64 c, .int .i64 n]).below hb1 (by simp)).alloc (.cells #[.int .u8 (k : Int), .int .i64 a, .int .i64 b, .int .i64 0, .int .i64 n] 38))
  have HB := hide hb1
  clear hb1
  go_wp2
  go_ret
  exact ⟨rfl, (((Below.refl w.heap.size w).alloc (Nat.le_refl _) _).trans (HB.out.mono (by simp))).alloc (Nat.le_trans (by simp) HB.out.size) _⟩
theorem may2_ok (k : Nat) (a b n : Int) (hk : k < 22) (hf : formN k = 2) (ho : okB 2 a b 0 n = true) (w : World) (hT : Tab w) :
    Calls Tryd.prog 30 #[code5 k a b 0 n] w fun e w' => e = .returned (.int .i64 0) ∧ Below w.heap.size w w' := by
  have HU := hide (fun w hT => used2 k a b 0 n hk hf w hT)
  rw [ho] at HU
  have HT := hide (hT.below ((Below.refl w.heap.size w).alloc (Nat.le_refl _) (.cells #[.int .u8 (k : Int), .int .i64 a, .int .i64 b, .int .i64 0, .int .i64 n] 38)))
  have hk1 : (k : Int) < 22 := by omega
  clear hf hT ho hk
  unfold code5 at *
  go_enter Tryd.func30, Tryd.ntmps30
  go_wp2_with fail
  refine (HU.out _ HT.out).mono ?_
  rintro e w1 ⟨rfl, hb1⟩
  have c1 := c5_of (((Blk.new w 38 #[.int .u8 (k : Int), .int .i64 a, .int .i64 b, .int .i64 0, .int .i64 n]).below hb1 (by simp)).alloc (.cells #[.int .u8 (k : Int), .int .i64 a, .int .i64 b, .int .i64 0, .int .i64 n] 38))
  have HB := hide hb1
  clear hb1
  go_wp2
  go_ret
  exact ⟨rfl, (((Below.refl w.heap.size w).alloc (Nat.le_refl _) _).trans (HB.out.mono (by simp))).alloc (Nat.le_trans (by simp) HB.out.size) _⟩
theorem may2 (k : Nat) (a b c n : Int) (hk : k < 22) (hf : formN k = 2) (w : World) (hT : Tab w) :
    Calls Tryd.prog 30 #[code5 k a b c n] w fun e w' => e = .returned (.int .i64 (errX k a b c n)) ∧ Below w.heap.size w w' := by
  have he : errX k a b c n = if mayF 2 a b c n = true then 0 else 2 := by simp [errX, mayB, hk, hf]
  rw [he]
  cases ho : okB 2 a b c n
  · rw [if_neg (by simp [mayF, ho])]
    exact may2_no k a b c n hk hf ho w hT
  · skip
    by_cases hc : 0 = c
    · subst hc
      rw [if_pos (by rw [mayF, ho]; simp [sameB, uA, uB, uC, uN])]
      exact may2_ok k a b n hk hf ho w hT
    · rw [if_neg (by simp [mayF, sameB, uA, uB, uC, uN]; intros; omega)]
      exact may2_0 k a b c n hk hf ho (by rw [beq_eq_false_iff_ne]; exact hc) w hT
theorem may3_no (k : Nat) (a b c n : Int) (hk : k < 22) (hf : formN k = 3) (ho : okB 3 a b c n = false) (w : World) (hT : Tab w) :
    Calls Tryd.prog 30 #[code5 k a b c n] w fun e w' => e = .returned (.int .i64 2) ∧ Below w.heap.size w w' := by
  have HU := hide (fun w hT => used3 k a b c n hk hf w hT)
  rw [ho] at HU
  have HT := hide (hT.below ((Below.refl w.heap.size w).alloc (Nat.le_refl _) (.cells #[.int .u8 (k : Int), .int .i64 a, .int .i64 b, .int .i64 c, .int .i64 n] 38)))
  have hk1 : (k : Int) < 22 := by omega
  clear hf hT ho hk
  unfold code5 at *
  go_enter Tryd.func30, Tryd.ntmps30
  go_wp2_with fail
  refine (HU.out _ HT.out).mono ?_
  rintro e w1 ⟨rfl, hb1⟩
  have c1 := c5_of (((Blk.new w 38 #[.int .u8 (k : Int), .int .i64 a, .int .i64 b, .int .i64 c, .int .i64 n]).below hb1 (by simp)).alloc (.cells #[.int .u8 (k : Int), .int .i64 a, .int .i64 0, .int .i64 0, .int .i64 n] 38))
  have HB := hide hb1
  clear hb1
  go_wp2
  go_ret
  exact ⟨rfl, (((Below.refl w.heap.size w).alloc (Nat.le_refl _) _).trans (HB.out.mono (by simp))).alloc (Nat.le_trans (by simp) HB.out.size) _⟩
theorem may3_0 (k : Nat) (a b c n : Int) (hk : k < 22) (hf : formN k = 3) (ho : okB 3 a b c n = true) (h0 : (0 == b) = false) (w : World) (hT : Tab w) :
    Calls Tryd.prog 30 #[code5 k a b c n] w fun e w' => e = .returned (.int .i64 2) ∧ Below w.heap.size w w' := by
  have HU := hide (fun w hT => used3 k a b c n hk hf w hT)
  rw [ho] at HU
  have HT := hide (hT.below ((Below.refl w.heap.size w).alloc (Nat.le_refl _) (.cells #[.int .u8 (k : Int), .int .i64 a, .int .i64 b, .int .i64 c, .int .i64 n] 38)))
  have hk1 : (k : Int) < 22 := by omega
  clear hf hT ho hk
  unfold code5 at *
  go_enter Tryd.func30, Tryd.ntmps30
  go_wp2_with fail
  refine (HU.out _ HT.out).mono ?_
  rintro e w1 ⟨rfl, hb1⟩
  have c1 := c5_of (((Blk.new w 38 #[.int .u8 (k : Int), .int .i64 a, .int .i64 b, .int .i64 c, .int .i64 n]).below hb1 (by simp)).alloc (.cells #[.int .u8 (k : Int), .int .i64 a, .int .i64 0, .int .i64 0, .int .i64 n] 38))
  have HB := hide hb1
  clear hb1
  go_wp2
  go_ret
  exact ⟨rfl, (((Below.refl w.heap.size w).alloc (Nat.le_refl _) _).trans (HB.out.mono (by simp))).alloc (Nat.le_trans (by simp) HB.out.size) _⟩
theorem may3_1 (k : Nat) (a c n : Int) (hk : k < 22) (hf : formN k = 3) (ho : okB 3 a 0 c n = true) (h0 : (0 == c) = false) (w : World) (hT : Tab w) :
    Calls Tryd.prog 30 #[code5 k a 0 c n] w fun e w' => e = .returned (.int .i64 2) ∧ Below w.heap.size w w' := by
  have HU := hide (fun w hT => used3 k a 0 c n hk hf w hT)
  rw [ho] at HU
  have HT := hide (hT.below ((Below.refl w.heap.size w).alloc (Nat.le_refl _) (.cells #[.int .u8 (k : Int), .int .i64 a, .int .i64 0, .int .i64 c, .int .i64 n] 38)))
  have hk1 : (k : Int) < 22 := by omega
  clear hf hT ho hk
  unfold code5 at *
  go_enter Tryd.func30, Tryd.ntmps30
  go_wp2_with fail
  refine (HU.out _ HT.out).mono ?_
  rintro e w1 ⟨rfl, hb1⟩
  have c1 := c5_of (((Blk.new w 38 #[.int .u8 (k : Int), .int .i64 a, .int .i64 0, .int .i64 c, .int .i64 n]).below hb1 (by simp)).alloc (.cells #[.int .u8 (k : Int), .int .i64 a, .int .i64 0, .int .i64 0, .int .i64 n] 38))
  have HB := hide hb1
  clear hb1
  go_wp2
  go_ret
  exact ⟨rfl, (((Below.refl w.heap.size w).alloc (Nat.le_refl _) _).trans (HB.out.mono (by simp))).alloc (Nat.le_trans (by simp) HB.out.size) _⟩
theorem may3_ok (k : Nat) (a n : Int) (hk : k < 22) (hf : formN k = 3) (ho : okB 3 a 0 0 n = true) (w : World) (hT : Tab w) :
    Calls Tryd.prog 30 #[code5 k a 0 0 n] w fun e w' => e = .returned (.int .i64 0) ∧ Below w.heap.size w w' := by
  have HU := hide (fun w hT => used3 k a 0 0 n hk hf w hT)
  rw [ho] at HU
  have HT := hide (hT.below ((Below.refl w.heap.size w).alloc (Nat.le_refl _) (.cells #[.int .u8 (k : Int), .int .i64 a, .int .i64 0, .int .i64 0, .int .i64 n] 38)))
  have hk1 : (k : Int) < 22 := by omega
  clear hf hT ho hk
  unfold code5 at *
  go_enter Tryd.func30, Tryd.ntmps30
  go_wp2_with fail
  refine (HU.out _ HT.out).mono ?_
  rintro e w1 ⟨rfl, hb1⟩
  have c1 := c5_of (((Blk.new w 38 #[.int .u8 (k : Int), .int .i64 a, .int .i64 0, .int .i64 0, .int .i64 n]).below hb1 (by simp)).alloc (.cells #[.int .u8 (k : Int), .int .i64 a, .int .i64 0, .int .i64 0, .int .i64 n] 38))
  have HB := hide hb1
  clear hb1
  go_wp2
  go_ret
  exact ⟨rfl, (((Below.refl w.heap.size w).alloc (Nat.le_refl _) _).trans (HB.out.mono (by simp))).alloc (Nat.le_trans (by simp) HB.out.size) _⟩
theorem may3 (k : Nat) (a b c n : Int) (hk : k < 22) (hf : formN k = 3) (w : World) (hT : Tab w) :
    Calls Tryd.prog 30 #[code5 k a b c n] w fun e w' => e = .returned (.int .i64 (errX k a b c n)) ∧ Below w.heap.size w w' := by
  have he : errX k a b c n = if mayF 3 a b c n = true then 0 else 2 := by simp [errX, mayB, hk, hf]
  rw [he]
  cases ho : okB 3 a b c n
  · rw [if_neg (by simp [mayF, ho])]
    exact may3_no k a b c n hk hf ho w hT
  · skip
    by_cases hb : 0 = b
    · subst hb
      by_cases hc : 0 = c
      · subst hc
        rw [if_pos (by rw [mayF, ho]; simp [sameB, uA, uB, uC, uN])]
        exact may3_ok k a n hk hf ho w hT
      · rw [if_neg (by simp [mayF, sameB, uA, uB, uC, uN]; intros; omega)]
        exact may3_1 k a c n hk hf ho (by rw [beq_eq_false_iff_ne]; exact hc) w hT
    · rw [if_neg (by simp [mayF, sameB, uA, uB, uC, uN]; intros; omega)]
      exact may3_0 k a b c n hk hf ho (by rw [beq_eq_false_iff_ne]; exact hb) w hT
theorem may4_no (k : Nat) (a b c n : Int) (hk : k < 22) (hf : formN k = 4) (ho : okB 4 a b c n = false) (w : World) (hT : Tab w) :
    Calls Tryd.prog 30 #[code5 k a b c n] w fun e w' => e = .returned (.int .i64 2) ∧ Below w.heap.size w w' := by
  have HU := hide (fun w hT => used4 k a b c n hk hf w hT)
  rw [ho] at HU
  have HT := hide (hT.below ((Below.refl w.heap.size w).alloc (Nat.le_refl _) (.cells #[.int .u8 (k : Int), .int .i64 a, .int .i64 b, .int .i64 c, .int .i64 n] 38)))
  have hk1 : (k : Int) < 22 := by omega
  clear hf hT ho hk
  unfold code5 at *
  go_enter Tryd.func30, Tryd.ntmps30
  go_wp2_with fail
  refine (HU.out _ HT.out).mono ?_
  rintro e w1 ⟨rfl, hb1⟩
  have c1 := c5_of (((Blk.new w 38 #[.int .u8 (k : Int), .int .i64 a, .int .i64 b, .int .i64 c, .int .i64 n]).below hb1 (by simp)).alloc (.cells #[.int .u8 (k : Int), .int .i64 0, .int .i64 0, .int .i64 0, .int .i64 n] 38))
  have HB := hide hb1
  clear hb1
  go_wp2
  go_ret
  exact ⟨rfl, (((Below.refl w.heap.size w).alloc (Nat.le_refl _) _).trans (HB.out.mono (by simp))).alloc (Nat.le_trans (by simp) HB.out.size) _⟩
theorem may4_0 (k : Nat) (a b c n : Int) (hk : k < 22) (hf : formN k = 4) (ho : okB 4 a b c n = true) (h0 : (0 == a) = false) (w : World) (hT : Tab w) :
    Calls Tryd.prog 30 #[code5 k a b c n] w fun e w' => e = .returned (.int .i64 2) ∧ Below w.heap.size w w' := by
  have HU := hide (fun w hT => used4 k a b c n hk hf w hT)
  rw [ho] at HU
  have HT := hide (hT.below ((Below.refl w.heap.size w).alloc (Nat.le_refl _) (.cells #[.int .u8 (k : Int), .int .i64 a, .int .i64 b, .int .i64 c, .int .i64 n] 38)))
  have hk1 : (k : Int) < 22 := by omega
  clear hf hT ho hk
  unfold code5 at *
  go_enter Tryd.func30, Tryd.ntmps30
  go_wp2_with fail
  refine (HU.out _ HT.out).mono ?_
  rintro e w1 ⟨rfl, hb1⟩
  have c1 := c5_of (((Blk.new w 38 #[.int .u8 (k : Int), .int .i64 a, .int .i64 b, .int .i64 c, .int .i64 n]).below hb1 (by simp)).alloc (.cells #[.int .u8 (k : Int), .int .i64 0, .int .i64 0, .int .i64 0, .int .i64 n] 38))
  have HB := hide hb1
  clear hb1
  go_wp2
  go_ret
  exact ⟨rfl, (((Below.refl w.heap.size w).alloc (Nat.le_refl _) _).trans (HB.out.mono (by simp))).alloc (Nat.le_trans (by simp) HB.out.size) _⟩
theorem may4_1 (k : Nat) (b c n : Int) (hk : k < 22) (hf : formN k = 4) (ho : okB 4 0 b c n = true) (h0 : (0 == b) = false) (w : World) (hT : Tab w) :
    Calls Tryd.prog 30 #[code5 k 0 b c n] w fun e w' => e = .returned (.int .i64 2) ∧ Below w.heap.size w w' := by
  have HU := hide (fun w hT => used4 k 0 b c n hk hf w hT)
  rw [ho] at HU
  have HT := hide (hT.below ((Below.refl w.heap.size w).alloc (Nat.le_refl _) (.cells #[.int .u8 (k : Int), .int .i64 0, .int .i64 b, .int .i64 c, .int .i64 n] 38)))
  have hk1 : (k : Int) < 22 := by omega
  clear hf hT ho hk
  unfold code5 at *
  go_enter Tryd.func30, Tryd.ntmps30
  go_wp2_with fail
  refine (HU.out _ HT.out).mono ?_
  rintro e w1 ⟨rfl, hb1⟩
  have c1 := c5_of (((Blk.new w 38 #[.int .u8 (k : Int), .int .i64 0, .int .i64 b, .int .i64 c, .int .i64 n]).below hb1 (by simp)).alloc (.cells #[.int .u8 (k : Int), .int .i64 0, .int .i64 0, .int .i64 0, .int .i64 n] 38))
  have HB := hide hb1
  clear hb1
  go_wp2
  go_ret
  exact ⟨rfl, (((Below.refl w.heap.size w).alloc (Nat.le_refl _) _).trans (HB.out.mono (by simp))).alloc (Nat.le_trans (by simp) HB.out.size) _⟩
theorem may4_2 (k : Nat) (c n : Int) (hk : k < 22) (hf : formN k = 4) (ho : okB 4 0 0 c n = true) (h0 : (0 == c) = false) (w : World) (hT : Tab w) :
    Calls Tryd.prog 30 #[code5 k 0 0 c n] w fun e w' => e = .returned (.int .i64 2) ∧ Below w.heap.size w w' := by
  have HU := hide (fun w hT => used4 k 0 0 c n hk hf w hT)
  rw [ho] at HU
  have HT := hide (hT.below ((Below.refl w.heap.size w).alloc (Nat.le_refl _) (.cells #[.int .u8 (k : Int), .int .i64 0, .int .i64 0, .int .i64 c, .int .i64 n] 38)))
  have hk1 : (k : Int) < 22 := by omega
  clear hf hT ho hk
  unfold code5 at *
  go_enter Tryd.func30, Tryd.ntmps30
  go_wp2_with fail
  refine (HU.out _ HT.out).mono ?_
  rintro e w1 ⟨rfl, hb1⟩
  have c1 := c5_of (((Blk.new w 38 #[.int .u8 (k : Int), .int .i64 0, .int .i64 0, .int .i64 c, .int .i64 n]).below hb1 (by simp)).alloc (.cells #[.int .u8 (k : Int), .int .i64 0, .int .i64 0, .int .i64 0, .int .i64 n] 38))
  have HB := hide hb1
  clear hb1
  go_wp2
  go_ret
  exact ⟨rfl, (((Below.refl w.heap.size w).alloc (Nat.le_refl _) _).trans (HB.out.mono (by simp))).alloc (Nat.le_trans (by simp) HB.out.size) _⟩
theorem may4_ok (k : Nat) (n : Int) (hk : k < 22) (hf : formN k = 4) (ho : okB 4 0 0 0 n = true) (w : World) (hT : Tab w) :
    Calls Tryd.prog 30 #[code5 k 0 0 0 n] w fun e w' => e = .returned (.int .i64 0) ∧ Below w.heap.size w w' := by
  have HU := hide (fun w hT => used4 k 0 0 0 n hk hf w hT)
  rw [ho] at HU
  have HT := hide (hT.below ((Below.refl w.heap.size w).alloc (Nat.le_refl _) (.cells #[.int .u8 (k : Int), .int .i64 0, .int .i64 0, .int .i64 0, .int .i64 n] 38)))
  have hk1 : (k : Int) < 22 := by omega
  clear hf hT ho hk
  unfold code5 at *
  go_enter Tryd.func30, Tryd.ntmps30
  go_wp2_with fail
  refine (HU.out _ HT.out).mono ?_
  rintro e w1 ⟨rfl, hb1⟩
  have c1 := c5_of (((Blk.new w 38 #[.int .u8 (k : Int), .int .i64 0, .int .i64 0, .int .i64 0, .int .i64 n]).below hb1 (by simp)).alloc (.cells #[.int .u8 (k : Int), .int .i64 0, .int .i64 0, .int .i64 0, .int .i64 n] 38))
  have HB := hide hb1
  clear hb1
  go_wp2
  go_ret
  exact ⟨rfl, (((Below.refl w.heap.size w).alloc (Nat.le_refl _) _).trans (HB.out.mono (by simp))).alloc (Nat.le_trans (by simp) HB.out.size) _⟩
theorem may4 (k : Nat) (a b c n : Int) (hk : k < 22) (hf : formN k = 4) (w : World) (hT : Tab w) :
    Calls Tryd.prog 30 #[code5 k a b c n] w fun e w' => e = .returned (.int .i64 (errX k a b c n)) ∧ Below w.heap.size w w' := by
  have he : errX k a b c n = if mayF 4 a b c n = true then 0 else 2 := by simp [errX, mayB, hk, hf]
  rw [he]
  cases ho : okB 4 a b c n
  · rw [if_neg (by simp [mayF, ho])]
    exact may4_no k a b c n hk hf ho w hT
  · skip
    by_cases ha : 0 = a
    · subst ha
      by_cases hb : 0 = b
      · subst hb
        by_cases hc : 0 = c
        · subst hc
          rw [if_pos (by rw [mayF, ho]; simp [sameB, uA, uB, uC, uN])]
          exact may4_ok k n hk hf ho w hT
        · rw [if_neg (by simp [mayF, sameB, uA, uB, uC, uN]; intros; omega)]
          exact may4_2 k c n hk hf ho (by rw [beq_eq_false_iff_ne]; exact hc) w hT
      · rw [if_neg (by simp [mayF, sameB, uA, uB, uC, uN]; intros; omega)]
        exact may4_1 k b c n hk hf ho (by rw [beq_eq_false_iff_ne]; exact hb) w hT
    · rw [if_neg (by simp [mayF, sameB, uA, uB, uC, uN]; intros; omega)]
      exact may4_0 k a b c n hk hf ho (by rw [beq_eq_false_iff_ne]; exact ha) w hT
theorem may5_no (k : Nat) (a b c n : Int) (hk : k < 22) (hf : formN k = 5) (ho : okB 5 a b c n = false) (w : World) (hT : Tab w) :
    Calls Tryd.prog 30 #[code5 k a b c n] w fun e w' => e = .returned (.int .i64 2) ∧ Below w.heap.size w w' := by
  have HU := hide (fun w hT => used5 k a b c n hk hf w hT)
  rw [ho] at HU
  have HT := hide (hT.below ((Below.refl w.heap.size w).alloc (Nat.le_refl _) (.cells #[.int .u8 (k : Int), .int .i64 a, .int .i64 b, .int .i64 c, .int .i64 n] 38)))
  have hk1 : (k : Int) < 22 := by omega
  clear hf hT ho hk
  unfold code5 at *
  go_enter Tryd.func30, Tryd.ntmps30
  go_wp2_with fail
  refine (HU.out _ HT.out).mono ?_
  rintro e w1 ⟨rfl, hb1⟩
  have c1 := c5_of (((Blk.new w 38 #[.int .u8 (k : Int), .int .i64 a, .int .i64 b, .int .i64 c, .int .i64 n]).below hb1 (by simp)).alloc (.cells #[.int .u8 (k : Int), .int .i64 0, .int .i64 0, .int .i64 0, .int .i64 n] 38))
  have HB := hide hb1
  clear hb1
  go_wp2
  go_ret
  exact ⟨rfl, (((Below.refl w.heap.size w).alloc (Nat.le_refl _) _).trans (HB.out.mono (by simp))).alloc (Nat.le_trans (by simp) HB.out.size) _⟩
theorem may5_0 (k : Nat) (a b c n : Int) (hk : k < 22) (hf : formN k = 5) (ho : okB 5 a b c n = true) (h0 : (0 == a) = false) (w : World) (hT : Tab w) :
    Calls Tryd.prog 30 #[code5 k a b c n] w fun e w' => e = .returned (.int .i64 2) ∧ Below w.heap.size w w' := by
  have HU := hide (fun w hT => used5 k a b c n hk hf w hT)
  rw [ho] at HU
  have HT := hide (hT.below ((Below.refl w.heap.size w).alloc (Nat.le_refl _) (.cells #[.int .u8 (k : Int), .int .i64 a, .int .i64 b, .int .i64 c, .int .i64 n] 38)))
  have hk1 : (k : Int) < 22 := by omega
  clear hf hT ho hk
  unfold code5 at *
  go_enter Tryd.func30, Tryd.ntmps30
  go_wp2_with fail
  refine (HU.out _ HT.out).mono ?_
  rintro e w1 ⟨rfl, hb1⟩
  have c1 := c5_of (((Blk.new w 38 #[.int .u8 (k : Int), .int .i64 a, .int .i64 b, .int .i64 c, .int .i64 n]).below hb1 (by simp)).alloc (.cells #[.int .u8 (k : Int), .int .i64 0, .int .i64 0, .int .i64 0, .int .i64 n] 38))
  have HB := hide hb1
  clear hb1
  go_wp2
  go_ret
  exact ⟨rfl, (((Below.refl w.heap.size w).alloc (Nat.le_refl _) _).trans (HB.out.mono (by simp))).alloc (Nat.le_trans (by simp) HB.out.size) _⟩
theorem may5_1 (k : Nat) (b c n : Int) (hk : k < 22) (hf : formN k = 5) (ho : okB 5 0 b c n = true) (h0 : (0 == b) = false) (w : World) (hT : Tab w) :
    Calls Tryd.prog 30 #[code5 k 0 b c n] w fun e w' => e = .returned (.int .i64 2) ∧ Below w.heap.size w w' := by
  have HU := hide (fun w hT => used5 k 0 b c n hk hf w hT)
  rw [ho] at HU
  have HT := hide (hT.below ((Below.refl w.heap.size w).alloc (Nat.le_refl _) (.cells #[.int .u8 (k : Int), .int .i64 0, .int .i64 b, .int .i64 c, .int .i64 n] 38)))
  have hk1 : (k : Int) < 22 := by omega
  clear hf hT ho hk
  unfold code5 at *
  go_enter Tryd.func30, Tryd.ntmps30
  go_wp2_with fail
  refine (HU.out _ HT.out).mono ?_
  rintro e w1 ⟨rfl, hb1⟩
  have c1 := c5_of (((Blk.new w 38 #[.int .u8 (k : Int), .int .i64 0, .int .i64 b, .int .i64 c, .int .i64 n]).below hb1 (by simp)).alloc (.cells #[.int .u8 (k : Int), .int .i64 0, .int .i64 0, .int .i64 0, .int .i64 n] 38))
  have HB := hide hb1
  clear hb1
  go_wp2
  go_ret
  exact ⟨rfl, (((Below.refl w.heap.size w).alloc (Nat.le_refl _) _).trans (HB.out.mono (by simp))).alloc (Nat.le_trans (by simp) HB.out.size) _⟩
theorem may5_2 (k : Nat) (c n : Int) (hk : k < 22) (hf : formN k = 5) (ho : okB 5 0 0 c n = true) (h0 : (0 == c) = false) (w : World) (hT : Tab w) :
    Calls Tryd.prog 30 #[code5 k 0 0 c n] w fun e w' => e = .returned (.int .i64 2) ∧ Below w.heap.size w w' := by
  have HU := hide (fun w hT => used5 k 0 0 c n hk hf w hT)
  rw [ho] at HU
  have HT := hide (hT.below ((Below.refl w.heap.size w).alloc (Nat.le_refl _) (.cells #[.int .u8 (k : Int), .int .i64 0, .int .i64 0, .int .i64 c, .int .i64 n] 38)))
  have hk1 : (k : Int) < 22 := by omega
  clear hf hT ho hk
  unfold code5 at *
  go_enter Tryd.func30, Tryd.ntmps30
  go_wp2_with fail
  refine (HU.out _ HT.out).mono ?_
  rintro e w1 ⟨rfl, hb1⟩
  have c1 := c5_of (((Blk.new w 38 #[.int .u8 (k : Int), .int .i64 0, .int .i64 0, .int .i64 c, .int .i64 n]).below hb1 (by simp)).alloc (.cells #[.int .u8 (k : Int), .int .i64 0, .int .i64 0, .int .i64 0, .int .i64 n] 38))
  have HB := hide hb1
  clear hb1
  go_wp2
  go_ret
  exact ⟨rfl, (((Below.refl w.heap.size w).alloc (Nat.le_refl _) _).trans (HB.out.mono (by simp))).alloc (Nat.le_trans (by simp) HB.out.size) _⟩
theorem may5_ok (k : Nat) (n : Int) (hk : k < 22) (hf : formN k = 5) (ho : okB 5 0 0 0 n = true) (w : World) (hT : Tab w) :
    Calls Tryd.prog 30 #[code5 k 0 0 0 n] w fun e w' => e = .returned (.int .i64 0) ∧ Below w.heap.size w w' := by
  have HU := hide (fun w hT => used5 k 0 0 0 n hk hf w hT)
  rw [ho] at HU
  have HT := hide (hT.below ((Below.refl w.heap.size w).alloc (Nat.le_refl _) (.cells #[.int .u8 (k : Int), .int .i64 0, .int .i64 0, .int .i64 0, .int .i64 n] 38)))
  have hk1 : (k : Int) < 22 := by omega
  clear hf hT ho hk
  unfold code5 at *
  go_enter Tryd.func30, Tryd.ntmps30
  go_wp2_with fail
  refine (HU.out _ HT.out).mono ?_
  rintro e w1 ⟨rfl, hb1⟩
  have c1 := c5_of (((Blk.new w 38 #[.int .u8 (k : Int), .int .i64 0, .int .i64 0, .int .i64 0, .int .i64 n]).below hb1 (by simp)).alloc (.cells #[.int .u8 (k : Int), .int .i64 0, .int .i64 0, .int .i64 0, .int .i64 n] 38))
  have HB := hide hb1
  clear hb1
  go_wp2
  go_ret
  exact ⟨rfl, (((Below.refl w.heap.size w).alloc (Nat.le_refl _) _).trans (HB.out.mono (by simp))).alloc (Nat.le_trans (by simp) HB.out.size) _⟩
theorem may5 (k : Nat) (a b c n : Int) (hk : k < 22) (hf : formN k = 5) (w : World) (hT : Tab w) :
    Calls Tryd.prog 30 #[code5 k a b c n] w fun e w' => e = .returned (.int .i64 (errX k a b c n)) ∧ Below w.heap.size w w' := by
  have he : errX k a b c n = if mayF 5 a b c n = true then 0 else 2 := by simp [errX, mayB, hk, hf]
  rw [he]
  cases ho : okB 5 a b c n
  · rw [if_neg (by simp [mayF, ho])]
    exact may5_no k a b c n hk hf ho w hT
  · skip
    by_cases ha : 0 = a
    · subst ha
      by_cases hb : 0 = b
      · subst hb
        by_cases hc : 0 = c
        · subst hc
          rw [if_pos (by rw [mayF, ho]; simp [sameB, uA, uB, uC, uN])]
          exact may5_ok k n hk hf ho w hT
        · rw [if_neg (by simp [mayF, sameB, uA, uB, uC, uN]; intros; omega)]
          exact may5_2 k c n hk hf ho (by rw [beq_eq_false_iff_ne]; exact hc) w hT
      · rw [if_neg (by simp [mayF, sameB, uA, uB, uC, uN]; intros; omega)]
        exact may5_1 k b c n hk hf ho (by rw [beq_eq_false_iff_ne]; exact hb) w hT
    · rw [if_neg (by simp [mayF, sameB, uA, uB, uC, uN]; intros; omega)]
      exact may5_0 k a b c n hk hf ho (by rw [beq_eq_false_iff_ne]; exact ha) w hT
theorem may6_no (k : Nat) (a b c n : Int) (hk : k < 22) (hf : formN k = 6) (ho : okB 6 a b c n = false) (w : World) (hT : Tab w) :
    Calls Tryd.prog 30 #[code5 k a b c n] w fun e w' => e = .returned (.int .i64 2) ∧ Below w.heap.size w w' := by
  have HU := hide (fun w hT => used6 k a b c n hk hf w hT)
  rw [ho] at HU
  have HT := hide (hT.below ((Below.refl w.heap.size w).alloc (Nat.le_refl _) (.cells #[.int .u8 (k : Int), .int .i64 a, .int .i64 b, .int .i64 c, .int .i64 n] 38)))
  have hk1 : (k : Int) < 22 := by omega
  clear hf hT ho hk
  unfold code5 at *
  go_enter Tryd.func30, Tryd.ntmps30
  go_wp2_with fail
  refine (HU.out _ HT.out).mono ?_
  rintro e w1 ⟨rfl, hb1⟩
  have c1 := c5_of (((Blk.new w 38 #[.int .u8 (k : Int), .int .i64 a, .int .i64 b, .int .i64 c, .int .i64 n]).below hb1 (by simp)).alloc (.cells #[.int .u8 (k : Int), .int .i64 a, .int .i64 0, .int .i64 0, .int .i64 0] 38))
  have HB := hide hb1
  clear hb1
  go_wp2
  go_ret
  exact ⟨rfl, (((Below.refl w.heap.size w).alloc (Nat.le_refl _) _).trans (HB.out.mono (by simp))).alloc (Nat.le_trans (by simp) HB.out.size) _⟩
theorem may6_0 (k : Nat) (a b c n : Int) (hk : k < 22) (hf : formN k = 6) (ho : okB 6 a b c n = true) (h0 : (0 == b) = false) (w : World) (hT : Tab w) :
    Calls Tryd.prog 30 #[code5 k a b c n] w fun e w' => e = .returned (.int .i64 2) ∧ Below w.heap.size w w' := by
  have HU := hide (fun w hT => used6 k a b c n hk hf w hT)
  rw [ho] at HU
  have HT := hide (hT.below ((Below.refl w.heap.size w).alloc (Nat.le_refl _) (.cells #[.int .u8 (k : Int), .int .i64 a, .int .i64 b, .int .i64 c, .int .i64 n] 38)))
  have hk1 : (k : Int) < 22 := by omega
  clear hf hT ho hk
  unfold code5 at *
  go_enter Tryd.func30, Tryd.ntmps30
  go_wp2_with fail
  refine (HU.out _ HT.out).mono ?_
  rintro e w1 ⟨rfl, hb1⟩
  have c1 := c5_of (((Blk.new w 38 #[.int .u8 (k : Int), .int .i64 a, .int .i64 b, .int .i64 c, .int .i64 n]).below hb1 (by simp)).alloc (.cells #[.int .u8 (k : Int), .int .i64 a, .int .i64 0, .int .i64 0, .int .i64 0] 38))
  have HB := hide hb1
  clear hb1
  go_wp2
  go_ret
  exact ⟨rfl, (((Below.refl w.heap.size w).alloc (Nat.le_refl _) _).trans (HB.out.mono (by simp))).alloc (Nat.le_trans (by simp) HB.out.size) _⟩
theorem may6_1 (k : Nat) (a c n : Int) (hk : k < 22) (hf : formN k = 6) (ho : okB 6 a 0 c n = true) (h0 : (0 == c) = false) (w : World) (hT : Tab w) :
    Calls Tryd.prog 30 #[code5 k a 0 c n] w fun e w' => e = .returned (.int .i64 2) ∧ Below w.heap.size w w' := by
  have HU := hide (fun w hT => used6 k a 0 c n hk hf w hT)
  rw [ho] at HU
  have HT := hide (hT.below ((Below.refl w.heap.size w).alloc (Nat.le_refl _) (.cells #[.int .u8 (k : Int), .int .i64 a, .int .i64 0, .int .i64 c, .int .i64 n] 38)))
  have hk1 : (k : Int) < 22 := by omega
  clear hf hT ho hk
  unfold code5 at *
  go_enter Tryd.func30, Tryd.ntmps30
  go_wp2_with fail
  refine (HU.out _ HT.out).mono ?_
  rintro e w1 ⟨rfl, hb1⟩
  have c1 := c5_of (((Blk.new w 38 #[.int .u8 (k : Int), .int .i64 a, .int .i64 0, .int .i64 c, .int .i64 n]).below hb1 (by simp)).alloc (.cells #[.int .u8 (k : Int), .int .i64 a, .int .i64 0, .int .i64 0, .int .i64 0] 38))
  have HB := hide hb1
  clear hb1
  go_wp2
  go_ret
  exact ⟨rfl, (((Below.refl w.heap.size w).alloc (Nat.le_refl _) _).trans (HB.out.mono (by simp))).alloc (Nat.le_trans (by simp) HB.out.size) _⟩
theorem may6_2 (k : Nat) (a n : Int) (hk : k < 22) (hf : formN k = 6) (ho : okB 6 a 0 0 n = true) (h0 : (0 == n) = false) (w : World) (hT : Tab w) :
    Calls Tryd.prog 30 #[code5 k a 0 0 n] w fun e w' => e = .returned (.int .i64 2) ∧ Below w.heap.size w w' := by
  have HU := hide (fun w hT => used6 k a 0 0 n hk hf w hT)
  rw [ho] at HU
  have HT := hide (hT.below ((Below.refl w.heap.size w).alloc (Nat.le_refl _) (.cells #[.int .u8 (k : Int), .int .i64 a, .int .i64 0, .int .i64 0, .int .i64 n] 38)))
  have hk1 : (k : Int) < 22 := by omega
  clear hf hT ho hk
  unfold code5 at *
  go_enter Tryd.func30, Tryd.ntmps30
  go_wp2_with fail
  refine (HU.out _ HT.out).mono ?_
  rintro e w1 ⟨rfl, hb1⟩
  have c1 := c5_of (((Blk.new w 38 #[.int .u8 (k : Int), .int .i64 a, .int .i64 0, .int .i64 0, .int .i64 n]).below hb1 (by simp)).alloc (.cells #[.int .u8 (k : Int), .int .i64 a, .int .i64 0, .int .i64 0, .int .i64 0] 38))
  have HB := hide hb1
  clear hb1
  go_wp2
  go_ret
  exact ⟨rfl, (((Below.refl w.heap.size w).alloc (Nat.le_refl _) _).trans (HB.out.mono (by simp))).alloc (Nat.le_trans (by simp) HB.out.size) _⟩
theorem may6_ok (k : Nat) (a : Int) (hk : k < 22) (hf : formN k = 6) (ho : okB 6 a 0 0 0 = true) (w : World) (hT : Tab w) :
    Calls Tryd.prog 30 #[code5 k a 0 0 0] w fun e w' => e = .returned (.int .i64 0) ∧ Below w.heap.size w w' := by
  have HU := hide (fun w hT => used6 k a 0 0 0 hk hf w hT)
  rw [ho] at HU
  have HT := hide (hT.below ((Below.refl w.heap.size w).alloc (Nat.le_refl _) (.cells #[.int .u8 (k : Int), .int .i64 a, .int .i64 0, .int .i64 0, .int .i64 0] 38)))
  have hk1 : (k : Int) < 22 := by omega
  clear hf hT ho hk
  unfold code5 at *
  go_enter Tryd.func30, Tryd.ntmps30
  go_wp2_with fail
  refine (HU.out _ HT.out).mono ?_
  rintro e w1 ⟨rfl, hb1⟩
  have c1 := c5_of (((Blk.new w 38 #[.int .u8 (k : Int), .int .i64 a, .int .i64 0, .int .i64 0, .int .i64 0]).below hb1 (by simp)).alloc (.cells #[.int .u8 (k : Int), .int .i64 a, .int .i64 0, .int .i64 0, .int .i64 0] 38))
  have HB := hide hb1
  clear hb1
  go_wp2
  go_ret
  exact ⟨rfl, (((Below.refl w.heap.size w).alloc (Nat.le_refl _) _).trans (HB.out.mono (by simp))).alloc (Nat.le_trans (by simp) HB.out.size) _⟩
theorem may6 (k : Nat) (a b c n : Int) (hk : k < 22) (hf : formN k = 6) (w : World) (hT : Tab w) :
    Calls Tryd.prog 30 #[code5 k a b c n] w fun e w' => e = .returned (.int .i64 (errX k a b c n)) ∧ Below w.heap.size w w' := by
  have he : errX k a b c n = if mayF 6 a b c n = true then 0 else 2 := by simp [errX, mayB, hk, hf]
  rw [he]
  cases ho : okB 6 a b c n
  · rw [if_neg (by simp [mayF, ho])]
    exact may6_no k a b c n hk hf ho w hT
  · skip
    by_cases hb : 0 = b
    · subst hb
      by_cases hc : 0 = c
      · subst hc
        by_cases hn : 0 = n
        · subst hn
          rw [if_pos (by rw [mayF, ho]; simp [sameB, uA, uB, uC, uN])]
          exact may6_ok k a hk hf ho w hT
        · rw [if_neg (by simp [mayF, sameB, uA, uB, uC, uN]; intros; omega)]
          exact may6_2 k a n hk hf ho (by rw [beq_eq_false_iff_ne]; exact hn) w hT
      · rw [if_neg (by simp [mayF, sameB, uA, uB, uC, uN]; intros; omega)]
        exact may6_1 k a c n hk hf ho (by rw [beq_eq_false_iff_ne]; exact hc) w hT
    · rw [if_neg (by simp [mayF, sameB, uA, uB, uC, uN]; intros; omega)]
      exact may6_0 k a b c n hk hf ho (by rw [beq_eq_false_iff_ne]; exact hb) w hT
theorem may_any (k : Nat) (a b c n : Int) (hk0 : k ≤ 255) (w : World) (hT : Tab w) :
    Calls Tryd.prog 30 #[code5 k a b c n] w fun e w' => e = .returned (.int .i64 (errX k a b c n)) ∧ Below w.heap.size w w' := by
  by_cases hk : k < 22
  · have hl := formN_lt k
    have : formN k = 0 ∨ formN k = 1 ∨ formN k = 2 ∨ formN k = 3 ∨ formN k = 4 ∨ formN k = 5 ∨ formN k = 6 := by omega
    rcases this with h | h | h | h | h | h | h
    · exact may0 k a b c n hk h w hT
    · exact may1 k a b c n hk h w hT
    · exact may2 k a b c n hk h w hT
    · exact may3 k a b c n hk h w hT
    · exact may4 k a b c n hk h w hT
    · exact may5 k a b c n hk h w hT
    · exact may6 k a b c n hk h w hT
  · have he : errX k a b c n = 2 := by simp [errX, mayB, hk]
    rw [he]
    have hk1 : 22 ≤ (k : Int) := by omega
    clear he hT hk
    unfold code5
    go_enter Tryd.func30, Tryd.ntmps30
    go_wp2
    go_ret
    exact ⟨rfl, (Below.refl _ _).alloc (Nat.le_refl _) _⟩
end Go.Proofs.YtdaglmoibijdeaaDoor.CodeMay
