/-
  CodeOne walked: two instructions that may be have one word just if they are the same. It returns true.
-/
import Derived.Test.YtgodjedijkfciaaDoorWorks
namespace Go.Proofs.YtgodjedijkfciaaDoor.One
open Go.RowKit Base CodePlain CodeBits CodeTab CodePut CodeTake Works
set_option linter.unusedVariables false

theorem one_ (k k2 : Nat) (a b c n a2 b2 c2 n2 : Int) (hk0 : k ≤ 255) (hk2 : k2 ≤ 255) (hno : mayB k a b c n = true → mayB k2 a2 b2 c2 n2 = true → False) (w : World) (hT : Tab w) :
    Calls Tryd.prog 7 #[code5 k a b c n, code5 k2 a2 b2 c2 n2] w fun e w' => e = .returned (.bool true) ∧ Below w.heap.size w w' := by
  have HP := hide (fun w hT => put_any k a b c n hk0 w hT)
  have HR := hide (fun w hT => put_any k2 a2 b2 c2 n2 hk2 w hT)
  have S1 := St.below (St.new (w0 := w) hT (Below.refl _ _) #[.int .u8 (k : Int), .int .i64 a, .int .i64 b, .int .i64 c, .int .i64 n]) ((Below.refl _ _).alloc (Nat.le_refl _) (.cells #[.int .u8 (k2 : Int), .int .i64 a2, .int .i64 b2, .int .i64 c2, .int .i64 n2] 27))
  have R1 := hide (Blk.new (w.alloc (.cells #[.int .u8 (k : Int), .int .i64 a, .int .i64 b, .int .i64 c, .int .i64 n] 27)) 27 #[.int .u8 (k2 : Int), .int .i64 a2, .int .i64 b2, .int .i64 c2, .int .i64 n2])
  have HQ := hide hno
  clear hT hno
  cases hm : mayB k a b c n
  · rw [show putX k a b c n = 0 by simp [putX, hm], show errX k a b c n = 2 by simp [errX, hm]] at HP
    clear hm HQ
    unfold code5 at *
    generalize putX k2 a2 b2 c2 n2 = y at *
    generalize errX k2 a2 b2 c2 n2 = er at *
    go_enter Tryd.func7, Tryd.ntmps7
    go_wp2_with fail
    refine (HP.out _ (St.tab S1)).mono ?_
    rintro e w1 ⟨rfl, hb1⟩
    have S2 := St.below S1 hb1
    have r2 := c5_of (R1.out.below hb1 R1.out.lt)
    rw [World.size_alloc] at r2
    clear hb1
    go_wp2_with fail
    refine (HR.out _ (St.tab S2)).mono ?_
    rintro e w2 ⟨rfl, hb2⟩
    have S3 := St.below S2 hb2
    clear hb2 r2
    go_wp2_with fail
    refine (works_any _ (St.tab S3)).mono ?_
    rintro e w3 ⟨rfl, hb3⟩
    have S4 := St.below S3 hb3
    clear hb3
    go_wp2
    go_ret
    exact ⟨rfl, St.bel S4⟩
  cases hm2 : mayB k2 a2 b2 c2 n2
  · rw [show putX k a b c n = word k a b c n by simp [putX, hm], show errX k a b c n = 0 by simp [errX, hm]] at HP
    rw [show putX k2 a2 b2 c2 n2 = 0 by simp [putX, hm2], show errX k2 a2 b2 c2 n2 = 2 by simp [errX, hm2]] at HR
    clear hm hm2 HQ
    unfold code5 at *
    generalize word k a b c n = x at *
    go_enter Tryd.func7, Tryd.ntmps7
    go_wp2_with fail
    refine (HP.out _ (St.tab S1)).mono ?_
    rintro e w1 ⟨rfl, hb1⟩
    have S2 := St.below S1 hb1
    have r2 := c5_of (R1.out.below hb1 R1.out.lt)
    rw [World.size_alloc] at r2
    clear hb1
    go_wp2_with fail
    refine (HR.out _ (St.tab S2)).mono ?_
    rintro e w2 ⟨rfl, hb2⟩
    have S3 := St.below S2 hb2
    clear hb2 r2
    go_wp2_with fail
    refine (works_any _ (St.tab S3)).mono ?_
    rintro e w3 ⟨rfl, hb3⟩
    have S4 := St.below S3 hb3
    clear hb3
    go_wp2
    go_ret
    exact ⟨rfl, St.bel S4⟩
  · exact (HQ.out hm hm2).elim
theorem one_k (k k2 : Nat) (a b c n a2 b2 c2 n2 : Int) (h1 : mayB k a b c n = true) (h2 : mayB k2 a2 b2 c2 n2 = true) (hx : (word k a b c n == word k2 a2 b2 c2 n2) = false) (hd : ((k : Int) == (k2 : Int)) = false) (w : World) (hT : Tab w) :
    Calls Tryd.prog 7 #[code5 k a b c n, code5 k2 a2 b2 c2 n2] w fun e w' => e = .returned (.bool true) ∧ Below w.heap.size w w' := by
  have HP := hide (fun w hT => put_yes k a b c n h1 w hT)
  have HR := hide (fun w hT => put_yes k2 a2 b2 c2 n2 h2 w hT)
  have S1 := St.below (St.new (w0 := w) hT (Below.refl _ _) #[.int .u8 (k : Int), .int .i64 a, .int .i64 b, .int .i64 c, .int .i64 n]) ((Below.refl _ _).alloc (Nat.le_refl _) (.cells #[.int .u8 (k2 : Int), .int .i64 a2, .int .i64 b2, .int .i64 c2, .int .i64 n2] 27))
  have R1 := hide (Blk.new (w.alloc (.cells #[.int .u8 (k : Int), .int .i64 a, .int .i64 b, .int .i64 c, .int .i64 n] 27)) 27 #[.int .u8 (k2 : Int), .int .i64 a2, .int .i64 b2, .int .i64 c2, .int .i64 n2])
  clear hT h1 h2
  unfold code5 at *
  generalize word k a b c n = x at *
  generalize word k2 a2 b2 c2 n2 = y at *
  go_enter Tryd.func7, Tryd.ntmps7
  go_wp2_with fail
  refine (HP.out _ (St.tab S1)).mono ?_
  rintro e w1 ⟨rfl, hb1⟩
  have S2 := St.below S1 hb1
  have R2 := hide (R1.out.below hb1 R1.out.lt)
  have r2 := c5_of R2.out
  rw [World.size_alloc] at r2
  clear hb1
  go_wp2_with fail
  refine (HR.out _ (St.tab S2)).mono ?_
  rintro e w2 ⟨rfl, hb2⟩
  have S3 := St.below S2 hb2
  have R3 := hide (R2.out.below hb2 R2.out.lt)
  clear hb2 r2
  go_wp2_with fail
  refine (works_any _ (St.tab S3)).mono ?_
  rintro e w3 ⟨rfl, hb3⟩
  have S4 := St.below S3 hb3
  have r4 := c5_of (R3.out.below hb3 R3.out.lt)
  rw [World.size_alloc] at r4
  have hc := St.c5 S4
  clear hb3
  go_wp2
  go_ret
  exact ⟨rfl, St.bel S4⟩
theorem one_a (k : Nat) (a b c n a2 b2 c2 n2 : Int) (h1 : mayB k a b c n = true) (h2 : mayB k a2 b2 c2 n2 = true) (hx : (word k a b c n == word k a2 b2 c2 n2) = false) (hd : (a == a2) = false) (w : World) (hT : Tab w) :
    Calls Tryd.prog 7 #[code5 k a b c n, code5 k a2 b2 c2 n2] w fun e w' => e = .returned (.bool true) ∧ Below w.heap.size w w' := by
  have HP := hide (fun w hT => put_yes k a b c n h1 w hT)
  have HR := hide (fun w hT => put_yes k a2 b2 c2 n2 h2 w hT)
  have S1 := St.below (St.new (w0 := w) hT (Below.refl _ _) #[.int .u8 (k : Int), .int .i64 a, .int .i64 b, .int .i64 c, .int .i64 n]) ((Below.refl _ _).alloc (Nat.le_refl _) (.cells #[.int .u8 (k : Int), .int .i64 a2, .int .i64 b2, .int .i64 c2, .int .i64 n2] 27))
  have R1 := hide (Blk.new (w.alloc (.cells #[.int .u8 (k : Int), .int .i64 a, .int .i64 b, .int .i64 c, .int .i64 n] 27)) 27 #[.int .u8 (k : Int), .int .i64 a2, .int .i64 b2, .int .i64 c2, .int .i64 n2])
  clear hT h1 h2
  unfold code5 at *
  generalize word k a b c n = x at *
  generalize word k a2 b2 c2 n2 = y at *
  go_enter Tryd.func7, Tryd.ntmps7
  go_wp2_with fail
  refine (HP.out _ (St.tab S1)).mono ?_
  rintro e w1 ⟨rfl, hb1⟩
  have S2 := St.below S1 hb1
  have R2 := hide (R1.out.below hb1 R1.out.lt)
  have r2 := c5_of R2.out
  rw [World.size_alloc] at r2
  clear hb1
  go_wp2_with fail
  refine (HR.out _ (St.tab S2)).mono ?_
  rintro e w2 ⟨rfl, hb2⟩
  have S3 := St.below S2 hb2
  have R3 := hide (R2.out.below hb2 R2.out.lt)
  clear hb2 r2
  go_wp2_with fail
  refine (works_any _ (St.tab S3)).mono ?_
  rintro e w3 ⟨rfl, hb3⟩
  have S4 := St.below S3 hb3
  have r4 := c5_of (R3.out.below hb3 R3.out.lt)
  rw [World.size_alloc] at r4
  have hc := St.c5 S4
  clear hb3
  go_wp2
  go_ret
  exact ⟨rfl, St.bel S4⟩
theorem one_b (k : Nat) (a b c n b2 c2 n2 : Int) (h1 : mayB k a b c n = true) (h2 : mayB k a b2 c2 n2 = true) (hx : (word k a b c n == word k a b2 c2 n2) = false) (hd : (b == b2) = false) (w : World) (hT : Tab w) :
    Calls Tryd.prog 7 #[code5 k a b c n, code5 k a b2 c2 n2] w fun e w' => e = .returned (.bool true) ∧ Below w.heap.size w w' := by
  have HP := hide (fun w hT => put_yes k a b c n h1 w hT)
  have HR := hide (fun w hT => put_yes k a b2 c2 n2 h2 w hT)
  have S1 := St.below (St.new (w0 := w) hT (Below.refl _ _) #[.int .u8 (k : Int), .int .i64 a, .int .i64 b, .int .i64 c, .int .i64 n]) ((Below.refl _ _).alloc (Nat.le_refl _) (.cells #[.int .u8 (k : Int), .int .i64 a, .int .i64 b2, .int .i64 c2, .int .i64 n2] 27))
  have R1 := hide (Blk.new (w.alloc (.cells #[.int .u8 (k : Int), .int .i64 a, .int .i64 b, .int .i64 c, .int .i64 n] 27)) 27 #[.int .u8 (k : Int), .int .i64 a, .int .i64 b2, .int .i64 c2, .int .i64 n2])
  clear hT h1 h2
  unfold code5 at *
  generalize word k a b c n = x at *
  generalize word k a b2 c2 n2 = y at *
  go_enter Tryd.func7, Tryd.ntmps7
  go_wp2_with fail
  refine (HP.out _ (St.tab S1)).mono ?_
  rintro e w1 ⟨rfl, hb1⟩
  have S2 := St.below S1 hb1
  have R2 := hide (R1.out.below hb1 R1.out.lt)
  have r2 := c5_of R2.out
  rw [World.size_alloc] at r2
  clear hb1
  go_wp2_with fail
  refine (HR.out _ (St.tab S2)).mono ?_
  rintro e w2 ⟨rfl, hb2⟩
  have S3 := St.below S2 hb2
  have R3 := hide (R2.out.below hb2 R2.out.lt)
  clear hb2 r2
  go_wp2_with fail
  refine (works_any _ (St.tab S3)).mono ?_
  rintro e w3 ⟨rfl, hb3⟩
  have S4 := St.below S3 hb3
  have r4 := c5_of (R3.out.below hb3 R3.out.lt)
  rw [World.size_alloc] at r4
  have hc := St.c5 S4
  clear hb3
  go_wp2
  go_ret
  exact ⟨rfl, St.bel S4⟩
theorem one_c (k : Nat) (a b c n c2 n2 : Int) (h1 : mayB k a b c n = true) (h2 : mayB k a b c2 n2 = true) (hx : (word k a b c n == word k a b c2 n2) = false) (hd : (c == c2) = false) (w : World) (hT : Tab w) :
    Calls Tryd.prog 7 #[code5 k a b c n, code5 k a b c2 n2] w fun e w' => e = .returned (.bool true) ∧ Below w.heap.size w w' := by
  have HP := hide (fun w hT => put_yes k a b c n h1 w hT)
  have HR := hide (fun w hT => put_yes k a b c2 n2 h2 w hT)
  have S1 := St.below (St.new (w0 := w) hT (Below.refl _ _) #[.int .u8 (k : Int), .int .i64 a, .int .i64 b, .int .i64 c, .int .i64 n]) ((Below.refl _ _).alloc (Nat.le_refl _) (.cells #[.int .u8 (k : Int), .int .i64 a, .int .i64 b, .int .i64 c2, .int .i64 n2] 27))
  have R1 := hide (Blk.new (w.alloc (.cells #[.int .u8 (k : Int), .int .i64 a, .int .i64 b, .int .i64 c, .int .i64 n] 27)) 27 #[.int .u8 (k : Int), .int .i64 a, .int .i64 b, .int .i64 c2, .int .i64 n2])
  clear hT h1 h2
  unfold code5 at *
  generalize word k a b c n = x at *
  generalize word k a b c2 n2 = y at *
  go_enter Tryd.func7, Tryd.ntmps7
  go_wp2_with fail
  refine (HP.out _ (St.tab S1)).mono ?_
  rintro e w1 ⟨rfl, hb1⟩
  have S2 := St.below S1 hb1
  have R2 := hide (R1.out.below hb1 R1.out.lt)
  have r2 := c5_of R2.out
  rw [World.size_alloc] at r2
  clear hb1
  go_wp2_with fail
  refine (HR.out _ (St.tab S2)).mono ?_
  rintro e w2 ⟨rfl, hb2⟩
  have S3 := St.below S2 hb2
  have R3 := hide (R2.out.below hb2 R2.out.lt)
  clear hb2 r2
  go_wp2_with fail
  refine (works_any _ (St.tab S3)).mono ?_
  rintro e w3 ⟨rfl, hb3⟩
  have S4 := St.below S3 hb3
  have r4 := c5_of (R3.out.below hb3 R3.out.lt)
  rw [World.size_alloc] at r4
  have hc := St.c5 S4
  clear hb3
  go_wp2
  go_ret
  exact ⟨rfl, St.bel S4⟩
theorem one_n (k : Nat) (a b c n n2 : Int) (h1 : mayB k a b c n = true) (h2 : mayB k a b c n2 = true) (hx : (word k a b c n == word k a b c n2) = false) (hd : (n == n2) = false) (w : World) (hT : Tab w) :
    Calls Tryd.prog 7 #[code5 k a b c n, code5 k a b c n2] w fun e w' => e = .returned (.bool true) ∧ Below w.heap.size w w' := by
  have HP := hide (fun w hT => put_yes k a b c n h1 w hT)
  have HR := hide (fun w hT => put_yes k a b c n2 h2 w hT)
  have S1 := St.below (St.new (w0 := w) hT (Below.refl _ _) #[.int .u8 (k : Int), .int .i64 a, .int .i64 b, .int .i64 c, .int .i64 n]) ((Below.refl _ _).alloc (Nat.le_refl _) (.cells #[.int .u8 (k : Int), .int .i64 a, .int .i64 b, .int .i64 c, .int .i64 n2] 27))
  have R1 := hide (Blk.new (w.alloc (.cells #[.int .u8 (k : Int), .int .i64 a, .int .i64 b, .int .i64 c, .int .i64 n] 27)) 27 #[.int .u8 (k : Int), .int .i64 a, .int .i64 b, .int .i64 c, .int .i64 n2])
  clear hT h1 h2
  unfold code5 at *
  generalize word k a b c n = x at *
  generalize word k a b c n2 = y at *
  go_enter Tryd.func7, Tryd.ntmps7
  go_wp2_with fail
  refine (HP.out _ (St.tab S1)).mono ?_
  rintro e w1 ⟨rfl, hb1⟩
  have S2 := St.below S1 hb1
  have R2 := hide (R1.out.below hb1 R1.out.lt)
  have r2 := c5_of R2.out
  rw [World.size_alloc] at r2
  clear hb1
  go_wp2_with fail
  refine (HR.out _ (St.tab S2)).mono ?_
  rintro e w2 ⟨rfl, hb2⟩
  have S3 := St.below S2 hb2
  have R3 := hide (R2.out.below hb2 R2.out.lt)
  clear hb2 r2
  go_wp2_with fail
  refine (works_any _ (St.tab S3)).mono ?_
  rintro e w3 ⟨rfl, hb3⟩
  have S4 := St.below S3 hb3
  have r4 := c5_of (R3.out.below hb3 R3.out.lt)
  rw [World.size_alloc] at r4
  have hc := St.c5 S4
  clear hb3
  go_wp2
  go_ret
  exact ⟨rfl, St.bel S4⟩
theorem one_same (k : Nat) (a b c n : Int) (h1 : mayB k a b c n = true) (w : World) (hT : Tab w) :
    Calls Tryd.prog 7 #[code5 k a b c n, code5 k a b c n] w fun e w' => e = .returned (.bool true) ∧ Below w.heap.size w w' := by
  have HP := hide (fun w hT => put_yes k a b c n h1 w hT)
  skip
  have S1 := St.below (St.new (w0 := w) hT (Below.refl _ _) #[.int .u8 (k : Int), .int .i64 a, .int .i64 b, .int .i64 c, .int .i64 n]) ((Below.refl _ _).alloc (Nat.le_refl _) (.cells #[.int .u8 (k : Int), .int .i64 a, .int .i64 b, .int .i64 c, .int .i64 n] 27))
  have R1 := hide (Blk.new (w.alloc (.cells #[.int .u8 (k : Int), .int .i64 a, .int .i64 b, .int .i64 c, .int .i64 n] 27)) 27 #[.int .u8 (k : Int), .int .i64 a, .int .i64 b, .int .i64 c, .int .i64 n])
  clear hT h1 
  unfold code5 at *
  generalize word k a b c n = x at *
  skip
  go_enter Tryd.func7, Tryd.ntmps7
  go_wp2_with fail
  refine (HP.out _ (St.tab S1)).mono ?_
  rintro e w1 ⟨rfl, hb1⟩
  have S2 := St.below S1 hb1
  have R2 := hide (R1.out.below hb1 R1.out.lt)
  have r2 := c5_of R2.out
  rw [World.size_alloc] at r2
  clear hb1
  go_wp2_with fail
  refine (HP.out _ (St.tab S2)).mono ?_
  rintro e w2 ⟨rfl, hb2⟩
  have S3 := St.below S2 hb2
  have R3 := hide (R2.out.below hb2 R2.out.lt)
  clear hb2 r2
  go_wp2_with fail
  refine (works_any _ (St.tab S3)).mono ?_
  rintro e w3 ⟨rfl, hb3⟩
  have S4 := St.below S3 hb3
  have r4 := c5_of (R3.out.below hb3 R3.out.lt)
  rw [World.size_alloc] at r4
  have hc := St.c5 S4
  clear hb3
  go_wp2
  go_ret
  exact ⟨rfl, St.bel S4⟩
theorem one (k k2 : Nat) (a b c n a2 b2 c2 n2 : Int) (hk0 : k ≤ 255) (hk2 : k2 ≤ 255) (w : World) (hT : Tab w) :
    Calls Tryd.prog 7 #[code5 k a b c n, code5 k2 a2 b2 c2 n2] w fun e w' => e = .returned (.bool true) ∧ Below w.heap.size w w' := by
  cases h1 : mayB k a b c n
  · exact one_ k k2 a b c n a2 b2 c2 n2 hk0 hk2 (fun e => by rw [h1] at e; cases e) w hT
  cases h2 : mayB k2 a2 b2 c2 n2
  · exact one_ k k2 a b c n a2 b2 c2 n2 hk0 hk2 (fun _ e => by rw [h2] at e; cases e) w hT
  have hw : ¬ (k = k2 ∧ a = a2 ∧ b = b2 ∧ c = c2 ∧ n = n2) → (word k a b c n == word k2 a2 b2 c2 n2) = false := fun h => by
    rw [beq_eq_false_iff_ne]
    exact fun e => h (word_one h1 h2 e)
  by_cases e1 : k = k2
  · subst e1
    by_cases e2 : a = a2
    · subst e2
      by_cases e3 : b = b2
      · subst e3
        by_cases e4 : c = c2
        · subst e4
          by_cases e5 : n = n2
          · subst e5
            exact one_same k a b c n h1 w hT
          · exact one_n k a b c n n2 h1 h2 (hw (fun h => e5 h.2.2.2.2)) (by rw [beq_eq_false_iff_ne]; exact e5) w hT
        · exact one_c k a b c n c2 n2 h1 h2 (hw (fun h => e4 h.2.2.2.1)) (by rw [beq_eq_false_iff_ne]; exact e4) w hT
      · exact one_b k a b c n b2 c2 n2 h1 h2 (hw (fun h => e3 h.2.2.1)) (by rw [beq_eq_false_iff_ne]; exact e3) w hT
    · exact one_a k a b c n a2 b2 c2 n2 h1 h2 (hw (fun h => e2 h.2.1)) (by rw [beq_eq_false_iff_ne]; exact e2) w hT
  · exact one_k k k2 a b c n a2 b2 c2 n2 h1 h2 (hw (fun h => e1 h.1)) (by rw [beq_eq_false_iff_ne]; omega) w hT

end Go.Proofs.YtgodjedijkfciaaDoor.One
