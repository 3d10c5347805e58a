/-
  The reference of the layer 'code' walked: Word, Put, Take.
-/
import Derived.Test.YtdaglmoibijdeaaDoorCodeRefMay
import Derived.Test.YtdaglmoibijdeaaDoorCodeTake
namespace Go.Proofs.YtdaglmoibijdeaaDoor.CodeRefT
open Go.RowKit Base CodePlain CodeBits CodeTab CodePut CodeTake
set_option linter.unusedVariables false
set_option linter.unusedSimpArgs false
set_option maxHeartbeats 1000000

theorem word_2n (k f : Nat) (a b c n : Int) (hm : mayB k a b c n = true) (hf : formN k = f) (h2 : f = 2) (hn : n < 0) (w : World) :
    Calls Tryd.prog 29 #[code5 k a b c n] w fun e w' => e = .returned (.int .u32 (word k a b c n)) ∧ Below w.heap.size w w' := by
  have hk := mayB_lt hm
  have hk1 : (k : Int) < 22 := by omega
  have HF := hide (fun w => form_any k (by omega) w)
  have hmp := mayP_of hm
  rw [hf] at HF hmp
  obtain ⟨⟨a0, a1⟩, ⟨b0, b1⟩, ⟨c0, c1⟩, hc, hb, ha, n2, n3, n5, nz⟩ := hmp
  have h7 := formN_lt k
  rw [hf] at h7
  have hn0 : -2097152 ≤ n := by by_cases e : f = 5 <;> by_cases e2 : f = 2 <;> by_cases e3 : f = 3 ∨ f = 4 <;> omega
  have hn1 : n < 2097152 := by by_cases e : f = 5 <;> by_cases e2 : f = 2 <;> by_cases e3 : f = 3 ∨ f = 4 <;> omega
  have hb2 := word_bd hm
  have hlow : low f n = n + 16384 := by
    rw [h2] at n2
    simp only [low, h2, if_true]
    omega
  have hw : word k a b c n = (k : Int) * 67108864 + a * 4194304 + b * 262144 + c * 16384 + (n + 16384) := by
    show _ + low (formN k) n = _
    rw [hf, hlow]
  have HW : Hid (((((k : Int) * 16 + a) * 16 + b) * 16 + c) * 16384 + (n + 16384) = word k a b c n) := hide (by rw [hw]; omega)
  have HB := hide hb2
  have e1 : ((f : Int) == 2) = true := by rw [beq_iff_eq]; omega
  have e2 : ((f : Int) != 2) = false := by rw [bne_eq_false_iff_eq]; omega
  have HE1 := hide e1
  have d1 : decide (n < 0) = true := by simp; omega
  clear hc hb ha n2 n3 n5 nz hm hf hk h2 hlow hw hb2
  unfold code5
  go_enter Tryd.func29, Tryd.ntmps29
  go_wp2_with (go_at_call 27; refine (HF.out _).mono ?_; rintro e wx ⟨rfl, rfl⟩)
  go_ret
  refine ⟨ret_w ?_, (Below.refl _ _).alloc (Nat.le_refl _) _⟩
  have h1 := HW.out
  have h2 := HB.out
  omega
theorem word_2p (k f : Nat) (a b c n : Int) (hm : mayB k a b c n = true) (hf : formN k = f) (h2 : f = 2) (hn : 0 ≤ n) (w : World) :
    Calls Tryd.prog 29 #[code5 k a b c n] w fun e w' => e = .returned (.int .u32 (word k a b c n)) ∧ Below w.heap.size w w' := by
  have hk := mayB_lt hm
  have hk1 : (k : Int) < 22 := by omega
  have HF := hide (fun w => form_any k (by omega) w)
  have hmp := mayP_of hm
  rw [hf] at HF hmp
  obtain ⟨⟨a0, a1⟩, ⟨b0, b1⟩, ⟨c0, c1⟩, hc, hb, ha, n2, n3, n5, nz⟩ := hmp
  have h7 := formN_lt k
  rw [hf] at h7
  have hn0 : -2097152 ≤ n := by by_cases e : f = 5 <;> by_cases e2 : f = 2 <;> by_cases e3 : f = 3 ∨ f = 4 <;> omega
  have hn1 : n < 2097152 := by by_cases e : f = 5 <;> by_cases e2 : f = 2 <;> by_cases e3 : f = 3 ∨ f = 4 <;> omega
  have hb2 := word_bd hm
  have hlow : low f n = n := by
    rw [h2] at n2
    simp only [low, h2, if_true]
    omega
  have hw : word k a b c n = (k : Int) * 67108864 + a * 4194304 + b * 262144 + c * 16384 + (n) := by
    show _ + low (formN k) n = _
    rw [hf, hlow]
  have HW : Hid (((((k : Int) * 16 + a) * 16 + b) * 16 + c) * 16384 + (n) = word k a b c n) := hide (by rw [hw]; omega)
  have HB := hide hb2
  have e1 : ((f : Int) == 2) = true := by rw [beq_iff_eq]; omega
  have e2 : ((f : Int) != 2) = false := by rw [bne_eq_false_iff_eq]; omega
  have HE1 := hide e1
  have d1 : decide (n < 0) = false := by simp; omega
  clear hc hb ha n2 n3 n5 nz hm hf hk h2 hlow hw hb2
  unfold code5
  go_enter Tryd.func29, Tryd.ntmps29
  go_wp2_with (go_at_call 27; refine (HF.out _).mono ?_; rintro e wx ⟨rfl, rfl⟩)
  go_ret
  refine ⟨ret_w ?_, (Below.refl _ _).alloc (Nat.le_refl _) _⟩
  have h1 := HW.out
  have h2 := HB.out
  omega
theorem word_xn (k f : Nat) (a b c n : Int) (hm : mayB k a b c n = true) (hf : formN k = f) (h2 : ¬ f = 2) (hn : n < 0) (w : World) :
    Calls Tryd.prog 29 #[code5 k a b c n] w fun e w' => e = .returned (.int .u32 (word k a b c n)) ∧ Below w.heap.size w w' := by
  have hk := mayB_lt hm
  have hk1 : (k : Int) < 22 := by omega
  have HF := hide (fun w => form_any k (by omega) w)
  have hmp := mayP_of hm
  rw [hf] at HF hmp
  obtain ⟨⟨a0, a1⟩, ⟨b0, b1⟩, ⟨c0, c1⟩, hc, hb, ha, n2, n3, n5, nz⟩ := hmp
  have h7 := formN_lt k
  rw [hf] at h7
  have hn0 : -2097152 ≤ n := by by_cases e : f = 5 <;> by_cases e2 : f = 2 <;> by_cases e3 : f = 3 ∨ f = 4 <;> omega
  have hn1 : n < 2097152 := by by_cases e : f = 5 <;> by_cases e2 : f = 2 <;> by_cases e3 : f = 3 ∨ f = 4 <;> omega
  have hb2 := word_bd hm
  have hlow : low f n = n + 4194304 := by
    skip
    simp only [low, if_neg h2]
    omega
  have hw : word k a b c n = (k : Int) * 67108864 + a * 4194304 + b * 262144 + c * 16384 + (n + 4194304) := by
    show _ + low (formN k) n = _
    rw [hf, hlow]
  have HW : Hid (((((k : Int) * 16 + a) * 16 + b) * 16 + c) * 16384 + (n + 4194304) = word k a b c n) := hide (by rw [hw]; omega)
  have HB := hide hb2
  have e1 : ((f : Int) == 2) = false := by rw [beq_eq_false_iff_ne]; omega
  have e2 : ((f : Int) != 2) = true := by rw [bne_iff_ne]; omega
  have HE1 := hide e1
  have d1 : decide (n < 0) = true := by simp; omega
  clear hc hb ha n2 n3 n5 nz hm hf hk h2 hlow hw hb2
  unfold code5
  go_enter Tryd.func29, Tryd.ntmps29
  go_wp2_with (go_at_call 27; refine (HF.out _).mono ?_; rintro e wx ⟨rfl, rfl⟩)
  go_ret
  refine ⟨ret_w ?_, (Below.refl _ _).alloc (Nat.le_refl _) _⟩
  have h1 := HW.out
  have h2 := HB.out
  omega
theorem word_xp (k f : Nat) (a b c n : Int) (hm : mayB k a b c n = true) (hf : formN k = f) (h2 : ¬ f = 2) (hn : 0 ≤ n) (w : World) :
    Calls Tryd.prog 29 #[code5 k a b c n] w fun e w' => e = .returned (.int .u32 (word k a b c n)) ∧ Below w.heap.size w w' := by
  have hk := mayB_lt hm
  have hk1 : (k : Int) < 22 := by omega
  have HF := hide (fun w => form_any k (by omega) w)
  have hmp := mayP_of hm
  rw [hf] at HF hmp
  obtain ⟨⟨a0, a1⟩, ⟨b0, b1⟩, ⟨c0, c1⟩, hc, hb, ha, n2, n3, n5, nz⟩ := hmp
  have h7 := formN_lt k
  rw [hf] at h7
  have hn0 : -2097152 ≤ n := by by_cases e : f = 5 <;> by_cases e2 : f = 2 <;> by_cases e3 : f = 3 ∨ f = 4 <;> omega
  have hn1 : n < 2097152 := by by_cases e : f = 5 <;> by_cases e2 : f = 2 <;> by_cases e3 : f = 3 ∨ f = 4 <;> omega
  have hb2 := word_bd hm
  have hlow : low f n = n := by
    skip
    simp only [low, if_neg h2]
    omega
  have hw : word k a b c n = (k : Int) * 67108864 + a * 4194304 + b * 262144 + c * 16384 + (n) := by
    show _ + low (formN k) n = _
    rw [hf, hlow]
  have HW : Hid (((((k : Int) * 16 + a) * 16 + b) * 16 + c) * 16384 + (n) = word k a b c n) := hide (by rw [hw]; omega)
  have HB := hide hb2
  have e1 : ((f : Int) == 2) = false := by rw [beq_eq_false_iff_ne]; omega
  have e2 : ((f : Int) != 2) = true := by rw [bne_iff_ne]; omega
  have HE1 := hide e1
  have d1 : decide (n < 0) = false := by simp; omega
  clear hc hb ha n2 n3 n5 nz hm hf hk h2 hlow hw hb2
  unfold code5
  go_enter Tryd.func29, Tryd.ntmps29
  go_wp2_with (go_at_call 27; refine (HF.out _).mono ?_; rintro e wx ⟨rfl, rfl⟩)
  go_ret
  refine ⟨ret_w ?_, (Below.refl _ _).alloc (Nat.le_refl _) _⟩
  have h1 := HW.out
  have h2 := HB.out
  omega
theorem word_any (k : Nat) (a b c n : Int) (hm : mayB k a b c n = true) (w : World) :
    Calls Tryd.prog 29 #[code5 k a b c n] w fun e w' => e = .returned (.int .u32 (word k a b c n)) ∧ Below w.heap.size w w' := by
  by_cases h2 : formN k = 2 <;> by_cases hn : n < 0
  · exact word_2n k _ a b c n hm rfl h2 hn w
  · exact word_2p k _ a b c n hm rfl h2 (by omega) w
  · exact word_xn k _ a b c n hm rfl h2 hn w
  · exact word_xp k _ a b c n hm rfl h2 (by omega) w
theorem take0_bad (x : Int) (hx0 : 0 ≤ x) (hx1 : x < 4294967296) (hf : formN (tK x) = 0) (w : World)
    (hp : ∀ w, Calls Tryd.prog 28 #[.agg #[.int .u8 (x / 67108864), .int .i64 (0), .int .i64 (0), .int .i64 (0), .int .i64 (0)]] w fun e w' => e = .returned (.bool false) ∧ Below w.heap.size w w')
    :
    Calls Tryd.prog 21 #[.int .u32 x] w fun e w' => e = .returned (.tuple #[.agg #[.int .u8 0, .int .i64 0, .int .i64 0, .int .i64 0, .int .i64 0], .int .i64 6]) ∧ Below w.heap.size w w' := by
  have hK : ((tK x : Nat) : Int) = x / 67108864 := by unfold tK; omega
  have hF := fun w => form_any (tK x) (by omega) w
  rw [hf, hK] at hF
  have HF := hide hF
  have k0 : 0 ≤ x / 67108864 := by omega
  have k1 : x / 67108864 < 64 := by omega
  have HP := hide hp
  skip
  clear hf hp hK hF
  go_enter Tryd.func21, Tryd.ntmps21
  go_wp2_with (first
    | (go_at_call 27; refine (HF.out _).mono ?_; rintro e wx ⟨rfl, rfl⟩)
    | (go_at_call 28; refine (HP.out _).mono ?_; rintro e w1 ⟨rfl, hb1⟩; have B4 := hide ((Blk.new_at (w.alloc (.cells #[.int .u8 0, .int .i64 0, .int .i64 0, .int .i64 0, .int .i64 0] 38)) 38 #[.int .u8 (x / 67108864), .int .i64 (0), .int .i64 (0), .int .i64 (0), .int .i64 (0)] (N := w.heap.size + 1) (by simp)).below hb1 (by simp)); have c4 := c5_of B4.out; have B2 := hide (((Blk.new w 38 #[.int .u8 0, .int .i64 0, .int .i64 0, .int .i64 0, .int .i64 0]).alloc (.cells #[.int .u8 (x / 67108864), .int .i64 (0), .int .i64 (0), .int .i64 (0), .int .i64 (0)] 38)).below hb1 (by simp; omega)); have c2 := c5_of B2.out; have fz := fun i => B2.out.frozen i; have W2 := hide ((((Below.refl w.heap.size w).alloc (Nat.le_refl _) (.cells #[.int .u8 0, .int .i64 0, .int .i64 0, .int .i64 0, .int .i64 0] 38)).alloc (by simp) (.cells #[.int .u8 (x / 67108864), .int .i64 (0), .int .i64 (0), .int .i64 (0), .int .i64 (0)] 38)).trans (hb1.mono (by simp; omega))); clear hb1))
  exact bodyPost_ret (v := .tuple #[.agg #[.int .u8 0, .int .i64 0, .int .i64 0, .int .i64 0, .int .i64 0], .int .i64 6]) (ret_row2 Tryd.results21 rfl (((((B2.out.set_ 0 (.int .u8 0)).set_ 1 (.int .i64 0)).set_ 2 (.int .i64 0)).set_ 3 (.int .i64 0)).set_ 4 (.int .i64 0)) Tryd.underlying38 isz) rfl
    ⟨rfl, (((((W2.out.setCell (p := ⟨w.heap.size, 0, none⟩) (Nat.le_refl _) (.int .u8 0)).setCell (p := ⟨w.heap.size, 1, none⟩) (Nat.le_refl _) (.int .i64 0)).setCell (p := ⟨w.heap.size, 2, none⟩) (Nat.le_refl _) (.int .i64 0)).setCell (p := ⟨w.heap.size, 3, none⟩) (Nat.le_refl _) (.int .i64 0)).setCell (p := ⟨w.heap.size, 4, none⟩) (Nat.le_refl _) (.int .i64 0))⟩
theorem take0_other (x y : Int) (hx0 : 0 ≤ x) (hx1 : x < 4294967296) (hf : formN (tK x) = 0) (w : World)
    (hp : ∀ w, Calls Tryd.prog 28 #[.agg #[.int .u8 (x / 67108864), .int .i64 (0), .int .i64 (0), .int .i64 (0), .int .i64 (0)]] w fun e w' => e = .returned (.bool true) ∧ Below w.heap.size w w')
    (hw : ∀ w, Calls Tryd.prog 29 #[.agg #[.int .u8 (x / 67108864), .int .i64 (0), .int .i64 (0), .int .i64 (0), .int .i64 (0)]] w fun e w' => e = .returned (.int .u32 y) ∧ Below w.heap.size w w') (hy : (y != x) = true) :
    Calls Tryd.prog 21 #[.int .u32 x] w fun e w' => e = .returned (.tuple #[.agg #[.int .u8 0, .int .i64 0, .int .i64 0, .int .i64 0, .int .i64 0], .int .i64 6]) ∧ Below w.heap.size w w' := by
  have hK : ((tK x : Nat) : Int) = x / 67108864 := by unfold tK; omega
  have hF := fun w => form_any (tK x) (by omega) w
  rw [hf, hK] at hF
  have HF := hide hF
  have k0 : 0 ≤ x / 67108864 := by omega
  have k1 : x / 67108864 < 64 := by omega
  have HP := hide hp
  have HW := hide hw
  clear hf hp hw hK hF
  go_enter Tryd.func21, Tryd.ntmps21
  go_wp2_with (first
    | (go_at_call 27; refine (HF.out _).mono ?_; rintro e wx ⟨rfl, rfl⟩)
    | (go_at_call 28; refine (HP.out _).mono ?_; rintro e w1 ⟨rfl, hb1⟩; have B4 := hide ((Blk.new_at (w.alloc (.cells #[.int .u8 0, .int .i64 0, .int .i64 0, .int .i64 0, .int .i64 0] 38)) 38 #[.int .u8 (x / 67108864), .int .i64 (0), .int .i64 (0), .int .i64 (0), .int .i64 (0)] (N := w.heap.size + 1) (by simp)).below hb1 (by simp)); have c4 := c5_of B4.out; have B2 := hide (((Blk.new w 38 #[.int .u8 0, .int .i64 0, .int .i64 0, .int .i64 0, .int .i64 0]).alloc (.cells #[.int .u8 (x / 67108864), .int .i64 (0), .int .i64 (0), .int .i64 (0), .int .i64 (0)] 38)).below hb1 (by simp; omega)); have c2 := c5_of B2.out; have fz := fun i => B2.out.frozen i; have W2 := hide ((((Below.refl w.heap.size w).alloc (Nat.le_refl _) (.cells #[.int .u8 0, .int .i64 0, .int .i64 0, .int .i64 0, .int .i64 0] 38)).alloc (by simp) (.cells #[.int .u8 (x / 67108864), .int .i64 (0), .int .i64 (0), .int .i64 (0), .int .i64 (0)] 38)).trans (hb1.mono (by simp; omega))); clear hb1)
    | (go_at_call 29; refine (HW.out _).mono ?_; rintro e w2 ⟨rfl, hb2⟩; clear c4 c2 fz; have c4 := c5_of (B4.out.below hb2 B4.out.lt); have B3 := hide (B2.out.below hb2 B2.out.lt); have c2 := c5_of B3.out; have fz := fun i => B3.out.frozen i; have W3 := hide (below_then W2.out hb2); clear hb2))
  exact bodyPost_ret (v := .tuple #[.agg #[.int .u8 0, .int .i64 0, .int .i64 0, .int .i64 0, .int .i64 0], .int .i64 6]) (ret_row2 Tryd.results21 rfl (((((B3.out.set_ 0 (.int .u8 0)).set_ 1 (.int .i64 0)).set_ 2 (.int .i64 0)).set_ 3 (.int .i64 0)).set_ 4 (.int .i64 0)) Tryd.underlying38 isz) rfl
    ⟨rfl, (((((W3.out.setCell (p := ⟨w.heap.size, 0, none⟩) (Nat.le_refl _) (.int .u8 0)).setCell (p := ⟨w.heap.size, 1, none⟩) (Nat.le_refl _) (.int .i64 0)).setCell (p := ⟨w.heap.size, 2, none⟩) (Nat.le_refl _) (.int .i64 0)).setCell (p := ⟨w.heap.size, 3, none⟩) (Nat.le_refl _) (.int .i64 0)).setCell (p := ⟨w.heap.size, 4, none⟩) (Nat.le_refl _) (.int .i64 0))⟩
theorem take0_ok (x : Int) (hx0 : 0 ≤ x) (hx1 : x < 4294967296) (hf : formN (tK x) = 0) (w : World)
    (hp : ∀ w, Calls Tryd.prog 28 #[.agg #[.int .u8 (x / 67108864), .int .i64 (0), .int .i64 (0), .int .i64 (0), .int .i64 (0)]] w fun e w' => e = .returned (.bool true) ∧ Below w.heap.size w w')
    (hw : ∀ w, Calls Tryd.prog 29 #[.agg #[.int .u8 (x / 67108864), .int .i64 (0), .int .i64 (0), .int .i64 (0), .int .i64 (0)]] w fun e w' => e = .returned (.int .u32 x) ∧ Below w.heap.size w w') :
    Calls Tryd.prog 21 #[.int .u32 x] w fun e w' => e = .returned (.tuple #[.agg #[.int .u8 (x / 67108864), .int .i64 (0), .int .i64 (0), .int .i64 (0), .int .i64 (0)], .int .i64 0]) ∧ Below w.heap.size w w' := by
  have hK : ((tK x : Nat) : Int) = x / 67108864 := by unfold tK; omega
  have hF := fun w => form_any (tK x) (by omega) w
  rw [hf, hK] at hF
  have HF := hide hF
  have k0 : 0 ≤ x / 67108864 := by omega
  have k1 : x / 67108864 < 64 := by omega
  have HP := hide hp
  have HW := hide hw
  clear hf hp hw hK hF
  go_enter Tryd.func21, Tryd.ntmps21
  go_wp2_with (first
    | (go_at_call 27; refine (HF.out _).mono ?_; rintro e wx ⟨rfl, rfl⟩)
    | (go_at_call 28; refine (HP.out _).mono ?_; rintro e w1 ⟨rfl, hb1⟩; have B4 := hide ((Blk.new_at (w.alloc (.cells #[.int .u8 0, .int .i64 0, .int .i64 0, .int .i64 0, .int .i64 0] 38)) 38 #[.int .u8 (x / 67108864), .int .i64 (0), .int .i64 (0), .int .i64 (0), .int .i64 (0)] (N := w.heap.size + 1) (by simp)).below hb1 (by simp)); have c4 := c5_of B4.out; have B2 := hide (((Blk.new w 38 #[.int .u8 0, .int .i64 0, .int .i64 0, .int .i64 0, .int .i64 0]).alloc (.cells #[.int .u8 (x / 67108864), .int .i64 (0), .int .i64 (0), .int .i64 (0), .int .i64 (0)] 38)).below hb1 (by simp; omega)); have c2 := c5_of B2.out; have fz := fun i => B2.out.frozen i; have W2 := hide ((((Below.refl w.heap.size w).alloc (Nat.le_refl _) (.cells #[.int .u8 0, .int .i64 0, .int .i64 0, .int .i64 0, .int .i64 0] 38)).alloc (by simp) (.cells #[.int .u8 (x / 67108864), .int .i64 (0), .int .i64 (0), .int .i64 (0), .int .i64 (0)] 38)).trans (hb1.mono (by simp; omega))); clear hb1)
    | (go_at_call 29; refine (HW.out _).mono ?_; rintro e w2 ⟨rfl, hb2⟩; clear c4 c2 fz; have c4 := c5_of (B4.out.below hb2 B4.out.lt); have B3 := hide (B2.out.below hb2 B2.out.lt); have c2 := c5_of B3.out; have fz := fun i => B3.out.frozen i; have W3 := hide (below_then W2.out hb2); clear hb2))
  exact bodyPost_ret (v := .tuple #[.agg #[.int .u8 (x / 67108864), .int .i64 (0), .int .i64 (0), .int .i64 (0), .int .i64 (0)], .int .i64 0]) (ret_row2 Tryd.results21 rfl (((((B3.out.set_ 0 (.int .u8 (x / 67108864))).set_ 1 (.int .i64 (0))).set_ 2 (.int .i64 (0))).set_ 3 (.int .i64 (0))).set_ 4 (.int .i64 (0))) Tryd.underlying38 isz) rfl
    ⟨rfl, (((((W3.out.setCell (p := ⟨w.heap.size, 0, none⟩) (Nat.le_refl _) (.int .u8 (x / 67108864))).setCell (p := ⟨w.heap.size, 1, none⟩) (Nat.le_refl _) (.int .i64 (0))).setCell (p := ⟨w.heap.size, 2, none⟩) (Nat.le_refl _) (.int .i64 (0))).setCell (p := ⟨w.heap.size, 3, none⟩) (Nat.le_refl _) (.int .i64 (0))).setCell (p := ⟨w.heap.size, 4, none⟩) (Nat.le_refl _) (.int .i64 (0)))⟩
theorem take0 (x : Int) (hx0 : 0 ≤ x) (hx1 : x < 4294967296) (hf : formN (tK x) = 0) (w : World) :
    Calls Tryd.prog 21 #[.int .u32 x] w fun e w' => e = .returned (.tuple #[takeV x, .int .i64 (takeE x)]) ∧ Below w.heap.size w w' := by
  have hK : ((tK x : Nat) : Int) = x / 67108864 := by unfold tK; omega
  have hA : tA (formN (tK x)) x = 0 := by simp [tA, hf]
  have hB : tB (formN (tK x)) x = 0 := by simp [tB, hf]
  have hC : tC (formN (tK x)) x = 0 := by simp [tC, hf]
  have hN : tN (formN (tK x)) x = 0 := by simp [tN, hf]
  have hI : isB x = (mayB (tK x) (0) (0) (0) (0) && decide (word (tK x) (0) (0) (0) (0) = x)) := by unfold isB; rw [hA, hB, hC, hN]
  have hp := fun w => CodeRefMay.may_any (tK x) (0) (0) (0) (0) (by omega) w
  unfold code5 at hp
  rw [hK] at hp
  unfold takeV takeE code5
  rw [hA, hB, hC, hN, hI, hK]
  cases hm : mayB (tK x) (0) (0) (0) (0)
  · rw [hm] at hp
    exact take0_bad x hx0 hx1 hf w hp
  · have hw := fun w => word_any (tK x) (0) (0) (0) (0) hm w
    rw [hm] at hp
    unfold code5 at hw
    rw [hK] at hw
    by_cases he : word (tK x) (0) (0) (0) (0) = x
    · rw [he] at hw ⊢
      rw [decide_eq_true (rfl : x = x)]
      exact take0_ok x hx0 hx1 hf w hp hw
    · rw [decide_eq_false he]
      exact take0_other x _ hx0 hx1 hf w hp hw (by rw [bne_iff_ne]; exact he)
theorem take1_bad (x : Int) (hx0 : 0 ≤ x) (hx1 : x < 4294967296) (hf : formN (tK x) = 1) (w : World)
    (hp : ∀ w, Calls Tryd.prog 28 #[.agg #[.int .u8 (x / 67108864), .int .i64 (x / 4194304 % 16), .int .i64 (x / 262144 % 16), .int .i64 (x / 16384 % 16), .int .i64 (0)]] w fun e w' => e = .returned (.bool false) ∧ Below w.heap.size w w')
    :
    Calls Tryd.prog 21 #[.int .u32 x] w fun e w' => e = .returned (.tuple #[.agg #[.int .u8 0, .int .i64 0, .int .i64 0, .int .i64 0, .int .i64 0], .int .i64 6]) ∧ Below w.heap.size w w' := by
  have hK : ((tK x : Nat) : Int) = x / 67108864 := by unfold tK; omega
  have hF := fun w => form_any (tK x) (by omega) w
  rw [hf, hK] at hF
  have HF := hide hF
  have k0 : 0 ≤ x / 67108864 := by omega
  have k1 : x / 67108864 < 64 := by omega
  have HP := hide hp
  skip
  clear hf hp hK hF
  go_enter Tryd.func21, Tryd.ntmps21
  go_wp2_with (first
    | (go_at_call 27; refine (HF.out _).mono ?_; rintro e wx ⟨rfl, rfl⟩)
    | (go_at_call 28; refine (HP.out _).mono ?_; rintro e w1 ⟨rfl, hb1⟩; have B4 := hide ((Blk.new_at (w.alloc (.cells #[.int .u8 0, .int .i64 0, .int .i64 0, .int .i64 0, .int .i64 0] 38)) 38 #[.int .u8 (x / 67108864), .int .i64 (x / 4194304 % 16), .int .i64 (x / 262144 % 16), .int .i64 (x / 16384 % 16), .int .i64 (0)] (N := w.heap.size + 1) (by simp)).below hb1 (by simp)); have c4 := c5_of B4.out; have B2 := hide (((Blk.new w 38 #[.int .u8 0, .int .i64 0, .int .i64 0, .int .i64 0, .int .i64 0]).alloc (.cells #[.int .u8 (x / 67108864), .int .i64 (x / 4194304 % 16), .int .i64 (x / 262144 % 16), .int .i64 (x / 16384 % 16), .int .i64 (0)] 38)).below hb1 (by simp; omega)); have c2 := c5_of B2.out; have fz := fun i => B2.out.frozen i; have W2 := hide ((((Below.refl w.heap.size w).alloc (Nat.le_refl _) (.cells #[.int .u8 0, .int .i64 0, .int .i64 0, .int .i64 0, .int .i64 0] 38)).alloc (by simp) (.cells #[.int .u8 (x / 67108864), .int .i64 (x / 4194304 % 16), .int .i64 (x / 262144 % 16), .int .i64 (x / 16384 % 16), .int .i64 (0)] 38)).trans (hb1.mono (by simp; omega))); clear hb1))
  exact bodyPost_ret (v := .tuple #[.agg #[.int .u8 0, .int .i64 0, .int .i64 0, .int .i64 0, .int .i64 0], .int .i64 6]) (ret_row2 Tryd.results21 rfl (((((B2.out.set_ 0 (.int .u8 0)).set_ 1 (.int .i64 0)).set_ 2 (.int .i64 0)).set_ 3 (.int .i64 0)).set_ 4 (.int .i64 0)) Tryd.underlying38 isz) rfl
    ⟨rfl, (((((W2.out.setCell (p := ⟨w.heap.size, 0, none⟩) (Nat.le_refl _) (.int .u8 0)).setCell (p := ⟨w.heap.size, 1, none⟩) (Nat.le_refl _) (.int .i64 0)).setCell (p := ⟨w.heap.size, 2, none⟩) (Nat.le_refl _) (.int .i64 0)).setCell (p := ⟨w.heap.size, 3, none⟩) (Nat.le_refl _) (.int .i64 0)).setCell (p := ⟨w.heap.size, 4, none⟩) (Nat.le_refl _) (.int .i64 0))⟩
theorem take1_other (x y : Int) (hx0 : 0 ≤ x) (hx1 : x < 4294967296) (hf : formN (tK x) = 1) (w : World)
    (hp : ∀ w, Calls Tryd.prog 28 #[.agg #[.int .u8 (x / 67108864), .int .i64 (x / 4194304 % 16), .int .i64 (x / 262144 % 16), .int .i64 (x / 16384 % 16), .int .i64 (0)]] w fun e w' => e = .returned (.bool true) ∧ Below w.heap.size w w')
    (hw : ∀ w, Calls Tryd.prog 29 #[.agg #[.int .u8 (x / 67108864), .int .i64 (x / 4194304 % 16), .int .i64 (x / 262144 % 16), .int .i64 (x / 16384 % 16), .int .i64 (0)]] w fun e w' => e = .returned (.int .u32 y) ∧ Below w.heap.size w w') (hy : (y != x) = true) :
    Calls Tryd.prog 21 #[.int .u32 x] w fun e w' => e = .returned (.tuple #[.agg #[.int .u8 0, .int .i64 0, .int .i64 0, .int .i64 0, .int .i64 0], .int .i64 6]) ∧ Below w.heap.size w w' := by
  have hK : ((tK x : Nat) : Int) = x / 67108864 := by unfold tK; omega
  have hF := fun w => form_any (tK x) (by omega) w
  rw [hf, hK] at hF
  have HF := hide hF
  have k0 : 0 ≤ x / 67108864 := by omega
  have k1 : x / 67108864 < 64 := by omega
  have HP := hide hp
  have HW := hide hw
  clear hf hp hw hK hF
  go_enter Tryd.func21, Tryd.ntmps21
  go_wp2_with (first
    | (go_at_call 27; refine (HF.out _).mono ?_; rintro e wx ⟨rfl, rfl⟩)
    | (go_at_call 28; refine (HP.out _).mono ?_; rintro e w1 ⟨rfl, hb1⟩; have B4 := hide ((Blk.new_at (w.alloc (.cells #[.int .u8 0, .int .i64 0, .int .i64 0, .int .i64 0, .int .i64 0] 38)) 38 #[.int .u8 (x / 67108864), .int .i64 (x / 4194304 % 16), .int .i64 (x / 262144 % 16), .int .i64 (x / 16384 % 16), .int .i64 (0)] (N := w.heap.size + 1) (by simp)).below hb1 (by simp)); have c4 := c5_of B4.out; have B2 := hide (((Blk.new w 38 #[.int .u8 0, .int .i64 0, .int .i64 0, .int .i64 0, .int .i64 0]).alloc (.cells #[.int .u8 (x / 67108864), .int .i64 (x / 4194304 % 16), .int .i64 (x / 262144 % 16), .int .i64 (x / 16384 % 16), .int .i64 (0)] 38)).below hb1 (by simp; omega)); have c2 := c5_of B2.out; have fz := fun i => B2.out.frozen i; have W2 := hide ((((Below.refl w.heap.size w).alloc (Nat.le_refl _) (.cells #[.int .u8 0, .int .i64 0, .int .i64 0, .int .i64 0, .int .i64 0] 38)).alloc (by simp) (.cells #[.int .u8 (x / 67108864), .int .i64 (x / 4194304 % 16), .int .i64 (x / 262144 % 16), .int .i64 (x / 16384 % 16), .int .i64 (0)] 38)).trans (hb1.mono (by simp; omega))); clear hb1)
    | (go_at_call 29; refine (HW.out _).mono ?_; rintro e w2 ⟨rfl, hb2⟩; clear c4 c2 fz; have c4 := c5_of (B4.out.below hb2 B4.out.lt); have B3 := hide (B2.out.below hb2 B2.out.lt); have c2 := c5_of B3.out; have fz := fun i => B3.out.frozen i; have W3 := hide (below_then W2.out hb2); clear hb2))
  exact bodyPost_ret (v := .tuple #[.agg #[.int .u8 0, .int .i64 0, .int .i64 0, .int .i64 0, .int .i64 0], .int .i64 6]) (ret_row2 Tryd.results21 rfl (((((B3.out.set_ 0 (.int .u8 0)).set_ 1 (.int .i64 0)).set_ 2 (.int .i64 0)).set_ 3 (.int .i64 0)).set_ 4 (.int .i64 0)) Tryd.underlying38 isz) rfl
    ⟨rfl, (((((W3.out.setCell (p := ⟨w.heap.size, 0, none⟩) (Nat.le_refl _) (.int .u8 0)).setCell (p := ⟨w.heap.size, 1, none⟩) (Nat.le_refl _) (.int .i64 0)).setCell (p := ⟨w.heap.size, 2, none⟩) (Nat.le_refl _) (.int .i64 0)).setCell (p := ⟨w.heap.size, 3, none⟩) (Nat.le_refl _) (.int .i64 0)).setCell (p := ⟨w.heap.size, 4, none⟩) (Nat.le_refl _) (.int .i64 0))⟩
theorem take1_ok (x : Int) (hx0 : 0 ≤ x) (hx1 : x < 4294967296) (hf : formN (tK x) = 1) (w : World)
    (hp : ∀ w, Calls Tryd.prog 28 #[.agg #[.int .u8 (x / 67108864), .int .i64 (x / 4194304 % 16), .int .i64 (x / 262144 % 16), .int .i64 (x / 16384 % 16), .int .i64 (0)]] w fun e w' => e = .returned (.bool true) ∧ Below w.heap.size w w')
    (hw : ∀ w, Calls Tryd.prog 29 #[.agg #[.int .u8 (x / 67108864), .int .i64 (x / 4194304 % 16), .int .i64 (x / 262144 % 16), .int .i64 (x / 16384 % 16), .int .i64 (0)]] w fun e w' => e = .returned (.int .u32 x) ∧ Below w.heap.size w w') :
    Calls Tryd.prog 21 #[.int .u32 x] w fun e w' => e = .returned (.tuple #[.agg #[.int .u8 (x / 67108864), .int .i64 (x / 4194304 % 16), .int .i64 (x / 262144 % 16), .int .i64 (x / 16384 % 16), .int .i64 (0)], .int .i64 0]) ∧ Below w.heap.size w w' := by
  have hK : ((tK x : Nat) : Int) = x / 67108864 := by unfold tK; omega
  have hF := fun w => form_any (tK x) (by omega) w
  rw [hf, hK] at hF
  have HF := hide hF
  have k0 : 0 ≤ x / 67108864 := by omega
  have k1 : x / 67108864 < 64 := by omega
  have HP := hide hp
  have HW := hide hw
  clear hf hp hw hK hF
  go_enter Tryd.func21, Tryd.ntmps21
  go_wp2_with (first
    | (go_at_call 27; refine (HF.out _).mono ?_; rintro e wx ⟨rfl, rfl⟩)
    | (go_at_call 28; refine (HP.out _).mono ?_; rintro e w1 ⟨rfl, hb1⟩; have B4 := hide ((Blk.new_at (w.alloc (.cells #[.int .u8 0, .int .i64 0, .int .i64 0, .int .i64 0, .int .i64 0] 38)) 38 #[.int .u8 (x / 67108864), .int .i64 (x / 4194304 % 16), .int .i64 (x / 262144 % 16), .int .i64 (x / 16384 % 16), .int .i64 (0)] (N := w.heap.size + 1) (by simp)).below hb1 (by simp)); have c4 := c5_of B4.out; have B2 := hide (((Blk.new w 38 #[.int .u8 0, .int .i64 0, .int .i64 0, .int .i64 0, .int .i64 0]).alloc (.cells #[.int .u8 (x / 67108864), .int .i64 (x / 4194304 % 16), .int .i64 (x / 262144 % 16), .int .i64 (x / 16384 % 16), .int .i64 (0)] 38)).below hb1 (by simp; omega)); have c2 := c5_of B2.out; have fz := fun i => B2.out.frozen i; have W2 := hide ((((Below.refl w.heap.size w).alloc (Nat.le_refl _) (.cells #[.int .u8 0, .int .i64 0, .int .i64 0, .int .i64 0, .int .i64 0] 38)).alloc (by simp) (.cells #[.int .u8 (x / 67108864), .int .i64 (x / 4194304 % 16), .int .i64 (x / 262144 % 16), .int .i64 (x / 16384 % 16), .int .i64 (0)] 38)).trans (hb1.mono (by simp; omega))); clear hb1)
    | (go_at_call 29; refine (HW.out _).mono ?_; rintro e w2 ⟨rfl, hb2⟩; clear c4 c2 fz; have c4 := c5_of (B4.out.below hb2 B4.out.lt); have B3 := hide (B2.out.below hb2 B2.out.lt); have c2 := c5_of B3.out; have fz := fun i => B3.out.frozen i; have W3 := hide (below_then W2.out hb2); clear hb2))
  exact bodyPost_ret (v := .tuple #[.agg #[.int .u8 (x / 67108864), .int .i64 (x / 4194304 % 16), .int .i64 (x / 262144 % 16), .int .i64 (x / 16384 % 16), .int .i64 (0)], .int .i64 0]) (ret_row2 Tryd.results21 rfl (((((B3.out.set_ 0 (.int .u8 (x / 67108864))).set_ 1 (.int .i64 (x / 4194304 % 16))).set_ 2 (.int .i64 (x / 262144 % 16))).set_ 3 (.int .i64 (x / 16384 % 16))).set_ 4 (.int .i64 (0))) Tryd.underlying38 isz) rfl
    ⟨rfl, (((((W3.out.setCell (p := ⟨w.heap.size, 0, none⟩) (Nat.le_refl _) (.int .u8 (x / 67108864))).setCell (p := ⟨w.heap.size, 1, none⟩) (Nat.le_refl _) (.int .i64 (x / 4194304 % 16))).setCell (p := ⟨w.heap.size, 2, none⟩) (Nat.le_refl _) (.int .i64 (x / 262144 % 16))).setCell (p := ⟨w.heap.size, 3, none⟩) (Nat.le_refl _) (.int .i64 (x / 16384 % 16))).setCell (p := ⟨w.heap.size, 4, none⟩) (Nat.le_refl _) (.int .i64 (0)))⟩
theorem take1 (x : Int) (hx0 : 0 ≤ x) (hx1 : x < 4294967296) (hf : formN (tK x) = 1) (w : World) :
    Calls Tryd.prog 21 #[.int .u32 x] w fun e w' => e = .returned (.tuple #[takeV x, .int .i64 (takeE x)]) ∧ Below w.heap.size w w' := by
  have hK : ((tK x : Nat) : Int) = x / 67108864 := by unfold tK; omega
  have hA : tA (formN (tK x)) x = x / 4194304 % 16 := by simp [tA, hf]
  have hB : tB (formN (tK x)) x = x / 262144 % 16 := by simp [tB, hf]
  have hC : tC (formN (tK x)) x = x / 16384 % 16 := by simp [tC, hf]
  have hN : tN (formN (tK x)) x = 0 := by simp [tN, hf]
  have hI : isB x = (mayB (tK x) (x / 4194304 % 16) (x / 262144 % 16) (x / 16384 % 16) (0) && decide (word (tK x) (x / 4194304 % 16) (x / 262144 % 16) (x / 16384 % 16) (0) = x)) := by unfold isB; rw [hA, hB, hC, hN]
  have hp := fun w => CodeRefMay.may_any (tK x) (x / 4194304 % 16) (x / 262144 % 16) (x / 16384 % 16) (0) (by omega) w
  unfold code5 at hp
  rw [hK] at hp
  unfold takeV takeE code5
  rw [hA, hB, hC, hN, hI, hK]
  cases hm : mayB (tK x) (x / 4194304 % 16) (x / 262144 % 16) (x / 16384 % 16) (0)
  · rw [hm] at hp
    exact take1_bad x hx0 hx1 hf w hp
  · have hw := fun w => word_any (tK x) (x / 4194304 % 16) (x / 262144 % 16) (x / 16384 % 16) (0) hm w
    rw [hm] at hp
    unfold code5 at hw
    rw [hK] at hw
    by_cases he : word (tK x) (x / 4194304 % 16) (x / 262144 % 16) (x / 16384 % 16) (0) = x
    · rw [he] at hw ⊢
      rw [decide_eq_true (rfl : x = x)]
      exact take1_ok x hx0 hx1 hf w hp hw
    · rw [decide_eq_false he]
      exact take1_other x _ hx0 hx1 hf w hp hw (by rw [bne_iff_ne]; exact he)
theorem take2l_bad (x : Int) (hx0 : 0 ≤ x) (hx1 : x < 4294967296) (hf : formN (tK x) = 2) (hs : decide (8192 ≤ x % 16384) = false) (w : World)
    (hp : ∀ w, Calls Tryd.prog 28 #[.agg #[.int .u8 (x / 67108864), .int .i64 (x / 4194304 % 16), .int .i64 (x / 262144 % 16), .int .i64 (0), .int .i64 (x % 16384)]] w fun e w' => e = .returned (.bool false) ∧ Below w.heap.size w w')
    :
    Calls Tryd.prog 21 #[.int .u32 x] w fun e w' => e = .returned (.tuple #[.agg #[.int .u8 0, .int .i64 0, .int .i64 0, .int .i64 0, .int .i64 0], .int .i64 6]) ∧ Below w.heap.size w w' := by
  have hK : ((tK x : Nat) : Int) = x / 67108864 := by unfold tK; omega
  have hF := fun w => form_any (tK x) (by omega) w
  rw [hf, hK] at hF
  have HF := hide hF
  have k0 : 0 ≤ x / 67108864 := by omega
  have k1 : x / 67108864 < 64 := by omega
  have HP := hide hp
  skip
  clear hf hp hK hF
  go_enter Tryd.func21, Tryd.ntmps21
  go_wp2_with (first
    | (go_at_call 27; refine (HF.out _).mono ?_; rintro e wx ⟨rfl, rfl⟩)
    | (go_at_call 28; refine (HP.out _).mono ?_; rintro e w1 ⟨rfl, hb1⟩; have B4 := hide ((Blk.new_at (w.alloc (.cells #[.int .u8 0, .int .i64 0, .int .i64 0, .int .i64 0, .int .i64 0] 38)) 38 #[.int .u8 (x / 67108864), .int .i64 (x / 4194304 % 16), .int .i64 (x / 262144 % 16), .int .i64 (0), .int .i64 (x % 16384)] (N := w.heap.size + 1) (by simp)).below hb1 (by simp)); have c4 := c5_of B4.out; have B2 := hide (((Blk.new w 38 #[.int .u8 0, .int .i64 0, .int .i64 0, .int .i64 0, .int .i64 0]).alloc (.cells #[.int .u8 (x / 67108864), .int .i64 (x / 4194304 % 16), .int .i64 (x / 262144 % 16), .int .i64 (0), .int .i64 (x % 16384)] 38)).below hb1 (by simp; omega)); have c2 := c5_of B2.out; have fz := fun i => B2.out.frozen i; have W2 := hide ((((Below.refl w.heap.size w).alloc (Nat.le_refl _) (.cells #[.int .u8 0, .int .i64 0, .int .i64 0, .int .i64 0, .int .i64 0] 38)).alloc (by simp) (.cells #[.int .u8 (x / 67108864), .int .i64 (x / 4194304 % 16), .int .i64 (x / 262144 % 16), .int .i64 (0), .int .i64 (x % 16384)] 38)).trans (hb1.mono (by simp; omega))); clear hb1))
  exact bodyPost_ret (v := .tuple #[.agg #[.int .u8 0, .int .i64 0, .int .i64 0, .int .i64 0, .int .i64 0], .int .i64 6]) (ret_row2 Tryd.results21 rfl (((((B2.out.set_ 0 (.int .u8 0)).set_ 1 (.int .i64 0)).set_ 2 (.int .i64 0)).set_ 3 (.int .i64 0)).set_ 4 (.int .i64 0)) Tryd.underlying38 isz) rfl
    ⟨rfl, (((((W2.out.setCell (p := ⟨w.heap.size, 0, none⟩) (Nat.le_refl _) (.int .u8 0)).setCell (p := ⟨w.heap.size, 1, none⟩) (Nat.le_refl _) (.int .i64 0)).setCell (p := ⟨w.heap.size, 2, none⟩) (Nat.le_refl _) (.int .i64 0)).setCell (p := ⟨w.heap.size, 3, none⟩) (Nat.le_refl _) (.int .i64 0)).setCell (p := ⟨w.heap.size, 4, none⟩) (Nat.le_refl _) (.int .i64 0))⟩
theorem take2l_other (x y : Int) (hx0 : 0 ≤ x) (hx1 : x < 4294967296) (hf : formN (tK x) = 2) (hs : decide (8192 ≤ x % 16384) = false) (w : World)
    (hp : ∀ w, Calls Tryd.prog 28 #[.agg #[.int .u8 (x / 67108864), .int .i64 (x / 4194304 % 16), .int .i64 (x / 262144 % 16), .int .i64 (0), .int .i64 (x % 16384)]] w fun e w' => e = .returned (.bool true) ∧ Below w.heap.size w w')
    (hw : ∀ w, Calls Tryd.prog 29 #[.agg #[.int .u8 (x / 67108864), .int .i64 (x / 4194304 % 16), .int .i64 (x / 262144 % 16), .int .i64 (0), .int .i64 (x % 16384)]] w fun e w' => e = .returned (.int .u32 y) ∧ Below w.heap.size w w') (hy : (y != x) = true) :
    Calls Tryd.prog 21 #[.int .u32 x] w fun e w' => e = .returned (.tuple #[.agg #[.int .u8 0, .int .i64 0, .int .i64 0, .int .i64 0, .int .i64 0], .int .i64 6]) ∧ Below w.heap.size w w' := by
  have hK : ((tK x : Nat) : Int) = x / 67108864 := by unfold tK; omega
  have hF := fun w => form_any (tK x) (by omega) w
  rw [hf, hK] at hF
  have HF := hide hF
  have k0 : 0 ≤ x / 67108864 := by omega
  have k1 : x / 67108864 < 64 := by omega
  have HP := hide hp
  have HW := hide hw
  clear hf hp hw hK hF
  go_enter Tryd.func21, Tryd.ntmps21
  go_wp2_with (first
    | (go_at_call 27; refine (HF.out _).mono ?_; rintro e wx ⟨rfl, rfl⟩)
    | (go_at_call 28; refine (HP.out _).mono ?_; rintro e w1 ⟨rfl, hb1⟩; have B4 := hide ((Blk.new_at (w.alloc (.cells #[.int .u8 0, .int .i64 0, .int .i64 0, .int .i64 0, .int .i64 0] 38)) 38 #[.int .u8 (x / 67108864), .int .i64 (x / 4194304 % 16), .int .i64 (x / 262144 % 16), .int .i64 (0), .int .i64 (x % 16384)] (N := w.heap.size + 1) (by simp)).below hb1 (by simp)); have c4 := c5_of B4.out; have B2 := hide (((Blk.new w 38 #[.int .u8 0, .int .i64 0, .int .i64 0, .int .i64 0, .int .i64 0]).alloc (.cells #[.int .u8 (x / 67108864), .int .i64 (x / 4194304 % 16), .int .i64 (x / 262144 % 16), .int .i64 (0), .int .i64 (x % 16384)] 38)).below hb1 (by simp; omega)); have c2 := c5_of B2.out; have fz := fun i => B2.out.frozen i; have W2 := hide ((((Below.refl w.heap.size w).alloc (Nat.le_refl _) (.cells #[.int .u8 0, .int .i64 0, .int .i64 0, .int .i64 0, .int .i64 0] 38)).alloc (by simp) (.cells #[.int .u8 (x / 67108864), .int .i64 (x / 4194304 % 16), .int .i64 (x / 262144 % 16), .int .i64 (0), .int .i64 (x % 16384)] 38)).trans (hb1.mono (by simp; omega))); clear hb1)
    | (go_at_call 29; refine (HW.out _).mono ?_; rintro e w2 ⟨rfl, hb2⟩; clear c4 c2 fz; have c4 := c5_of (B4.out.below hb2 B4.out.lt); have B3 := hide (B2.out.below hb2 B2.out.lt); have c2 := c5_of B3.out; have fz := fun i => B3.out.frozen i; have W3 := hide (below_then W2.out hb2); clear hb2))
  exact bodyPost_ret (v := .tuple #[.agg #[.int .u8 0, .int .i64 0, .int .i64 0, .int .i64 0, .int .i64 0], .int .i64 6]) (ret_row2 Tryd.results21 rfl (((((B3.out.set_ 0 (.int .u8 0)).set_ 1 (.int .i64 0)).set_ 2 (.int .i64 0)).set_ 3 (.int .i64 0)).set_ 4 (.int .i64 0)) Tryd.underlying38 isz) rfl
    ⟨rfl, (((((W3.out.setCell (p := ⟨w.heap.size, 0, none⟩) (Nat.le_refl _) (.int .u8 0)).setCell (p := ⟨w.heap.size, 1, none⟩) (Nat.le_refl _) (.int .i64 0)).setCell (p := ⟨w.heap.size, 2, none⟩) (Nat.le_refl _) (.int .i64 0)).setCell (p := ⟨w.heap.size, 3, none⟩) (Nat.le_refl _) (.int .i64 0)).setCell (p := ⟨w.heap.size, 4, none⟩) (Nat.le_refl _) (.int .i64 0))⟩
theorem take2l_ok (x : Int) (hx0 : 0 ≤ x) (hx1 : x < 4294967296) (hf : formN (tK x) = 2) (hs : decide (8192 ≤ x % 16384) = false) (w : World)
    (hp : ∀ w, Calls Tryd.prog 28 #[.agg #[.int .u8 (x / 67108864), .int .i64 (x / 4194304 % 16), .int .i64 (x / 262144 % 16), .int .i64 (0), .int .i64 (x % 16384)]] w fun e w' => e = .returned (.bool true) ∧ Below w.heap.size w w')
    (hw : ∀ w, Calls Tryd.prog 29 #[.agg #[.int .u8 (x / 67108864), .int .i64 (x / 4194304 % 16), .int .i64 (x / 262144 % 16), .int .i64 (0), .int .i64 (x % 16384)]] w fun e w' => e = .returned (.int .u32 x) ∧ Below w.heap.size w w') :
    Calls Tryd.prog 21 #[.int .u32 x] w fun e w' => e = .returned (.tuple #[.agg #[.int .u8 (x / 67108864), .int .i64 (x / 4194304 % 16), .int .i64 (x / 262144 % 16), .int .i64 (0), .int .i64 (x % 16384)], .int .i64 0]) ∧ Below w.heap.size w w' := by
  have hK : ((tK x : Nat) : Int) = x / 67108864 := by unfold tK; omega
  have hF := fun w => form_any (tK x) (by omega) w
  rw [hf, hK] at hF
  have HF := hide hF
  have k0 : 0 ≤ x / 67108864 := by omega
  have k1 : x / 67108864 < 64 := by omega
  have HP := hide hp
  have HW := hide hw
  clear hf hp hw hK hF
  go_enter Tryd.func21, Tryd.ntmps21
  go_wp2_with (first
    | (go_at_call 27; refine (HF.out _).mono ?_; rintro e wx ⟨rfl, rfl⟩)
    | (go_at_call 28; refine (HP.out _).mono ?_; rintro e w1 ⟨rfl, hb1⟩; have B4 := hide ((Blk.new_at (w.alloc (.cells #[.int .u8 0, .int .i64 0, .int .i64 0, .int .i64 0, .int .i64 0] 38)) 38 #[.int .u8 (x / 67108864), .int .i64 (x / 4194304 % 16), .int .i64 (x / 262144 % 16), .int .i64 (0), .int .i64 (x % 16384)] (N := w.heap.size + 1) (by simp)).below hb1 (by simp)); have c4 := c5_of B4.out; have B2 := hide (((Blk.new w 38 #[.int .u8 0, .int .i64 0, .int .i64 0, .int .i64 0, .int .i64 0]).alloc (.cells #[.int .u8 (x / 67108864), .int .i64 (x / 4194304 % 16), .int .i64 (x / 262144 % 16), .int .i64 (0), .int .i64 (x % 16384)] 38)).below hb1 (by simp; omega)); have c2 := c5_of B2.out; have fz := fun i => B2.out.frozen i; have W2 := hide ((((Below.refl w.heap.size w).alloc (Nat.le_refl _) (.cells #[.int .u8 0, .int .i64 0, .int .i64 0, .int .i64 0, .int .i64 0] 38)).alloc (by simp) (.cells #[.int .u8 (x / 67108864), .int .i64 (x / 4194304 % 16), .int .i64 (x / 262144 % 16), .int .i64 (0), .int .i64 (x % 16384)] 38)).trans (hb1.mono (by simp; omega))); clear hb1)
    | (go_at_call 29; refine (HW.out _).mono ?_; rintro e w2 ⟨rfl, hb2⟩; clear c4 c2 fz; have c4 := c5_of (B4.out.below hb2 B4.out.lt); have B3 := hide (B2.out.below hb2 B2.out.lt); have c2 := c5_of B3.out; have fz := fun i => B3.out.frozen i; have W3 := hide (below_then W2.out hb2); clear hb2))
  exact bodyPost_ret (v := .tuple #[.agg #[.int .u8 (x / 67108864), .int .i64 (x / 4194304 % 16), .int .i64 (x / 262144 % 16), .int .i64 (0), .int .i64 (x % 16384)], .int .i64 0]) (ret_row2 Tryd.results21 rfl (((((B3.out.set_ 0 (.int .u8 (x / 67108864))).set_ 1 (.int .i64 (x / 4194304 % 16))).set_ 2 (.int .i64 (x / 262144 % 16))).set_ 3 (.int .i64 (0))).set_ 4 (.int .i64 (x % 16384))) Tryd.underlying38 isz) rfl
    ⟨rfl, (((((W3.out.setCell (p := ⟨w.heap.size, 0, none⟩) (Nat.le_refl _) (.int .u8 (x / 67108864))).setCell (p := ⟨w.heap.size, 1, none⟩) (Nat.le_refl _) (.int .i64 (x / 4194304 % 16))).setCell (p := ⟨w.heap.size, 2, none⟩) (Nat.le_refl _) (.int .i64 (x / 262144 % 16))).setCell (p := ⟨w.heap.size, 3, none⟩) (Nat.le_refl _) (.int .i64 (0))).setCell (p := ⟨w.heap.size, 4, none⟩) (Nat.le_refl _) (.int .i64 (x % 16384)))⟩
theorem take2h_bad (x : Int) (hx0 : 0 ≤ x) (hx1 : x < 4294967296) (hf : formN (tK x) = 2) (hs : decide (8192 ≤ x % 16384) = true) (w : World)
    (hp : ∀ w, Calls Tryd.prog 28 #[.agg #[.int .u8 (x / 67108864), .int .i64 (x / 4194304 % 16), .int .i64 (x / 262144 % 16), .int .i64 (0), .int .i64 (x % 16384 - 16384)]] w fun e w' => e = .returned (.bool false) ∧ Below w.heap.size w w')
    :
    Calls Tryd.prog 21 #[.int .u32 x] w fun e w' => e = .returned (.tuple #[.agg #[.int .u8 0, .int .i64 0, .int .i64 0, .int .i64 0, .int .i64 0], .int .i64 6]) ∧ Below w.heap.size w w' := by
  have hK : ((tK x : Nat) : Int) = x / 67108864 := by unfold tK; omega
  have hF := fun w => form_any (tK x) (by omega) w
  rw [hf, hK] at hF
  have HF := hide hF
  have k0 : 0 ≤ x / 67108864 := by omega
  have k1 : x / 67108864 < 64 := by omega
  have HP := hide hp
  skip
  clear hf hp hK hF
  go_enter Tryd.func21, Tryd.ntmps21
  go_wp2_with (first
    | (go_at_call 27; refine (HF.out _).mono ?_; rintro e wx ⟨rfl, rfl⟩)
    | (go_at_call 28; refine (HP.out _).mono ?_; rintro e w1 ⟨rfl, hb1⟩; have B4 := hide ((Blk.new_at (w.alloc (.cells #[.int .u8 0, .int .i64 0, .int .i64 0, .int .i64 0, .int .i64 0] 38)) 38 #[.int .u8 (x / 67108864), .int .i64 (x / 4194304 % 16), .int .i64 (x / 262144 % 16), .int .i64 (0), .int .i64 (x % 16384 - 16384)] (N := w.heap.size + 1) (by simp)).below hb1 (by simp)); have c4 := c5_of B4.out; have B2 := hide (((Blk.new w 38 #[.int .u8 0, .int .i64 0, .int .i64 0, .int .i64 0, .int .i64 0]).alloc (.cells #[.int .u8 (x / 67108864), .int .i64 (x / 4194304 % 16), .int .i64 (x / 262144 % 16), .int .i64 (0), .int .i64 (x % 16384 - 16384)] 38)).below hb1 (by simp; omega)); have c2 := c5_of B2.out; have fz := fun i => B2.out.frozen i; have W2 := hide ((((Below.refl w.heap.size w).alloc (Nat.le_refl _) (.cells #[.int .u8 0, .int .i64 0, .int .i64 0, .int .i64 0, .int .i64 0] 38)).alloc (by simp) (.cells #[.int .u8 (x / 67108864), .int .i64 (x / 4194304 % 16), .int .i64 (x / 262144 % 16), .int .i64 (0), .int .i64 (x % 16384 - 16384)] 38)).trans (hb1.mono (by simp; omega))); clear hb1))
  exact bodyPost_ret (v := .tuple #[.agg #[.int .u8 0, .int .i64 0, .int .i64 0, .int .i64 0, .int .i64 0], .int .i64 6]) (ret_row2 Tryd.results21 rfl (((((B2.out.set_ 0 (.int .u8 0)).set_ 1 (.int .i64 0)).set_ 2 (.int .i64 0)).set_ 3 (.int .i64 0)).set_ 4 (.int .i64 0)) Tryd.underlying38 isz) rfl
    ⟨rfl, (((((W2.out.setCell (p := ⟨w.heap.size, 0, none⟩) (Nat.le_refl _) (.int .u8 0)).setCell (p := ⟨w.heap.size, 1, none⟩) (Nat.le_refl _) (.int .i64 0)).setCell (p := ⟨w.heap.size, 2, none⟩) (Nat.le_refl _) (.int .i64 0)).setCell (p := ⟨w.heap.size, 3, none⟩) (Nat.le_refl _) (.int .i64 0)).setCell (p := ⟨w.heap.size, 4, none⟩) (Nat.le_refl _) (.int .i64 0))⟩
theorem take2h_other (x y : Int) (hx0 : 0 ≤ x) (hx1 : x < 4294967296) (hf : formN (tK x) = 2) (hs : decide (8192 ≤ x % 16384) = true) (w : World)
    (hp : ∀ w, Calls Tryd.prog 28 #[.agg #[.int .u8 (x / 67108864), .int .i64 (x / 4194304 % 16), .int .i64 (x / 262144 % 16), .int .i64 (0), .int .i64 (x % 16384 - 16384)]] w fun e w' => e = .returned (.bool true) ∧ Below w.heap.size w w')
    (hw : ∀ w, Calls Tryd.prog 29 #[.agg #[.int .u8 (x / 67108864), .int .i64 (x / 4194304 % 16), .int .i64 (x / 262144 % 16), .int .i64 (0), .int .i64 (x % 16384 - 16384)]] w fun e w' => e = .returned (.int .u32 y) ∧ Below w.heap.size w w') (hy : (y != x) = true) :
    Calls Tryd.prog 21 #[.int .u32 x] w fun e w' => e = .returned (.tuple #[.agg #[.int .u8 0, .int .i64 0, .int .i64 0, .int .i64 0, .int .i64 0], .int .i64 6]) ∧ Below w.heap.size w w' := by
  have hK : ((tK x : Nat) : Int) = x / 67108864 := by unfold tK; omega
  have hF := fun w => form_any (tK x) (by omega) w
  rw [hf, hK] at hF
  have HF := hide hF
  have k0 : 0 ≤ x / 67108864 := by omega
  have k1 : x / 67108864 < 64 := by omega
  have HP := hide hp
  have HW := hide hw
  clear hf hp hw hK hF
  go_enter Tryd.func21, Tryd.ntmps21
  go_wp2_with (first
    | (go_at_call 27; refine (HF.out _).mono ?_; rintro e wx ⟨rfl, rfl⟩)
    | (go_at_call 28; refine (HP.out _).mono ?_; rintro e w1 ⟨rfl, hb1⟩; have B4 := hide ((Blk.new_at (w.alloc (.cells #[.int .u8 0, .int .i64 0, .int .i64 0, .int .i64 0, .int .i64 0] 38)) 38 #[.int .u8 (x / 67108864), .int .i64 (x / 4194304 % 16), .int .i64 (x / 262144 % 16), .int .i64 (0), .int .i64 (x % 16384 - 16384)] (N := w.heap.size + 1) (by simp)).below hb1 (by simp)); have c4 := c5_of B4.out; have B2 := hide (((Blk.new w 38 #[.int .u8 0, .int .i64 0, .int .i64 0, .int .i64 0, .int .i64 0]).alloc (.cells #[.int .u8 (x / 67108864), .int .i64 (x / 4194304 % 16), .int .i64 (x / 262144 % 16), .int .i64 (0), .int .i64 (x % 16384 - 16384)] 38)).below hb1 (by simp; omega)); have c2 := c5_of B2.out; have fz := fun i => B2.out.frozen i; have W2 := hide ((((Below.refl w.heap.size w).alloc (Nat.le_refl _) (.cells #[.int .u8 0, .int .i64 0, .int .i64 0, .int .i64 0, .int .i64 0] 38)).alloc (by simp) (.cells #[.int .u8 (x / 67108864), .int .i64 (x / 4194304 % 16), .int .i64 (x / 262144 % 16), .int .i64 (0), .int .i64 (x % 16384 - 16384)] 38)).trans (hb1.mono (by simp; omega))); clear hb1)
    | (go_at_call 29; refine (HW.out _).mono ?_; rintro e w2 ⟨rfl, hb2⟩; clear c4 c2 fz; have c4 := c5_of (B4.out.below hb2 B4.out.lt); have B3 := hide (B2.out.below hb2 B2.out.lt); have c2 := c5_of B3.out; have fz := fun i => B3.out.frozen i; have W3 := hide (below_then W2.out hb2); clear hb2))
  exact bodyPost_ret (v := .tuple #[.agg #[.int .u8 0, .int .i64 0, .int .i64 0, .int .i64 0, .int .i64 0], .int .i64 6]) (ret_row2 Tryd.results21 rfl (((((B3.out.set_ 0 (.int .u8 0)).set_ 1 (.int .i64 0)).set_ 2 (.int .i64 0)).set_ 3 (.int .i64 0)).set_ 4 (.int .i64 0)) Tryd.underlying38 isz) rfl
    ⟨rfl, (((((W3.out.setCell (p := ⟨w.heap.size, 0, none⟩) (Nat.le_refl _) (.int .u8 0)).setCell (p := ⟨w.heap.size, 1, none⟩) (Nat.le_refl _) (.int .i64 0)).setCell (p := ⟨w.heap.size, 2, none⟩) (Nat.le_refl _) (.int .i64 0)).setCell (p := ⟨w.heap.size, 3, none⟩) (Nat.le_refl _) (.int .i64 0)).setCell (p := ⟨w.heap.size, 4, none⟩) (Nat.le_refl _) (.int .i64 0))⟩
theorem take2h_ok (x : Int) (hx0 : 0 ≤ x) (hx1 : x < 4294967296) (hf : formN (tK x) = 2) (hs : decide (8192 ≤ x % 16384) = true) (w : World)
    (hp : ∀ w, Calls Tryd.prog 28 #[.agg #[.int .u8 (x / 67108864), .int .i64 (x / 4194304 % 16), .int .i64 (x / 262144 % 16), .int .i64 (0), .int .i64 (x % 16384 - 16384)]] w fun e w' => e = .returned (.bool true) ∧ Below w.heap.size w w')
    (hw : ∀ w, Calls Tryd.prog 29 #[.agg #[.int .u8 (x / 67108864), .int .i64 (x / 4194304 % 16), .int .i64 (x / 262144 % 16), .int .i64 (0), .int .i64 (x % 16384 - 16384)]] w fun e w' => e = .returned (.int .u32 x) ∧ Below w.heap.size w w') :
    Calls Tryd.prog 21 #[.int .u32 x] w fun e w' => e = .returned (.tuple #[.agg #[.int .u8 (x / 67108864), .int .i64 (x / 4194304 % 16), .int .i64 (x / 262144 % 16), .int .i64 (0), .int .i64 (x % 16384 - 16384)], .int .i64 0]) ∧ Below w.heap.size w w' := by
  have hK : ((tK x : Nat) : Int) = x / 67108864 := by unfold tK; omega
  have hF := fun w => form_any (tK x) (by omega) w
  rw [hf, hK] at hF
  have HF := hide hF
  have k0 : 0 ≤ x / 67108864 := by omega
  have k1 : x / 67108864 < 64 := by omega
  have HP := hide hp
  have HW := hide hw
  clear hf hp hw hK hF
  go_enter Tryd.func21, Tryd.ntmps21
  go_wp2_with (first
    | (go_at_call 27; refine (HF.out _).mono ?_; rintro e wx ⟨rfl, rfl⟩)
    | (go_at_call 28; refine (HP.out _).mono ?_; rintro e w1 ⟨rfl, hb1⟩; have B4 := hide ((Blk.new_at (w.alloc (.cells #[.int .u8 0, .int .i64 0, .int .i64 0, .int .i64 0, .int .i64 0] 38)) 38 #[.int .u8 (x / 67108864), .int .i64 (x / 4194304 % 16), .int .i64 (x / 262144 % 16), .int .i64 (0), .int .i64 (x % 16384 - 16384)] (N := w.heap.size + 1) (by simp)).below hb1 (by simp)); have c4 := c5_of B4.out; have B2 := hide (((Blk.new w 38 #[.int .u8 0, .int .i64 0, .int .i64 0, .int .i64 0, .int .i64 0]).alloc (.cells #[.int .u8 (x / 67108864), .int .i64 (x / 4194304 % 16), .int .i64 (x / 262144 % 16), .int .i64 (0), .int .i64 (x % 16384 - 16384)] 38)).below hb1 (by simp; omega)); have c2 := c5_of B2.out; have fz := fun i => B2.out.frozen i; have W2 := hide ((((Below.refl w.heap.size w).alloc (Nat.le_refl _) (.cells #[.int .u8 0, .int .i64 0, .int .i64 0, .int .i64 0, .int .i64 0] 38)).alloc (by simp) (.cells #[.int .u8 (x / 67108864), .int .i64 (x / 4194304 % 16), .int .i64 (x / 262144 % 16), .int .i64 (0), .int .i64 (x % 16384 - 16384)] 38)).trans (hb1.mono (by simp; omega))); clear hb1)
    | (go_at_call 29; refine (HW.out _).mono ?_; rintro e w2 ⟨rfl, hb2⟩; clear c4 c2 fz; have c4 := c5_of (B4.out.below hb2 B4.out.lt); have B3 := hide (B2.out.below hb2 B2.out.lt); have c2 := c5_of B3.out; have fz := fun i => B3.out.frozen i; have W3 := hide (below_then W2.out hb2); clear hb2))
  exact bodyPost_ret (v := .tuple #[.agg #[.int .u8 (x / 67108864), .int .i64 (x / 4194304 % 16), .int .i64 (x / 262144 % 16), .int .i64 (0), .int .i64 (x % 16384 - 16384)], .int .i64 0]) (ret_row2 Tryd.results21 rfl (((((B3.out.set_ 0 (.int .u8 (x / 67108864))).set_ 1 (.int .i64 (x / 4194304 % 16))).set_ 2 (.int .i64 (x / 262144 % 16))).set_ 3 (.int .i64 (0))).set_ 4 (.int .i64 (x % 16384 - 16384))) Tryd.underlying38 isz) rfl
    ⟨rfl, (((((W3.out.setCell (p := ⟨w.heap.size, 0, none⟩) (Nat.le_refl _) (.int .u8 (x / 67108864))).setCell (p := ⟨w.heap.size, 1, none⟩) (Nat.le_refl _) (.int .i64 (x / 4194304 % 16))).setCell (p := ⟨w.heap.size, 2, none⟩) (Nat.le_refl _) (.int .i64 (x / 262144 % 16))).setCell (p := ⟨w.heap.size, 3, none⟩) (Nat.le_refl _) (.int .i64 (0))).setCell (p := ⟨w.heap.size, 4, none⟩) (Nat.le_refl _) (.int .i64 (x % 16384 - 16384)))⟩
theorem take2 (x : Int) (hx0 : 0 ≤ x) (hx1 : x < 4294967296) (hf : formN (tK x) = 2) (w : World) :
    Calls Tryd.prog 21 #[.int .u32 x] w fun e w' => e = .returned (.tuple #[takeV x, .int .i64 (takeE x)]) ∧ Below w.heap.size w w' := by
  have hK : ((tK x : Nat) : Int) = x / 67108864 := by unfold tK; omega
  cases hs : decide (8192 ≤ x % 16384)
  · have hs0 : ¬ 8192 ≤ x % 16384 := of_decide_eq_false hs
    have hA : tA (formN (tK x)) x = x / 4194304 % 16 := by simp [tA, hf]
    have hB : tB (formN (tK x)) x = x / 262144 % 16 := by simp [tB, hf]
    have hC : tC (formN (tK x)) x = 0 := by simp [tC, hf]
    have hN : tN (formN (tK x)) x = x % 16384 := by simp only [tN, hf]; simp [sgn]; omega
    have hI : isB x = (mayB (tK x) (x / 4194304 % 16) (x / 262144 % 16) (0) (x % 16384) && decide (word (tK x) (x / 4194304 % 16) (x / 262144 % 16) (0) (x % 16384) = x)) := by unfold isB; rw [hA, hB, hC, hN]
    have hp := fun w => CodeRefMay.may_any (tK x) (x / 4194304 % 16) (x / 262144 % 16) (0) (x % 16384) (by omega) w
    unfold code5 at hp
    rw [hK] at hp
    unfold takeV takeE code5
    rw [hA, hB, hC, hN, hI, hK]
    cases hm : mayB (tK x) (x / 4194304 % 16) (x / 262144 % 16) (0) (x % 16384)
    · rw [hm] at hp
      exact take2l_bad x hx0 hx1 hf hs w hp
    · have hw := fun w => word_any (tK x) (x / 4194304 % 16) (x / 262144 % 16) (0) (x % 16384) hm w
      rw [hm] at hp
      unfold code5 at hw
      rw [hK] at hw
      by_cases he : word (tK x) (x / 4194304 % 16) (x / 262144 % 16) (0) (x % 16384) = x
      · rw [he] at hw ⊢
        rw [decide_eq_true (rfl : x = x)]
        exact take2l_ok x hx0 hx1 hf hs w hp hw
      · rw [decide_eq_false he]
        exact take2l_other x _ hx0 hx1 hf hs w hp hw (by rw [bne_iff_ne]; exact he)
  · have hs0 : 8192 ≤ x % 16384 := of_decide_eq_true hs
    have hA : tA (formN (tK x)) x = x / 4194304 % 16 := by simp [tA, hf]
    have hB : tB (formN (tK x)) x = x / 262144 % 16 := by simp [tB, hf]
    have hC : tC (formN (tK x)) x = 0 := by simp [tC, hf]
    have hN : tN (formN (tK x)) x = x % 16384 - 16384 := by simp only [tN, hf]; simp [sgn]; omega
    have hI : isB x = (mayB (tK x) (x / 4194304 % 16) (x / 262144 % 16) (0) (x % 16384 - 16384) && decide (word (tK x) (x / 4194304 % 16) (x / 262144 % 16) (0) (x % 16384 - 16384) = x)) := by unfold isB; rw [hA, hB, hC, hN]
    have hp := fun w => CodeRefMay.may_any (tK x) (x / 4194304 % 16) (x / 262144 % 16) (0) (x % 16384 - 16384) (by omega) w
    unfold code5 at hp
    rw [hK] at hp
    unfold takeV takeE code5
    rw [hA, hB, hC, hN, hI, hK]
    cases hm : mayB (tK x) (x / 4194304 % 16) (x / 262144 % 16) (0) (x % 16384 - 16384)
    · rw [hm] at hp
      exact take2h_bad x hx0 hx1 hf hs w hp
    · have hw := fun w => word_any (tK x) (x / 4194304 % 16) (x / 262144 % 16) (0) (x % 16384 - 16384) hm w
      rw [hm] at hp
      unfold code5 at hw
      rw [hK] at hw
      by_cases he : word (tK x) (x / 4194304 % 16) (x / 262144 % 16) (0) (x % 16384 - 16384) = x
      · rw [he] at hw ⊢
        rw [decide_eq_true (rfl : x = x)]
        exact take2h_ok x hx0 hx1 hf hs w hp hw
      · rw [decide_eq_false he]
        exact take2h_other x _ hx0 hx1 hf hs w hp hw (by rw [bne_iff_ne]; exact he)
theorem take3l_bad (x : Int) (hx0 : 0 ≤ x) (hx1 : x < 4294967296) (hf : formN (tK x) = 3) (hs : decide (2097152 ≤ x % 4194304) = false) (w : World)
    (hp : ∀ w, Calls Tryd.prog 28 #[.agg #[.int .u8 (x / 67108864), .int .i64 (x / 4194304 % 16), .int .i64 (0), .int .i64 (0), .int .i64 (x % 4194304)]] w fun e w' => e = .returned (.bool false) ∧ Below w.heap.size w w')
    :
    Calls Tryd.prog 21 #[.int .u32 x] w fun e w' => e = .returned (.tuple #[.agg #[.int .u8 0, .int .i64 0, .int .i64 0, .int .i64 0, .int .i64 0], .int .i64 6]) ∧ Below w.heap.size w w' := by
  have hK : ((tK x : Nat) : Int) = x / 67108864 := by unfold tK; omega
  have hF := fun w => form_any (tK x) (by omega) w
  rw [hf, hK] at hF
  have HF := hide hF
  have k0 : 0 ≤ x / 67108864 := by omega
  have k1 : x / 67108864 < 64 := by omega
  have HP := hide hp
  skip
  clear hf hp hK hF
  go_enter Tryd.func21, Tryd.ntmps21
  go_wp2_with (first
    | (go_at_call 27; refine (HF.out _).mono ?_; rintro e wx ⟨rfl, rfl⟩)
    | (go_at_call 28; refine (HP.out _).mono ?_; rintro e w1 ⟨rfl, hb1⟩; have B4 := hide ((Blk.new_at (w.alloc (.cells #[.int .u8 0, .int .i64 0, .int .i64 0, .int .i64 0, .int .i64 0] 38)) 38 #[.int .u8 (x / 67108864), .int .i64 (x / 4194304 % 16), .int .i64 (0), .int .i64 (0), .int .i64 (x % 4194304)] (N := w.heap.size + 1) (by simp)).below hb1 (by simp)); have c4 := c5_of B4.out; have B2 := hide (((Blk.new w 38 #[.int .u8 0, .int .i64 0, .int .i64 0, .int .i64 0, .int .i64 0]).alloc (.cells #[.int .u8 (x / 67108864), .int .i64 (x / 4194304 % 16), .int .i64 (0), .int .i64 (0), .int .i64 (x % 4194304)] 38)).below hb1 (by simp; omega)); have c2 := c5_of B2.out; have fz := fun i => B2.out.frozen i; have W2 := hide ((((Below.refl w.heap.size w).alloc (Nat.le_refl _) (.cells #[.int .u8 0, .int .i64 0, .int .i64 0, .int .i64 0, .int .i64 0] 38)).alloc (by simp) (.cells #[.int .u8 (x / 67108864), .int .i64 (x / 4194304 % 16), .int .i64 (0), .int .i64 (0), .int .i64 (x % 4194304)] 38)).trans (hb1.mono (by simp; omega))); clear hb1))
  exact bodyPost_ret (v := .tuple #[.agg #[.int .u8 0, .int .i64 0, .int .i64 0, .int .i64 0, .int .i64 0], .int .i64 6]) (ret_row2 Tryd.results21 rfl (((((B2.out.set_ 0 (.int .u8 0)).set_ 1 (.int .i64 0)).set_ 2 (.int .i64 0)).set_ 3 (.int .i64 0)).set_ 4 (.int .i64 0)) Tryd.underlying38 isz) rfl
    ⟨rfl, (((((W2.out.setCell (p := ⟨w.heap.size, 0, none⟩) (Nat.le_refl _) (.int .u8 0)).setCell (p := ⟨w.heap.size, 1, none⟩) (Nat.le_refl _) (.int .i64 0)).setCell (p := ⟨w.heap.size, 2, none⟩) (Nat.le_refl _) (.int .i64 0)).setCell (p := ⟨w.heap.size, 3, none⟩) (Nat.le_refl _) (.int .i64 0)).setCell (p := ⟨w.heap.size, 4, none⟩) (Nat.le_refl _) (.int .i64 0))⟩
theorem take3l_other (x y : Int) (hx0 : 0 ≤ x) (hx1 : x < 4294967296) (hf : formN (tK x) = 3) (hs : decide (2097152 ≤ x % 4194304) = false) (w : World)
    (hp : ∀ w, Calls Tryd.prog 28 #[.agg #[.int .u8 (x / 67108864), .int .i64 (x / 4194304 % 16), .int .i64 (0), .int .i64 (0), .int .i64 (x % 4194304)]] w fun e w' => e = .returned (.bool true) ∧ Below w.heap.size w w')
    (hw : ∀ w, Calls Tryd.prog 29 #[.agg #[.int .u8 (x / 67108864), .int .i64 (x / 4194304 % 16), .int .i64 (0), .int .i64 (0), .int .i64 (x % 4194304)]] w fun e w' => e = .returned (.int .u32 y) ∧ Below w.heap.size w w') (hy : (y != x) = true) :
    Calls Tryd.prog 21 #[.int .u32 x] w fun e w' => e = .returned (.tuple #[.agg #[.int .u8 0, .int .i64 0, .int .i64 0, .int .i64 0, .int .i64 0], .int .i64 6]) ∧ Below w.heap.size w w' := by
  have hK : ((tK x : Nat) : Int) = x / 67108864 := by unfold tK; omega
  have hF := fun w => form_any (tK x) (by omega) w
  rw [hf, hK] at hF
  have HF := hide hF
  have k0 : 0 ≤ x / 67108864 := by omega
  have k1 : x / 67108864 < 64 := by omega
  have HP := hide hp
  have HW := hide hw
  clear hf hp hw hK hF
  go_enter Tryd.func21, Tryd.ntmps21
  go_wp2_with (first
    | (go_at_call 27; refine (HF.out _).mono ?_; rintro e wx ⟨rfl, rfl⟩)
    | (go_at_call 28; refine (HP.out _).mono ?_; rintro e w1 ⟨rfl, hb1⟩; have B4 := hide ((Blk.new_at (w.alloc (.cells #[.int .u8 0, .int .i64 0, .int .i64 0, .int .i64 0, .int .i64 0] 38)) 38 #[.int .u8 (x / 67108864), .int .i64 (x / 4194304 % 16), .int .i64 (0), .int .i64 (0), .int .i64 (x % 4194304)] (N := w.heap.size + 1) (by simp)).below hb1 (by simp)); have c4 := c5_of B4.out; have B2 := hide (((Blk.new w 38 #[.int .u8 0, .int .i64 0, .int .i64 0, .int .i64 0, .int .i64 0]).alloc (.cells #[.int .u8 (x / 67108864), .int .i64 (x / 4194304 % 16), .int .i64 (0), .int .i64 (0), .int .i64 (x % 4194304)] 38)).below hb1 (by simp; omega)); have c2 := c5_of B2.out; have fz := fun i => B2.out.frozen i; have W2 := hide ((((Below.refl w.heap.size w).alloc (Nat.le_refl _) (.cells #[.int .u8 0, .int .i64 0, .int .i64 0, .int .i64 0, .int .i64 0] 38)).alloc (by simp) (.cells #[.int .u8 (x / 67108864), .int .i64 (x / 4194304 % 16), .int .i64 (0), .int .i64 (0), .int .i64 (x % 4194304)] 38)).trans (hb1.mono (by simp; omega))); clear hb1)
    | (go_at_call 29; refine (HW.out _).mono ?_; rintro e w2 ⟨rfl, hb2⟩; clear c4 c2 fz; have c4 := c5_of (B4.out.below hb2 B4.out.lt); have B3 := hide (B2.out.below hb2 B2.out.lt); have c2 := c5_of B3.out; have fz := fun i => B3.out.frozen i; have W3 := hide (below_then W2.out hb2); clear hb2))
  exact bodyPost_ret (v := .tuple #[.agg #[.int .u8 0, .int .i64 0, .int .i64 0, .int .i64 0, .int .i64 0], .int .i64 6]) (ret_row2 Tryd.results21 rfl (((((B3.out.set_ 0 (.int .u8 0)).set_ 1 (.int .i64 0)).set_ 2 (.int .i64 0)).set_ 3 (.int .i64 0)).set_ 4 (.int .i64 0)) Tryd.underlying38 isz) rfl
    ⟨rfl, (((((W3.out.setCell (p := ⟨w.heap.size, 0, none⟩) (Nat.le_refl _) (.int .u8 0)).setCell (p := ⟨w.heap.size, 1, none⟩) (Nat.le_refl _) (.int .i64 0)).setCell (p := ⟨w.heap.size, 2, none⟩) (Nat.le_refl _) (.int .i64 0)).setCell (p := ⟨w.heap.size, 3, none⟩) (Nat.le_refl _) (.int .i64 0)).setCell (p := ⟨w.heap.size, 4, none⟩) (Nat.le_refl _) (.int .i64 0))⟩
theorem take3l_ok (x : Int) (hx0 : 0 ≤ x) (hx1 : x < 4294967296) (hf : formN (tK x) = 3) (hs : decide (2097152 ≤ x % 4194304) = false) (w : World)
    (hp : ∀ w, Calls Tryd.prog 28 #[.agg #[.int .u8 (x / 67108864), .int .i64 (x / 4194304 % 16), .int .i64 (0), .int .i64 (0), .int .i64 (x % 4194304)]] w fun e w' => e = .returned (.bool true) ∧ Below w.heap.size w w')
    (hw : ∀ w, Calls Tryd.prog 29 #[.agg #[.int .u8 (x / 67108864), .int .i64 (x / 4194304 % 16), .int .i64 (0), .int .i64 (0), .int .i64 (x % 4194304)]] w fun e w' => e = .returned (.int .u32 x) ∧ Below w.heap.size w w') :
    Calls Tryd.prog 21 #[.int .u32 x] w fun e w' => e = .returned (.tuple #[.agg #[.int .u8 (x / 67108864), .int .i64 (x / 4194304 % 16), .int .i64 (0), .int .i64 (0), .int .i64 (x % 4194304)], .int .i64 0]) ∧ Below w.heap.size w w' := by
  have hK : ((tK x : Nat) : Int) = x / 67108864 := by unfold tK; omega
  have hF := fun w => form_any (tK x) (by omega) w
  rw [hf, hK] at hF
  have HF := hide hF
  have k0 : 0 ≤ x / 67108864 := by omega
  have k1 : x / 67108864 < 64 := by omega
  have HP := hide hp
  have HW := hide hw
  clear hf hp hw hK hF
  go_enter Tryd.func21, Tryd.ntmps21
  go_wp2_with (first
    | (go_at_call 27; refine (HF.out _).mono ?_; rintro e wx ⟨rfl, rfl⟩)
    | (go_at_call 28; refine (HP.out _).mono ?_; rintro e w1 ⟨rfl, hb1⟩; have B4 := hide ((Blk.new_at (w.alloc (.cells #[.int .u8 0, .int .i64 0, .int .i64 0, .int .i64 0, .int .i64 0] 38)) 38 #[.int .u8 (x / 67108864), .int .i64 (x / 4194304 % 16), .int .i64 (0), .int .i64 (0), .int .i64 (x % 4194304)] (N := w.heap.size + 1) (by simp)).below hb1 (by simp)); have c4 := c5_of B4.out; have B2 := hide (((Blk.new w 38 #[.int .u8 0, .int .i64 0, .int .i64 0, .int .i64 0, .int .i64 0]).alloc (.cells #[.int .u8 (x / 67108864), .int .i64 (x / 4194304 % 16), .int .i64 (0), .int .i64 (0), .int .i64 (x % 4194304)] 38)).below hb1 (by simp; omega)); have c2 := c5_of B2.out; have fz := fun i => B2.out.frozen i; have W2 := hide ((((Below.refl w.heap.size w).alloc (Nat.le_refl _) (.cells #[.int .u8 0, .int .i64 0, .int .i64 0, .int .i64 0, .int .i64 0] 38)).alloc (by simp) (.cells #[.int .u8 (x / 67108864), .int .i64 (x / 4194304 % 16), .int .i64 (0), .int .i64 (0), .int .i64 (x % 4194304)] 38)).trans (hb1.mono (by simp; omega))); clear hb1)
    | (go_at_call 29; refine (HW.out _).mono ?_; rintro e w2 ⟨rfl, hb2⟩; clear c4 c2 fz; have c4 := c5_of (B4.out.below hb2 B4.out.lt); have B3 := hide (B2.out.below hb2 B2.out.lt); have c2 := c5_of B3.out; have fz := fun i => B3.out.frozen i; have W3 := hide (below_then W2.out hb2); clear hb2))
  exact bodyPost_ret (v := .tuple #[.agg #[.int .u8 (x / 67108864), .int .i64 (x / 4194304 % 16), .int .i64 (0), .int .i64 (0), .int .i64 (x % 4194304)], .int .i64 0]) (ret_row2 Tryd.results21 rfl (((((B3.out.set_ 0 (.int .u8 (x / 67108864))).set_ 1 (.int .i64 (x / 4194304 % 16))).set_ 2 (.int .i64 (0))).set_ 3 (.int .i64 (0))).set_ 4 (.int .i64 (x % 4194304))) Tryd.underlying38 isz) rfl
    ⟨rfl, (((((W3.out.setCell (p := ⟨w.heap.size, 0, none⟩) (Nat.le_refl _) (.int .u8 (x / 67108864))).setCell (p := ⟨w.heap.size, 1, none⟩) (Nat.le_refl _) (.int .i64 (x / 4194304 % 16))).setCell (p := ⟨w.heap.size, 2, none⟩) (Nat.le_refl _) (.int .i64 (0))).setCell (p := ⟨w.heap.size, 3, none⟩) (Nat.le_refl _) (.int .i64 (0))).setCell (p := ⟨w.heap.size, 4, none⟩) (Nat.le_refl _) (.int .i64 (x % 4194304)))⟩
theorem take3h_bad (x : Int) (hx0 : 0 ≤ x) (hx1 : x < 4294967296) (hf : formN (tK x) = 3) (hs : decide (2097152 ≤ x % 4194304) = true) (w : World)
    (hp : ∀ w, Calls Tryd.prog 28 #[.agg #[.int .u8 (x / 67108864), .int .i64 (x / 4194304 % 16), .int .i64 (0), .int .i64 (0), .int .i64 (x % 4194304 - 4194304)]] w fun e w' => e = .returned (.bool false) ∧ Below w.heap.size w w')
    :
    Calls Tryd.prog 21 #[.int .u32 x] w fun e w' => e = .returned (.tuple #[.agg #[.int .u8 0, .int .i64 0, .int .i64 0, .int .i64 0, .int .i64 0], .int .i64 6]) ∧ Below w.heap.size w w' := by
  have hK : ((tK x : Nat) : Int) = x / 67108864 := by unfold tK; omega
  have hF := fun w => form_any (tK x) (by omega) w
  rw [hf, hK] at hF
  have HF := hide hF
  have k0 : 0 ≤ x / 67108864 := by omega
  have k1 : x / 67108864 < 64 := by omega
  have HP := hide hp
  skip
  clear hf hp hK hF
  go_enter Tryd.func21, Tryd.ntmps21
  go_wp2_with (first
    | (go_at_call 27; refine (HF.out _).mono ?_; rintro e wx ⟨rfl, rfl⟩)
    | (go_at_call 28; refine (HP.out _).mono ?_; rintro e w1 ⟨rfl, hb1⟩; have B4 := hide ((Blk.new_at (w.alloc (.cells #[.int .u8 0, .int .i64 0, .int .i64 0, .int .i64 0, .int .i64 0] 38)) 38 #[.int .u8 (x / 67108864), .int .i64 (x / 4194304 % 16), .int .i64 (0), .int .i64 (0), .int .i64 (x % 4194304 - 4194304)] (N := w.heap.size + 1) (by simp)).below hb1 (by simp)); have c4 := c5_of B4.out; have B2 := hide (((Blk.new w 38 #[.int .u8 0, .int .i64 0, .int .i64 0, .int .i64 0, .int .i64 0]).alloc (.cells #[.int .u8 (x / 67108864), .int .i64 (x / 4194304 % 16), .int .i64 (0), .int .i64 (0), .int .i64 (x % 4194304 - 4194304)] 38)).below hb1 (by simp; omega)); have c2 := c5_of B2.out; have fz := fun i => B2.out.frozen i; have W2 := hide ((((Below.refl w.heap.size w).alloc (Nat.le_refl _) (.cells #[.int .u8 0, .int .i64 0, .int .i64 0, .int .i64 0, .int .i64 0] 38)).alloc (by simp) (.cells #[.int .u8 (x / 67108864), .int .i64 (x / 4194304 % 16), .int .i64 (0), .int .i64 (0), .int .i64 (x % 4194304 - 4194304)] 38)).trans (hb1.mono (by simp; omega))); clear hb1))
  exact bodyPost_ret (v := .tuple #[.agg #[.int .u8 0, .int .i64 0, .int .i64 0, .int .i64 0, .int .i64 0], .int .i64 6]) (ret_row2 Tryd.results21 rfl (((((B2.out.set_ 0 (.int .u8 0)).set_ 1 (.int .i64 0)).set_ 2 (.int .i64 0)).set_ 3 (.int .i64 0)).set_ 4 (.int .i64 0)) Tryd.underlying38 isz) rfl
    ⟨rfl, (((((W2.out.setCell (p := ⟨w.heap.size, 0, none⟩) (Nat.le_refl _) (.int .u8 0)).setCell (p := ⟨w.heap.size, 1, none⟩) (Nat.le_refl _) (.int .i64 0)).setCell (p := ⟨w.heap.size, 2, none⟩) (Nat.le_refl _) (.int .i64 0)).setCell (p := ⟨w.heap.size, 3, none⟩) (Nat.le_refl _) (.int .i64 0)).setCell (p := ⟨w.heap.size, 4, none⟩) (Nat.le_refl _) (.int .i64 0))⟩
theorem take3h_other (x y : Int) (hx0 : 0 ≤ x) (hx1 : x < 4294967296) (hf : formN (tK x) = 3) (hs : decide (2097152 ≤ x % 4194304) = true) (w : World)
    (hp : ∀ w, Calls Tryd.prog 28 #[.agg #[.int .u8 (x / 67108864), .int .i64 (x / 4194304 % 16), .int .i64 (0), .int .i64 (0), .int .i64 (x % 4194304 - 4194304)]] w fun e w' => e = .returned (.bool true) ∧ Below w.heap.size w w')
    (hw : ∀ w, Calls Tryd.prog 29 #[.agg #[.int .u8 (x / 67108864), .int .i64 (x / 4194304 % 16), .int .i64 (0), .int .i64 (0), .int .i64 (x % 4194304 - 4194304)]] w fun e w' => e = .returned (.int .u32 y) ∧ Below w.heap.size w w') (hy : (y != x) = true) :
    Calls Tryd.prog 21 #[.int .u32 x] w fun e w' => e = .returned (.tuple #[.agg #[.int .u8 0, .int .i64 0, .int .i64 0, .int .i64 0, .int .i64 0], .int .i64 6]) ∧ Below w.heap.size w w' := by
  have hK : ((tK x : Nat) : Int) = x / 67108864 := by unfold tK; omega
  have hF := fun w => form_any (tK x) (by omega) w
  rw [hf, hK] at hF
  have HF := hide hF
  have k0 : 0 ≤ x / 67108864 := by omega
  have k1 : x / 67108864 < 64 := by omega
  have HP := hide hp
  have HW := hide hw
  clear hf hp hw hK hF
  go_enter Tryd.func21, Tryd.ntmps21
  go_wp2_with (first
    | (go_at_call 27; refine (HF.out _).mono ?_; rintro e wx ⟨rfl, rfl⟩)
    | (go_at_call 28; refine (HP.out _).mono ?_; rintro e w1 ⟨rfl, hb1⟩; have B4 := hide ((Blk.new_at (w.alloc (.cells #[.int .u8 0, .int .i64 0, .int .i64 0, .int .i64 0, .int .i64 0] 38)) 38 #[.int .u8 (x / 67108864), .int .i64 (x / 4194304 % 16), .int .i64 (0), .int .i64 (0), .int .i64 (x % 4194304 - 4194304)] (N := w.heap.size + 1) (by simp)).below hb1 (by simp)); have c4 := c5_of B4.out; have B2 := hide (((Blk.new w 38 #[.int .u8 0, .int .i64 0, .int .i64 0, .int .i64 0, .int .i64 0]).alloc (.cells #[.int .u8 (x / 67108864), .int .i64 (x / 4194304 % 16), .int .i64 (0), .int .i64 (0), .int .i64 (x % 4194304 - 4194304)] 38)).below hb1 (by simp; omega)); have c2 := c5_of B2.out; have fz := fun i => B2.out.frozen i; have W2 := hide ((((Below.refl w.heap.size w).alloc (Nat.le_refl _) (.cells #[.int .u8 0, .int .i64 0, .int .i64 0, .int .i64 0, .int .i64 0] 38)).alloc (by simp) (.cells #[.int .u8 (x / 67108864), .int .i64 (x / 4194304 % 16), .int .i64 (0), .int .i64 (0), .int .i64 (x % 4194304 - 4194304)] 38)).trans (hb1.mono (by simp; omega))); clear hb1)
    | (go_at_call 29; refine (HW.out _).mono ?_; rintro e w2 ⟨rfl, hb2⟩; clear c4 c2 fz; have c4 := c5_of (B4.out.below hb2 B4.out.lt); have B3 := hide (B2.out.below hb2 B2.out.lt); have c2 := c5_of B3.out; have fz := fun i => B3.out.frozen i; have W3 := hide (below_then W2.out hb2); clear hb2))
  exact bodyPost_ret (v := .tuple #[.agg #[.int .u8 0, .int .i64 0, .int .i64 0, .int .i64 0, .int .i64 0], .int .i64 6]) (ret_row2 Tryd.results21 rfl (((((B3.out.set_ 0 (.int .u8 0)).set_ 1 (.int .i64 0)).set_ 2 (.int .i64 0)).set_ 3 (.int .i64 0)).set_ 4 (.int .i64 0)) Tryd.underlying38 isz) rfl
    ⟨rfl, (((((W3.out.setCell (p := ⟨w.heap.size, 0, none⟩) (Nat.le_refl _) (.int .u8 0)).setCell (p := ⟨w.heap.size, 1, none⟩) (Nat.le_refl _) (.int .i64 0)).setCell (p := ⟨w.heap.size, 2, none⟩) (Nat.le_refl _) (.int .i64 0)).setCell (p := ⟨w.heap.size, 3, none⟩) (Nat.le_refl _) (.int .i64 0)).setCell (p := ⟨w.heap.size, 4, none⟩) (Nat.le_refl _) (.int .i64 0))⟩
theorem take3h_ok (x : Int) (hx0 : 0 ≤ x) (hx1 : x < 4294967296) (hf : formN (tK x) = 3) (hs : decide (2097152 ≤ x % 4194304) = true) (w : World)
    (hp : ∀ w, Calls Tryd.prog 28 #[.agg #[.int .u8 (x / 67108864), .int .i64 (x / 4194304 % 16), .int .i64 (0), .int .i64 (0), .int .i64 (x % 4194304 - 4194304)]] w fun e w' => e = .returned (.bool true) ∧ Below w.heap.size w w')
    (hw : ∀ w, Calls Tryd.prog 29 #[.agg #[.int .u8 (x / 67108864), .int .i64 (x / 4194304 % 16), .int .i64 (0), .int .i64 (0), .int .i64 (x % 4194304 - 4194304)]] w fun e w' => e = .returned (.int .u32 x) ∧ Below w.heap.size w w') :
    Calls Tryd.prog 21 #[.int .u32 x] w fun e w' => e = .returned (.tuple #[.agg #[.int .u8 (x / 67108864), .int .i64 (x / 4194304 % 16), .int .i64 (0), .int .i64 (0), .int .i64 (x % 4194304 - 4194304)], .int .i64 0]) ∧ Below w.heap.size w w' := by
  have hK : ((tK x : Nat) : Int) = x / 67108864 := by unfold tK; omega
  have hF := fun w => form_any (tK x) (by omega) w
  rw [hf, hK] at hF
  have HF := hide hF
  have k0 : 0 ≤ x / 67108864 := by omega
  have k1 : x / 67108864 < 64 := by omega
  have HP := hide hp
  have HW := hide hw
  clear hf hp hw hK hF
  go_enter Tryd.func21, Tryd.ntmps21
  go_wp2_with (first
    | (go_at_call 27; refine (HF.out _).mono ?_; rintro e wx ⟨rfl, rfl⟩)
    | (go_at_call 28; refine (HP.out _).mono ?_; rintro e w1 ⟨rfl, hb1⟩; have B4 := hide ((Blk.new_at (w.alloc (.cells #[.int .u8 0, .int .i64 0, .int .i64 0, .int .i64 0, .int .i64 0] 38)) 38 #[.int .u8 (x / 67108864), .int .i64 (x / 4194304 % 16), .int .i64 (0), .int .i64 (0), .int .i64 (x % 4194304 - 4194304)] (N := w.heap.size + 1) (by simp)).below hb1 (by simp)); have c4 := c5_of B4.out; have B2 := hide (((Blk.new w 38 #[.int .u8 0, .int .i64 0, .int .i64 0, .int .i64 0, .int .i64 0]).alloc (.cells #[.int .u8 (x / 67108864), .int .i64 (x / 4194304 % 16), .int .i64 (0), .int .i64 (0), .int .i64 (x % 4194304 - 4194304)] 38)).below hb1 (by simp; omega)); have c2 := c5_of B2.out; have fz := fun i => B2.out.frozen i; have W2 := hide ((((Below.refl w.heap.size w).alloc (Nat.le_refl _) (.cells #[.int .u8 0, .int .i64 0, .int .i64 0, .int .i64 0, .int .i64 0] 38)).alloc (by simp) (.cells #[.int .u8 (x / 67108864), .int .i64 (x / 4194304 % 16), .int .i64 (0), .int .i64 (0), .int .i64 (x % 4194304 - 4194304)] 38)).trans (hb1.mono (by simp; omega))); clear hb1)
    | (go_at_call 29; refine (HW.out _).mono ?_; rintro e w2 ⟨rfl, hb2⟩; clear c4 c2 fz; have c4 := c5_of (B4.out.below hb2 B4.out.lt); have B3 := hide (B2.out.below hb2 B2.out.lt); have c2 := c5_of B3.out; have fz := fun i => B3.out.frozen i; have W3 := hide (below_then W2.out hb2); clear hb2))
  exact bodyPost_ret (v := .tuple #[.agg #[.int .u8 (x / 67108864), .int .i64 (x / 4194304 % 16), .int .i64 (0), .int .i64 (0), .int .i64 (x % 4194304 - 4194304)], .int .i64 0]) (ret_row2 Tryd.results21 rfl (((((B3.out.set_ 0 (.int .u8 (x / 67108864))).set_ 1 (.int .i64 (x / 4194304 % 16))).set_ 2 (.int .i64 (0))).set_ 3 (.int .i64 (0))).set_ 4 (.int .i64 (x % 4194304 - 4194304))) Tryd.underlying38 isz) rfl
    ⟨rfl, (((((W3.out.setCell (p := ⟨w.heap.size, 0, none⟩) (Nat.le_refl _) (.int .u8 (x / 67108864))).setCell (p := ⟨w.heap.size, 1, none⟩) (Nat.le_refl _) (.int .i64 (x / 4194304 % 16))).setCell (p := ⟨w.heap.size, 2, none⟩) (Nat.le_refl _) (.int .i64 (0))).setCell (p := ⟨w.heap.size, 3, none⟩) (Nat.le_refl _) (.int .i64 (0))).setCell (p := ⟨w.heap.size, 4, none⟩) (Nat.le_refl _) (.int .i64 (x % 4194304 - 4194304)))⟩
theorem take3 (x : Int) (hx0 : 0 ≤ x) (hx1 : x < 4294967296) (hf : formN (tK x) = 3) (w : World) :
    Calls Tryd.prog 21 #[.int .u32 x] w fun e w' => e = .returned (.tuple #[takeV x, .int .i64 (takeE x)]) ∧ Below w.heap.size w w' := by
  have hK : ((tK x : Nat) : Int) = x / 67108864 := by unfold tK; omega
  cases hs : decide (2097152 ≤ x % 4194304)
  · have hs0 : ¬ 2097152 ≤ x % 4194304 := of_decide_eq_false hs
    have hA : tA (formN (tK x)) x = x / 4194304 % 16 := by simp [tA, hf]
    have hB : tB (formN (tK x)) x = 0 := by simp [tB, hf]
    have hC : tC (formN (tK x)) x = 0 := by simp [tC, hf]
    have hN : tN (formN (tK x)) x = x % 4194304 := by simp only [tN, hf]; simp [sgn]; omega
    have hI : isB x = (mayB (tK x) (x / 4194304 % 16) (0) (0) (x % 4194304) && decide (word (tK x) (x / 4194304 % 16) (0) (0) (x % 4194304) = x)) := by unfold isB; rw [hA, hB, hC, hN]
    have hp := fun w => CodeRefMay.may_any (tK x) (x / 4194304 % 16) (0) (0) (x % 4194304) (by omega) w
    unfold code5 at hp
    rw [hK] at hp
    unfold takeV takeE code5
    rw [hA, hB, hC, hN, hI, hK]
    cases hm : mayB (tK x) (x / 4194304 % 16) (0) (0) (x % 4194304)
    · rw [hm] at hp
      exact take3l_bad x hx0 hx1 hf hs w hp
    · have hw := fun w => word_any (tK x) (x / 4194304 % 16) (0) (0) (x % 4194304) hm w
      rw [hm] at hp
      unfold code5 at hw
      rw [hK] at hw
      by_cases he : word (tK x) (x / 4194304 % 16) (0) (0) (x % 4194304) = x
      · rw [he] at hw ⊢
        rw [decide_eq_true (rfl : x = x)]
        exact take3l_ok x hx0 hx1 hf hs w hp hw
      · rw [decide_eq_false he]
        exact take3l_other x _ hx0 hx1 hf hs w hp hw (by rw [bne_iff_ne]; exact he)
  · have hs0 : 2097152 ≤ x % 4194304 := of_decide_eq_true hs
    have hA : tA (formN (tK x)) x = x / 4194304 % 16 := by simp [tA, hf]
    have hB : tB (formN (tK x)) x = 0 := by simp [tB, hf]
    have hC : tC (formN (tK x)) x = 0 := by simp [tC, hf]
    have hN : tN (formN (tK x)) x = x % 4194304 - 4194304 := by simp only [tN, hf]; simp [sgn]; omega
    have hI : isB x = (mayB (tK x) (x / 4194304 % 16) (0) (0) (x % 4194304 - 4194304) && decide (word (tK x) (x / 4194304 % 16) (0) (0) (x % 4194304 - 4194304) = x)) := by unfold isB; rw [hA, hB, hC, hN]
    have hp := fun w => CodeRefMay.may_any (tK x) (x / 4194304 % 16) (0) (0) (x % 4194304 - 4194304) (by omega) w
    unfold code5 at hp
    rw [hK] at hp
    unfold takeV takeE code5
    rw [hA, hB, hC, hN, hI, hK]
    cases hm : mayB (tK x) (x / 4194304 % 16) (0) (0) (x % 4194304 - 4194304)
    · rw [hm] at hp
      exact take3h_bad x hx0 hx1 hf hs w hp
    · have hw := fun w => word_any (tK x) (x / 4194304 % 16) (0) (0) (x % 4194304 - 4194304) hm w
      rw [hm] at hp
      unfold code5 at hw
      rw [hK] at hw
      by_cases he : word (tK x) (x / 4194304 % 16) (0) (0) (x % 4194304 - 4194304) = x
      · rw [he] at hw ⊢
        rw [decide_eq_true (rfl : x = x)]
        exact take3h_ok x hx0 hx1 hf hs w hp hw
      · rw [decide_eq_false he]
        exact take3h_other x _ hx0 hx1 hf hs w hp hw (by rw [bne_iff_ne]; exact he)
theorem take4l_bad (x : Int) (hx0 : 0 ≤ x) (hx1 : x < 4294967296) (hf : formN (tK x) = 4) (hs : decide (2097152 ≤ x % 4194304) = false) (w : World)
    (hp : ∀ w, Calls Tryd.prog 28 #[.agg #[.int .u8 (x / 67108864), .int .i64 (0), .int .i64 (0), .int .i64 (0), .int .i64 (x % 4194304)]] w fun e w' => e = .returned (.bool false) ∧ Below w.heap.size w w')
    :
    Calls Tryd.prog 21 #[.int .u32 x] w fun e w' => e = .returned (.tuple #[.agg #[.int .u8 0, .int .i64 0, .int .i64 0, .int .i64 0, .int .i64 0], .int .i64 6]) ∧ Below w.heap.size w w' := by
  have hK : ((tK x : Nat) : Int) = x / 67108864 := by unfold tK; omega
  have hF := fun w => form_any (tK x) (by omega) w
  rw [hf, hK] at hF
  have HF := hide hF
  have k0 : 0 ≤ x / 67108864 := by omega
  have k1 : x / 67108864 < 64 := by omega
  have HP := hide hp
  skip
  clear hf hp hK hF
  go_enter Tryd.func21, Tryd.ntmps21
  go_wp2_with (first
    | (go_at_call 27; refine (HF.out _).mono ?_; rintro e wx ⟨rfl, rfl⟩)
    | (go_at_call 28; refine (HP.out _).mono ?_; rintro e w1 ⟨rfl, hb1⟩; have B4 := hide ((Blk.new_at (w.alloc (.cells #[.int .u8 0, .int .i64 0, .int .i64 0, .int .i64 0, .int .i64 0] 38)) 38 #[.int .u8 (x / 67108864), .int .i64 (0), .int .i64 (0), .int .i64 (0), .int .i64 (x % 4194304)] (N := w.heap.size + 1) (by simp)).below hb1 (by simp)); have c4 := c5_of B4.out; have B2 := hide (((Blk.new w 38 #[.int .u8 0, .int .i64 0, .int .i64 0, .int .i64 0, .int .i64 0]).alloc (.cells #[.int .u8 (x / 67108864), .int .i64 (0), .int .i64 (0), .int .i64 (0), .int .i64 (x % 4194304)] 38)).below hb1 (by simp; omega)); have c2 := c5_of B2.out; have fz := fun i => B2.out.frozen i; have W2 := hide ((((Below.refl w.heap.size w).alloc (Nat.le_refl _) (.cells #[.int .u8 0, .int .i64 0, .int .i64 0, .int .i64 0, .int .i64 0] 38)).alloc (by simp) (.cells #[.int .u8 (x / 67108864), .int .i64 (0), .int .i64 (0), .int .i64 (0), .int .i64 (x % 4194304)] 38)).trans (hb1.mono (by simp; omega))); clear hb1))
  exact bodyPost_ret (v := .tuple #[.agg #[.int .u8 0, .int .i64 0, .int .i64 0, .int .i64 0, .int .i64 0], .int .i64 6]) (ret_row2 Tryd.results21 rfl (((((B2.out.set_ 0 (.int .u8 0)).set_ 1 (.int .i64 0)).set_ 2 (.int .i64 0)).set_ 3 (.int .i64 0)).set_ 4 (.int .i64 0)) Tryd.underlying38 isz) rfl
    ⟨rfl, (((((W2.out.setCell (p := ⟨w.heap.size, 0, none⟩) (Nat.le_refl _) (.int .u8 0)).setCell (p := ⟨w.heap.size, 1, none⟩) (Nat.le_refl _) (.int .i64 0)).setCell (p := ⟨w.heap.size, 2, none⟩) (Nat.le_refl _) (.int .i64 0)).setCell (p := ⟨w.heap.size, 3, none⟩) (Nat.le_refl _) (.int .i64 0)).setCell (p := ⟨w.heap.size, 4, none⟩) (Nat.le_refl _) (.int .i64 0))⟩
theorem take4l_other (x y : Int) (hx0 : 0 ≤ x) (hx1 : x < 4294967296) (hf : formN (tK x) = 4) (hs : decide (2097152 ≤ x % 4194304) = false) (w : World)
    (hp : ∀ w, Calls Tryd.prog 28 #[.agg #[.int .u8 (x / 67108864), .int .i64 (0), .int .i64 (0), .int .i64 (0), .int .i64 (x % 4194304)]] w fun e w' => e = .returned (.bool true) ∧ Below w.heap.size w w')
    (hw : ∀ w, Calls Tryd.prog 29 #[.agg #[.int .u8 (x / 67108864), .int .i64 (0), .int .i64 (0), .int .i64 (0), .int .i64 (x % 4194304)]] w fun e w' => e = .returned (.int .u32 y) ∧ Below w.heap.size w w') (hy : (y != x) = true) :
    Calls Tryd.prog 21 #[.int .u32 x] w fun e w' => e = .returned (.tuple #[.agg #[.int .u8 0, .int .i64 0, .int .i64 0, .int .i64 0, .int .i64 0], .int .i64 6]) ∧ Below w.heap.size w w' := by
  have hK : ((tK x : Nat) : Int) = x / 67108864 := by unfold tK; omega
  have hF := fun w => form_any (tK x) (by omega) w
  rw [hf, hK] at hF
  have HF := hide hF
  have k0 : 0 ≤ x / 67108864 := by omega
  have k1 : x / 67108864 < 64 := by omega
  have HP := hide hp
  have HW := hide hw
  clear hf hp hw hK hF
  go_enter Tryd.func21, Tryd.ntmps21
  go_wp2_with (first
    | (go_at_call 27; refine (HF.out _).mono ?_; rintro e wx ⟨rfl, rfl⟩)
    | (go_at_call 28; refine (HP.out _).mono ?_; rintro e w1 ⟨rfl, hb1⟩; have B4 := hide ((Blk.new_at (w.alloc (.cells #[.int .u8 0, .int .i64 0, .int .i64 0, .int .i64 0, .int .i64 0] 38)) 38 #[.int .u8 (x / 67108864), .int .i64 (0), .int .i64 (0), .int .i64 (0), .int .i64 (x % 4194304)] (N := w.heap.size + 1) (by simp)).below hb1 (by simp)); have c4 := c5_of B4.out; have B2 := hide (((Blk.new w 38 #[.int .u8 0, .int .i64 0, .int .i64 0, .int .i64 0, .int .i64 0]).alloc (.cells #[.int .u8 (x / 67108864), .int .i64 (0), .int .i64 (0), .int .i64 (0), .int .i64 (x % 4194304)] 38)).below hb1 (by simp; omega)); have c2 := c5_of B2.out; have fz := fun i => B2.out.frozen i; have W2 := hide ((((Below.refl w.heap.size w).alloc (Nat.le_refl _) (.cells #[.int .u8 0, .int .i64 0, .int .i64 0, .int .i64 0, .int .i64 0] 38)).alloc (by simp) (.cells #[.int .u8 (x / 67108864), .int .i64 (0), .int .i64 (0), .int .i64 (0), .int .i64 (x % 4194304)] 38)).trans (hb1.mono (by simp; omega))); clear hb1)
    | (go_at_call 29; refine (HW.out _).mono ?_; rintro e w2 ⟨rfl, hb2⟩; clear c4 c2 fz; have c4 := c5_of (B4.out.below hb2 B4.out.lt); have B3 := hide (B2.out.below hb2 B2.out.lt); have c2 := c5_of B3.out; have fz := fun i => B3.out.frozen i; have W3 := hide (below_then W2.out hb2); clear hb2))
  exact bodyPost_ret (v := .tuple #[.agg #[.int .u8 0, .int .i64 0, .int .i64 0, .int .i64 0, .int .i64 0], .int .i64 6]) (ret_row2 Tryd.results21 rfl (((((B3.out.set_ 0 (.int .u8 0)).set_ 1 (.int .i64 0)).set_ 2 (.int .i64 0)).set_ 3 (.int .i64 0)).set_ 4 (.int .i64 0)) Tryd.underlying38 isz) rfl
    ⟨rfl, (((((W3.out.setCell (p := ⟨w.heap.size, 0, none⟩) (Nat.le_refl _) (.int .u8 0)).setCell (p := ⟨w.heap.size, 1, none⟩) (Nat.le_refl _) (.int .i64 0)).setCell (p := ⟨w.heap.size, 2, none⟩) (Nat.le_refl _) (.int .i64 0)).setCell (p := ⟨w.heap.size, 3, none⟩) (Nat.le_refl _) (.int .i64 0)).setCell (p := ⟨w.heap.size, 4, none⟩) (Nat.le_refl _) (.int .i64 0))⟩
theorem take4l_ok (x : Int) (hx0 : 0 ≤ x) (hx1 : x < 4294967296) (hf : formN (tK x) = 4) (hs : decide (2097152 ≤ x % 4194304) = false) (w : World)
    (hp : ∀ w, Calls Tryd.prog 28 #[.agg #[.int .u8 (x / 67108864), .int .i64 (0), .int .i64 (0), .int .i64 (0), .int .i64 (x % 4194304)]] w fun e w' => e = .returned (.bool true) ∧ Below w.heap.size w w')
    (hw : ∀ w, Calls Tryd.prog 29 #[.agg #[.int .u8 (x / 67108864), .int .i64 (0), .int .i64 (0), .int .i64 (0), .int .i64 (x % 4194304)]] w fun e w' => e = .returned (.int .u32 x) ∧ Below w.heap.size w w') :
    Calls Tryd.prog 21 #[.int .u32 x] w fun e w' => e = .returned (.tuple #[.agg #[.int .u8 (x / 67108864), .int .i64 (0), .int .i64 (0), .int .i64 (0), .int .i64 (x % 4194304)], .int .i64 0]) ∧ Below w.heap.size w w' := by
  have hK : ((tK x : Nat) : Int) = x / 67108864 := by unfold tK; omega
  have hF := fun w => form_any (tK x) (by omega) w
  rw [hf, hK] at hF
  have HF := hide hF
  have k0 : 0 ≤ x / 67108864 := by omega
  have k1 : x / 67108864 < 64 := by omega
  have HP := hide hp
  have HW := hide hw
  clear hf hp hw hK hF
  go_enter Tryd.func21, Tryd.ntmps21
  go_wp2_with (first
    | (go_at_call 27; refine (HF.out _).mono ?_; rintro e wx ⟨rfl, rfl⟩)
    | (go_at_call 28; refine (HP.out _).mono ?_; rintro e w1 ⟨rfl, hb1⟩; have B4 := hide ((Blk.new_at (w.alloc (.cells #[.int .u8 0, .int .i64 0, .int .i64 0, .int .i64 0, .int .i64 0] 38)) 38 #[.int .u8 (x / 67108864), .int .i64 (0), .int .i64 (0), .int .i64 (0), .int .i64 (x % 4194304)] (N := w.heap.size + 1) (by simp)).below hb1 (by simp)); have c4 := c5_of B4.out; have B2 := hide (((Blk.new w 38 #[.int .u8 0, .int .i64 0, .int .i64 0, .int .i64 0, .int .i64 0]).alloc (.cells #[.int .u8 (x / 67108864), .int .i64 (0), .int .i64 (0), .int .i64 (0), .int .i64 (x % 4194304)] 38)).below hb1 (by simp; omega)); have c2 := c5_of B2.out; have fz := fun i => B2.out.frozen i; have W2 := hide ((((Below.refl w.heap.size w).alloc (Nat.le_refl _) (.cells #[.int .u8 0, .int .i64 0, .int .i64 0, .int .i64 0, .int .i64 0] 38)).alloc (by simp) (.cells #[.int .u8 (x / 67108864), .int .i64 (0), .int .i64 (0), .int .i64 (0), .int .i64 (x % 4194304)] 38)).trans (hb1.mono (by simp; omega))); clear hb1)
    | (go_at_call 29; refine (HW.out _).mono ?_; rintro e w2 ⟨rfl, hb2⟩; clear c4 c2 fz; have c4 := c5_of (B4.out.below hb2 B4.out.lt); have B3 := hide (B2.out.below hb2 B2.out.lt); have c2 := c5_of B3.out; have fz := fun i => B3.out.frozen i; have W3 := hide (below_then W2.out hb2); clear hb2))
  exact bodyPost_ret (v := .tuple #[.agg #[.int .u8 (x / 67108864), .int .i64 (0), .int .i64 (0), .int .i64 (0), .int .i64 (x % 4194304)], .int .i64 0]) (ret_row2 Tryd.results21 rfl (((((B3.out.set_ 0 (.int .u8 (x / 67108864))).set_ 1 (.int .i64 (0))).set_ 2 (.int .i64 (0))).set_ 3 (.int .i64 (0))).set_ 4 (.int .i64 (x % 4194304))) Tryd.underlying38 isz) rfl
    ⟨rfl, (((((W3.out.setCell (p := ⟨w.heap.size, 0, none⟩) (Nat.le_refl _) (.int .u8 (x / 67108864))).setCell (p := ⟨w.heap.size, 1, none⟩) (Nat.le_refl _) (.int .i64 (0))).setCell (p := ⟨w.heap.size, 2, none⟩) (Nat.le_refl _) (.int .i64 (0))).setCell (p := ⟨w.heap.size, 3, none⟩) (Nat.le_refl _) (.int .i64 (0))).setCell (p := ⟨w.heap.size, 4, none⟩) (Nat.le_refl _) (.int .i64 (x % 4194304)))⟩
theorem take4h_bad (x : Int) (hx0 : 0 ≤ x) (hx1 : x < 4294967296) (hf : formN (tK x) = 4) (hs : decide (2097152 ≤ x % 4194304) = true) (w : World)
    (hp : ∀ w, Calls Tryd.prog 28 #[.agg #[.int .u8 (x / 67108864), .int .i64 (0), .int .i64 (0), .int .i64 (0), .int .i64 (x % 4194304 - 4194304)]] w fun e w' => e = .returned (.bool false) ∧ Below w.heap.size w w')
    :
    Calls Tryd.prog 21 #[.int .u32 x] w fun e w' => e = .returned (.tuple #[.agg #[.int .u8 0, .int .i64 0, .int .i64 0, .int .i64 0, .int .i64 0], .int .i64 6]) ∧ Below w.heap.size w w' := by
  have hK : ((tK x : Nat) : Int) = x / 67108864 := by unfold tK; omega
  have hF := fun w => form_any (tK x) (by omega) w
  rw [hf, hK] at hF
  have HF := hide hF
  have k0 : 0 ≤ x / 67108864 := by omega
  have k1 : x / 67108864 < 64 := by omega
  have HP := hide hp
  skip
  clear hf hp hK hF
  go_enter Tryd.func21, Tryd.ntmps21
  go_wp2_with (first
    | (go_at_call 27; refine (HF.out _).mono ?_; rintro e wx ⟨rfl, rfl⟩)
    | (go_at_call 28; refine (HP.out _).mono ?_; rintro e w1 ⟨rfl, hb1⟩; have B4 := hide ((Blk.new_at (w.alloc (.cells #[.int .u8 0, .int .i64 0, .int .i64 0, .int .i64 0, .int .i64 0] 38)) 38 #[.int .u8 (x / 67108864), .int .i64 (0), .int .i64 (0), .int .i64 (0), .int .i64 (x % 4194304 - 4194304)] (N := w.heap.size + 1) (by simp)).below hb1 (by simp)); have c4 := c5_of B4.out; have B2 := hide (((Blk.new w 38 #[.int .u8 0, .int .i64 0, .int .i64 0, .int .i64 0, .int .i64 0]).alloc (.cells #[.int .u8 (x / 67108864), .int .i64 (0), .int .i64 (0), .int .i64 (0), .int .i64 (x % 4194304 - 4194304)] 38)).below hb1 (by simp; omega)); have c2 := c5_of B2.out; have fz := fun i => B2.out.frozen i; have W2 := hide ((((Below.refl w.heap.size w).alloc (Nat.le_refl _) (.cells #[.int .u8 0, .int .i64 0, .int .i64 0, .int .i64 0, .int .i64 0] 38)).alloc (by simp) (.cells #[.int .u8 (x / 67108864), .int .i64 (0), .int .i64 (0), .int .i64 (0), .int .i64 (x % 4194304 - 4194304)] 38)).trans (hb1.mono (by simp; omega))); clear hb1))
  exact bodyPost_ret (v := .tuple #[.agg #[.int .u8 0, .int .i64 0, .int .i64 0, .int .i64 0, .int .i64 0], .int .i64 6]) (ret_row2 Tryd.results21 rfl (((((B2.out.set_ 0 (.int .u8 0)).set_ 1 (.int .i64 0)).set_ 2 (.int .i64 0)).set_ 3 (.int .i64 0)).set_ 4 (.int .i64 0)) Tryd.underlying38 isz) rfl
    ⟨rfl, (((((W2.out.setCell (p := ⟨w.heap.size, 0, none⟩) (Nat.le_refl _) (.int .u8 0)).setCell (p := ⟨w.heap.size, 1, none⟩) (Nat.le_refl _) (.int .i64 0)).setCell (p := ⟨w.heap.size, 2, none⟩) (Nat.le_refl _) (.int .i64 0)).setCell (p := ⟨w.heap.size, 3, none⟩) (Nat.le_refl _) (.int .i64 0)).setCell (p := ⟨w.heap.size, 4, none⟩) (Nat.le_refl _) (.int .i64 0))⟩
theorem take4h_other (x y : Int) (hx0 : 0 ≤ x) (hx1 : x < 4294967296) (hf : formN (tK x) = 4) (hs : decide (2097152 ≤ x % 4194304) = true) (w : World)
    (hp : ∀ w, Calls Tryd.prog 28 #[.agg #[.int .u8 (x / 67108864), .int .i64 (0), .int .i64 (0), .int .i64 (0), .int .i64 (x % 4194304 - 4194304)]] w fun e w' => e = .returned (.bool true) ∧ Below w.heap.size w w')
    (hw : ∀ w, Calls Tryd.prog 29 #[.agg #[.int .u8 (x / 67108864), .int .i64 (0), .int .i64 (0), .int .i64 (0), .int .i64 (x % 4194304 - 4194304)]] w fun e w' => e = .returned (.int .u32 y) ∧ Below w.heap.size w w') (hy : (y != x) = true) :
    Calls Tryd.prog 21 #[.int .u32 x] w fun e w' => e = .returned (.tuple #[.agg #[.int .u8 0, .int .i64 0, .int .i64 0, .int .i64 0, .int .i64 0], .int .i64 6]) ∧ Below w.heap.size w w' := by
  have hK : ((tK x : Nat) : Int) = x / 67108864 := by unfold tK; omega
  have hF := fun w => form_any (tK x) (by omega) w
  rw [hf, hK] at hF
  have HF := hide hF
  have k0 : 0 ≤ x / 67108864 := by omega
  have k1 : x / 67108864 < 64 := by omega
  have HP := hide hp
  have HW := hide hw
  clear hf hp hw hK hF
  go_enter Tryd.func21, Tryd.ntmps21
  go_wp2_with (first
    | (go_at_call 27; refine (HF.out _).mono ?_; rintro e wx ⟨rfl, rfl⟩)
    | (go_at_call 28; refine (HP.out _).mono ?_; rintro e w1 ⟨rfl, hb1⟩; have B4 := hide ((Blk.new_at (w.alloc (.cells #[.int .u8 0, .int .i64 0, .int .i64 0, .int .i64 0, .int .i64 0] 38)) 38 #[.int .u8 (x / 67108864), .int .i64 (0), .int .i64 (0), .int .i64 (0), .int .i64 (x % 4194304 - 4194304)] (N := w.heap.size + 1) (by simp)).below hb1 (by simp)); have c4 := c5_of B4.out; have B2 := hide (((Blk.new w 38 #[.int .u8 0, .int .i64 0, .int .i64 0, .int .i64 0, .int .i64 0]).alloc (.cells #[.int .u8 (x / 67108864), .int .i64 (0), .int .i64 (0), .int .i64 (0), .int .i64 (x % 4194304 - 4194304)] 38)).below hb1 (by simp; omega)); have c2 := c5_of B2.out; have fz := fun i => B2.out.frozen i; have W2 := hide ((((Below.refl w.heap.size w).alloc (Nat.le_refl _) (.cells #[.int .u8 0, .int .i64 0, .int .i64 0, .int .i64 0, .int .i64 0] 38)).alloc (by simp) (.cells #[.int .u8 (x / 67108864), .int .i64 (0), .int .i64 (0), .int .i64 (0), .int .i64 (x % 4194304 - 4194304)] 38)).trans (hb1.mono (by simp; omega))); clear hb1)
    | (go_at_call 29; refine (HW.out _).mono ?_; rintro e w2 ⟨rfl, hb2⟩; clear c4 c2 fz; have c4 := c5_of (B4.out.below hb2 B4.out.lt); have B3 := hide (B2.out.below hb2 B2.out.lt); have c2 := c5_of B3.out; have fz := fun i => B3.out.frozen i; have W3 := hide (below_then W2.out hb2); clear hb2))
  exact bodyPost_ret (v := .tuple #[.agg #[.int .u8 0, .int .i64 0, .int .i64 0, .int .i64 0, .int .i64 0], .int .i64 6]) (ret_row2 Tryd.results21 rfl (((((B3.out.set_ 0 (.int .u8 0)).set_ 1 (.int .i64 0)).set_ 2 (.int .i64 0)).set_ 3 (.int .i64 0)).set_ 4 (.int .i64 0)) Tryd.underlying38 isz) rfl
    ⟨rfl, (((((W3.out.setCell (p := ⟨w.heap.size, 0, none⟩) (Nat.le_refl _) (.int .u8 0)).setCell (p := ⟨w.heap.size, 1, none⟩) (Nat.le_refl _) (.int .i64 0)).setCell (p := ⟨w.heap.size, 2, none⟩) (Nat.le_refl _) (.int .i64 0)).setCell (p := ⟨w.heap.size, 3, none⟩) (Nat.le_refl _) (.int .i64 0)).setCell (p := ⟨w.heap.size, 4, none⟩) (Nat.le_refl _) (.int .i64 0))⟩
theorem take4h_ok (x : Int) (hx0 : 0 ≤ x) (hx1 : x < 4294967296) (hf : formN (tK x) = 4) (hs : decide (2097152 ≤ x % 4194304) = true) (w : World)
    (hp : ∀ w, Calls Tryd.prog 28 #[.agg #[.int .u8 (x / 67108864), .int .i64 (0), .int .i64 (0), .int .i64 (0), .int .i64 (x % 4194304 - 4194304)]] w fun e w' => e = .returned (.bool true) ∧ Below w.heap.size w w')
    (hw : ∀ w, Calls Tryd.prog 29 #[.agg #[.int .u8 (x / 67108864), .int .i64 (0), .int .i64 (0), .int .i64 (0), .int .i64 (x % 4194304 - 4194304)]] w fun e w' => e = .returned (.int .u32 x) ∧ Below w.heap.size w w') :
    Calls Tryd.prog 21 #[.int .u32 x] w fun e w' => e = .returned (.tuple #[.agg #[.int .u8 (x / 67108864), .int .i64 (0), .int .i64 (0), .int .i64 (0), .int .i64 (x % 4194304 - 4194304)], .int .i64 0]) ∧ Below w.heap.size w w' := by
  have hK : ((tK x : Nat) : Int) = x / 67108864 := by unfold tK; omega
  have hF := fun w => form_any (tK x) (by omega) w
  rw [hf, hK] at hF
  have HF := hide hF
  have k0 : 0 ≤ x / 67108864 := by omega
  have k1 : x / 67108864 < 64 := by omega
  have HP := hide hp
  have HW := hide hw
  clear hf hp hw hK hF
  go_enter Tryd.func21, Tryd.ntmps21
  go_wp2_with (first
    | (go_at_call 27; refine (HF.out _).mono ?_; rintro e wx ⟨rfl, rfl⟩)
    | (go_at_call 28; refine (HP.out _).mono ?_; rintro e w1 ⟨rfl, hb1⟩; have B4 := hide ((Blk.new_at (w.alloc (.cells #[.int .u8 0, .int .i64 0, .int .i64 0, .int .i64 0, .int .i64 0] 38)) 38 #[.int .u8 (x / 67108864), .int .i64 (0), .int .i64 (0), .int .i64 (0), .int .i64 (x % 4194304 - 4194304)] (N := w.heap.size + 1) (by simp)).below hb1 (by simp)); have c4 := c5_of B4.out; have B2 := hide (((Blk.new w 38 #[.int .u8 0, .int .i64 0, .int .i64 0, .int .i64 0, .int .i64 0]).alloc (.cells #[.int .u8 (x / 67108864), .int .i64 (0), .int .i64 (0), .int .i64 (0), .int .i64 (x % 4194304 - 4194304)] 38)).below hb1 (by simp; omega)); have c2 := c5_of B2.out; have fz := fun i => B2.out.frozen i; have W2 := hide ((((Below.refl w.heap.size w).alloc (Nat.le_refl _) (.cells #[.int .u8 0, .int .i64 0, .int .i64 0, .int .i64 0, .int .i64 0] 38)).alloc (by simp) (.cells #[.int .u8 (x / 67108864), .int .i64 (0), .int .i64 (0), .int .i64 (0), .int .i64 (x % 4194304 - 4194304)] 38)).trans (hb1.mono (by simp; omega))); clear hb1)
    | (go_at_call 29; refine (HW.out _).mono ?_; rintro e w2 ⟨rfl, hb2⟩; clear c4 c2 fz; have c4 := c5_of (B4.out.below hb2 B4.out.lt); have B3 := hide (B2.out.below hb2 B2.out.lt); have c2 := c5_of B3.out; have fz := fun i => B3.out.frozen i; have W3 := hide (below_then W2.out hb2); clear hb2))
  exact bodyPost_ret (v := .tuple #[.agg #[.int .u8 (x / 67108864), .int .i64 (0), .int .i64 (0), .int .i64 (0), .int .i64 (x % 4194304 - 4194304)], .int .i64 0]) (ret_row2 Tryd.results21 rfl (((((B3.out.set_ 0 (.int .u8 (x / 67108864))).set_ 1 (.int .i64 (0))).set_ 2 (.int .i64 (0))).set_ 3 (.int .i64 (0))).set_ 4 (.int .i64 (x % 4194304 - 4194304))) Tryd.underlying38 isz) rfl
    ⟨rfl, (((((W3.out.setCell (p := ⟨w.heap.size, 0, none⟩) (Nat.le_refl _) (.int .u8 (x / 67108864))).setCell (p := ⟨w.heap.size, 1, none⟩) (Nat.le_refl _) (.int .i64 (0))).setCell (p := ⟨w.heap.size, 2, none⟩) (Nat.le_refl _) (.int .i64 (0))).setCell (p := ⟨w.heap.size, 3, none⟩) (Nat.le_refl _) (.int .i64 (0))).setCell (p := ⟨w.heap.size, 4, none⟩) (Nat.le_refl _) (.int .i64 (x % 4194304 - 4194304)))⟩
theorem take4 (x : Int) (hx0 : 0 ≤ x) (hx1 : x < 4294967296) (hf : formN (tK x) = 4) (w : World) :
    Calls Tryd.prog 21 #[.int .u32 x] w fun e w' => e = .returned (.tuple #[takeV x, .int .i64 (takeE x)]) ∧ Below w.heap.size w w' := by
  have hK : ((tK x : Nat) : Int) = x / 67108864 := by unfold tK; omega
  cases hs : decide (2097152 ≤ x % 4194304)
  · have hs0 : ¬ 2097152 ≤ x % 4194304 := of_decide_eq_false hs
    have hA : tA (formN (tK x)) x = 0 := by simp [tA, hf]
    have hB : tB (formN (tK x)) x = 0 := by simp [tB, hf]
    have hC : tC (formN (tK x)) x = 0 := by simp [tC, hf]
    have hN : tN (formN (tK x)) x = x % 4194304 := by simp only [tN, hf]; simp [sgn]; omega
    have hI : isB x = (mayB (tK x) (0) (0) (0) (x % 4194304) && decide (word (tK x) (0) (0) (0) (x % 4194304) = x)) := by unfold isB; rw [hA, hB, hC, hN]
    have hp := fun w => CodeRefMay.may_any (tK x) (0) (0) (0) (x % 4194304) (by omega) w
    unfold code5 at hp
    rw [hK] at hp
    unfold takeV takeE code5
    rw [hA, hB, hC, hN, hI, hK]
    cases hm : mayB (tK x) (0) (0) (0) (x % 4194304)
    · rw [hm] at hp
      exact take4l_bad x hx0 hx1 hf hs w hp
    · have hw := fun w => word_any (tK x) (0) (0) (0) (x % 4194304) hm w
      rw [hm] at hp
      unfold code5 at hw
      rw [hK] at hw
      by_cases he : word (tK x) (0) (0) (0) (x % 4194304) = x
      · rw [he] at hw ⊢
        rw [decide_eq_true (rfl : x = x)]
        exact take4l_ok x hx0 hx1 hf hs w hp hw
      · rw [decide_eq_false he]
        exact take4l_other x _ hx0 hx1 hf hs w hp hw (by rw [bne_iff_ne]; exact he)
  · have hs0 : 2097152 ≤ x % 4194304 := of_decide_eq_true hs
    have hA : tA (formN (tK x)) x = 0 := by simp [tA, hf]
    have hB : tB (formN (tK x)) x = 0 := by simp [tB, hf]
    have hC : tC (formN (tK x)) x = 0 := by simp [tC, hf]
    have hN : tN (formN (tK x)) x = x % 4194304 - 4194304 := by simp only [tN, hf]; simp [sgn]; omega
    have hI : isB x = (mayB (tK x) (0) (0) (0) (x % 4194304 - 4194304) && decide (word (tK x) (0) (0) (0) (x % 4194304 - 4194304) = x)) := by unfold isB; rw [hA, hB, hC, hN]
    have hp := fun w => CodeRefMay.may_any (tK x) (0) (0) (0) (x % 4194304 - 4194304) (by omega) w
    unfold code5 at hp
    rw [hK] at hp
    unfold takeV takeE code5
    rw [hA, hB, hC, hN, hI, hK]
    cases hm : mayB (tK x) (0) (0) (0) (x % 4194304 - 4194304)
    · rw [hm] at hp
      exact take4h_bad x hx0 hx1 hf hs w hp
    · have hw := fun w => word_any (tK x) (0) (0) (0) (x % 4194304 - 4194304) hm w
      rw [hm] at hp
      unfold code5 at hw
      rw [hK] at hw
      by_cases he : word (tK x) (0) (0) (0) (x % 4194304 - 4194304) = x
      · rw [he] at hw ⊢
        rw [decide_eq_true (rfl : x = x)]
        exact take4h_ok x hx0 hx1 hf hs w hp hw
      · rw [decide_eq_false he]
        exact take4h_other x _ hx0 hx1 hf hs w hp hw (by rw [bne_iff_ne]; exact he)
theorem take5_bad (x : Int) (hx0 : 0 ≤ x) (hx1 : x < 4294967296) (hf : formN (tK x) = 5) (w : World)
    (hp : ∀ w, Calls Tryd.prog 28 #[.agg #[.int .u8 (x / 67108864), .int .i64 (0), .int .i64 (0), .int .i64 (0), .int .i64 (x % 4194304)]] w fun e w' => e = .returned (.bool false) ∧ Below w.heap.size w w')
    :
    Calls Tryd.prog 21 #[.int .u32 x] w fun e w' => e = .returned (.tuple #[.agg #[.int .u8 0, .int .i64 0, .int .i64 0, .int .i64 0, .int .i64 0], .int .i64 6]) ∧ Below w.heap.size w w' := by
  have hK : ((tK x : Nat) : Int) = x / 67108864 := by unfold tK; omega
  have hF := fun w => form_any (tK x) (by omega) w
  rw [hf, hK] at hF
  have HF := hide hF
  have k0 : 0 ≤ x / 67108864 := by omega
  have k1 : x / 67108864 < 64 := by omega
  have HP := hide hp
  skip
  clear hf hp hK hF
  go_enter Tryd.func21, Tryd.ntmps21
  go_wp2_with (first
    | (go_at_call 27; refine (HF.out _).mono ?_; rintro e wx ⟨rfl, rfl⟩)
    | (go_at_call 28; refine (HP.out _).mono ?_; rintro e w1 ⟨rfl, hb1⟩; have B4 := hide ((Blk.new_at (w.alloc (.cells #[.int .u8 0, .int .i64 0, .int .i64 0, .int .i64 0, .int .i64 0] 38)) 38 #[.int .u8 (x / 67108864), .int .i64 (0), .int .i64 (0), .int .i64 (0), .int .i64 (x % 4194304)] (N := w.heap.size + 1) (by simp)).below hb1 (by simp)); have c4 := c5_of B4.out; have B2 := hide (((Blk.new w 38 #[.int .u8 0, .int .i64 0, .int .i64 0, .int .i64 0, .int .i64 0]).alloc (.cells #[.int .u8 (x / 67108864), .int .i64 (0), .int .i64 (0), .int .i64 (0), .int .i64 (x % 4194304)] 38)).below hb1 (by simp; omega)); have c2 := c5_of B2.out; have fz := fun i => B2.out.frozen i; have W2 := hide ((((Below.refl w.heap.size w).alloc (Nat.le_refl _) (.cells #[.int .u8 0, .int .i64 0, .int .i64 0, .int .i64 0, .int .i64 0] 38)).alloc (by simp) (.cells #[.int .u8 (x / 67108864), .int .i64 (0), .int .i64 (0), .int .i64 (0), .int .i64 (x % 4194304)] 38)).trans (hb1.mono (by simp; omega))); clear hb1))
  exact bodyPost_ret (v := .tuple #[.agg #[.int .u8 0, .int .i64 0, .int .i64 0, .int .i64 0, .int .i64 0], .int .i64 6]) (ret_row2 Tryd.results21 rfl (((((B2.out.set_ 0 (.int .u8 0)).set_ 1 (.int .i64 0)).set_ 2 (.int .i64 0)).set_ 3 (.int .i64 0)).set_ 4 (.int .i64 0)) Tryd.underlying38 isz) rfl
    ⟨rfl, (((((W2.out.setCell (p := ⟨w.heap.size, 0, none⟩) (Nat.le_refl _) (.int .u8 0)).setCell (p := ⟨w.heap.size, 1, none⟩) (Nat.le_refl _) (.int .i64 0)).setCell (p := ⟨w.heap.size, 2, none⟩) (Nat.le_refl _) (.int .i64 0)).setCell (p := ⟨w.heap.size, 3, none⟩) (Nat.le_refl _) (.int .i64 0)).setCell (p := ⟨w.heap.size, 4, none⟩) (Nat.le_refl _) (.int .i64 0))⟩
theorem take5_other (x y : Int) (hx0 : 0 ≤ x) (hx1 : x < 4294967296) (hf : formN (tK x) = 5) (w : World)
    (hp : ∀ w, Calls Tryd.prog 28 #[.agg #[.int .u8 (x / 67108864), .int .i64 (0), .int .i64 (0), .int .i64 (0), .int .i64 (x % 4194304)]] w fun e w' => e = .returned (.bool true) ∧ Below w.heap.size w w')
    (hw : ∀ w, Calls Tryd.prog 29 #[.agg #[.int .u8 (x / 67108864), .int .i64 (0), .int .i64 (0), .int .i64 (0), .int .i64 (x % 4194304)]] w fun e w' => e = .returned (.int .u32 y) ∧ Below w.heap.size w w') (hy : (y != x) = true) :
    Calls Tryd.prog 21 #[.int .u32 x] w fun e w' => e = .returned (.tuple #[.agg #[.int .u8 0, .int .i64 0, .int .i64 0, .int .i64 0, .int .i64 0], .int .i64 6]) ∧ Below w.heap.size w w' := by
  have hK : ((tK x : Nat) : Int) = x / 67108864 := by unfold tK; omega
  have hF := fun w => form_any (tK x) (by omega) w
  rw [hf, hK] at hF
  have HF := hide hF
  have k0 : 0 ≤ x / 67108864 := by omega
  have k1 : x / 67108864 < 64 := by omega
  have HP := hide hp
  have HW := hide hw
  clear hf hp hw hK hF
  go_enter Tryd.func21, Tryd.ntmps21
  go_wp2_with (first
    | (go_at_call 27; refine (HF.out _).mono ?_; rintro e wx ⟨rfl, rfl⟩)
    | (go_at_call 28; refine (HP.out _).mono ?_; rintro e w1 ⟨rfl, hb1⟩; have B4 := hide ((Blk.new_at (w.alloc (.cells #[.int .u8 0, .int .i64 0, .int .i64 0, .int .i64 0, .int .i64 0] 38)) 38 #[.int .u8 (x / 67108864), .int .i64 (0), .int .i64 (0), .int .i64 (0), .int .i64 (x % 4194304)] (N := w.heap.size + 1) (by simp)).below hb1 (by simp)); have c4 := c5_of B4.out; have B2 := hide (((Blk.new w 38 #[.int .u8 0, .int .i64 0, .int .i64 0, .int .i64 0, .int .i64 0]).alloc (.cells #[.int .u8 (x / 67108864), .int .i64 (0), .int .i64 (0), .int .i64 (0), .int .i64 (x % 4194304)] 38)).below hb1 (by simp; omega)); have c2 := c5_of B2.out; have fz := fun i => B2.out.frozen i; have W2 := hide ((((Below.refl w.heap.size w).alloc (Nat.le_refl _) (.cells #[.int .u8 0, .int .i64 0, .int .i64 0, .int .i64 0, .int .i64 0] 38)).alloc (by simp) (.cells #[.int .u8 (x / 67108864), .int .i64 (0), .int .i64 (0), .int .i64 (0), .int .i64 (x % 4194304)] 38)).trans (hb1.mono (by simp; omega))); clear hb1)
    | (go_at_call 29; refine (HW.out _).mono ?_; rintro e w2 ⟨rfl, hb2⟩; clear c4 c2 fz; have c4 := c5_of (B4.out.below hb2 B4.out.lt); have B3 := hide (B2.out.below hb2 B2.out.lt); have c2 := c5_of B3.out; have fz := fun i => B3.out.frozen i; have W3 := hide (below_then W2.out hb2); clear hb2))
  exact bodyPost_ret (v := .tuple #[.agg #[.int .u8 0, .int .i64 0, .int .i64 0, .int .i64 0, .int .i64 0], .int .i64 6]) (ret_row2 Tryd.results21 rfl (((((B3.out.set_ 0 (.int .u8 0)).set_ 1 (.int .i64 0)).set_ 2 (.int .i64 0)).set_ 3 (.int .i64 0)).set_ 4 (.int .i64 0)) Tryd.underlying38 isz) rfl
    ⟨rfl, (((((W3.out.setCell (p := ⟨w.heap.size, 0, none⟩) (Nat.le_refl _) (.int .u8 0)).setCell (p := ⟨w.heap.size, 1, none⟩) (Nat.le_refl _) (.int .i64 0)).setCell (p := ⟨w.heap.size, 2, none⟩) (Nat.le_refl _) (.int .i64 0)).setCell (p := ⟨w.heap.size, 3, none⟩) (Nat.le_refl _) (.int .i64 0)).setCell (p := ⟨w.heap.size, 4, none⟩) (Nat.le_refl _) (.int .i64 0))⟩
theorem take5_ok (x : Int) (hx0 : 0 ≤ x) (hx1 : x < 4294967296) (hf : formN (tK x) = 5) (w : World)
    (hp : ∀ w, Calls Tryd.prog 28 #[.agg #[.int .u8 (x / 67108864), .int .i64 (0), .int .i64 (0), .int .i64 (0), .int .i64 (x % 4194304)]] w fun e w' => e = .returned (.bool true) ∧ Below w.heap.size w w')
    (hw : ∀ w, Calls Tryd.prog 29 #[.agg #[.int .u8 (x / 67108864), .int .i64 (0), .int .i64 (0), .int .i64 (0), .int .i64 (x % 4194304)]] w fun e w' => e = .returned (.int .u32 x) ∧ Below w.heap.size w w') :
    Calls Tryd.prog 21 #[.int .u32 x] w fun e w' => e = .returned (.tuple #[.agg #[.int .u8 (x / 67108864), .int .i64 (0), .int .i64 (0), .int .i64 (0), .int .i64 (x % 4194304)], .int .i64 0]) ∧ Below w.heap.size w w' := by
  have hK : ((tK x : Nat) : Int) = x / 67108864 := by unfold tK; omega
  have hF := fun w => form_any (tK x) (by omega) w
  rw [hf, hK] at hF
  have HF := hide hF
  have k0 : 0 ≤ x / 67108864 := by omega
  have k1 : x / 67108864 < 64 := by omega
  have HP := hide hp
  have HW := hide hw
  clear hf hp hw hK hF
  go_enter Tryd.func21, Tryd.ntmps21
  go_wp2_with (first
    | (go_at_call 27; refine (HF.out _).mono ?_; rintro e wx ⟨rfl, rfl⟩)
    | (go_at_call 28; refine (HP.out _).mono ?_; rintro e w1 ⟨rfl, hb1⟩; have B4 := hide ((Blk.new_at (w.alloc (.cells #[.int .u8 0, .int .i64 0, .int .i64 0, .int .i64 0, .int .i64 0] 38)) 38 #[.int .u8 (x / 67108864), .int .i64 (0), .int .i64 (0), .int .i64 (0), .int .i64 (x % 4194304)] (N := w.heap.size + 1) (by simp)).below hb1 (by simp)); have c4 := c5_of B4.out; have B2 := hide (((Blk.new w 38 #[.int .u8 0, .int .i64 0, .int .i64 0, .int .i64 0, .int .i64 0]).alloc (.cells #[.int .u8 (x / 67108864), .int .i64 (0), .int .i64 (0), .int .i64 (0), .int .i64 (x % 4194304)] 38)).below hb1 (by simp; omega)); have c2 := c5_of B2.out; have fz := fun i => B2.out.frozen i; have W2 := hide ((((Below.refl w.heap.size w).alloc (Nat.le_refl _) (.cells #[.int .u8 0, .int .i64 0, .int .i64 0, .int .i64 0, .int .i64 0] 38)).alloc (by simp) (.cells #[.int .u8 (x / 67108864), .int .i64 (0), .int .i64 (0), .int .i64 (0), .int .i64 (x % 4194304)] 38)).trans (hb1.mono (by simp; omega))); clear hb1)
    | (go_at_call 29; refine (HW.out _).mono ?_; rintro e w2 ⟨rfl, hb2⟩; clear c4 c2 fz; have c4 := c5_of (B4.out.below hb2 B4.out.lt); have B3 := hide (B2.out.below hb2 B2.out.lt); have c2 := c5_of B3.out; have fz := fun i => B3.out.frozen i; have W3 := hide (below_then W2.out hb2); clear hb2))
  exact bodyPost_ret (v := .tuple #[.agg #[.int .u8 (x / 67108864), .int .i64 (0), .int .i64 (0), .int .i64 (0), .int .i64 (x % 4194304)], .int .i64 0]) (ret_row2 Tryd.results21 rfl (((((B3.out.set_ 0 (.int .u8 (x / 67108864))).set_ 1 (.int .i64 (0))).set_ 2 (.int .i64 (0))).set_ 3 (.int .i64 (0))).set_ 4 (.int .i64 (x % 4194304))) Tryd.underlying38 isz) rfl
    ⟨rfl, (((((W3.out.setCell (p := ⟨w.heap.size, 0, none⟩) (Nat.le_refl _) (.int .u8 (x / 67108864))).setCell (p := ⟨w.heap.size, 1, none⟩) (Nat.le_refl _) (.int .i64 (0))).setCell (p := ⟨w.heap.size, 2, none⟩) (Nat.le_refl _) (.int .i64 (0))).setCell (p := ⟨w.heap.size, 3, none⟩) (Nat.le_refl _) (.int .i64 (0))).setCell (p := ⟨w.heap.size, 4, none⟩) (Nat.le_refl _) (.int .i64 (x % 4194304)))⟩
theorem take5 (x : Int) (hx0 : 0 ≤ x) (hx1 : x < 4294967296) (hf : formN (tK x) = 5) (w : World) :
    Calls Tryd.prog 21 #[.int .u32 x] w fun e w' => e = .returned (.tuple #[takeV x, .int .i64 (takeE x)]) ∧ Below w.heap.size w w' := by
  have hK : ((tK x : Nat) : Int) = x / 67108864 := by unfold tK; omega
  have hA : tA (formN (tK x)) x = 0 := by simp [tA, hf]
  have hB : tB (formN (tK x)) x = 0 := by simp [tB, hf]
  have hC : tC (formN (tK x)) x = 0 := by simp [tC, hf]
  have hN : tN (formN (tK x)) x = x % 4194304 := by simp [tN, hf]
  have hI : isB x = (mayB (tK x) (0) (0) (0) (x % 4194304) && decide (word (tK x) (0) (0) (0) (x % 4194304) = x)) := by unfold isB; rw [hA, hB, hC, hN]
  have hp := fun w => CodeRefMay.may_any (tK x) (0) (0) (0) (x % 4194304) (by omega) w
  unfold code5 at hp
  rw [hK] at hp
  unfold takeV takeE code5
  rw [hA, hB, hC, hN, hI, hK]
  cases hm : mayB (tK x) (0) (0) (0) (x % 4194304)
  · rw [hm] at hp
    exact take5_bad x hx0 hx1 hf w hp
  · have hw := fun w => word_any (tK x) (0) (0) (0) (x % 4194304) hm w
    rw [hm] at hp
    unfold code5 at hw
    rw [hK] at hw
    by_cases he : word (tK x) (0) (0) (0) (x % 4194304) = x
    · rw [he] at hw ⊢
      rw [decide_eq_true (rfl : x = x)]
      exact take5_ok x hx0 hx1 hf w hp hw
    · rw [decide_eq_false he]
      exact take5_other x _ hx0 hx1 hf w hp hw (by rw [bne_iff_ne]; exact he)
theorem take6_bad (x : Int) (hx0 : 0 ≤ x) (hx1 : x < 4294967296) (hf : formN (tK x) = 6) (w : World)
    (hp : ∀ w, Calls Tryd.prog 28 #[.agg #[.int .u8 (x / 67108864), .int .i64 (x / 4194304 % 16), .int .i64 (0), .int .i64 (0), .int .i64 (0)]] w fun e w' => e = .returned (.bool false) ∧ Below w.heap.size w w')
    :
    Calls Tryd.prog 21 #[.int .u32 x] w fun e w' => e = .returned (.tuple #[.agg #[.int .u8 0, .int .i64 0, .int .i64 0, .int .i64 0, .int .i64 0], .int .i64 6]) ∧ Below w.heap.size w w' := by
  have hK : ((tK x : Nat) : Int) = x / 67108864 := by unfold tK; omega
  have hF := fun w => form_any (tK x) (by omega) w
  rw [hf, hK] at hF
  have HF := hide hF
  have k0 : 0 ≤ x / 67108864 := by omega
  have k1 : x / 67108864 < 64 := by omega
  have HP := hide hp
  skip
  clear hf hp hK hF
  go_enter Tryd.func21, Tryd.ntmps21
  go_wp2_with (first
    | (go_at_call 27; refine (HF.out _).mono ?_; rintro e wx ⟨rfl, rfl⟩)
    | (go_at_call 28; refine (HP.out _).mono ?_; rintro e w1 ⟨rfl, hb1⟩; have B4 := hide ((Blk.new_at (w.alloc (.cells #[.int .u8 0, .int .i64 0, .int .i64 0, .int .i64 0, .int .i64 0] 38)) 38 #[.int .u8 (x / 67108864), .int .i64 (x / 4194304 % 16), .int .i64 (0), .int .i64 (0), .int .i64 (0)] (N := w.heap.size + 1) (by simp)).below hb1 (by simp)); have c4 := c5_of B4.out; have B2 := hide (((Blk.new w 38 #[.int .u8 0, .int .i64 0, .int .i64 0, .int .i64 0, .int .i64 0]).alloc (.cells #[.int .u8 (x / 67108864), .int .i64 (x / 4194304 % 16), .int .i64 (0), .int .i64 (0), .int .i64 (0)] 38)).below hb1 (by simp; omega)); have c2 := c5_of B2.out; have fz := fun i => B2.out.frozen i; have W2 := hide ((((Below.refl w.heap.size w).alloc (Nat.le_refl _) (.cells #[.int .u8 0, .int .i64 0, .int .i64 0, .int .i64 0, .int .i64 0] 38)).alloc (by simp) (.cells #[.int .u8 (x / 67108864), .int .i64 (x / 4194304 % 16), .int .i64 (0), .int .i64 (0), .int .i64 (0)] 38)).trans (hb1.mono (by simp; omega))); clear hb1))
  exact bodyPost_ret (v := .tuple #[.agg #[.int .u8 0, .int .i64 0, .int .i64 0, .int .i64 0, .int .i64 0], .int .i64 6]) (ret_row2 Tryd.results21 rfl (((((B2.out.set_ 0 (.int .u8 0)).set_ 1 (.int .i64 0)).set_ 2 (.int .i64 0)).set_ 3 (.int .i64 0)).set_ 4 (.int .i64 0)) Tryd.underlying38 isz) rfl
    ⟨rfl, (((((W2.out.setCell (p := ⟨w.heap.size, 0, none⟩) (Nat.le_refl _) (.int .u8 0)).setCell (p := ⟨w.heap.size, 1, none⟩) (Nat.le_refl _) (.int .i64 0)).setCell (p := ⟨w.heap.size, 2, none⟩) (Nat.le_refl _) (.int .i64 0)).setCell (p := ⟨w.heap.size, 3, none⟩) (Nat.le_refl _) (.int .i64 0)).setCell (p := ⟨w.heap.size, 4, none⟩) (Nat.le_refl _) (.int .i64 0))⟩
theorem take6_other (x y : Int) (hx0 : 0 ≤ x) (hx1 : x < 4294967296) (hf : formN (tK x) = 6) (w : World)
    (hp : ∀ w, Calls Tryd.prog 28 #[.agg #[.int .u8 (x / 67108864), .int .i64 (x / 4194304 % 16), .int .i64 (0), .int .i64 (0), .int .i64 (0)]] w fun e w' => e = .returned (.bool true) ∧ Below w.heap.size w w')
    (hw : ∀ w, Calls Tryd.prog 29 #[.agg #[.int .u8 (x / 67108864), .int .i64 (x / 4194304 % 16), .int .i64 (0), .int .i64 (0), .int .i64 (0)]] w fun e w' => e = .returned (.int .u32 y) ∧ Below w.heap.size w w') (hy : (y != x) = true) :
    Calls Tryd.prog 21 #[.int .u32 x] w fun e w' => e = .returned (.tuple #[.agg #[.int .u8 0, .int .i64 0, .int .i64 0, .int .i64 0, .int .i64 0], .int .i64 6]) ∧ Below w.heap.size w w' := by
  have hK : ((tK x : Nat) : Int) = x / 67108864 := by unfold tK; omega
  have hF := fun w => form_any (tK x) (by omega) w
  rw [hf, hK] at hF
  have HF := hide hF
  have k0 : 0 ≤ x / 67108864 := by omega
  have k1 : x / 67108864 < 64 := by omega
  have HP := hide hp
  have HW := hide hw
  clear hf hp hw hK hF
  go_enter Tryd.func21, Tryd.ntmps21
  go_wp2_with (first
    | (go_at_call 27; refine (HF.out _).mono ?_; rintro e wx ⟨rfl, rfl⟩)
    | (go_at_call 28; refine (HP.out _).mono ?_; rintro e w1 ⟨rfl, hb1⟩; have B4 := hide ((Blk.new_at (w.alloc (.cells #[.int .u8 0, .int .i64 0, .int .i64 0, .int .i64 0, .int .i64 0] 38)) 38 #[.int .u8 (x / 67108864), .int .i64 (x / 4194304 % 16), .int .i64 (0), .int .i64 (0), .int .i64 (0)] (N := w.heap.size + 1) (by simp)).below hb1 (by simp)); have c4 := c5_of B4.out; have B2 := hide (((Blk.new w 38 #[.int .u8 0, .int .i64 0, .int .i64 0, .int .i64 0, .int .i64 0]).alloc (.cells #[.int .u8 (x / 67108864), .int .i64 (x / 4194304 % 16), .int .i64 (0), .int .i64 (0), .int .i64 (0)] 38)).below hb1 (by simp; omega)); have c2 := c5_of B2.out; have fz := fun i => B2.out.frozen i; have W2 := hide ((((Below.refl w.heap.size w).alloc (Nat.le_refl _) (.cells #[.int .u8 0, .int .i64 0, .int .i64 0, .int .i64 0, .int .i64 0] 38)).alloc (by simp) (.cells #[.int .u8 (x / 67108864), .int .i64 (x / 4194304 % 16), .int .i64 (0), .int .i64 (0), .int .i64 (0)] 38)).trans (hb1.mono (by simp; omega))); clear hb1)
    | (go_at_call 29; refine (HW.out _).mono ?_; rintro e w2 ⟨rfl, hb2⟩; clear c4 c2 fz; have c4 := c5_of (B4.out.below hb2 B4.out.lt); have B3 := hide (B2.out.below hb2 B2.out.lt); have c2 := c5_of B3.out; have fz := fun i => B3.out.frozen i; have W3 := hide (below_then W2.out hb2); clear hb2))
  exact bodyPost_ret (v := .tuple #[.agg #[.int .u8 0, .int .i64 0, .int .i64 0, .int .i64 0, .int .i64 0], .int .i64 6]) (ret_row2 Tryd.results21 rfl (((((B3.out.set_ 0 (.int .u8 0)).set_ 1 (.int .i64 0)).set_ 2 (.int .i64 0)).set_ 3 (.int .i64 0)).set_ 4 (.int .i64 0)) Tryd.underlying38 isz) rfl
    ⟨rfl, (((((W3.out.setCell (p := ⟨w.heap.size, 0, none⟩) (Nat.le_refl _) (.int .u8 0)).setCell (p := ⟨w.heap.size, 1, none⟩) (Nat.le_refl _) (.int .i64 0)).setCell (p := ⟨w.heap.size, 2, none⟩) (Nat.le_refl _) (.int .i64 0)).setCell (p := ⟨w.heap.size, 3, none⟩) (Nat.le_refl _) (.int .i64 0)).setCell (p := ⟨w.heap.size, 4, none⟩) (Nat.le_refl _) (.int .i64 0))⟩
theorem take6_ok (x : Int) (hx0 : 0 ≤ x) (hx1 : x < 4294967296) (hf : formN (tK x) = 6) (w : World)
    (hp : ∀ w, Calls Tryd.prog 28 #[.agg #[.int .u8 (x / 67108864), .int .i64 (x / 4194304 % 16), .int .i64 (0), .int .i64 (0), .int .i64 (0)]] w fun e w' => e = .returned (.bool true) ∧ Below w.heap.size w w')
    (hw : ∀ w, Calls Tryd.prog 29 #[.agg #[.int .u8 (x / 67108864), .int .i64 (x / 4194304 % 16), .int .i64 (0), .int .i64 (0), .int .i64 (0)]] w fun e w' => e = .returned (.int .u32 x) ∧ Below w.heap.size w w') :
    Calls Tryd.prog 21 #[.int .u32 x] w fun e w' => e = .returned (.tuple #[.agg #[.int .u8 (x / 67108864), .int .i64 (x / 4194304 % 16), .int .i64 (0), .int .i64 (0), .int .i64 (0)], .int .i64 0]) ∧ Below w.heap.size w w' := by
  have hK : ((tK x : Nat) : Int) = x / 67108864 := by unfold tK; omega
  have hF := fun w => form_any (tK x) (by omega) w
  rw [hf, hK] at hF
  have HF := hide hF
  have k0 : 0 ≤ x / 67108864 := by omega
  have k1 : x / 67108864 < 64 := by omega
  have HP := hide hp
  have HW := hide hw
  clear hf hp hw hK hF
  go_enter Tryd.func21, Tryd.ntmps21
  go_wp2_with (first
    | (go_at_call 27; refine (HF.out _).mono ?_; rintro e wx ⟨rfl, rfl⟩)
    | (go_at_call 28; refine (HP.out _).mono ?_; rintro e w1 ⟨rfl, hb1⟩; have B4 := hide ((Blk.new_at (w.alloc (.cells #[.int .u8 0, .int .i64 0, .int .i64 0, .int .i64 0, .int .i64 0] 38)) 38 #[.int .u8 (x / 67108864), .int .i64 (x / 4194304 % 16), .int .i64 (0), .int .i64 (0), .int .i64 (0)] (N := w.heap.size + 1) (by simp)).below hb1 (by simp)); have c4 := c5_of B4.out; have B2 := hide (((Blk.new w 38 #[.int .u8 0, .int .i64 0, .int .i64 0, .int .i64 0, .int .i64 0]).alloc (.cells #[.int .u8 (x / 67108864), .int .i64 (x / 4194304 % 16), .int .i64 (0), .int .i64 (0), .int .i64 (0)] 38)).below hb1 (by simp; omega)); have c2 := c5_of B2.out; have fz := fun i => B2.out.frozen i; have W2 := hide ((((Below.refl w.heap.size w).alloc (Nat.le_refl _) (.cells #[.int .u8 0, .int .i64 0, .int .i64 0, .int .i64 0, .int .i64 0] 38)).alloc (by simp) (.cells #[.int .u8 (x / 67108864), .int .i64 (x / 4194304 % 16), .int .i64 (0), .int .i64 (0), .int .i64 (0)] 38)).trans (hb1.mono (by simp; omega))); clear hb1)
    | (go_at_call 29; refine (HW.out _).mono ?_; rintro e w2 ⟨rfl, hb2⟩; clear c4 c2 fz; have c4 := c5_of (B4.out.below hb2 B4.out.lt); have B3 := hide (B2.out.below hb2 B2.out.lt); have c2 := c5_of B3.out; have fz := fun i => B3.out.frozen i; have W3 := hide (below_then W2.out hb2); clear hb2))
  exact bodyPost_ret (v := .tuple #[.agg #[.int .u8 (x / 67108864), .int .i64 (x / 4194304 % 16), .int .i64 (0), .int .i64 (0), .int .i64 (0)], .int .i64 0]) (ret_row2 Tryd.results21 rfl (((((B3.out.set_ 0 (.int .u8 (x / 67108864))).set_ 1 (.int .i64 (x / 4194304 % 16))).set_ 2 (.int .i64 (0))).set_ 3 (.int .i64 (0))).set_ 4 (.int .i64 (0))) Tryd.underlying38 isz) rfl
    ⟨rfl, (((((W3.out.setCell (p := ⟨w.heap.size, 0, none⟩) (Nat.le_refl _) (.int .u8 (x / 67108864))).setCell (p := ⟨w.heap.size, 1, none⟩) (Nat.le_refl _) (.int .i64 (x / 4194304 % 16))).setCell (p := ⟨w.heap.size, 2, none⟩) (Nat.le_refl _) (.int .i64 (0))).setCell (p := ⟨w.heap.size, 3, none⟩) (Nat.le_refl _) (.int .i64 (0))).setCell (p := ⟨w.heap.size, 4, none⟩) (Nat.le_refl _) (.int .i64 (0)))⟩
theorem take6 (x : Int) (hx0 : 0 ≤ x) (hx1 : x < 4294967296) (hf : formN (tK x) = 6) (w : World) :
    Calls Tryd.prog 21 #[.int .u32 x] w fun e w' => e = .returned (.tuple #[takeV x, .int .i64 (takeE x)]) ∧ Below w.heap.size w w' := by
  have hK : ((tK x : Nat) : Int) = x / 67108864 := by unfold tK; omega
  have hA : tA (formN (tK x)) x = x / 4194304 % 16 := by simp [tA, hf]
  have hB : tB (formN (tK x)) x = 0 := by simp [tB, hf]
  have hC : tC (formN (tK x)) x = 0 := by simp [tC, hf]
  have hN : tN (formN (tK x)) x = 0 := by simp [tN, hf]
  have hI : isB x = (mayB (tK x) (x / 4194304 % 16) (0) (0) (0) && decide (word (tK x) (x / 4194304 % 16) (0) (0) (0) = x)) := by unfold isB; rw [hA, hB, hC, hN]
  have hp := fun w => CodeRefMay.may_any (tK x) (x / 4194304 % 16) (0) (0) (0) (by omega) w
  unfold code5 at hp
  rw [hK] at hp
  unfold takeV takeE code5
  rw [hA, hB, hC, hN, hI, hK]
  cases hm : mayB (tK x) (x / 4194304 % 16) (0) (0) (0)
  · rw [hm] at hp
    exact take6_bad x hx0 hx1 hf w hp
  · have hw := fun w => word_any (tK x) (x / 4194304 % 16) (0) (0) (0) hm w
    rw [hm] at hp
    unfold code5 at hw
    rw [hK] at hw
    by_cases he : word (tK x) (x / 4194304 % 16) (0) (0) (0) = x
    · rw [he] at hw ⊢
      rw [decide_eq_true (rfl : x = x)]
      exact take6_ok x hx0 hx1 hf w hp hw
    · rw [decide_eq_false he]
      exact take6_other x _ hx0 hx1 hf w hp hw (by rw [bne_iff_ne]; exact he)
theorem take_any (x : Int) (hx0 : 0 ≤ x) (hx1 : x < 4294967296) (w : World) :
    Calls Tryd.prog 21 #[.int .u32 x] w fun e w' => e = .returned (.tuple #[takeV x, .int .i64 (takeE x)]) ∧ Below w.heap.size w w' := by
  have hl := formN_lt (tK x)
  have : formN (tK x) = 0 ∨ formN (tK x) = 1 ∨ formN (tK x) = 2 ∨ formN (tK x) = 3 ∨ formN (tK x) = 4 ∨ formN (tK x) = 5 ∨ formN (tK x) = 6 := by omega
  rcases this with h | h | h | h | h | h | h
  · exact take0 x hx0 hx1 h w
  · exact take1 x hx0 hx1 h w
  · exact take2 x hx0 hx1 h w
  · exact take3 x hx0 hx1 h w
  · exact take4 x hx0 hx1 h w
  · exact take5 x hx0 hx1 h w
  · exact take6 x hx0 hx1 h w
end Go.Proofs.YtdaglmoibijdeaaDoor.CodeRefT
