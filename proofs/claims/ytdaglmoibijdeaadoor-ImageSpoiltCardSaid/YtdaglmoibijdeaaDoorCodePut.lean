/-
  Put of the layer 'code' walked, over the table of the forms.
-/
import Derived.Test.YtdaglmoibijdeaaDoorCodeMay
import Derived.Test.YtdaglmoibijdeaaDoorCodeSign
namespace Go.Proofs.YtdaglmoibijdeaaDoor.CodePut
open Go.RowKit Base CodePlain CodeBits CodeSign CodeTab CodeMay
set_option linter.unusedVariables false

theorem or_word {k : Nat} {a b c n : Int} (hm : mayB k a b c n = true) :
    bits .or .u32 (bits .or .u32 (bits .or .u32 (bits .or .u32 ((k : Int) * 67108864) (a * 4194304)) (b * 262144)) (c * 16384)) (low (formN k) n) = word k a b c n := by
  have hk := mayB_lt hm
  obtain ⟨⟨a0, a1⟩, ⟨b0, b1⟩, ⟨c0, c1⟩, hc, hb, ha, h2, h3, h5, h0⟩ := mayP_of hm
  have hl := low_bd (formN k) n
  rw [PBits.u32_or_add ((k : Int) * 67108864) (a * 4194304) 26 (by omega) k (by omega) (by omega) (by omega) (by omega) (by omega),
    PBits.u32_or_add ((k : Int) * 67108864 + a * 4194304) (b * 262144) 22 (by omega) ((k : Int) * 16 + a) (by omega) (by omega) (by omega) (by omega) (by omega),
    PBits.u32_or_add ((k : Int) * 67108864 + a * 4194304 + b * 262144) (c * 16384) 18 (by omega) ((k : Int) * 256 + a * 16 + b) (by omega) (by omega) (by omega) (by omega) (by omega)]
  show _ = (k : Int) * 67108864 + a * 4194304 + b * 262144 + c * 16384 + low (formN k) n
  by_cases e1 : formN k = 1
  · have hz : low (formN k) n = 0 := by
      have : n = 0 := h0 (by omega)
      simp [low, this, e1]
    rw [hz]
    exact PBits.u32_or_add _ 0 14 (by omega) ((k : Int) * 4096 + a * 256 + b * 16 + c) (by omega) (by omega) (by omega) (by omega) (by omega)
  · have hc0 := hc e1
    by_cases e2 : formN k = 2
    · have := hl.2.2 e2
      exact PBits.u32_or_add _ _ 14 (by omega) ((k : Int) * 4096 + a * 256 + b * 16 + c) (by omega) (by omega) (by omega) (by omega) (by omega)
    · have hb0 := hb e1 e2
      exact PBits.u32_or_add _ _ 22 (by omega) ((k : Int) * 16 + a) (by omega) (by omega) (by omega) (by omega) (by omega)
theorem ret_wi {x y : Int} (h : x = y) : Ending.returned (.tuple #[.int .u32 x, .int .i64 0]) = .returned (.tuple #[.int .u32 y, .int .i64 0]) := by rw [h]
theorem put_no (k : Nat) (a b c n : Int) (hk0 : k ≤ 255) (hm : mayB k a b c n = false) (w : World) (hT : Tab w) :
    Calls Tryd.prog 25 #[code5 k a b c n] w fun e w' => e = .returned (.tuple #[.int .u32 0, .int .i64 2]) ∧ Below w.heap.size w w' := by
  have HU := hide (fun w hT => may_any k a b c n hk0 w hT)
  rw [show errX k a b c n = 2 by simp [errX, hm]] at HU
  have HT := hide (hT.below ((Below.refl w.heap.size w).alloc (Nat.le_refl _) (.cells #[.int .u8 (k : Int), .int .i64 a, .int .i64 b, .int .i64 c, .int .i64 n] 38)))
  clear hT hm
  unfold code5 at *
  go_enter Tryd.func25, Tryd.ntmps25
  go_wp2_with fail
  refine (HU.out _ HT.out).mono ?_
  rintro e w1 ⟨rfl, hb1⟩
  have HB := hide hb1
  clear hb1
  go_wp2
  go_ret2
  exact ⟨rfl, ((Below.refl w.heap.size w).alloc (Nat.le_refl _) _).trans (HB.out.mono (by simp))⟩
theorem put_yes (k : Nat) (a b c n : Int) (hm : mayB k a b c n = true) (w : World) (hT : Tab w) :
    Calls Tryd.prog 25 #[code5 k a b c n] w fun e w' => e = .returned (.tuple #[.int .u32 (word k a b c n), .int .i64 0]) ∧ Below w.heap.size w w' := by
  have hk := mayB_lt hm
  have HU := hide (fun w hT => may_any k a b c n (by omega) w hT)
  rw [show errX k a b c n = 0 by simp [errX, hm]] at HU
  have hT1 := hT.below ((Below.refl w.heap.size w).alloc (Nat.le_refl _) (.cells #[.int .u8 (k : Int), .int .i64 a, .int .i64 b, .int .i64 c, .int .i64 n] 38))
  have HT := hide hT1
  obtain ⟨⟨a0, a1⟩, ⟨b0, b1⟩, ⟨c0, c1⟩, _⟩ := mayP_of hm
  have hk1 : (k : Int) < 22 := by omega
  have HO := hide (or_word hm)
  have HLT := hide hk
  obtain ⟨f, hf⟩ : ∃ f, formN k = f := ⟨_, rfl⟩
  have HF := hide hf
  rw [hf] at HO
  by_cases h2 : f = 2
  · have HL : Hid (low f n = n % 16384) := hide (by simp [low, h2])
    rw [h2] at HF
    clear hT hm h2 hT1 hf
    unfold code5 at *
    go_enter Tryd.func25, Tryd.ntmps25
    go_wp2_with fail
    refine (HU.out _ HT.out).mono ?_
    rintro e w1 ⟨rfl, hb1⟩
    have C1 := c5_of ((Blk.new w 38 #[.int .u8 (k : Int), .int .i64 a, .int .i64 b, .int .i64 c, .int .i64 n]).below hb1 (by simp))
    have hcell := (HT.out.below hb1).cell HLT.out HF.out
    have hlt := (HT.out.below hb1).lt
    have HB := hide hb1
    clear hb1
    go_wp2_with fail
    refine (bits14 n _).mono ?_
    rintro e wx ⟨rfl, rfl⟩
    go_wp2
    go_ret2
    exact ⟨ret_wi (by rw [← HL.out]; exact HO.out), ((Below.refl w.heap.size w).alloc (Nat.le_refl _) _).trans (HB.out.mono (by simp))⟩
  · have HL : Hid (low f n = n % 4194304) := hide (by simp [low, h2])
    have hf2 : ((f : Int) == 2) = false := by rw [beq_eq_false_iff_ne]; omega
    clear hT hm h2 hT1 hf
    unfold code5 at *
    go_enter Tryd.func25, Tryd.ntmps25
    go_wp2_with fail
    refine (HU.out _ HT.out).mono ?_
    rintro e w1 ⟨rfl, hb1⟩
    have C1 := c5_of ((Blk.new w 38 #[.int .u8 (k : Int), .int .i64 a, .int .i64 b, .int .i64 c, .int .i64 n]).below hb1 (by simp))
    have hcell := (HT.out.below hb1).cell HLT.out HF.out
    have hlt := (HT.out.below hb1).lt
    have HB := hide hb1
    clear hb1
    go_wp2_with fail
    refine (bits22 n _).mono ?_
    rintro e wx ⟨rfl, rfl⟩
    go_wp2
    go_ret2
    exact ⟨ret_wi (by rw [← HL.out]; exact HO.out), ((Below.refl w.heap.size w).alloc (Nat.le_refl _) _).trans (HB.out.mono (by simp))⟩
theorem put_any (k : Nat) (a b c n : Int) (hk0 : k ≤ 255) (w : World) (hT : Tab w) :
    Calls Tryd.prog 25 #[code5 k a b c n] w fun e w' => e = .returned (.tuple #[.int .u32 (putX k a b c n), .int .i64 (errX k a b c n)]) ∧ Below w.heap.size w w' := by
  cases hm : mayB k a b c n
  · rw [show putX k a b c n = 0 by simp [putX, hm], show errX k a b c n = 2 by simp [errX, hm]]
    exact put_no k a b c n hk0 hm w hT
  · rw [show putX k a b c n = word k a b c n by simp [putX, hm], show errX k a b c n = 0 by simp [errX, hm]]
    exact put_yes k a b c n hm w hT
end Go.Proofs.YtdaglmoibijdeaaDoor.CodePut
