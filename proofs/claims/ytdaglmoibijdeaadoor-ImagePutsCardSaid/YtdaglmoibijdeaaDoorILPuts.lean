/-
  ImageKnown and ImagePuts walked.
-/
import Derived.Test.YtdaglmoibijdeaaDoorILTakes
namespace Go.Proofs.YtdaglmoibijdeaaDoor.ILPuts
open Go Go.RowKit Base Words INum IVal ISum ITake ITakeT ITakeF IIter IPut IEq IRef IRefT ILTakes CodePlain CodeTab
set_option linter.unusedVariables false
set_option linter.unusedSimpArgs false
set_option maxRecDepth 100000

theorem nil_at (w : World) : Reads w w.heap.size 1 none 0 (rowV []) := Reads.none_
theorem one_at (w : World) : Reads (w.alloc (.cells #[.int .u32 1] 28)) (w.alloc (.cells #[.int .u32 1] 28)).heap.size 1 (some ⟨w.heap.size, 0, none⟩) 1 (rowV [1]) := by
  have h := own_new w w.heap.size 28 [.int .u32 1] (Nat.le_refl _) (by simp [maxLen])
  exact Reads.of_own h
theorem nil_e : putE [] = 0 := by decide +kernel
theorem nil_len : (putS []).size = 9 := by decide +kernel
theorem one_e : putE [1] = 2 := by decide +kernel
theorem empty_e : eT ⟨#[]⟩ = 6 := by decide +kernel
theorem known (w : World) (hT : Tab w) : Calls Tryd.prog 3 #[] w fun e w' => e = .returned (.bool true) ∧ Below w.heap.size w w' := by
  have WK := hide (fun w hT => works_any w hT)
  have P1 := hide (fun w hT => Put_any [] (by decide) none 0 w hT (nil_at w))
  have P2 := hide (fun w hT => Put_any [1] (by decide) (some ⟨w.heap.size, 0, none⟩) 1 (w.alloc (.cells #[.int .u32 1] 28)) hT (one_at w))
  have T1 := hide (fun w hT => Take_any ⟨#[]⟩ (by decide) w hT)
  have S1 := hide (fun w => Sum_any ⟨#[]⟩ (by decide) w)
  have S2 := hide (fun w => Sum_any ⟨#[2]⟩ (by decide) w)
  rw [show sumF (bt ⟨#[]⟩) (ByteArray.size ⟨#[]⟩) = 1 by decide +kernel] at S1
  rw [show sumF (bt ⟨#[2]⟩) (ByteArray.size ⟨#[2]⟩) = 33 by decide +kernel] at S2
  rw [nil_e] at P1
  rw [one_e] at P2
  rw [empty_e] at T1
  have h9 := nil_len
  generalize putS [] = s0 at *
  generalize putS [1] = s1 at *
  generalize outL ⟨#[]⟩ = l0 at *
  have HT := hide hT
  clear hT
  go_enter Tryd.func3, Tryd.ntmps3
  go_wp2_with fail
  refine (P1.out _ HT.out).mono ?_
  rintro e w1 ⟨rfl, hb1⟩
  have HB1 := hide hb1
  clear hb1
  go_wp2_with fail
  refine (T1.out _ (HT.out.below HB1.out)).mono ?_
  rintro e w2 ⟨v2, rfl, _, hb2⟩
  have HB2 := hide (below_then HB1.out hb2)
  clear hb2
  have HB2a := hide (below_then HB2.out ((Below.refl _ w2).alloc (Nat.le_refl _) (.cells #[.int .u32 1] 28)))
  go_wp2_with fail
  refine (P2.out _ (HT.out.below HB2a.out)).mono ?_
  rintro e w3 ⟨rfl, hb3⟩
  have HB3 := hide (below_then HB2a.out hb3)
  clear hb3
  go_wp2_with fail
  refine (WK.out _ (HT.out.below HB3.out)).mono ?_
  rintro e w4 ⟨rfl, hb4⟩
  have HB4 := hide (below_then HB3.out hb4)
  clear hb4
  go_wp2_with fail
  refine (S1.out _).mono ?_
  rintro e w5 ⟨rfl, rfl⟩
  go_wp2_with fail
  refine (S2.out _).mono ?_
  rintro e w5 ⟨rfl, rfl⟩
  go_wp2_with fail
  go_ret
  exact ⟨rfl, HB4.out⟩
theorem str_eq (s : ByteArray) : (s.toList == s.toList) = true := by rw [beq_iff_eq]
theorem puts (l : List Int) (A : Option Addr) (c : Nat) (s : ByteArray) (hin : ∀ x ∈ l, 0 ≤ x ∧ x < 4294967296) (hl : l.length ≤ maxLen) (hs : s.size ≤ maxLen) (w : World) (hR : WordsAt w A l) (hT : Tab w) :
    Calls Tryd.prog 4 #[.slice A l.length c, .string s] w fun e w' => e = .returned (.bool true) ∧ Below w.heap.size w w' := by
  unfold maxLen at hs hl
  have WK := hide (fun w hT => works_any w hT)
  have HT := hide hT
  have HR := hide hR
  clear hT hR
  by_cases h1 : 2000 < l.length
  · have h1' : (2000 : Int) < (l.length : Int) := by omega
    go_enter Tryd.func4, Tryd.ntmps4
    go_wp2_with fail
    refine (WK.out _ HT.out).mono ?_
    rintro e w1 ⟨rfl, hb1⟩
    go_wp2_with fail
    go_ret
    exact ⟨rfl, hb1⟩
  · have h1' : ¬ (2000 : Int) < (l.length : Int) := by omega
    by_cases h2 : 10000 < s.size
    · have h2' : (10000 : Int) < (s.size : Int) := by omega
      go_enter Tryd.func4, Tryd.ntmps4
      go_wp2_with fail
      refine (WK.out _ HT.out).mono ?_
      rintro e w1 ⟨rfl, hb1⟩
      go_wp2_with fail
      go_ret
      exact ⟨rfl, hb1⟩
    · have h2' : ¬ (10000 : Int) < (s.size : Int) := by omega
      have P1 := hide (Put_any l hin A c w HT.out (words_reads HR.out))
      have P2 := hide (fun w hR => PutR_any l hin A c w hR)
      have S1 := hide (fun w => Sum_any s (by unfold maxLen; omega) w)
      have S2 := hide (fun w => SumR_any s (by unfold maxLen; omega) w)
      generalize sumF (bt s) s.size = su at *
      generalize putS l = t at *
      generalize putE l = er at *
      have hst := str_eq t
      go_enter Tryd.func4, Tryd.ntmps4
      go_wp2_with fail
      refine P1.out.mono ?_
      rintro e w1 ⟨rfl, hb1⟩
      have HB1 := hide hb1
      clear hb1
      go_wp2_with fail
      refine (P2.out _ (HR.out.below HB1.out)).mono ?_
      rintro e w2 ⟨rfl, hb2⟩
      have HB2 := hide (below_then HB1.out hb2)
      clear hb2
      go_wp2_with fail
      refine (S1.out _).mono ?_
      rintro e w5 ⟨rfl, rfl⟩
      go_wp2_with fail
      refine (S2.out _).mono ?_
      rintro e w5 ⟨rfl, rfl⟩
      go_wp2_with fail
      refine (WK.out _ (HT.out.below HB2.out)).mono ?_
      rintro e w4 ⟨rfl, hb4⟩
      have HB4 := hide (below_then HB2.out hb4)
      clear hb4
      go_wp2_with fail
      go_ret
      exact ⟨rfl, HB4.out⟩
end Go.Proofs.YtdaglmoibijdeaaDoor.ILPuts
