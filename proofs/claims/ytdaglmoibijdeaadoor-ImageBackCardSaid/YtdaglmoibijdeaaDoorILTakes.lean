/-
  The law that a program goes there and back; ImageTakes walked.
-/
import Derived.Test.YtdaglmoibijdeaaDoorIRefT
import Derived.Test.YtdaglmoibijdeaaDoorITakeF
namespace Go.Proofs.YtdaglmoibijdeaaDoor.ILTakes
open Go Go.RowKit Base Words INum IVal ISum ITake ITakeT ITakeF IIter IPut IEq IRef IRefT CodePlain CodeTab
set_option linter.unusedVariables false
set_option linter.unusedSimpArgs false
set_option maxRecDepth 100000

def two : List Int := [0, 71876608]
theorem two_good : goodL two = true := by decide +kernel
theorem two_e : eT (putS two) = 0 := by decide +kernel
theorem two_out : outL (putS two) = two := by decide +kernel
theorem two_len : (putS two).size = 17 := by decide +kernel
theorem two_at (w : World) : WordsAt (w.alloc (.cells #[.int .u32 0, .int .u32 71876608] 28)) (some ⟨w.heap.size, 0, none⟩) two := by
  have h := own_new w w.heap.size 28 [.int .u32 0, .int .u32 71876608] (Nat.le_refl _) (by simp [maxLen])
  exact ⟨_, Nat.le_refl _, Reads.of_own h⟩
theorem words_reads {w : World} {A : Option Addr} {l : List Int} (h : WordsAt w A l) : Reads w w.heap.size 1 A l.length (rowV l) := by
  obtain ⟨B, hB, hR⟩ := h
  exact hR.more hB
theorem works_any (w : World) (hT : Tab w) : Calls Tryd.prog 10 #[] w fun e w' => e = .returned (.bool true) ∧ Below w.heap.size w w' := by
  have P1 := hide (Put_any two (by decide) (some ⟨w.heap.size, 0, none⟩) 2 (w.alloc (.cells #[.int .u32 0, .int .u32 71876608] 28)) (hT.below ((Below.refl _ _).alloc (Nat.le_refl _) _)) (words_reads (two_at w)))
  rw [(put_yes two_good).2] at P1
  have TK := hide (fun w hT => Take_any (putS two) (by rw [two_len]; simp [maxLen]) w hT)
  rw [two_e, two_out] at TK
  have h17 := two_len
  generalize putS two = s at *
  have B1 := hide ((Below.refl w.heap.size w).alloc (Nat.le_refl _) (.cells #[.int .u32 0, .int .u32 71876608] 28))
  have HT := hide hT
  clear hT
  go_enter Tryd.func10, Tryd.ntmps10
  go_wp2_with fail
  refine P1.out.mono ?_
  rintro e w1 ⟨rfl, hb1⟩
  have HB1 := hide (below_then B1.out hb1)
  clear hb1
  go_wp2_with fail
  refine (TK.out _ (HT.out.below HB1.out)).mono ?_
  rintro e w2 ⟨v, rfl, hown, hb2⟩
  have HB2 := hide (below_then HB1.out hb2)
  obtain ⟨A, c, rfl⟩ := own_slice hown
  have HA := hide (WordsAt.of_own hown).2
  clear hb2 hown
  have HA3 := hide (HA.out.below ((Below.refl _ w2).alloc (Nat.le_refl _) (.cells #[.int .u32 0, .int .u32 71876608] 28)))
  have HB3 := hide (below_then HB2.out ((Below.refl _ w2).alloc (Nat.le_refl _) (.cells #[.int .u32 0, .int .u32 71876608] 28)))
  have EQ := hide (equal_same A (some ⟨w2.heap.size, 0, none⟩) c 2 two (by decide) _ HA3.out (two_at w2))
  go_wp2_with fail
  refine EQ.out.mono ?_
  rintro e w3 ⟨rfl, hb3⟩
  have HB4 := hide (below_then HB3.out hb3)
  clear hb3
  go_wp2_with fail
  go_ret
  exact ⟨rfl, HB4.out⟩
theorem takes (s : ByteArray) (hs : s.size ≤ maxLen) (w : World) (hT : Tab w) : Calls Tryd.prog 5 #[.string s] w fun e w' => e = .returned (.bool true) ∧ Below w.heap.size w w' := by
  unfold maxLen at hs
  have WK := hide (fun w hT => works_any w hT)
  have HT := hide hT
  clear hT
  by_cases h1 : 10000 < s.size
  · have h1' : (10000 : Int) < (s.size : Int) := by omega
    go_enter Tryd.func5, Tryd.ntmps5
    go_wp2_with fail
    refine (WK.out _ HT.out).mono ?_
    rintro e w1 ⟨rfl, hb1⟩
    go_wp2_with fail
    go_ret
    exact ⟨rfl, hb1⟩
  · have h1' : ¬ (10000 : Int) < (s.size : Int) := by omega
    have TK := hide (fun w hT => Take_any s (by unfold maxLen; omega) w hT)
    have TR := hide (fun w => TakeR_any s (by unfold maxLen; omega) w)
    have HLL : (outL s).length ≤ 1000000 := by
      unfold outL
      split
      · rw [wordsS_len]; have := manyS_bd s; omega
      · simp
    generalize outL s = l at *
    generalize eT s = er at *
    have HL := hide HLL
    clear HLL
    go_enter Tryd.func5, Tryd.ntmps5
    go_wp2_with fail
    refine (TK.out _ HT.out).mono ?_
    rintro e w1 ⟨v1, rfl, hown1, hb1⟩
    obtain ⟨A1, c1, rfl⟩ := own_slice hown1
    have HA1 := hide (WordsAt.of_own hown1).2
    have HB1 := hide hb1
    clear hb1 hown1
    go_wp2_with fail
    refine (TR.out _).mono ?_
    rintro e w2 ⟨v2, rfl, hown2, hb2⟩
    obtain ⟨A2, c2, rfl⟩ := own_slice hown2
    have HA2 := hide (WordsAt.of_own hown2).2
    have HA1' := hide (HA1.out.below hb2)
    have HB2 := hide (below_then HB1.out hb2)
    clear hb2 hown2
    go_wp2_with fail
    refine (equal_same A1 A2 c1 c2 l HL.out _ HA1'.out HA2.out).mono ?_
    rintro e w3 ⟨rfl, hb3⟩
    have HB3 := hide (below_then HB2.out hb3)
    clear hb3
    go_wp2_with fail
    refine (WK.out _ (HT.out.below HB3.out)).mono ?_
    rintro e w4 ⟨rfl, hb4⟩
    have HB4 := hide (below_then HB3.out hb4)
    go_wp2_with fail
    go_ret
    exact ⟨rfl, HB4.out⟩
end Go.Proofs.YtdaglmoibijdeaaDoor.ILTakes
