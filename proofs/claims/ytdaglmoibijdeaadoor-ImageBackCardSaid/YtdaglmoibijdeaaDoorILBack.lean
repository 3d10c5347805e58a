/-
  ImageBack walked.
-/
import Derived.Test.YtdaglmoibijdeaaDoorILTakes
import Derived.Test.YtdaglmoibijdeaaDoorILaw
namespace Go.Proofs.YtdaglmoibijdeaaDoor.ILBack
open Go Go.RowKit Base Words INum IVal ISum ITake ITakeT ITakeF IIter IPut IEq ILTakes ILaw CodePlain CodeTab
set_option linter.unusedVariables false
set_option linter.unusedSimpArgs false
set_option maxRecDepth 100000

theorem str_eq (s : ByteArray) : (s.toList == s.toList) = true := by rw [beq_iff_eq]
theorem words_in (s : ByteArray) : ∀ x ∈ wordsS s, 0 ≤ x ∧ x < 4294967296 := by
  intro x hx
  unfold wordsS at hx
  obtain ⟨k, _, rfl⟩ := List.mem_map.1 hx
  exact word_bd s k
theorem out_in (s : ByteArray) : ∀ x ∈ outL s, 0 ≤ x ∧ x < 4294967296 := by
  unfold outL
  split
  · exact words_in s
  · simp
theorem back (l : List Int) (A : Option Addr) (c : Nat) (s : ByteArray) (hin : ∀ x ∈ l, 0 ≤ x ∧ x < 4294967296) (hl : l.length ≤ maxLen) (hs : s.size ≤ maxLen) (w : World) (hR : WordsAt w A l) (hT : Tab w) :
    Calls Tryd.prog 6 #[.slice A l.length c, .string s] w fun e w' => e = .returned (.bool true) ∧ Below w.heap.size w w' := by
  unfold maxLen at hs hl
  have WK := hide (fun w hT => works_any w hT)
  have HT := hide hT
  have HR := hide hR
  clear hT hR
  by_cases h1 : 2000 < l.length
  · have h1' : (2000 : Int) < (l.length : Int) := by omega
    go_enter Tryd.func6, Tryd.ntmps6
    go_wp2_with fail
    refine (WK.out _ HT.out).mono ?_
    rintro e w1 ⟨rfl, hb1⟩
    go_wp2_with fail
    go_ret
    exact ⟨rfl, hb1⟩
  · have h1' : ¬ (2000 : Int) < (l.length : Int) := by omega
    by_cases h2 : 10000 < s.size
    · have h2' : (10000 : Int) < (s.size : Int) := by omega
      go_enter Tryd.func6, Tryd.ntmps6
      go_wp2_with fail
      refine (WK.out _ HT.out).mono ?_
      rintro e w1 ⟨rfl, hb1⟩
      go_wp2_with fail
      go_ret
      exact ⟨rfl, hb1⟩
    · have h2' : ¬ (10000 : Int) < (s.size : Int) := by omega
      have P1 := hide (Put_any l hin A c w HT.out (words_reads HR.out))
      have TS := hide (fun w hT => Take_any s (by unfold maxLen; omega) w hT)
      have HLL := hide (show l.length ≤ 1000000 by omega)
      rcases Bool.eq_false_or_eq_true (goodL l) with hg | hg
      · by_cases he : eT s = 0
        · have HTP := take_put l hg hin
          have HPT := put_take s he
          have P2 := hide (fun w A c hT hR => Put_any (outL s) (out_in s) A c w hT hR)
          rw [HPT.2, (put_yes HPT.1).2] at P2
          rw [he] at TS
          have hst := str_eq s
          clear HPT he
          generalize outL s = ls at *
          have TP := hide (fun w hT => Take_any (putS l) (by rw [(put_yes hg).1, show (⟨(img l).toArray⟩ : ByteArray) = imS l from rfl, imS_size]; unfold maxLen; omega) w hT)
          rw [HTP.1, HTP.2] at TP
          rw [(put_yes hg).2] at P1
          clear HTP hg
          generalize putS l = t at *
          go_enter Tryd.func6, Tryd.ntmps6
          go_wp2_with fail
          refine P1.out.mono ?_
          rintro e w1 ⟨rfl, hb1⟩
          have HB1 := hide hb1
          clear hb1
          go_wp2_with fail
          refine (TP.out _ (HT.out.below HB1.out)).mono ?_
          rintro e w2 ⟨v2, rfl, hown2, hb2⟩
          obtain ⟨A2, c2, rfl⟩ := own_slice hown2
          have HA2 := hide (WordsAt.of_own hown2).2
          have HB2 := hide (below_then HB1.out hb2)
          clear hb2 hown2
          go_wp2_with fail
          refine (equal_same A A2 c c2 l HLL.out _ (HR.out.below HB2.out) HA2.out).mono ?_
          rintro e w3 ⟨rfl, hb3⟩
          have HB3 := hide (below_then HB2.out hb3)
          clear hb3
          go_wp2_with fail
          refine (TS.out _ (HT.out.below HB3.out)).mono ?_
          rintro e w6 ⟨v6, rfl, hown6, hb6⟩
          obtain ⟨A6, c6, rfl⟩ := own_slice hown6
          have HA6 := hide (Reads.of_own hown6)
          have HB6 := hide (below_then HB3.out hb6)
          clear hb6 hown6
          go_wp2_with fail
          refine (P2.out _ _ _ (HT.out.below HB6.out) HA6.out).mono ?_
          rintro e w7 ⟨rfl, hb7⟩
          have HB7 := hide (below_then HB6.out hb7)
          clear hb7
          go_wp2_with fail
          refine (WK.out _ (HT.out.below HB7.out)).mono ?_
          rintro e w8 ⟨rfl, hb8⟩
          have HB8 := hide (below_then HB7.out hb8)
          clear hb8
          go_wp2_with fail
          go_ret
          exact ⟨rfl, HB8.out⟩
        · have HTP := take_put l hg hin
          rw [out_none he] at TS
          have hne : (eT s != 0) = true := by rw [bne_iff_ne]; exact he
          clear he
          generalize eT s = er at *
          have TP := hide (fun w hT => Take_any (putS l) (by rw [(put_yes hg).1, show (⟨(img l).toArray⟩ : ByteArray) = imS l from rfl, imS_size]; unfold maxLen; omega) w hT)
          rw [HTP.1, HTP.2] at TP
          rw [(put_yes hg).2] at P1
          clear HTP hg
          generalize putS l = t at *
          go_enter Tryd.func6, Tryd.ntmps6
          go_wp2_with fail
          refine P1.out.mono ?_
          rintro e w1 ⟨rfl, hb1⟩
          have HB1 := hide hb1
          clear hb1
          go_wp2_with fail
          refine (TP.out _ (HT.out.below HB1.out)).mono ?_
          rintro e w2 ⟨v2, rfl, hown2, hb2⟩
          obtain ⟨A2, c2, rfl⟩ := own_slice hown2
          have HA2 := hide (WordsAt.of_own hown2).2
          have HB2 := hide (below_then HB1.out hb2)
          clear hb2 hown2
          go_wp2_with fail
          refine (equal_same A A2 c c2 l HLL.out _ (HR.out.below HB2.out) HA2.out).mono ?_
          rintro e w3 ⟨rfl, hb3⟩
          have HB3 := hide (below_then HB2.out hb3)
          clear hb3
          go_wp2_with fail
          refine (TS.out _ (HT.out.below HB3.out)).mono ?_
          rintro e w6 ⟨v6, rfl, hown6, hb6⟩
          obtain ⟨A6, c6, rfl⟩ := own_slice hown6
          have HA6 := hide (Reads.of_own hown6)
          have HB6 := hide (below_then HB3.out hb6)
          clear hb6 hown6
          go_wp2_with fail
          refine (WK.out _ (HT.out.below HB6.out)).mono ?_
          rintro e w8 ⟨rfl, hb8⟩
          have HB8 := hide (below_then HB6.out hb8)
          clear hb8
          go_wp2_with fail
          go_ret
          exact ⟨rfl, HB8.out⟩
      · by_cases he : eT s = 0
        · have HPT := put_take s he
          have P2 := hide (fun w A c hT hR => Put_any (outL s) (out_in s) A c w hT hR)
          rw [HPT.2, (put_yes HPT.1).2] at P2
          rw [he] at TS
          have hst := str_eq s
          clear HPT he
          generalize outL s = ls at *
          rw [(put_no hg).2] at P1
          clear hg
          generalize putS l = t at *
          go_enter Tryd.func6, Tryd.ntmps6
          go_wp2_with fail
          refine P1.out.mono ?_
          rintro e w1 ⟨rfl, hb1⟩
          have HB3 := hide hb1
          clear hb1
          go_wp2_with fail
          refine (TS.out _ (HT.out.below HB3.out)).mono ?_
          rintro e w6 ⟨v6, rfl, hown6, hb6⟩
          obtain ⟨A6, c6, rfl⟩ := own_slice hown6
          have HA6 := hide (Reads.of_own hown6)
          have HB6 := hide (below_then HB3.out hb6)
          clear hb6 hown6
          go_wp2_with fail
          refine (P2.out _ _ _ (HT.out.below HB6.out) HA6.out).mono ?_
          rintro e w7 ⟨rfl, hb7⟩
          have HB7 := hide (below_then HB6.out hb7)
          clear hb7
          go_wp2_with fail
          refine (WK.out _ (HT.out.below HB7.out)).mono ?_
          rintro e w8 ⟨rfl, hb8⟩
          have HB8 := hide (below_then HB7.out hb8)
          clear hb8
          go_wp2_with fail
          go_ret
          exact ⟨rfl, HB8.out⟩
        · rw [out_none he] at TS
          have hne : (eT s != 0) = true := by rw [bne_iff_ne]; exact he
          clear he
          generalize eT s = er at *
          rw [(put_no hg).2] at P1
          clear hg
          generalize putS l = t at *
          go_enter Tryd.func6, Tryd.ntmps6
          go_wp2_with fail
          refine P1.out.mono ?_
          rintro e w1 ⟨rfl, hb1⟩
          have HB3 := hide hb1
          clear hb1
          go_wp2_with fail
          refine (TS.out _ (HT.out.below HB3.out)).mono ?_
          rintro e w6 ⟨v6, rfl, hown6, hb6⟩
          obtain ⟨A6, c6, rfl⟩ := own_slice hown6
          have HA6 := hide (Reads.of_own hown6)
          have HB6 := hide (below_then HB3.out hb6)
          clear hb6 hown6
          go_wp2_with fail
          refine (WK.out _ (HT.out.below HB6.out)).mono ?_
          rintro e w8 ⟨rfl, hb8⟩
          have HB8 := hide (below_then HB6.out hb8)
          clear hb8
          go_wp2_with fail
          go_ret
          exact ⟨rfl, HB8.out⟩
end Go.Proofs.YtdaglmoibijdeaaDoor.ILBack
