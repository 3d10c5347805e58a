/-
  NoteBack walked: any note, any string. It returns true.
-/
import Derived.Test.YtnjojcikahiieaaNLTakes
namespace Go.Proofs.Ytnjojcikahiieaa.NLBack
open Go.RowKit Base Blks Words NRec NSmall NLaw NPlain NNum NVal NNumR NMayAll NPut NTakeP NTake NTakeR NTruth NWorks NLTakes
set_option linter.unusedVariables false
set_option linter.unusedSimpArgs false
set_option maxRecDepth 100000

theorem back_long (n : NT) (s : ByteArray) (hl : (s.size : Int) > 1000) (w : World) :
    Calls Try.prog 4 #[.agg (ntL n).toArray, .string s] w fun e w' => e = .returned (.bool true) ∧ Below w.heap.size w w' := by
  have HB := hide ((Below.refl w.heap.size w).alloc (Nat.le_refl _) (.cells (ntL n).toArray 29))
  go_enter Try.func4, Try.ntmps4
  go_wp2_with fail
  refine (works_any _).mono ?_
  rintro e w1 ⟨rfl, hb1⟩
  have HB1 := hide (HB.out.trans (hb1.mono (by simp)))
  clear hb1
  go_wp2_with fail
  go_ret
  exact ⟨rfl, HB1.out⟩
theorem back_11 (n : NT) (s : ByteArray) (hl : ¬ (s.size : Int) > 1000) (S : ByteArray)
    (P : Hid (∀ w, Calls Try.prog 12 #[.agg (ntL n).toArray] w fun e w' => e = .returned (.tuple #[.string S, .int .i64 0]) ∧ Below w.heap.size w w'))
    (TP : Hid (∀ w, Calls Try.prog 10 #[.string S] w fun e w' => e = .returned (.tuple #[.agg (ntL n).toArray, .int .i64 0]) ∧ Below w.heap.size w w'))
    (r : NT) (T : Hid (∀ w, Calls Try.prog 10 #[.string s] w fun e w' => e = .returned (.tuple #[.agg (ntL r).toArray, .int .i64 0]) ∧ Below w.heap.size w w'))
    (P2 : Hid (∀ w, Calls Try.prog 12 #[.agg (ntL r).toArray] w fun e w' => e = .returned (.tuple #[.string s, .int .i64 0]) ∧ Below w.heap.size w w'))
    (w : World) :
    Calls Try.prog 4 #[.agg (ntL n).toArray, .string s] w fun e w' => e = .returned (.bool true) ∧ Below w.heap.size w w' := by
  have S0 : Hid (WSt w (w.alloc (.cells (ntL n).toArray 29)) w.heap.size n) := hide ⟨NAt.new w n, (Below.refl w.heap.size w).alloc (Nat.le_refl _) _⟩
  have EQ : ∀ w, (Op.equalIn 10000 29 (.agg (ntL n).toArray) (.agg (ntL n).toArray)).run Try.prog w = .ok true w := fun w => by
    rw [eq_note n n w, eqN_self]
  go_enter Try.func4, Try.ntmps4
  go_upto_region 1 with fail
  generalize w.alloc (.cells (ntL n).toArray 29) = w0 at *
  generalize w.heap.size = B0 at *
  go_wp2_with (first
    | ((with_reducible refine load_note rfl (.tmp 2) rfl B0 rfl S0.out.N ?_)))
  refine (P.out _).mono ?_
  rintro e w1 ⟨rfl, hb1⟩
  have S1 := hide (S0.out.below hb1)
  clear hb1 S0 P
  go_wp2_with fail
  refine (TP.out _).mono ?_
  rintro e w2 ⟨rfl, hb2⟩
  have S2 := hide (S1.out.below hb2)
  clear hb2 S1 TP
  have S3 : Hid (W2 w (w2.alloc (.cells (ntL n).toArray 29)) B0 w2.heap.size n n) := hide ⟨S2.out.N.alloc _, NAt.new w2 n, S2.out.bel.alloc S2.out.bel.size _⟩
  go_upto_region 6 with (first
    | ((with_reducible refine alloc_note rfl rfl w2.heap.size rfl ?_))
    | ((with_reducible refine store_note_last rfl _ _ rfl _ w2.heap.size rfl rfl rfl ?_)))
  generalize w2.alloc (.cells (ntL n).toArray 29) = w3 at *
  generalize w2.heap.size = B1 at *
  clear S2
  go_upto_region 8 with (first
    | ((with_reducible refine load_note rfl (.tmp 2) rfl B0 rfl S3.out.A ?_))
    | ((with_reducible refine load_note rfl (.tmp 7) rfl B1 rfl S3.out.B ?_)))
  have HB := hide S3.out.bel
  clear S3
  go_wp2_with fail
  refine (T.out _).mono ?_
  rintro e w5 ⟨rfl, hb5⟩
  have HB5 := hide (below_then HB.out hb5)
  clear hb5 HB T
  have S6 : Hid (WSt w (w5.alloc (.cells (ntL r).toArray 29)) w5.heap.size r) := hide ⟨NAt.new w5 r, HB5.out.alloc HB5.out.size _⟩
  clear HB5
  go_upto_region 9 with (first
    | ((with_reducible refine alloc_note rfl rfl w5.heap.size rfl ?_))
    | ((with_reducible refine store_note_last rfl _ _ rfl _ w5.heap.size rfl rfl rfl ?_)))
  generalize w5.alloc (.cells (ntL r).toArray 29) = w6 at *
  generalize w5.heap.size = B2 at *
  go_wp2_with (first
    | ((with_reducible refine load_note rfl (.tmp 9) rfl B2 rfl S6.out.N ?_)))
  refine (P2.out _).mono ?_
  rintro e w7 ⟨rfl, hb7⟩
  have HB7 := hide (below_then S6.out.bel hb7)
  clear hb7 S6
  go_wp2_with fail
  refine (works_any _).mono ?_
  rintro e w8 ⟨rfl, hb8⟩
  have HB8 := hide (below_then HB7.out hb8)
  clear hb8
  go_wp2_with fail
  go_ret
  exact ⟨rfl, HB8.out⟩
theorem back_10 (n : NT) (s : ByteArray) (hl : ¬ (s.size : Int) > 1000) (S : ByteArray)
    (P : Hid (∀ w, Calls Try.prog 12 #[.agg (ntL n).toArray] w fun e w' => e = .returned (.tuple #[.string S, .int .i64 0]) ∧ Below w.heap.size w w'))
    (TP : Hid (∀ w, Calls Try.prog 10 #[.string S] w fun e w' => e = .returned (.tuple #[.agg (ntL n).toArray, .int .i64 0]) ∧ Below w.heap.size w w'))
    (T : Hid (∀ w, Calls Try.prog 10 #[.string s] w fun e w' => e = .returned (.tuple #[.agg (ntL zeroN).toArray, .int .i64 6]) ∧ Below w.heap.size w w'))
    (w : World) :
    Calls Try.prog 4 #[.agg (ntL n).toArray, .string s] w fun e w' => e = .returned (.bool true) ∧ Below w.heap.size w w' := by
  have EZ : ∀ w, (Op.equalIn 10000 29 (.agg (ntL zeroN).toArray) (.agg (ntL zeroN).toArray)).run Try.prog w = .ok true w := fun w => by
    rw [eq_note zeroN zeroN w, eqN_self]
  have S0 : Hid (WSt w (w.alloc (.cells (ntL n).toArray 29)) w.heap.size n) := hide ⟨NAt.new w n, (Below.refl w.heap.size w).alloc (Nat.le_refl _) _⟩
  have EQ : ∀ w, (Op.equalIn 10000 29 (.agg (ntL n).toArray) (.agg (ntL n).toArray)).run Try.prog w = .ok true w := fun w => by
    rw [eq_note n n w, eqN_self]
  go_enter Try.func4, Try.ntmps4
  go_upto_region 1 with fail
  generalize w.alloc (.cells (ntL n).toArray 29) = w0 at *
  generalize w.heap.size = B0 at *
  go_wp2_with (first
    | ((with_reducible refine load_note rfl (.tmp 2) rfl B0 rfl S0.out.N ?_)))
  refine (P.out _).mono ?_
  rintro e w1 ⟨rfl, hb1⟩
  have S1 := hide (S0.out.below hb1)
  clear hb1 S0 P
  go_wp2_with fail
  refine (TP.out _).mono ?_
  rintro e w2 ⟨rfl, hb2⟩
  have S2 := hide (S1.out.below hb2)
  clear hb2 S1 TP
  have S3 : Hid (W2 w (w2.alloc (.cells (ntL n).toArray 29)) B0 w2.heap.size n n) := hide ⟨S2.out.N.alloc _, NAt.new w2 n, S2.out.bel.alloc S2.out.bel.size _⟩
  go_upto_region 6 with (first
    | ((with_reducible refine alloc_note rfl rfl w2.heap.size rfl ?_))
    | ((with_reducible refine store_note_last rfl _ _ rfl _ w2.heap.size rfl rfl rfl ?_)))
  generalize w2.alloc (.cells (ntL n).toArray 29) = w3 at *
  generalize w2.heap.size = B1 at *
  clear S2
  go_upto_region 8 with (first
    | ((with_reducible refine load_note rfl (.tmp 2) rfl B0 rfl S3.out.A ?_))
    | ((with_reducible refine load_note rfl (.tmp 7) rfl B1 rfl S3.out.B ?_)))
  have HB := hide S3.out.bel
  clear S3
  go_wp2_with fail
  refine (T.out _).mono ?_
  rintro e w5 ⟨rfl, hb5⟩
  have HB5 := hide (below_then HB.out hb5)
  clear hb5 HB T
  have S6 : Hid (WSt w (w5.alloc (.cells (ntL zeroN).toArray 29)) w5.heap.size zeroN) := hide ⟨NAt.new w5 zeroN, HB5.out.alloc HB5.out.size _⟩
  clear HB5
  go_upto_region 9 with (first
    | ((with_reducible refine alloc_note rfl rfl w5.heap.size rfl ?_))
    | ((with_reducible refine store_note_last rfl _ _ rfl _ w5.heap.size rfl rfl rfl ?_)))
  generalize w5.alloc (.cells (ntL zeroN).toArray 29) = w6 at *
  generalize w5.heap.size = B2 at *
  go_wp2_with (first
    | ((with_reducible refine load_note rfl (.tmp 9) rfl B2 rfl S6.out.N ?_))
    | ((with_reducible refine Great.wpList_readTo rfl (some 41) rfl (.agg (ntL zeroN).toArray) ?_ ?_); (· as_aux_lemma => kernel_rfl)))
  refine (works_any _).mono ?_
  rintro e w7 ⟨rfl, hb7⟩
  have HB7 := hide (below_then S6.out.bel hb7)
  clear hb7
  go_wp2_with fail
  go_ret
  exact ⟨rfl, HB7.out⟩
theorem back_01 (n : NT) (s : ByteArray) (hl : ¬ (s.size : Int) > 1000) (S : ByteArray)
    (P : Hid (∀ w, Calls Try.prog 12 #[.agg (ntL n).toArray] w fun e w' => e = .returned (.tuple #[.string S, .int .i64 2]) ∧ Below w.heap.size w w'))
    (r : NT) (T : Hid (∀ w, Calls Try.prog 10 #[.string s] w fun e w' => e = .returned (.tuple #[.agg (ntL r).toArray, .int .i64 0]) ∧ Below w.heap.size w w'))
    (P2 : Hid (∀ w, Calls Try.prog 12 #[.agg (ntL r).toArray] w fun e w' => e = .returned (.tuple #[.string s, .int .i64 0]) ∧ Below w.heap.size w w'))
    (w : World) :
    Calls Try.prog 4 #[.agg (ntL n).toArray, .string s] w fun e w' => e = .returned (.bool true) ∧ Below w.heap.size w w' := by
  have S0 : Hid (WSt w (w.alloc (.cells (ntL n).toArray 29)) w.heap.size n) := hide ⟨NAt.new w n, (Below.refl w.heap.size w).alloc (Nat.le_refl _) _⟩
  go_enter Try.func4, Try.ntmps4
  go_upto_region 1 with fail
  generalize w.alloc (.cells (ntL n).toArray 29) = w0 at *
  generalize w.heap.size = B0 at *
  go_wp2_with (first
    | ((with_reducible refine load_note rfl (.tmp 2) rfl B0 rfl S0.out.N ?_)))
  refine (P.out _).mono ?_
  rintro e w1 ⟨rfl, hb1⟩
  have S1 := hide (S0.out.below hb1)
  clear hb1 S0 P
  have HB := hide S1.out.bel
  clear S1
  go_upto_region 8 with fail
  go_wp2_with fail
  refine (T.out _).mono ?_
  rintro e w5 ⟨rfl, hb5⟩
  have HB5 := hide (below_then HB.out hb5)
  clear hb5 HB T
  have S6 : Hid (WSt w (w5.alloc (.cells (ntL r).toArray 29)) w5.heap.size r) := hide ⟨NAt.new w5 r, HB5.out.alloc HB5.out.size _⟩
  clear HB5
  go_upto_region 9 with (first
    | ((with_reducible refine alloc_note rfl rfl w5.heap.size rfl ?_))
    | ((with_reducible refine store_note_last rfl _ _ rfl _ w5.heap.size rfl rfl rfl ?_)))
  generalize w5.alloc (.cells (ntL r).toArray 29) = w6 at *
  generalize w5.heap.size = B2 at *
  go_wp2_with (first
    | ((with_reducible refine load_note rfl (.tmp 9) rfl B2 rfl S6.out.N ?_)))
  refine (P2.out _).mono ?_
  rintro e w7 ⟨rfl, hb7⟩
  have HB7 := hide (below_then S6.out.bel hb7)
  clear hb7 S6
  go_wp2_with fail
  refine (works_any _).mono ?_
  rintro e w8 ⟨rfl, hb8⟩
  have HB8 := hide (below_then HB7.out hb8)
  clear hb8
  go_wp2_with fail
  go_ret
  exact ⟨rfl, HB8.out⟩
theorem back_00 (n : NT) (s : ByteArray) (hl : ¬ (s.size : Int) > 1000) (S : ByteArray)
    (P : Hid (∀ w, Calls Try.prog 12 #[.agg (ntL n).toArray] w fun e w' => e = .returned (.tuple #[.string S, .int .i64 2]) ∧ Below w.heap.size w w'))
    (T : Hid (∀ w, Calls Try.prog 10 #[.string s] w fun e w' => e = .returned (.tuple #[.agg (ntL zeroN).toArray, .int .i64 6]) ∧ Below w.heap.size w w'))
    (w : World) :
    Calls Try.prog 4 #[.agg (ntL n).toArray, .string s] w fun e w' => e = .returned (.bool true) ∧ Below w.heap.size w w' := by
  have EZ : ∀ w, (Op.equalIn 10000 29 (.agg (ntL zeroN).toArray) (.agg (ntL zeroN).toArray)).run Try.prog w = .ok true w := fun w => by
    rw [eq_note zeroN zeroN w, eqN_self]
  have S0 : Hid (WSt w (w.alloc (.cells (ntL n).toArray 29)) w.heap.size n) := hide ⟨NAt.new w n, (Below.refl w.heap.size w).alloc (Nat.le_refl _) _⟩
  go_enter Try.func4, Try.ntmps4
  go_upto_region 1 with fail
  generalize w.alloc (.cells (ntL n).toArray 29) = w0 at *
  generalize w.heap.size = B0 at *
  go_wp2_with (first
    | ((with_reducible refine load_note rfl (.tmp 2) rfl B0 rfl S0.out.N ?_)))
  refine (P.out _).mono ?_
  rintro e w1 ⟨rfl, hb1⟩
  have S1 := hide (S0.out.below hb1)
  clear hb1 S0 P
  have HB := hide S1.out.bel
  clear S1
  go_upto_region 8 with fail
  go_wp2_with fail
  refine (T.out _).mono ?_
  rintro e w5 ⟨rfl, hb5⟩
  have HB5 := hide (below_then HB.out hb5)
  clear hb5 HB T
  have S6 : Hid (WSt w (w5.alloc (.cells (ntL zeroN).toArray 29)) w5.heap.size zeroN) := hide ⟨NAt.new w5 zeroN, HB5.out.alloc HB5.out.size _⟩
  clear HB5
  go_upto_region 9 with (first
    | ((with_reducible refine alloc_note rfl rfl w5.heap.size rfl ?_))
    | ((with_reducible refine store_note_last rfl _ _ rfl _ w5.heap.size rfl rfl rfl ?_)))
  generalize w5.alloc (.cells (ntL zeroN).toArray 29) = w6 at *
  generalize w5.heap.size = B2 at *
  go_wp2_with (first
    | ((with_reducible refine load_note rfl (.tmp 9) rfl B2 rfl S6.out.N ?_))
    | ((with_reducible refine Great.wpList_readTo rfl (some 41) rfl (.agg (ntL zeroN).toArray) ?_ ?_); (· as_aux_lemma => kernel_rfl)))
  refine (works_any _).mono ?_
  rintro e w7 ⟨rfl, hb7⟩
  have HB7 := hide (below_then S6.out.bel hb7)
  clear hb7
  go_wp2_with fail
  go_ret
  exact ⟨rfl, HB7.out⟩
theorem back (n : NT) (hi : Ins n) (s : ByteArray) (hm : s.size ≤ maxLen) (w : World) :
    Calls Try.prog 4 #[.agg (ntL n).toArray, .string s] w fun e w' => e = .returned (.bool true) ∧ Below w.heap.size w w' := by
  by_cases hl : (s.size : Int) > 1000
  · exact back_long n s hl w
  · have hT : (∃ r, mayN r = true ∧ Ins r ∧ (⟨(putB r).toArray⟩ : ByteArray) = s ∧ ∀ w, Calls Try.prog 10 #[.string s] w fun e w' => e = .returned (.tuple #[.agg (ntL r).toArray, .int .i64 0]) ∧ Below w.heap.size w w') ∨
        (∀ w, Calls Try.prog 10 #[.string s] w fun e w' => e = .returned (.tuple #[.agg (ntL zeroN).toArray, .int .i64 6]) ∧ Below w.heap.size w w') := by
      by_cases hz : s.size = 78
      · have T := Take_78 s hz
        rcases Bool.eq_false_or_eq_true (mayN (takeS s)) with h | h
        · rw [(take_ok h).1, (take_ok h).2] at T
          exact Or.inl ⟨takeS s, h, ins_take s, put_take s hz, T⟩
        · rw [(take_no h).1, (take_no h).2] at T
          exact Or.inr T
      · exact Or.inr (Take_len s hz hm)
    rcases Bool.eq_false_or_eq_true (mayN n) with h | h
    · rcases hT with ⟨r, h1, h2, h3, T⟩ | T
      · have P2 := Put_ok r h2 h1
        rw [h3] at P2
        exact back_11 n s hl _ (hide (Put_ok n hi h)) (hide (Take_put hi h)) r (hide T) (hide P2) w
      · exact back_10 n s hl _ (hide (Put_ok n hi h)) (hide (Take_put hi h)) (hide T) w
    · rcases hT with ⟨r, h1, h2, h3, T⟩ | T
      · have P2 := Put_ok r h2 h1
        rw [h3] at P2
        exact back_01 n s hl _ (hide (Put_no n hi h)) r (hide T) (hide P2) w
      · exact back_00 n s hl _ (hide (Put_no n hi h)) (hide T) w
end Go.Proofs.Ytnjojcikahiieaa.NLBack
