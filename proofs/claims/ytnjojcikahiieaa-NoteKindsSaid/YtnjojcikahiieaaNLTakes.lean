/-
  NoteTakes walked: any string. It returns true.
-/
import Derived.Test.YtnjojcikahiieaaNWorks
namespace Go.Proofs.Ytnjojcikahiieaa.NLTakes
open Go.RowKit Base Blks Words NRec NSmall NLaw NPlain NNum NVal NNumR NMayAll NPut NTakeP NTake NTakeR NTruth NWorks
set_option linter.unusedVariables false
set_option linter.unusedSimpArgs false
set_option maxRecDepth 100000

theorem eqN_self (n : NT) : eqN n n = true := by simp [eqN, eqB_self]
/-- Two notes in the memory. -/
structure W2 (w0 w : World) (A B : Nat) (n m : NT) : Prop where
  A : NAt w A n
  B : NAt w B m
  bel : Below w0.heap.size w0 w
theorem W2.below {w0 w w' : World} {A B : Nat} {n m : NT} (h : W2 w0 w A B n m) (hb : Below w.heap.size w w') : W2 w0 w' A B n m := ⟨h.A.below hb h.A.lt, h.B.below hb h.B.lt, below_then h.bel hb⟩
theorem takes_long (s : ByteArray) (hl : (s.size : Int) > 1000) (w : World) :
    Calls Try.prog 3 #[.string s] w fun e w' => e = .returned (.bool true) ∧ Below w.heap.size w w' := by
  go_enter Try.func3, Try.ntmps3
  go_wp2_with fail
  refine (works_any _).mono ?_
  rintro e w1 ⟨rfl, hb1⟩
  have HB := hide hb1
  clear hb1
  go_wp2_with fail
  go_ret
  exact ⟨rfl, HB.out⟩
theorem takes_short (s : ByteArray) (hl : ¬ (s.size : Int) > 1000) (r : NT) (x : Int) (T : Hid (∀ w, Calls Try.prog 10 #[.string s] w fun e w' => e = .returned (.tuple #[.agg (ntL r).toArray, .int .i64 x]) ∧ Below w.heap.size w w'))
    (TR : Hid (∀ w, Calls Try.prog 11 #[.string s] w fun e w' => e = .returned (.tuple #[.agg (ntL r).toArray, .int .i64 x]) ∧ Below w.heap.size w w')) (w : World) :
    Calls Try.prog 3 #[.string s] w fun e w' => e = .returned (.bool true) ∧ Below w.heap.size w w' := by
  have EQ : ∀ w, (Op.equalIn 10000 29 (.agg (ntL r).toArray) (.agg (ntL r).toArray)).run Try.prog w = .ok true w := fun w => by
    rw [eq_note r r w, eqN_self]
  go_enter Try.func3, Try.ntmps3
  go_wp2_with fail
  refine (T.out _).mono ?_
  rintro e w1 ⟨rfl, hb1⟩
  have HB := hide hb1
  have N1 := hide (NAt.new w1 r)
  have HB1 := hide (HB.out.alloc HB.out.size (.cells (ntL r).toArray 29))
  clear hb1
  go_upto_region 4 with (first
    | ((with_reducible refine alloc_note rfl rfl w1.heap.size rfl ?_))
    | ((with_reducible refine store_note_last rfl _ _ rfl _ w1.heap.size rfl rfl rfl ?_)))
  generalize w1.alloc (.cells (ntL r).toArray 29) = w2 at *
  generalize w1.heap.size = A at *
  clear HB
  go_wp2_with fail
  refine (TR.out _).mono ?_
  rintro e w3 ⟨rfl, hb3⟩
  have N3 := hide (N1.out.below hb3 N1.out.lt)
  have HB3 := hide (below_then HB1.out hb3)
  have S4 : Hid (W2 w (w3.alloc (.cells (ntL r).toArray 29)) A w3.heap.size r r) := hide ⟨N3.out.alloc _, NAt.new w3 r, HB3.out.alloc HB3.out.size _⟩
  clear hb3 N1 HB1 N3 HB3
  go_upto_region 5 with (first
    | ((with_reducible refine alloc_note rfl rfl w3.heap.size rfl ?_))
    | ((with_reducible refine store_note_last rfl _ _ rfl _ w3.heap.size rfl rfl rfl ?_)))
  generalize w3.alloc (.cells (ntL r).toArray 29) = w4 at *
  generalize w3.heap.size = B at *
  go_wp2_with (first
    | ((with_reducible refine load_note rfl (.tmp 3) rfl A rfl S4.out.A ?_))
    | ((with_reducible refine load_note rfl (.tmp 5) rfl B rfl S4.out.B ?_)))
  refine (works_any _).mono ?_
  rintro e w5 ⟨rfl, hb5⟩
  have HB5 := hide (below_then S4.out.bel hb5)
  clear hb5
  go_wp2_with fail
  go_ret
  exact ⟨rfl, HB5.out⟩
theorem takes (s : ByteArray) (hm : s.size ≤ maxLen) (w : World) :
    Calls Try.prog 3 #[.string s] w fun e w' => e = .returned (.bool true) ∧ Below w.heap.size w w' := by
  by_cases hl : (s.size : Int) > 1000
  · exact takes_long s hl w
  · by_cases hz : s.size = 78
    · exact takes_short s hl (takeR s) (takeE s) (hide (Take_78 s hz)) (hide (TakeR_78 s hz)) w
    · exact takes_short s hl zeroN 6 (hide (Take_len s hz hm)) (hide (TakeR_len s hz hm)) w
end Go.Proofs.Ytnjojcikahiieaa.NLTakes
