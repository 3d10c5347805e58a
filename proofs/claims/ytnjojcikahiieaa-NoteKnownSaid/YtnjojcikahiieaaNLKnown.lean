/-
  NoteKnown walked: the document's examples. It returns true.
-/
import Derived.Test.YtnjojcikahiieaaNLTakes
namespace Go.Proofs.Ytnjojcikahiieaa.NLKnown
open Go.RowKit Base Blks Words NRec NSmall NLaw NPlain NNum NVal NNumR NMayAll NPut NTakeP NTake NTakeR NTruth NWorks NLTakes
set_option linter.unusedVariables false
set_option linter.unusedSimpArgs false
set_option maxRecDepth 100000

theorem known (w : World) : Calls Try.prog 6 #[] w fun e w' => e = .returned (.bool true) ∧ Below w.heap.size w w' := by
  have PU := hide (fun w => Put_ok askN ask_ins ask_may w)
  have HX : (ByteArray.mk (putB askN).toArray).extract 0 6 = ⟨#[1, 3, 0, 5, 0, 3]⟩ := by decide +kernel
  have hsz : ((ByteArray.mk (putB askN).toArray).size : Int) = 78 := by have := putB_len askN; simp [ByteArray.size, this]
  generalize (ByteArray.mk (putB askN).toArray) = S at *
  have hsl : ∀ W, (Instr.slice 9 (.string S) none (some (.int .i64 6)) none).run Try.prog W = .ok (.string ⟨#[1, 3, 0, 5, 0, 3]⟩) W := fun W => by
    rw [run_slice_string_h (P := Try.prog) W _ S Try.underlying9 .i64 6 (by omega) (by omega)]
    exact congrArg (fun x => Result.ok (Value.string x) W) HX
  have N3 := hide (fun w : World => show Calls Try.prog 15 #[.int .u8 3] w fun e w' => e = .returned (.int .i64 0) ∧ w = w' from net_any (K := 3) (w := w) (h0 := by decide) (h1 := by decide))
  have N4 := hide (fun w : World => show Calls Try.prog 15 #[.int .u8 4] w fun e w' => e = .returned (.int .i64 1) ∧ w = w' from net_any (K := 4) (w := w) (h0 := by decide) (h1 := by decide))
  have N11 := hide (fun w : World => show Calls Try.prog 15 #[.int .u8 11] w fun e w' => e = .returned (.int .i64 2) ∧ w = w' from net_any (K := 11) (w := w) (h0 := by decide) (h1 := by decide))
  have N12 := hide (fun w : World => show Calls Try.prog 15 #[.int .u8 12] w fun e w' => e = .returned (.int .i64 (-1)) ∧ w = w' from net_any (K := 12) (w := w) (h0 := by decide) (h1 := by decide))
  go_enter Try.func6, Try.ntmps6
  go_wp2_with fail
  refine (asks_any _).mono ?_
  rintro e w1 ⟨rfl, hb1⟩
  have HB1 := hide hb1
  clear hb1
  go_wp2_with fail
  refine (PU.out _).mono ?_
  rintro e w2 ⟨rfl, hb2⟩
  have HB2 := hide (below_then HB1.out hb2)
  clear hb2 HB1
  go_wp2_with fail
  refine (works_any _).mono ?_
  rintro e w3 ⟨rfl, hb3⟩
  have HB3 := hide (below_then HB2.out hb3)
  clear hb3 HB2
  go_wp2_with fail
  refine (N3.out _).mono ?_
  rintro e w4 ⟨rfl, rfl⟩
  go_wp2_with fail
  refine (N4.out _).mono ?_
  rintro e w5 ⟨rfl, rfl⟩
  go_wp2_with fail
  refine (N11.out _).mono ?_
  rintro e w6 ⟨rfl, rfl⟩
  go_wp2_with fail
  refine (N12.out _).mono ?_
  rintro e w7 ⟨rfl, rfl⟩
  go_wp2_with fail
  go_ret
  exact ⟨rfl, HB3.out⟩
end Go.Proofs.Ytnjojcikahiieaa.NLKnown
