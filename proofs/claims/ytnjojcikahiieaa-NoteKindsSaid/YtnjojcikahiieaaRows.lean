/-
  No cell of these rows narrows 'for every input' (looked for: loops, veiled, ifaces, maps, wideKeys, modest, calm, conditions, laid).
  DERIVED. THE GIVEN ROWS OF THIS SEAT. 6 by the template 'for every input the law returns true; each argument reads behind the call as it read before'; 0 by the template 'total and deterministic' (their statements: YtnjojcikahiieaaTotals.lean).
  GIVEN WITH THE SEED: the statements are not yours to turn. If you find one false, say at which input.
  Laid BY PROGRAM, IN A SANDBOX (cutbox-rows.mjs): the forced cells as the released guide's own fill.sh prints them over the translation 4c19e2753654af64… (all of the seat's roots in one cut). By AI agents, Wed Nov 11 2026. No macro, syntax, notation, axiom, sorry.
-/
import Derived.Test.YtnjojcikahiieaaChecked
import GoSem.Claim
import GoSem.ClaimJoined
import GoSem.ClaimMapViews
import Derived.JoinedTies
import Derived.KernelRfl
namespace Go.Proofs.Ytnjojcikahiieaa
/- THE CELL 'sum', in the pinned program and in every row, IS THE sha256 OF THE DUMP (.gsa) THAT YtnjojcikahiieaaProg.lean LOADS. Nothing in Lean hashes anything: it is a label: what it is worth is what the hold of that sum in a sandbox is worth. -/
noncomputable def Try.pinned : Pinned := { name := "ytnjojcikahiieaa", sum := "4c19e2753654af640428065964aff754a379fc1bbe093d6bfcfc5b44a50f5406", checked := Try.checked }
namespace Rows
def none {H : Type} : Left H := { results := [], args := [] }

/-- 'undertowlaw08.NoteTakes': WHATEVER THE INPUT: true; the input reads as it did. -/
def noteTakesSpec : ChangeSpec := { name := "noteTakes", fn := fun _ => fun
  | [d] => { results := [.lit (.bool true)], args := [d] }
  | _ => none }
def noteTakesRow : OpenClaim := { program := "ytnjojcikahiieaa", sum := "4c19e2753654af640428065964aff754a379fc1bbe093d6bfcfc5b44a50f5406", func := "undertow/undertowlaw08.NoteTakes", spec := "noteTakes", apart := false }
def NoteTakesSaid : Prop := noteTakesRow.holds Try.pinned (OpenSpec.ofChange noteTakesSpec)

/-- ITS FALSE NEIGHBOUR: 'it returns false'. Refute it at one input. -/
def noteTakesWrong : ChangeSpec := { name := "noteTakes", fn := fun _ => fun
  | [d] => { results := [.lit (.bool false)], args := [d] }
  | _ => none }
def NoteTakesWrongFalsely : Prop := noteTakesRow.holds Try.pinned (OpenSpec.ofChange noteTakesWrong)

/-- 'undertowlaw08.NoteBack': WHATEVER THE INPUT: true; the input reads as it did. -/
def noteBackSpec : ChangeSpec := { name := "noteBack", fn := fun _ => fun
  | [d1, d2] => { results := [.lit (.bool true)], args := [d1, d2] }
  | _ => none }
def noteBackRow : OpenClaim := { program := "ytnjojcikahiieaa", sum := "4c19e2753654af640428065964aff754a379fc1bbe093d6bfcfc5b44a50f5406", func := "undertow/undertowlaw08.NoteBack", spec := "noteBack", apart := false }
def NoteBackSaid : Prop := noteBackRow.holds Try.pinned (OpenSpec.ofChange noteBackSpec)

/-- ITS FALSE NEIGHBOUR: 'it returns false'. Refute it at one input. -/
def noteBackWrong : ChangeSpec := { name := "noteBack", fn := fun _ => fun
  | [d1, d2] => { results := [.lit (.bool false)], args := [d1, d2] }
  | _ => none }
def NoteBackWrongFalsely : Prop := noteBackRow.holds Try.pinned (OpenSpec.ofChange noteBackWrong)

/-- 'undertowlaw08.NoteKinds': WHATEVER THE INPUT: true; the input reads as it did. -/
def noteKindsSpec : ChangeSpec := { name := "noteKinds", fn := fun _ => fun
  | [d1, d2, d3, d4] => { results := [.lit (.bool true)], args := [d1, d2, d3, d4] }
  | _ => none }
def noteKindsRow : OpenClaim := { program := "ytnjojcikahiieaa", sum := "4c19e2753654af640428065964aff754a379fc1bbe093d6bfcfc5b44a50f5406", func := "undertow/undertowlaw08.NoteKinds", spec := "noteKinds", apart := false }
def NoteKindsSaid : Prop := noteKindsRow.holds Try.pinned (OpenSpec.ofChange noteKindsSpec)

/-- ITS FALSE NEIGHBOUR: 'it returns false'. Refute it at one input. -/
def noteKindsWrong : ChangeSpec := { name := "noteKinds", fn := fun _ => fun
  | [d1, d2, d3, d4] => { results := [.lit (.bool false)], args := [d1, d2, d3, d4] }
  | _ => none }
def NoteKindsWrongFalsely : Prop := noteKindsRow.holds Try.pinned (OpenSpec.ofChange noteKindsWrong)

/-- 'undertowlaw08.NoteKnown': WHATEVER THE INPUT: true; the input reads as it did. -/
def noteKnownSpec : ChangeSpec := { name := "noteKnown", fn := fun _ => fun
  | [] => { results := [.lit (.bool true)], args := [] }
  | _ => none }
def noteKnownRow : OpenClaim := { program := "ytnjojcikahiieaa", sum := "4c19e2753654af640428065964aff754a379fc1bbe093d6bfcfc5b44a50f5406", func := "undertow/undertowlaw08.NoteKnown", spec := "noteKnown", apart := false }
def NoteKnownSaid : Prop := noteKnownRow.holds Try.pinned (OpenSpec.ofChange noteKnownSpec)

/-- ITS FALSE NEIGHBOUR: 'it returns false'. Refute it at one input. -/
def noteKnownWrong : ChangeSpec := { name := "noteKnown", fn := fun _ => fun
  | [] => { results := [.lit (.bool false)], args := [] }
  | _ => none }
def NoteKnownWrongFalsely : Prop := noteKnownRow.holds Try.pinned (OpenSpec.ofChange noteKnownWrong)

/-- 'undertowlaw08.NotePuts': WHATEVER THE INPUT: true; the input reads as it did. -/
def notePutsSpec : ChangeSpec := { name := "notePuts", fn := fun _ => fun
  | [d] => { results := [.lit (.bool true)], args := [d] }
  | _ => none }
def notePutsRow : OpenClaim := { program := "ytnjojcikahiieaa", sum := "4c19e2753654af640428065964aff754a379fc1bbe093d6bfcfc5b44a50f5406", func := "undertow/undertowlaw08.NotePuts", spec := "notePuts", apart := false }
def NotePutsSaid : Prop := notePutsRow.holds Try.pinned (OpenSpec.ofChange notePutsSpec)

/-- ITS FALSE NEIGHBOUR: 'it returns false'. Refute it at one input. -/
def notePutsWrong : ChangeSpec := { name := "notePuts", fn := fun _ => fun
  | [d] => { results := [.lit (.bool false)], args := [d] }
  | _ => none }
def NotePutsWrongFalsely : Prop := notePutsRow.holds Try.pinned (OpenSpec.ofChange notePutsWrong)

/-- 'undertowlaw08.NoteOnce': WHATEVER THE INPUT: true; the input reads as it did. -/
def noteOnceSpec : ChangeSpec := { name := "noteOnce", fn := fun _ => fun
  | [d] => { results := [.lit (.bool true)], args := [d] }
  | _ => none }
def noteOnceRow : OpenClaim := { program := "ytnjojcikahiieaa", sum := "4c19e2753654af640428065964aff754a379fc1bbe093d6bfcfc5b44a50f5406", func := "undertow/undertowlaw08.NoteOnce", spec := "noteOnce", apart := false }
def NoteOnceSaid : Prop := noteOnceRow.holds Try.pinned (OpenSpec.ofChange noteOnceSpec)

/-- ITS FALSE NEIGHBOUR: 'it returns false'. Refute it at one input. -/
def noteOnceWrong : ChangeSpec := { name := "noteOnce", fn := fun _ => fun
  | [d] => { results := [.lit (.bool false)], args := [d] }
  | _ => none }
def NoteOnceWrongFalsely : Prop := noteOnceRow.holds Try.pinned (OpenSpec.ofChange noteOnceWrong)

/- THE SECOND FORM. 'bulk': how many values and letters a reading holds, each counted each time it is reached (what is shared counts as often as it is met; a slice's spare places count too). A statement '..UptoSaid' is the law's where the arguments, and the package variables that the reading takes, are together of bulk at most 1048576: NARROWER than '..Said'. Prove '..Said' where nothing that the law and all that it calls make is longer than what came in: it says more and counts as full. Else prove '..UptoSaid'. A law counts once. -/
mutual
def uptoBulk {H : Type} : DataW H → Nat
  | .lit (.string bytes) => bytes.length + 1
  | .lit _ => 1
  | .nil => 1
  | .ptr d => uptoBulk d + 1
  | .slice elems spare => uptoBulkAll elems + uptoBulkAll spare + 1
  | .agg parts => uptoBulkAll parts + 1
  | .iface _ d => uptoBulk d + 1
  | .map entries => uptoBulkEntries entries + 1
  | .held _ => 1
def uptoBulkAll {H : Type} : List (DataW H) → Nat
  | [] => 0
  | d :: r => uptoBulk d + uptoBulkAll r
def uptoBulkEntries {H : Type} : List (Lit × DataW H) → Nat
  | [] => 0
  | x :: r => uptoBulkEntry x + uptoBulkEntries r
def uptoBulkEntry {H : Type} : Lit × DataW H → Nat
  | (.string bytes, d) => bytes.length + uptoBulk d + 1
  | (_, d) => uptoBulk d + 1
 end
def uptoSmall : (H : Type) → List (DataW H) → Bool := fun _ ds => decide (uptoBulkAll ds ≤ 1048576)
def OpenSpec.upto (s : _root_.Go.ChangeSpec) : _root_.Go.OpenSpec := { _root_.Go.OpenSpec.ofChange s with cond := some uptoSmall }

/-- 'undertowlaw08.NoteTakes', WHERE WHAT IT READS IS OF BULK AT MOST 1048576: true; the input reads as it did. -/
def noteTakesUptoRow : OpenClaim := { program := "ytnjojcikahiieaa", sum := "4c19e2753654af640428065964aff754a379fc1bbe093d6bfcfc5b44a50f5406", func := "undertow/undertowlaw08.NoteTakes", spec := "noteTakes", apart := false, narrowed := true }
def NoteTakesUptoSaid : Prop := noteTakesUptoRow.holds Try.pinned (OpenSpec.upto noteTakesSpec)

/-- 'undertowlaw08.NoteBack', WHERE WHAT IT READS IS OF BULK AT MOST 1048576: true; the input reads as it did. -/
def noteBackUptoRow : OpenClaim := { program := "ytnjojcikahiieaa", sum := "4c19e2753654af640428065964aff754a379fc1bbe093d6bfcfc5b44a50f5406", func := "undertow/undertowlaw08.NoteBack", spec := "noteBack", apart := false, narrowed := true }
def NoteBackUptoSaid : Prop := noteBackUptoRow.holds Try.pinned (OpenSpec.upto noteBackSpec)

/-- 'undertowlaw08.NoteKinds', WHERE WHAT IT READS IS OF BULK AT MOST 1048576: true; the input reads as it did. -/
def noteKindsUptoRow : OpenClaim := { program := "ytnjojcikahiieaa", sum := "4c19e2753654af640428065964aff754a379fc1bbe093d6bfcfc5b44a50f5406", func := "undertow/undertowlaw08.NoteKinds", spec := "noteKinds", apart := false, narrowed := true }
def NoteKindsUptoSaid : Prop := noteKindsUptoRow.holds Try.pinned (OpenSpec.upto noteKindsSpec)

/-- 'undertowlaw08.NoteKnown', WHERE WHAT IT READS IS OF BULK AT MOST 1048576: true; the input reads as it did. -/
def noteKnownUptoRow : OpenClaim := { program := "ytnjojcikahiieaa", sum := "4c19e2753654af640428065964aff754a379fc1bbe093d6bfcfc5b44a50f5406", func := "undertow/undertowlaw08.NoteKnown", spec := "noteKnown", apart := false, narrowed := true }
def NoteKnownUptoSaid : Prop := noteKnownUptoRow.holds Try.pinned (OpenSpec.upto noteKnownSpec)

/-- 'undertowlaw08.NotePuts', WHERE WHAT IT READS IS OF BULK AT MOST 1048576: true; the input reads as it did. -/
def notePutsUptoRow : OpenClaim := { program := "ytnjojcikahiieaa", sum := "4c19e2753654af640428065964aff754a379fc1bbe093d6bfcfc5b44a50f5406", func := "undertow/undertowlaw08.NotePuts", spec := "notePuts", apart := false, narrowed := true }
def NotePutsUptoSaid : Prop := notePutsUptoRow.holds Try.pinned (OpenSpec.upto notePutsSpec)

/-- 'undertowlaw08.NoteOnce', WHERE WHAT IT READS IS OF BULK AT MOST 1048576: true; the input reads as it did. -/
def noteOnceUptoRow : OpenClaim := { program := "ytnjojcikahiieaa", sum := "4c19e2753654af640428065964aff754a379fc1bbe093d6bfcfc5b44a50f5406", func := "undertow/undertowlaw08.NoteOnce", spec := "noteOnce", apart := false, narrowed := true }
def NoteOnceUptoSaid : Prop := noteOnceUptoRow.holds Try.pinned (OpenSpec.upto noteOnceSpec)

end Rows
end Go.Proofs.Ytnjojcikahiieaa
