/-
  NARROWER THAN 'FOR EVERY INPUT', by the rows' own cells (each row's printed sentence says how): ImageKnown: laid · ImagePuts: laid · ImageTakes: laid · ImageBack: laid · ImageSpoilt: laid.
  DERIVED. THE GIVEN ROWS OF THIS SEAT. 5 by the template 'for every input the law returns true; each argument reads behind the call as it read before'; 0 by the template 'total and deterministic' (their statements: YtdaglmoibijdeaaDoorTotals.lean).
  GIVEN WITH THE SEED: the statements are not yours to turn. If you find one false, say at which input.
  Laid BY PROGRAM, IN A SANDBOX (cutbox-rows.mjs): the forced cells as the released guide's own fill.sh prints them over the translation 16f9205ca4bc5991… (all of the seat's roots in one cut). By AI agents, Wed Nov 11 2026. No macro, syntax, notation, axiom, sorry.
-/
import Derived.Test.YtdaglmoibijdeaaDoorChecked
import GoSem.Claim
import GoSem.ClaimJoined
import GoSem.ClaimMapViews
import Derived.JoinedTies
import Derived.KernelRfl
namespace Go.Proofs.YtdaglmoibijdeaaDoor
/- THE CELL 'sum', in the pinned program and in every row, IS THE sha256 OF THE DUMP (.gsa) THAT YtdaglmoibijdeaaDoorProg.lean LOADS. Nothing in Lean hashes anything: it is a label: what it is worth is what the hold of that sum in a sandbox is worth. -/
noncomputable def Tryd.pinned : Pinned := { name := "ytdaglmoibijdeaadoor", sum := "16f9205ca4bc5991b8fa5c81759496e7e8c8fcff651d410c81c9f22864ef713a", checked := Tryd.checked }
namespace Rows
def none {H : Type} : Left H := { results := [], args := [] }

/- WHAT THE LISTED PACKAGE-LEVEL VARIABLES READ AS WHEN THE CALL BEGINS. Each datum BY PROGRAM (the guide's laid-datum.mjs) off the statement by which the dump's own 'gosem.cut.vars' lays the variable. In a bare row this is a premise. The card (YtdaglmoibijdeaaDoorCards.lean) ties it to the program's text. -/
def laid_undertow_code_forms {H : Type} : DataW H := .agg [.lit (.int .i64 0), .lit (.int .i64 1), .lit (.int .i64 1), .lit (.int .i64 1), .lit (.int .i64 1), .lit (.int .i64 1), .lit (.int .i64 1), .lit (.int .i64 1), .lit (.int .i64 2), .lit (.int .i64 2), .lit (.int .i64 2), .lit (.int .i64 1), .lit (.int .i64 3), .lit (.int .i64 2), .lit (.int .i64 2), .lit (.int .i64 2), .lit (.int .i64 4), .lit (.int .i64 4), .lit (.int .i64 0), .lit (.int .i64 5), .lit (.int .i64 6), .lit (.int .i64 0)]

/-- 'undertowlaw23.ImageKnown': WHATEVER THE INPUT: true; the input reads as it did. -/
def imageKnownSpec : ChangeSpec := { name := "imageKnown", fn := fun _ => fun
  | [] => { results := [.lit (.bool true)], args := [] }
  | _ => none }
def imageKnownRow : OpenClaim := { program := "ytdaglmoibijdeaadoor", sum := "16f9205ca4bc5991b8fa5c81759496e7e8c8fcff651d410c81c9f22864ef713a", func := "undertow/undertowlaw23.ImageKnown", spec := "imageKnown", unfollowed := true, recurses := true, named := ["undertow/code.forms"], apart := false, laid := [("undertow/code.forms", laid_undertow_code_forms)] }
def ImageKnownSaid : Prop := imageKnownRow.holds Tryd.pinned (OpenSpec.ofChange imageKnownSpec)

/-- ITS FALSE NEIGHBOUR: 'it returns false'. Refute it at one input. -/
def imageKnownWrong : ChangeSpec := { name := "imageKnown", fn := fun _ => fun
  | [] => { results := [.lit (.bool false)], args := [] }
  | _ => none }
def ImageKnownWrongFalsely : Prop := imageKnownRow.holds Tryd.pinned (OpenSpec.ofChange imageKnownWrong)

/-- 'undertowlaw23.ImagePuts': WHATEVER THE INPUT: true; the input reads as it did. -/
def imagePutsSpec : ChangeSpec := { name := "imagePuts", fn := fun _ => fun
  | [d1, d2] => { results := [.lit (.bool true)], args := [d1, d2] }
  | _ => none }
def imagePutsRow : OpenClaim := { program := "ytdaglmoibijdeaadoor", sum := "16f9205ca4bc5991b8fa5c81759496e7e8c8fcff651d410c81c9f22864ef713a", func := "undertow/undertowlaw23.ImagePuts", spec := "imagePuts", unfollowed := true, recurses := true, named := ["undertow/code.forms"], apart := false, laid := [("undertow/code.forms", laid_undertow_code_forms)] }
def ImagePutsSaid : Prop := imagePutsRow.holds Tryd.pinned (OpenSpec.ofChange imagePutsSpec)

/-- ITS FALSE NEIGHBOUR: 'it returns false'. Refute it at one input. -/
def imagePutsWrong : ChangeSpec := { name := "imagePuts", fn := fun _ => fun
  | [d1, d2] => { results := [.lit (.bool false)], args := [d1, d2] }
  | _ => none }
def ImagePutsWrongFalsely : Prop := imagePutsRow.holds Tryd.pinned (OpenSpec.ofChange imagePutsWrong)

/-- 'undertowlaw23.ImageTakes': WHATEVER THE INPUT: true; the input reads as it did. -/
def imageTakesSpec : ChangeSpec := { name := "imageTakes", fn := fun _ => fun
  | [d] => { results := [.lit (.bool true)], args := [d] }
  | _ => none }
def imageTakesRow : OpenClaim := { program := "ytdaglmoibijdeaadoor", sum := "16f9205ca4bc5991b8fa5c81759496e7e8c8fcff651d410c81c9f22864ef713a", func := "undertow/undertowlaw23.ImageTakes", spec := "imageTakes", unfollowed := true, recurses := true, named := ["undertow/code.forms"], apart := false, laid := [("undertow/code.forms", laid_undertow_code_forms)] }
def ImageTakesSaid : Prop := imageTakesRow.holds Tryd.pinned (OpenSpec.ofChange imageTakesSpec)

/-- ITS FALSE NEIGHBOUR: 'it returns false'. Refute it at one input. -/
def imageTakesWrong : ChangeSpec := { name := "imageTakes", fn := fun _ => fun
  | [d] => { results := [.lit (.bool false)], args := [d] }
  | _ => none }
def ImageTakesWrongFalsely : Prop := imageTakesRow.holds Tryd.pinned (OpenSpec.ofChange imageTakesWrong)

/-- 'undertowlaw23.ImageBack': WHATEVER THE INPUT: true; the input reads as it did. -/
def imageBackSpec : ChangeSpec := { name := "imageBack", fn := fun _ => fun
  | [d1, d2] => { results := [.lit (.bool true)], args := [d1, d2] }
  | _ => none }
def imageBackRow : OpenClaim := { program := "ytdaglmoibijdeaadoor", sum := "16f9205ca4bc5991b8fa5c81759496e7e8c8fcff651d410c81c9f22864ef713a", func := "undertow/undertowlaw23.ImageBack", spec := "imageBack", unfollowed := true, recurses := true, named := ["undertow/code.forms"], apart := false, laid := [("undertow/code.forms", laid_undertow_code_forms)] }
def ImageBackSaid : Prop := imageBackRow.holds Tryd.pinned (OpenSpec.ofChange imageBackSpec)

/-- ITS FALSE NEIGHBOUR: 'it returns false'. Refute it at one input. -/
def imageBackWrong : ChangeSpec := { name := "imageBack", fn := fun _ => fun
  | [d1, d2] => { results := [.lit (.bool false)], args := [d1, d2] }
  | _ => none }
def ImageBackWrongFalsely : Prop := imageBackRow.holds Tryd.pinned (OpenSpec.ofChange imageBackWrong)

/-- 'undertowlaw23.ImageSpoilt': WHATEVER THE INPUT: true; the input reads as it did. -/
def imageSpoiltSpec : ChangeSpec := { name := "imageSpoilt", fn := fun _ => fun
  | [d1, d2, d3, d4] => { results := [.lit (.bool true)], args := [d1, d2, d3, d4] }
  | _ => none }
def imageSpoiltRow : OpenClaim := { program := "ytdaglmoibijdeaadoor", sum := "16f9205ca4bc5991b8fa5c81759496e7e8c8fcff651d410c81c9f22864ef713a", func := "undertow/undertowlaw23.ImageSpoilt", spec := "imageSpoilt", unfollowed := true, recurses := true, named := ["undertow/code.forms"], apart := false, laid := [("undertow/code.forms", laid_undertow_code_forms)] }
def ImageSpoiltSaid : Prop := imageSpoiltRow.holds Tryd.pinned (OpenSpec.ofChange imageSpoiltSpec)

/-- ITS FALSE NEIGHBOUR: 'it returns false'. Refute it at one input. -/
def imageSpoiltWrong : ChangeSpec := { name := "imageSpoilt", fn := fun _ => fun
  | [d1, d2, d3, d4] => { results := [.lit (.bool false)], args := [d1, d2, d3, d4] }
  | _ => none }
def ImageSpoiltWrongFalsely : Prop := imageSpoiltRow.holds Tryd.pinned (OpenSpec.ofChange imageSpoiltWrong)

/- THE SECOND FORM. 'bulk': how many values and letters a reading holds, each counted each time it is reached (what is shared counts as often as it is met; a slice's spare places count too). A statement '..UptoSaid' is the law's where the arguments, and the package variables that the reading takes, are together of bulk at most 1048576: NARROWER than '..Said'. Prove '..Said' where nothing that the law and all that it calls make is longer than what came in: it says more and counts as full. Else prove '..UptoSaid'. A law counts once. -/
mutual
def uptoBulk {H : Type} : DataW H → Nat
  | .lit (.string bytes) => bytes.length + 1
  | .lit _ => 1
  | .nil => 1
  | .ptr d => uptoBulk d + 1
  | .slice elems spare => uptoBulkAll elems + uptoBulkAll spare + 1
  | .agg parts => uptoBulkAll parts + 1
  | .iface _ d => uptoBulk d + 1
  | .map entries => uptoBulkEntries entries + 1
  | .held _ => 1
def uptoBulkAll {H : Type} : List (DataW H) → Nat
  | [] => 0
  | d :: r => uptoBulk d + uptoBulkAll r
def uptoBulkEntries {H : Type} : List (Lit × DataW H) → Nat
  | [] => 0
  | x :: r => uptoBulkEntry x + uptoBulkEntries r
def uptoBulkEntry {H : Type} : Lit × DataW H → Nat
  | (.string bytes, d) => bytes.length + uptoBulk d + 1
  | (_, d) => uptoBulk d + 1
 end
def uptoSmall : (H : Type) → List (DataW H) → Bool := fun _ ds => decide (uptoBulkAll ds ≤ 1048576)
def OpenSpec.upto (s : _root_.Go.ChangeSpec) : _root_.Go.OpenSpec := { _root_.Go.OpenSpec.ofChange s with cond := some uptoSmall }

/-- 'undertowlaw23.ImageKnown', WHERE WHAT IT READS IS OF BULK AT MOST 1048576: true; the input reads as it did. -/
def imageKnownUptoRow : OpenClaim := { program := "ytdaglmoibijdeaadoor", sum := "16f9205ca4bc5991b8fa5c81759496e7e8c8fcff651d410c81c9f22864ef713a", func := "undertow/undertowlaw23.ImageKnown", spec := "imageKnown", unfollowed := true, recurses := true, named := ["undertow/code.forms"], apart := false, laid := [("undertow/code.forms", laid_undertow_code_forms)], narrowed := true }
def ImageKnownUptoSaid : Prop := imageKnownUptoRow.holds Tryd.pinned (OpenSpec.upto imageKnownSpec)

/-- 'undertowlaw23.ImagePuts', WHERE WHAT IT READS IS OF BULK AT MOST 1048576: true; the input reads as it did. -/
def imagePutsUptoRow : OpenClaim := { program := "ytdaglmoibijdeaadoor", sum := "16f9205ca4bc5991b8fa5c81759496e7e8c8fcff651d410c81c9f22864ef713a", func := "undertow/undertowlaw23.ImagePuts", spec := "imagePuts", unfollowed := true, recurses := true, named := ["undertow/code.forms"], apart := false, laid := [("undertow/code.forms", laid_undertow_code_forms)], narrowed := true }
def ImagePutsUptoSaid : Prop := imagePutsUptoRow.holds Tryd.pinned (OpenSpec.upto imagePutsSpec)

/-- 'undertowlaw23.ImageTakes', WHERE WHAT IT READS IS OF BULK AT MOST 1048576: true; the input reads as it did. -/
def imageTakesUptoRow : OpenClaim := { program := "ytdaglmoibijdeaadoor", sum := "16f9205ca4bc5991b8fa5c81759496e7e8c8fcff651d410c81c9f22864ef713a", func := "undertow/undertowlaw23.ImageTakes", spec := "imageTakes", unfollowed := true, recurses := true, named := ["undertow/code.forms"], apart := false, laid := [("undertow/code.forms", laid_undertow_code_forms)], narrowed := true }
def ImageTakesUptoSaid : Prop := imageTakesUptoRow.holds Tryd.pinned (OpenSpec.upto imageTakesSpec)

/-- 'undertowlaw23.ImageBack', WHERE WHAT IT READS IS OF BULK AT MOST 1048576: true; the input reads as it did. -/
def imageBackUptoRow : OpenClaim := { program := "ytdaglmoibijdeaadoor", sum := "16f9205ca4bc5991b8fa5c81759496e7e8c8fcff651d410c81c9f22864ef713a", func := "undertow/undertowlaw23.ImageBack", spec := "imageBack", unfollowed := true, recurses := true, named := ["undertow/code.forms"], apart := false, laid := [("undertow/code.forms", laid_undertow_code_forms)], narrowed := true }
def ImageBackUptoSaid : Prop := imageBackUptoRow.holds Tryd.pinned (OpenSpec.upto imageBackSpec)

/-- 'undertowlaw23.ImageSpoilt', WHERE WHAT IT READS IS OF BULK AT MOST 1048576: true; the input reads as it did. -/
def imageSpoiltUptoRow : OpenClaim := { program := "ytdaglmoibijdeaadoor", sum := "16f9205ca4bc5991b8fa5c81759496e7e8c8fcff651d410c81c9f22864ef713a", func := "undertow/undertowlaw23.ImageSpoilt", spec := "imageSpoilt", unfollowed := true, recurses := true, named := ["undertow/code.forms"], apart := false, laid := [("undertow/code.forms", laid_undertow_code_forms)], narrowed := true }
def ImageSpoiltUptoSaid : Prop := imageSpoiltUptoRow.holds Tryd.pinned (OpenSpec.upto imageSpoiltSpec)

end Rows
end Go.Proofs.YtdaglmoibijdeaaDoor
