/-
  DERIVED. GIVEN WITH THE SEED: THE CARDS: each row of YtdaglmoibijdeaaDoorRows.lean that lists a variable, with what it lists TIED to the program's text (the seventh form; the later family's looks); each row that meets fmt, with fmt's text TOLD by the authors' own Lean function (tested against real Go, not proved from fmt's source: count such statements apart). THE CARD IS WHAT COUNTS. Prove the row's statement (the work); the ties are given (YtdaglmoibijdeaaDoorTie.lean); close each card by the builder's one call (the guide's Derived/Test/ToyasCard.lean, 'card_holds'). Laid BY PROGRAM, IN A SANDBOX (cutbox-door.mjs). By AI agents, Wed Nov 11 2026. No macro, syntax, notation, axiom, sorry.
-/
import Derived.Test.YtdaglmoibijdeaaDoorRows
import GoSem.ClaimSeven
namespace Go.Proofs.YtdaglmoibijdeaaDoor
namespace Rows

/-- THE TIED CARD OF 'undertowlaw23.ImageKnown'. -/
def imageKnownCard : Claim7 := { stood := { row := imageKnownRow, standIns := [], harness := (true, "8af2927aebb967941d4f178ab9958103f1d283b12e47a4ddce99bb245a8598a7"), looks := false }, kinds := [], alts := [], laidByText := true, laidKinds := [.data], laidTests := true, laidLooks := .later }
def ImageKnownCardSaid : Prop := Claim7.holds Tryd.pinned (.plain (OpenSpec.ofChange imageKnownSpec)) imageKnownCard

/-- THE TIED CARD OF 'undertowlaw23.ImagePuts'. -/
def imagePutsCard : Claim7 := { stood := { row := imagePutsRow, standIns := [], harness := (true, "8af2927aebb967941d4f178ab9958103f1d283b12e47a4ddce99bb245a8598a7"), looks := false }, kinds := [], alts := [], laidByText := true, laidKinds := [.data], laidTests := true, laidLooks := .later }
def ImagePutsCardSaid : Prop := Claim7.holds Tryd.pinned (.plain (OpenSpec.ofChange imagePutsSpec)) imagePutsCard

/-- THE TIED CARD OF 'undertowlaw23.ImageTakes'. -/
def imageTakesCard : Claim7 := { stood := { row := imageTakesRow, standIns := [], harness := (true, "8af2927aebb967941d4f178ab9958103f1d283b12e47a4ddce99bb245a8598a7"), looks := false }, kinds := [], alts := [], laidByText := true, laidKinds := [.data], laidTests := true, laidLooks := .later }
def ImageTakesCardSaid : Prop := Claim7.holds Tryd.pinned (.plain (OpenSpec.ofChange imageTakesSpec)) imageTakesCard

/-- THE TIED CARD OF 'undertowlaw23.ImageBack'. -/
def imageBackCard : Claim7 := { stood := { row := imageBackRow, standIns := [], harness := (true, "8af2927aebb967941d4f178ab9958103f1d283b12e47a4ddce99bb245a8598a7"), looks := false }, kinds := [], alts := [], laidByText := true, laidKinds := [.data], laidTests := true, laidLooks := .later }
def ImageBackCardSaid : Prop := Claim7.holds Tryd.pinned (.plain (OpenSpec.ofChange imageBackSpec)) imageBackCard

/-- THE TIED CARD OF 'undertowlaw23.ImageSpoilt'. -/
def imageSpoiltCard : Claim7 := { stood := { row := imageSpoiltRow, standIns := [], harness := (true, "8af2927aebb967941d4f178ab9958103f1d283b12e47a4ddce99bb245a8598a7"), looks := false }, kinds := [], alts := [], laidByText := true, laidKinds := [.data], laidTests := true, laidLooks := .later }
def ImageSpoiltCardSaid : Prop := Claim7.holds Tryd.pinned (.plain (OpenSpec.ofChange imageSpoiltSpec)) imageSpoiltCard

/-- THE SECOND FORM's CARD OF 'undertowlaw23.ImageKnown'. -/
def imageKnownUptoCard : Claim7 := { stood := { row := imageKnownUptoRow, standIns := [], harness := (true, "8af2927aebb967941d4f178ab9958103f1d283b12e47a4ddce99bb245a8598a7"), looks := false }, kinds := [], alts := [], laidByText := true, laidKinds := [.data], laidTests := true, laidLooks := .later }
def ImageKnownUptoCardSaid : Prop := Claim7.holds Tryd.pinned (.plain (OpenSpec.upto imageKnownSpec)) imageKnownUptoCard

/-- THE SECOND FORM's CARD OF 'undertowlaw23.ImagePuts'. -/
def imagePutsUptoCard : Claim7 := { stood := { row := imagePutsUptoRow, standIns := [], harness := (true, "8af2927aebb967941d4f178ab9958103f1d283b12e47a4ddce99bb245a8598a7"), looks := false }, kinds := [], alts := [], laidByText := true, laidKinds := [.data], laidTests := true, laidLooks := .later }
def ImagePutsUptoCardSaid : Prop := Claim7.holds Tryd.pinned (.plain (OpenSpec.upto imagePutsSpec)) imagePutsUptoCard

/-- THE SECOND FORM's CARD OF 'undertowlaw23.ImageTakes'. -/
def imageTakesUptoCard : Claim7 := { stood := { row := imageTakesUptoRow, standIns := [], harness := (true, "8af2927aebb967941d4f178ab9958103f1d283b12e47a4ddce99bb245a8598a7"), looks := false }, kinds := [], alts := [], laidByText := true, laidKinds := [.data], laidTests := true, laidLooks := .later }
def ImageTakesUptoCardSaid : Prop := Claim7.holds Tryd.pinned (.plain (OpenSpec.upto imageTakesSpec)) imageTakesUptoCard

/-- THE SECOND FORM's CARD OF 'undertowlaw23.ImageBack'. -/
def imageBackUptoCard : Claim7 := { stood := { row := imageBackUptoRow, standIns := [], harness := (true, "8af2927aebb967941d4f178ab9958103f1d283b12e47a4ddce99bb245a8598a7"), looks := false }, kinds := [], alts := [], laidByText := true, laidKinds := [.data], laidTests := true, laidLooks := .later }
def ImageBackUptoCardSaid : Prop := Claim7.holds Tryd.pinned (.plain (OpenSpec.upto imageBackSpec)) imageBackUptoCard

/-- THE SECOND FORM's CARD OF 'undertowlaw23.ImageSpoilt'. -/
def imageSpoiltUptoCard : Claim7 := { stood := { row := imageSpoiltUptoRow, standIns := [], harness := (true, "8af2927aebb967941d4f178ab9958103f1d283b12e47a4ddce99bb245a8598a7"), looks := false }, kinds := [], alts := [], laidByText := true, laidKinds := [.data], laidTests := true, laidLooks := .later }
def ImageSpoiltUptoCardSaid : Prop := Claim7.holds Tryd.pinned (.plain (OpenSpec.upto imageSpoiltSpec)) imageSpoiltUptoCard
end Rows
end Go.Proofs.YtdaglmoibijdeaaDoor
