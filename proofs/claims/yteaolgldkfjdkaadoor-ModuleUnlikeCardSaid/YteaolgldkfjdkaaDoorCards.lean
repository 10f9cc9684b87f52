/-
  DERIVED. GIVEN WITH THE SEED: THE CARDS: each row of YteaolgldkfjdkaaDoorRows.lean that lists a variable, with what it lists TIED to the program's text (the seventh form; the later family's looks); each row that meets fmt, with fmt's text TOLD by the authors' own Lean function (tested against real Go, not proved from fmt's source: count such statements apart). THE CARD IS WHAT COUNTS. Prove the row's statement (the work); the ties are given (YteaolgldkfjdkaaDoorTie.lean); close each card by the builder's one call (the guide's Derived/Test/ToyasCard.lean, 'card_holds'). Laid BY PROGRAM, IN A SANDBOX (cutbox-door.mjs). By AI agents, Wed Nov 11 2026. No macro, syntax, notation, axiom, sorry.
-/
import Derived.Test.YteaolgldkfjdkaaDoorRows
import GoSem.ClaimSeven
namespace Go.Proofs.YteaolgldkfjdkaaDoor
namespace Rows

/-- THE TIED CARD OF 'flagonlaw05.ModuleBack'. -/
def moduleBackCard : Claim7 := { stood := { row := moduleBackRow, standIns := [], harness := (true, "062703c3109ee4031a25efb7e9b9b94069515b46916602aec79f3bcb10a5ea79"), looks := true }, kinds := [], alts := [], laidByText := true, laidKinds := [.listed, .data], laidTests := true, laidLooks := .later }
def ModuleBackCardSaid : Prop := Claim7.holds Tryd.pinned (.plain (OpenSpec.ofChange moduleBackSpec)) moduleBackCard

/-- THE TIED CARD OF 'flagonlaw05.ModuleCut'. -/
def moduleCutCard : Claim7 := { stood := { row := moduleCutRow, standIns := [], harness := (true, "062703c3109ee4031a25efb7e9b9b94069515b46916602aec79f3bcb10a5ea79"), looks := true }, kinds := [], alts := [], laidByText := true, laidKinds := [.listed, .data], laidTests := true, laidLooks := .later }
def ModuleCutCardSaid : Prop := Claim7.holds Tryd.pinned (.plain (OpenSpec.ofChange moduleCutSpec)) moduleCutCard

/-- THE TIED CARD OF 'flagonlaw05.ModuleUnlike'. -/
def moduleUnlikeCard : Claim7 := { stood := { row := moduleUnlikeRow, standIns := [], harness := (true, "062703c3109ee4031a25efb7e9b9b94069515b46916602aec79f3bcb10a5ea79"), looks := true }, kinds := [], alts := [], laidByText := true, laidKinds := [.listed, .data], laidTests := true, laidLooks := .later }
def ModuleUnlikeCardSaid : Prop := Claim7.holds Tryd.pinned (.plain (OpenSpec.ofChange moduleUnlikeSpec)) moduleUnlikeCard

/-- THE SECOND FORM's CARD OF 'flagonlaw05.ModuleBack'. -/
def moduleBackUptoCard : Claim7 := { stood := { row := moduleBackUptoRow, standIns := [], harness := (true, "062703c3109ee4031a25efb7e9b9b94069515b46916602aec79f3bcb10a5ea79"), looks := true }, kinds := [], alts := [], laidByText := true, laidKinds := [.listed, .data], laidTests := true, laidLooks := .later }
def ModuleBackUptoCardSaid : Prop := Claim7.holds Tryd.pinned (.plain (OpenSpec.upto moduleBackSpec)) moduleBackUptoCard

/-- THE SECOND FORM's CARD OF 'flagonlaw05.ModuleCut'. -/
def moduleCutUptoCard : Claim7 := { stood := { row := moduleCutUptoRow, standIns := [], harness := (true, "062703c3109ee4031a25efb7e9b9b94069515b46916602aec79f3bcb10a5ea79"), looks := true }, kinds := [], alts := [], laidByText := true, laidKinds := [.listed, .data], laidTests := true, laidLooks := .later }
def ModuleCutUptoCardSaid : Prop := Claim7.holds Tryd.pinned (.plain (OpenSpec.upto moduleCutSpec)) moduleCutUptoCard

/-- THE SECOND FORM's CARD OF 'flagonlaw05.ModuleUnlike'. -/
def moduleUnlikeUptoCard : Claim7 := { stood := { row := moduleUnlikeUptoRow, standIns := [], harness := (true, "062703c3109ee4031a25efb7e9b9b94069515b46916602aec79f3bcb10a5ea79"), looks := true }, kinds := [], alts := [], laidByText := true, laidKinds := [.listed, .data], laidTests := true, laidLooks := .later }
def ModuleUnlikeUptoCardSaid : Prop := Claim7.holds Tryd.pinned (.plain (OpenSpec.upto moduleUnlikeSpec)) moduleUnlikeUptoCard
end Rows
end Go.Proofs.YteaolgldkfjdkaaDoor
