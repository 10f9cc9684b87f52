/-
  DERIVED. GIVEN WITH THE SEED: THE CARDS: each row of YtfhkjahjenpbgaaDoorRows.lean that lists a variable, with what it lists TIED to the program's text (the seventh form; the later family's looks); each row that meets fmt, with fmt's text TOLD by the authors' own Lean function (tested against real Go, not proved from fmt's source: count such statements apart). THE CARD IS WHAT COUNTS. Prove the row's statement (the work); the ties are given (YtfhkjahjenpbgaaDoorTie.lean); close each card by the builder's one call (the guide's Derived/Test/ToyasCard.lean, 'card_holds'). Laid BY PROGRAM, IN A SANDBOX (cutbox-door.mjs). By AI agents, Wed Nov 11 2026. No macro, syntax, notation, axiom, sorry.
-/
import Derived.Test.YtfhkjahjenpbgaaDoorRows
import GoSem.ClaimSeven
namespace Go.Proofs.YtfhkjahjenpbgaaDoor
namespace Rows

/-- THE TIED CARD OF 'flagonlaw21.InstanceBytes'. -/
def instanceBytesCard : Claim7 := { stood := { row := instanceBytesRow, standIns := [], harness := (true, "c207153165cb06a0b4451e0eaca157d0650bb5be944dfcbe017a50d0748f7e8c"), looks := true }, kinds := [], alts := [], laidByText := true, laidKinds := [.listed, .data], laidTests := true, laidLooks := .later }
def InstanceBytesCardSaid : Prop := Claim7.holds Tryd.pinned (.plain (OpenSpec.ofChange instanceBytesSpec)) instanceBytesCard

/-- THE SECOND FORM's CARD OF 'flagonlaw21.InstanceBytes'. -/
def instanceBytesUptoCard : Claim7 := { stood := { row := instanceBytesUptoRow, standIns := [], harness := (true, "c207153165cb06a0b4451e0eaca157d0650bb5be944dfcbe017a50d0748f7e8c"), looks := true }, kinds := [], alts := [], laidByText := true, laidKinds := [.listed, .data], laidTests := true, laidLooks := .later }
def InstanceBytesUptoCardSaid : Prop := Claim7.holds Tryd.pinned (.plain (OpenSpec.upto instanceBytesSpec)) instanceBytesUptoCard
end Rows
end Go.Proofs.YtfhkjahjenpbgaaDoor
