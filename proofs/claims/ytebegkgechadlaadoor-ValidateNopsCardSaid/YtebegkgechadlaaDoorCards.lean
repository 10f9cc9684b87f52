/-
  DERIVED. GIVEN WITH THE SEED: THE CARDS: each row of YtebegkgechadlaaDoorRows.lean that lists a variable, with what it lists TIED to the program's text (the seventh form; the later family's looks); each row that meets fmt, with fmt's text TOLD by the authors' own Lean function (tested against real Go, not proved from fmt's source: count such statements apart). THE CARD IS WHAT COUNTS. Prove the row's statement (the work); the ties are given (YtebegkgechadlaaDoorTie.lean); close each card by the builder's one call (the guide's Derived/Test/ToyasCard.lean, 'card_holds'). Laid BY PROGRAM, IN A SANDBOX (cutbox-door.mjs). By AI agents, Wed Nov 11 2026. No macro, syntax, notation, axiom, sorry.
-/
import Derived.Test.YtebegkgechadlaaDoorRows
import GoSem.ClaimSeven
namespace Go.Proofs.YtebegkgechadlaaDoor
namespace Rows

/-- THE TIED CARD OF 'flagonlaw10.ValidateAlone'. -/
def validateAloneCard : Claim7 := { stood := { row := validateAloneRow, standIns := [], harness := (true, "dccf4509d9e7de55b3cdcace3fe6eff645c3d134467e62d1d1283e72dbc45611"), looks := true }, kinds := [], alts := [], laidByText := true, laidKinds := [.listed, .data], laidTests := true, laidLooks := .later }
def ValidateAloneCardSaid : Prop := Claim7.holds Tryd.pinned (.plain (OpenSpec.ofChange validateAloneSpec)) validateAloneCard

/-- THE TIED CARD OF 'flagonlaw10.ValidateNops'. -/
def validateNopsCard : Claim7 := { stood := { row := validateNopsRow, standIns := [], harness := (true, "dccf4509d9e7de55b3cdcace3fe6eff645c3d134467e62d1d1283e72dbc45611"), looks := true }, kinds := [], alts := [], laidByText := true, laidKinds := [.listed, .data], laidTests := true, laidLooks := .later }
def ValidateNopsCardSaid : Prop := Claim7.holds Tryd.pinned (.plain (OpenSpec.ofChange validateNopsSpec)) validateNopsCard

/-- THE SECOND FORM's CARD OF 'flagonlaw10.ValidateAlone'. -/
def validateAloneUptoCard : Claim7 := { stood := { row := validateAloneUptoRow, standIns := [], harness := (true, "dccf4509d9e7de55b3cdcace3fe6eff645c3d134467e62d1d1283e72dbc45611"), looks := true }, kinds := [], alts := [], laidByText := true, laidKinds := [.listed, .data], laidTests := true, laidLooks := .later }
def ValidateAloneUptoCardSaid : Prop := Claim7.holds Tryd.pinned (.plain (OpenSpec.upto validateAloneSpec)) validateAloneUptoCard

/-- THE SECOND FORM's CARD OF 'flagonlaw10.ValidateNops'. -/
def validateNopsUptoCard : Claim7 := { stood := { row := validateNopsUptoRow, standIns := [], harness := (true, "dccf4509d9e7de55b3cdcace3fe6eff645c3d134467e62d1d1283e72dbc45611"), looks := true }, kinds := [], alts := [], laidByText := true, laidKinds := [.listed, .data], laidTests := true, laidLooks := .later }
def ValidateNopsUptoCardSaid : Prop := Claim7.holds Tryd.pinned (.plain (OpenSpec.upto validateNopsSpec)) validateNopsUptoCard
end Rows
end Go.Proofs.YtebegkgechadlaaDoor
