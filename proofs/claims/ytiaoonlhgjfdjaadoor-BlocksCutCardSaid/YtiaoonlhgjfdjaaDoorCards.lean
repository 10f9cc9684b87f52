/-
  DERIVED. GIVEN WITH THE SEED: THE CARDS: each row of YtiaoonlhgjfdjaaDoorRows.lean that lists a variable, with what it lists TIED to the program's text (the seventh form; the later family's looks); each row that meets fmt, with fmt's text TOLD by the authors' own Lean function (tested against real Go, not proved from fmt's source: count such statements apart). THE CARD IS WHAT COUNTS. Prove the row's statement (the work); the ties are given (YtiaoonlhgjfdjaaDoorTie.lean); close each card by the builder's one call (the guide's Derived/Test/ToyasCard.lean, 'card_holds'). Laid BY PROGRAM, IN A SANDBOX (cutbox-door.mjs). By AI agents, Wed Nov 11 2026. No macro, syntax, notation, axiom, sorry.
-/
import Derived.Test.YtiaoonlhgjfdjaaDoorRows
import GoSem.ClaimSeven
namespace Go.Proofs.YtiaoonlhgjfdjaaDoor
namespace Rows

/-- THE TIED CARD OF 'flagonlaw12.BlocksCut'. -/
def blocksCutCard : Claim7 := { stood := { row := blocksCutRow, standIns := [], harness := (true, "fb495420a8b10af9f94871dd8439811df8ce35535c3a7eb41591b02e2f8091c2"), looks := false }, kinds := [], alts := [], laidByText := true, laidKinds := [.data, .data, .data], laidTests := true, laidLooks := .later }
def BlocksCutCardSaid : Prop := Claim7.holds Tryd.pinned (.plain (OpenSpec.ofChange blocksCutSpec)) blocksCutCard

/-- THE TIED CARD OF 'flagonlaw09.ControlMaps'. -/
def controlMapsCard : Claim7 := { stood := { row := controlMapsRow, standIns := [], harness := (true, "fb495420a8b10af9f94871dd8439811df8ce35535c3a7eb41591b02e2f8091c2"), looks := false }, kinds := [], alts := [], laidByText := true, laidKinds := [.data, .data, .data], laidTests := true, laidLooks := .later }
def ControlMapsCardSaid : Prop := Claim7.holds Tryd.pinned (.plain (OpenSpec.ofChange controlMapsSpec)) controlMapsCard

/-- THE TIED CARD OF 'flagonlaw09.ControlGoes'. -/
def controlGoesCard : Claim7 := { stood := { row := controlGoesRow, standIns := [], harness := (true, "fb495420a8b10af9f94871dd8439811df8ce35535c3a7eb41591b02e2f8091c2"), looks := false }, kinds := [], alts := [], laidByText := true, laidKinds := [.data, .data, .data], laidTests := true, laidLooks := .later }
def ControlGoesCardSaid : Prop := Claim7.holds Tryd.pinned (.plain (OpenSpec.ofChange controlGoesSpec)) controlGoesCard

/-- THE SECOND FORM's CARD OF 'flagonlaw12.BlocksCut'. -/
def blocksCutUptoCard : Claim7 := { stood := { row := blocksCutUptoRow, standIns := [], harness := (true, "fb495420a8b10af9f94871dd8439811df8ce35535c3a7eb41591b02e2f8091c2"), looks := false }, kinds := [], alts := [], laidByText := true, laidKinds := [.data, .data, .data], laidTests := true, laidLooks := .later }
def BlocksCutUptoCardSaid : Prop := Claim7.holds Tryd.pinned (.plain (OpenSpec.upto blocksCutSpec)) blocksCutUptoCard

/-- THE SECOND FORM's CARD OF 'flagonlaw09.ControlMaps'. -/
def controlMapsUptoCard : Claim7 := { stood := { row := controlMapsUptoRow, standIns := [], harness := (true, "fb495420a8b10af9f94871dd8439811df8ce35535c3a7eb41591b02e2f8091c2"), looks := false }, kinds := [], alts := [], laidByText := true, laidKinds := [.data, .data, .data], laidTests := true, laidLooks := .later }
def ControlMapsUptoCardSaid : Prop := Claim7.holds Tryd.pinned (.plain (OpenSpec.upto controlMapsSpec)) controlMapsUptoCard

/-- THE SECOND FORM's CARD OF 'flagonlaw09.ControlGoes'. -/
def controlGoesUptoCard : Claim7 := { stood := { row := controlGoesUptoRow, standIns := [], harness := (true, "fb495420a8b10af9f94871dd8439811df8ce35535c3a7eb41591b02e2f8091c2"), looks := false }, kinds := [], alts := [], laidByText := true, laidKinds := [.data, .data, .data], laidTests := true, laidLooks := .later }
def ControlGoesUptoCardSaid : Prop := Claim7.holds Tryd.pinned (.plain (OpenSpec.upto controlGoesSpec)) controlGoesUptoCard
end Rows
end Go.Proofs.YtiaoonlhgjfdjaaDoor
