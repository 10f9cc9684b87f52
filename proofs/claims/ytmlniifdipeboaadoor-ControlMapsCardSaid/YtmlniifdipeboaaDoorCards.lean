/-
  DERIVED. GIVEN WITH THE SEED: THE CARDS: each row of YtmlniifdipeboaaDoorRows.lean that lists a variable, with what it lists TIED to the program's text (the seventh form; the later family's looks); each row that meets fmt, with fmt's text TOLD by the authors' own Lean function (tested against real Go, not proved from fmt's source: count such statements apart). THE CARD IS WHAT COUNTS. Prove the row's statement (the work); the ties are given (YtmlniifdipeboaaDoorTie.lean); close each card by the builder's one call (the guide's Derived/Test/ToyasCard.lean, 'card_holds'). Laid BY PROGRAM, IN A SANDBOX (cutbox-door.mjs). By AI agents, Wed Nov 11 2026. No macro, syntax, notation, axiom, sorry.
-/
import Derived.Test.YtmlniifdipeboaaDoorRows
import GoSem.ClaimSeven
namespace Go.Proofs.YtmlniifdipeboaaDoor
namespace Rows

/-- THE TIED CARD OF 'flagonlaw03.OpsRows'. -/
def opsRowsCard : Claim7 := { stood := { row := opsRowsRow, standIns := [], harness := (true, "3fbba51ec878a9753b8db47d441de71a58e3779f5b4774922b5ee0096628e977"), looks := false }, kinds := [], alts := [], laidByText := true, laidKinds := [.listed, .data], laidTests := true, laidLooks := .later }
def OpsRowsCardSaid : Prop := Claim7.holds Tryd.pinned (.plain (OpenSpec.ofChange opsRowsSpec)) opsRowsCard

/-- THE TIED CARD OF 'flagonlaw03.OpsFind'. -/
def opsFindCard : Claim7 := { stood := { row := opsFindRow, standIns := [], harness := (true, "3fbba51ec878a9753b8db47d441de71a58e3779f5b4774922b5ee0096628e977"), looks := false }, kinds := [], alts := [], laidByText := true, laidKinds := [.listed, .data], laidTests := true, laidLooks := .later }
def OpsFindCardSaid : Prop := Claim7.holds Tryd.pinned (.plain (OpenSpec.ofChange opsFindSpec)) opsFindCard

/-- THE TIED CARD OF 'flagonlaw12.BlocksCut'. -/
def blocksCutCard : Claim7 := { stood := { row := blocksCutRow, standIns := [], harness := (true, "3fbba51ec878a9753b8db47d441de71a58e3779f5b4774922b5ee0096628e977"), looks := false }, kinds := [], alts := [], laidByText := true, laidKinds := [.data, .data, .data], laidTests := true, laidLooks := .later }
def BlocksCutCardSaid : Prop := Claim7.holds Tryd.pinned (.plain (OpenSpec.ofChange blocksCutSpec)) blocksCutCard

/-- THE TIED CARD OF 'flagonlaw04.InstrBack'. -/
def instrBackCard : Claim7 := { stood := { row := instrBackRow, standIns := [], harness := (true, "3fbba51ec878a9753b8db47d441de71a58e3779f5b4774922b5ee0096628e977"), looks := false }, kinds := [], alts := [], laidByText := true, laidKinds := [.listed, .data], laidTests := true, laidLooks := .later }
def InstrBackCardSaid : Prop := Claim7.holds Tryd.pinned (.plain (OpenSpec.ofChange instrBackSpec)) instrBackCard

/-- THE TIED CARD OF 'flagonlaw04.InstrList'. -/
def instrListCard : Claim7 := { stood := { row := instrListRow, standIns := [], harness := (true, "3fbba51ec878a9753b8db47d441de71a58e3779f5b4774922b5ee0096628e977"), looks := false }, kinds := [], alts := [], laidByText := true, laidKinds := [.listed, .data], laidTests := true, laidLooks := .later }
def InstrListCardSaid : Prop := Claim7.holds Tryd.pinned (.plain (OpenSpec.ofChange instrListSpec)) instrListCard

/-- THE TIED CARD OF 'flagonlaw07.NumsDo'. -/
def numsDoCard : Claim7 := { stood := { row := numsDoRow, standIns := [], harness := (true, "3fbba51ec878a9753b8db47d441de71a58e3779f5b4774922b5ee0096628e977"), looks := false }, kinds := [], alts := [], laidByText := true, laidKinds := [.data, .listed, .data], laidTests := true, laidLooks := .later }
def NumsDoCardSaid : Prop := Claim7.holds Tryd.pinned (.plain (OpenSpec.ofChange numsDoSpec)) numsDoCard

/-- THE TIED CARD OF 'flagonlaw07.NumsDivide'. -/
def numsDivideCard : Claim7 := { stood := { row := numsDivideRow, standIns := [], harness := (true, "3fbba51ec878a9753b8db47d441de71a58e3779f5b4774922b5ee0096628e977"), looks := false }, kinds := [], alts := [], laidByText := true, laidKinds := [.data, .listed, .data], laidTests := true, laidLooks := .later }
def NumsDivideCardSaid : Prop := Claim7.holds Tryd.pinned (.plain (OpenSpec.ofChange numsDivideSpec)) numsDivideCard

/-- THE TIED CARD OF 'flagonlaw07.NumsAgree'. -/
def numsAgreeCard : Claim7 := { stood := { row := numsAgreeRow, standIns := [], harness := (true, "3fbba51ec878a9753b8db47d441de71a58e3779f5b4774922b5ee0096628e977"), looks := false }, kinds := [], alts := [], laidByText := true, laidKinds := [.data, .listed, .data], laidTests := true, laidLooks := .later }
def NumsAgreeCardSaid : Prop := Claim7.holds Tryd.pinned (.plain (OpenSpec.ofChange numsAgreeSpec)) numsAgreeCard

/-- THE TIED CARD OF 'flagonlaw07.NumsTurn'. -/
def numsTurnCard : Claim7 := { stood := { row := numsTurnRow, standIns := [], harness := (true, "3fbba51ec878a9753b8db47d441de71a58e3779f5b4774922b5ee0096628e977"), looks := false }, kinds := [], alts := [], laidByText := true, laidKinds := [.data, .listed, .data], laidTests := true, laidLooks := .later }
def NumsTurnCardSaid : Prop := Claim7.holds Tryd.pinned (.plain (OpenSpec.ofChange numsTurnSpec)) numsTurnCard

/-- THE TIED CARD OF 'flagonlaw07.NumsNarrow'. -/
def numsNarrowCard : Claim7 := { stood := { row := numsNarrowRow, standIns := [], harness := (true, "3fbba51ec878a9753b8db47d441de71a58e3779f5b4774922b5ee0096628e977"), looks := false }, kinds := [], alts := [], laidByText := true, laidKinds := [.data, .listed, .data], laidTests := true, laidLooks := .later }
def NumsNarrowCardSaid : Prop := Claim7.holds Tryd.pinned (.plain (OpenSpec.ofChange numsNarrowSpec)) numsNarrowCard

/-- THE TIED CARD OF 'flagonlaw07.NumsRing'. -/
def numsRingCard : Claim7 := { stood := { row := numsRingRow, standIns := [], harness := (true, "3fbba51ec878a9753b8db47d441de71a58e3779f5b4774922b5ee0096628e977"), looks := false }, kinds := [], alts := [], laidByText := true, laidKinds := [.data, .listed, .data], laidTests := true, laidLooks := .later }
def NumsRingCardSaid : Prop := Claim7.holds Tryd.pinned (.plain (OpenSpec.ofChange numsRingSpec)) numsRingCard

/-- THE TIED CARD OF 'flagonlaw03.OpsWords'. -/
def opsWordsCard : Claim7 := { stood := { row := opsWordsRow, standIns := [], harness := (true, "3fbba51ec878a9753b8db47d441de71a58e3779f5b4774922b5ee0096628e977"), looks := false }, kinds := [], alts := [], laidByText := true, laidKinds := [.data, .data, .data, .listed, .data], laidTests := true, laidLooks := .later }
def OpsWordsCardSaid : Prop := Claim7.holds Tryd.pinned (.plain (OpenSpec.ofChange opsWordsSpec)) opsWordsCard

/-- THE TIED CARD OF 'flagonlaw04.InstrWrites'. -/
def instrWritesCard : Claim7 := { stood := { row := instrWritesRow, standIns := [], harness := (true, "3fbba51ec878a9753b8db47d441de71a58e3779f5b4774922b5ee0096628e977"), looks := false }, kinds := [], alts := [], laidByText := true, laidKinds := [.data, .data, .data, .listed, .data], laidTests := true, laidLooks := .later }
def InstrWritesCardSaid : Prop := Claim7.holds Tryd.pinned (.plain (OpenSpec.ofChange instrWritesSpec)) instrWritesCard

/-- THE TIED CARD OF 'flagonlaw04.InstrReads'. -/
def instrReadsCard : Claim7 := { stood := { row := instrReadsRow, standIns := [], harness := (true, "3fbba51ec878a9753b8db47d441de71a58e3779f5b4774922b5ee0096628e977"), looks := false }, kinds := [], alts := [], laidByText := true, laidKinds := [.data, .data, .data, .listed, .data], laidTests := true, laidLooks := .later }
def InstrReadsCardSaid : Prop := Claim7.holds Tryd.pinned (.plain (OpenSpec.ofChange instrReadsSpec)) instrReadsCard

/-- THE TIED CARD OF 'flagonlaw09.ControlMaps'. -/
def controlMapsCard : Claim7 := { stood := { row := controlMapsRow, standIns := [], harness := (true, "3fbba51ec878a9753b8db47d441de71a58e3779f5b4774922b5ee0096628e977"), looks := false }, kinds := [], alts := [], laidByText := true, laidKinds := [.data, .data, .data], laidTests := true, laidLooks := .later }
def ControlMapsCardSaid : Prop := Claim7.holds Tryd.pinned (.plain (OpenSpec.ofChange controlMapsSpec)) controlMapsCard

/-- THE TIED CARD OF 'flagonlaw09.ControlGoes'. -/
def controlGoesCard : Claim7 := { stood := { row := controlGoesRow, standIns := [], harness := (true, "3fbba51ec878a9753b8db47d441de71a58e3779f5b4774922b5ee0096628e977"), looks := false }, kinds := [], alts := [], laidByText := true, laidKinds := [.data, .data, .data], laidTests := true, laidLooks := .later }
def ControlGoesCardSaid : Prop := Claim7.holds Tryd.pinned (.plain (OpenSpec.ofChange controlGoesSpec)) controlGoesCard

/-- THE SECOND FORM's CARD OF 'flagonlaw03.OpsRows'. -/
def opsRowsUptoCard : Claim7 := { stood := { row := opsRowsUptoRow, standIns := [], harness := (true, "3fbba51ec878a9753b8db47d441de71a58e3779f5b4774922b5ee0096628e977"), looks := false }, kinds := [], alts := [], laidByText := true, laidKinds := [.listed, .data], laidTests := true, laidLooks := .later }
def OpsRowsUptoCardSaid : Prop := Claim7.holds Tryd.pinned (.plain (OpenSpec.upto opsRowsSpec)) opsRowsUptoCard

/-- THE SECOND FORM's CARD OF 'flagonlaw03.OpsFind'. -/
def opsFindUptoCard : Claim7 := { stood := { row := opsFindUptoRow, standIns := [], harness := (true, "3fbba51ec878a9753b8db47d441de71a58e3779f5b4774922b5ee0096628e977"), looks := false }, kinds := [], alts := [], laidByText := true, laidKinds := [.listed, .data], laidTests := true, laidLooks := .later }
def OpsFindUptoCardSaid : Prop := Claim7.holds Tryd.pinned (.plain (OpenSpec.upto opsFindSpec)) opsFindUptoCard

/-- THE SECOND FORM's CARD OF 'flagonlaw12.BlocksCut'. -/
def blocksCutUptoCard : Claim7 := { stood := { row := blocksCutUptoRow, standIns := [], harness := (true, "3fbba51ec878a9753b8db47d441de71a58e3779f5b4774922b5ee0096628e977"), looks := false }, kinds := [], alts := [], laidByText := true, laidKinds := [.data, .data, .data], laidTests := true, laidLooks := .later }
def BlocksCutUptoCardSaid : Prop := Claim7.holds Tryd.pinned (.plain (OpenSpec.upto blocksCutSpec)) blocksCutUptoCard

/-- THE SECOND FORM's CARD OF 'flagonlaw04.InstrBack'. -/
def instrBackUptoCard : Claim7 := { stood := { row := instrBackUptoRow, standIns := [], harness := (true, "3fbba51ec878a9753b8db47d441de71a58e3779f5b4774922b5ee0096628e977"), looks := false }, kinds := [], alts := [], laidByText := true, laidKinds := [.listed, .data], laidTests := true, laidLooks := .later }
def InstrBackUptoCardSaid : Prop := Claim7.holds Tryd.pinned (.plain (OpenSpec.upto instrBackSpec)) instrBackUptoCard

/-- THE SECOND FORM's CARD OF 'flagonlaw04.InstrList'. -/
def instrListUptoCard : Claim7 := { stood := { row := instrListUptoRow, standIns := [], harness := (true, "3fbba51ec878a9753b8db47d441de71a58e3779f5b4774922b5ee0096628e977"), looks := false }, kinds := [], alts := [], laidByText := true, laidKinds := [.listed, .data], laidTests := true, laidLooks := .later }
def InstrListUptoCardSaid : Prop := Claim7.holds Tryd.pinned (.plain (OpenSpec.upto instrListSpec)) instrListUptoCard

/-- THE SECOND FORM's CARD OF 'flagonlaw07.NumsDo'. -/
def numsDoUptoCard : Claim7 := { stood := { row := numsDoUptoRow, standIns := [], harness := (true, "3fbba51ec878a9753b8db47d441de71a58e3779f5b4774922b5ee0096628e977"), looks := false }, kinds := [], alts := [], laidByText := true, laidKinds := [.data, .listed, .data], laidTests := true, laidLooks := .later }
def NumsDoUptoCardSaid : Prop := Claim7.holds Tryd.pinned (.plain (OpenSpec.upto numsDoSpec)) numsDoUptoCard

/-- THE SECOND FORM's CARD OF 'flagonlaw07.NumsDivide'. -/
def numsDivideUptoCard : Claim7 := { stood := { row := numsDivideUptoRow, standIns := [], harness := (true, "3fbba51ec878a9753b8db47d441de71a58e3779f5b4774922b5ee0096628e977"), looks := false }, kinds := [], alts := [], laidByText := true, laidKinds := [.data, .listed, .data], laidTests := true, laidLooks := .later }
def NumsDivideUptoCardSaid : Prop := Claim7.holds Tryd.pinned (.plain (OpenSpec.upto numsDivideSpec)) numsDivideUptoCard

/-- THE SECOND FORM's CARD OF 'flagonlaw07.NumsAgree'. -/
def numsAgreeUptoCard : Claim7 := { stood := { row := numsAgreeUptoRow, standIns := [], harness := (true, "3fbba51ec878a9753b8db47d441de71a58e3779f5b4774922b5ee0096628e977"), looks := false }, kinds := [], alts := [], laidByText := true, laidKinds := [.data, .listed, .data], laidTests := true, laidLooks := .later }
def NumsAgreeUptoCardSaid : Prop := Claim7.holds Tryd.pinned (.plain (OpenSpec.upto numsAgreeSpec)) numsAgreeUptoCard

/-- THE SECOND FORM's CARD OF 'flagonlaw07.NumsTurn'. -/
def numsTurnUptoCard : Claim7 := { stood := { row := numsTurnUptoRow, standIns := [], harness := (true, "3fbba51ec878a9753b8db47d441de71a58e3779f5b4774922b5ee0096628e977"), looks := false }, kinds := [], alts := [], laidByText := true, laidKinds := [.data, .listed, .data], laidTests := true, laidLooks := .later }
def NumsTurnUptoCardSaid : Prop := Claim7.holds Tryd.pinned (.plain (OpenSpec.upto numsTurnSpec)) numsTurnUptoCard

/-- THE SECOND FORM's CARD OF 'flagonlaw07.NumsNarrow'. -/
def numsNarrowUptoCard : Claim7 := { stood := { row := numsNarrowUptoRow, standIns := [], harness := (true, "3fbba51ec878a9753b8db47d441de71a58e3779f5b4774922b5ee0096628e977"), looks := false }, kinds := [], alts := [], laidByText := true, laidKinds := [.data, .listed, .data], laidTests := true, laidLooks := .later }
def NumsNarrowUptoCardSaid : Prop := Claim7.holds Tryd.pinned (.plain (OpenSpec.upto numsNarrowSpec)) numsNarrowUptoCard

/-- THE SECOND FORM's CARD OF 'flagonlaw07.NumsRing'. -/
def numsRingUptoCard : Claim7 := { stood := { row := numsRingUptoRow, standIns := [], harness := (true, "3fbba51ec878a9753b8db47d441de71a58e3779f5b4774922b5ee0096628e977"), looks := false }, kinds := [], alts := [], laidByText := true, laidKinds := [.data, .listed, .data], laidTests := true, laidLooks := .later }
def NumsRingUptoCardSaid : Prop := Claim7.holds Tryd.pinned (.plain (OpenSpec.upto numsRingSpec)) numsRingUptoCard

/-- THE SECOND FORM's CARD OF 'flagonlaw03.OpsWords'. -/
def opsWordsUptoCard : Claim7 := { stood := { row := opsWordsUptoRow, standIns := [], harness := (true, "3fbba51ec878a9753b8db47d441de71a58e3779f5b4774922b5ee0096628e977"), looks := false }, kinds := [], alts := [], laidByText := true, laidKinds := [.data, .data, .data, .listed, .data], laidTests := true, laidLooks := .later }
def OpsWordsUptoCardSaid : Prop := Claim7.holds Tryd.pinned (.plain (OpenSpec.upto opsWordsSpec)) opsWordsUptoCard

/-- THE SECOND FORM's CARD OF 'flagonlaw04.InstrWrites'. -/
def instrWritesUptoCard : Claim7 := { stood := { row := instrWritesUptoRow, standIns := [], harness := (true, "3fbba51ec878a9753b8db47d441de71a58e3779f5b4774922b5ee0096628e977"), looks := false }, kinds := [], alts := [], laidByText := true, laidKinds := [.data, .data, .data, .listed, .data], laidTests := true, laidLooks := .later }
def InstrWritesUptoCardSaid : Prop := Claim7.holds Tryd.pinned (.plain (OpenSpec.upto instrWritesSpec)) instrWritesUptoCard

/-- THE SECOND FORM's CARD OF 'flagonlaw04.InstrReads'. -/
def instrReadsUptoCard : Claim7 := { stood := { row := instrReadsUptoRow, standIns := [], harness := (true, "3fbba51ec878a9753b8db47d441de71a58e3779f5b4774922b5ee0096628e977"), looks := false }, kinds := [], alts := [], laidByText := true, laidKinds := [.data, .data, .data, .listed, .data], laidTests := true, laidLooks := .later }
def InstrReadsUptoCardSaid : Prop := Claim7.holds Tryd.pinned (.plain (OpenSpec.upto instrReadsSpec)) instrReadsUptoCard

/-- THE SECOND FORM's CARD OF 'flagonlaw09.ControlMaps'. -/
def controlMapsUptoCard : Claim7 := { stood := { row := controlMapsUptoRow, standIns := [], harness := (true, "3fbba51ec878a9753b8db47d441de71a58e3779f5b4774922b5ee0096628e977"), looks := false }, kinds := [], alts := [], laidByText := true, laidKinds := [.data, .data, .data], laidTests := true, laidLooks := .later }
def ControlMapsUptoCardSaid : Prop := Claim7.holds Tryd.pinned (.plain (OpenSpec.upto controlMapsSpec)) controlMapsUptoCard

/-- THE SECOND FORM's CARD OF 'flagonlaw09.ControlGoes'. -/
def controlGoesUptoCard : Claim7 := { stood := { row := controlGoesUptoRow, standIns := [], harness := (true, "3fbba51ec878a9753b8db47d441de71a58e3779f5b4774922b5ee0096628e977"), looks := false }, kinds := [], alts := [], laidByText := true, laidKinds := [.data, .data, .data], laidTests := true, laidLooks := .later }
def ControlGoesUptoCardSaid : Prop := Claim7.holds Tryd.pinned (.plain (OpenSpec.upto controlGoesSpec)) controlGoesUptoCard
end Rows
end Go.Proofs.YtmlniifdipeboaaDoor
