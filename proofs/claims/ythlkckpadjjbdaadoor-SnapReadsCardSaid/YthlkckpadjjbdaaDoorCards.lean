/-
  DERIVED. GIVEN WITH THE SEED: THE CARDS: each row of YthlkckpadjjbdaaDoorRows.lean that lists a variable, with what it lists TIED to the program's text (the seventh form; the later family's looks); each row that meets fmt, with fmt's text TOLD by the authors' own Lean function (tested against real Go, not proved from fmt's source: count such statements apart). THE CARD IS WHAT COUNTS. Prove the row's statement (the work); the ties are given (YthlkckpadjjbdaaDoorTie.lean); close each card by the builder's one call (the guide's Derived/Test/ToyasCard.lean, 'card_holds'). Laid BY PROGRAM, IN A SANDBOX (cutbox-door.mjs). By AI agents, Wed Nov 11 2026. No macro, syntax, notation, axiom, sorry.
-/
import Derived.Test.YthlkckpadjjbdaaDoorRows
import GoSem.ClaimSeven
namespace Go.Proofs.YthlkckpadjjbdaaDoor
namespace Rows

/-- THE TIED CARD OF 'flagonlaw22.SnapWrites'. -/
def snapWritesCard : Claim7 := { stood := { row := snapWritesRow, standIns := [], harness := (true, "cb9472da0acdcfbae550b27c6f631a3af2a2907f44a7c699d675d1a70756c4f7"), looks := false }, kinds := [], alts := [], laidByText := true, laidKinds := [.data, .data, .data], laidTests := true, laidLooks := .later }
def SnapWritesCardSaid : Prop := Claim7.holds Tryd.pinned (.plain (OpenSpec.ofChange snapWritesSpec)) snapWritesCard

/-- THE TIED CARD OF 'flagonlaw22.SnapReads'. -/
def snapReadsCard : Claim7 := { stood := { row := snapReadsRow, standIns := [], harness := (true, "cb9472da0acdcfbae550b27c6f631a3af2a2907f44a7c699d675d1a70756c4f7"), looks := false }, kinds := [], alts := [], laidByText := true, laidKinds := [.data, .data, .data], laidTests := true, laidLooks := .later }
def SnapReadsCardSaid : Prop := Claim7.holds Tryd.pinned (.plain (OpenSpec.ofChange snapReadsSpec)) snapReadsCard

/-- THE SECOND FORM's CARD OF 'flagonlaw22.SnapWrites'. -/
def snapWritesUptoCard : Claim7 := { stood := { row := snapWritesUptoRow, standIns := [], harness := (true, "cb9472da0acdcfbae550b27c6f631a3af2a2907f44a7c699d675d1a70756c4f7"), looks := false }, kinds := [], alts := [], laidByText := true, laidKinds := [.data, .data, .data], laidTests := true, laidLooks := .later }
def SnapWritesUptoCardSaid : Prop := Claim7.holds Tryd.pinned (.plain (OpenSpec.upto snapWritesSpec)) snapWritesUptoCard

/-- THE SECOND FORM's CARD OF 'flagonlaw22.SnapReads'. -/
def snapReadsUptoCard : Claim7 := { stood := { row := snapReadsUptoRow, standIns := [], harness := (true, "cb9472da0acdcfbae550b27c6f631a3af2a2907f44a7c699d675d1a70756c4f7"), looks := false }, kinds := [], alts := [], laidByText := true, laidKinds := [.data, .data, .data], laidTests := true, laidLooks := .later }
def SnapReadsUptoCardSaid : Prop := Claim7.holds Tryd.pinned (.plain (OpenSpec.upto snapReadsSpec)) snapReadsUptoCard
end Rows
end Go.Proofs.YthlkckpadjjbdaaDoor
