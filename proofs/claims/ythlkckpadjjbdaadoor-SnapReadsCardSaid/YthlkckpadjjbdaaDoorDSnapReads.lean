/- Bytes are read as states, or refused, as the document says; the bytes stay, the answers are new memory: 'flagonlaw22.SnapReads' answers true for all bytes. The listed tables of Go's library lie as the program's text lays them. -/
import Derived.Test.YthlkckpadjjbdaaDoorESnapReads
namespace Go.Proofs.YthlkckpadjjbdaaDoor
open Go Go.ChangeShapes Go.WideShapes Go.ChangeAt Go.RowKit

/-- The tied card. -/
theorem snapReads_card : Rows.SnapReadsCardSaid :=
  Claim7.holds_tied_plain_at .later [] [.data, .data, .data] true Rows.snapReadsCard.stood.harness false
    over_snapReads (fun _ h => by cases h) (by kernel_rfl) (fun _ h => by cases h) snapReads_row_tie rfl ⟨rfl, rfl⟩ (by kernel_rfl) rfl
    (fun f fn hf hfn => by
      obtain rfl : f = 4 := Option.some.inj ((show Tryd.prog.funcNamed "flagon/flagonlaw22.SnapReads" = some 4 by kernel_rfl).symm.trans hf) |>.symm
      obtain rfl : fn = Tryd.f4 := (Option.some.inj (Tryd.func4.symm.trans hfn)).symm
      exact ⟨by kernel_rfl, fun j t ht => by
        rw [Tryd.params4] at ht
        have hm : t ∈ [31] := by simpa using Array.mem_of_getElem? ht
        have hall : (([31] : List TypeId).all fun u => !Tryd.prog.wantsStandIn u) = true := by kernel_rfl
        exact (show Tryd.prog.wantsStandIn t = false by simpa using List.all_eq_true.1 hall t hm)⟩)
    (by kernel_rfl)
end Go.Proofs.YthlkckpadjjbdaaDoor
