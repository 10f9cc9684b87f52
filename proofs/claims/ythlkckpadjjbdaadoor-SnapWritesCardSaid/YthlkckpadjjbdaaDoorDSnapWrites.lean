/- States are written as bytes, or refused, as the document says; the state stays, the answers are new memory: 'flagonlaw22.SnapWrites' answers true for every state. The listed tables of Go's library lie as the program's text lays them. -/
import Derived.Test.YthlkckpadjjbdaaDoorESnapWrites
namespace Go.Proofs.YthlkckpadjjbdaaDoor
open Go Go.ChangeShapes Go.WideShapes Go.ChangeAt Go.RowKit

/-- The tied card. -/
theorem snapWrites_card : Rows.SnapWritesCardSaid :=
  Claim7.holds_tied_plain_at .later [] [.data, .data, .data] true Rows.snapWritesCard.stood.harness false
    over_snapWrites (fun _ h => by cases h) (by kernel_rfl) (fun _ h => by cases h) snapWrites_row_tie rfl ⟨rfl, rfl⟩ (by kernel_rfl) rfl
    (fun f fn hf hfn => by
      obtain rfl : f = 3 := Option.some.inj ((show Tryd.prog.funcNamed "flagon/flagonlaw22.SnapWrites" = some 3 by kernel_rfl).symm.trans hf) |>.symm
      obtain rfl : fn = Tryd.f3 := (Option.some.inj (Tryd.func3.symm.trans hfn)).symm
      exact ⟨by kernel_rfl, fun j t ht => by
        rw [Tryd.params3] at ht
        have hm : t ∈ [27] := by simpa using Array.mem_of_getElem? ht
        have hall : (([27] : List TypeId).all fun u => !Tryd.prog.wantsStandIn u) = true := by kernel_rfl
        exact (show Tryd.prog.wantsStandIn t = false by simpa using List.all_eq_true.1 hall t hm)⟩)
    (by kernel_rfl)
end Go.Proofs.YthlkckpadjjbdaaDoor
