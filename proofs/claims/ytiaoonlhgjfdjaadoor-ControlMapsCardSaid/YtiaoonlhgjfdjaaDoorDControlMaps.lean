/- What opens and ends is told as the document says, and the answers are new memory: 'flagonlaw09.ControlMaps' answers true for every code. The listed tables of Go's library lie as the program's text lays them. -/
import Derived.Test.YtiaoonlhgjfdjaaDoorEControlMaps
namespace Go.Proofs.YtiaoonlhgjfdjaaDoor
open Go Go.ChangeShapes Go.WideShapes Go.ChangeAt Go.RowKit

/-- The tied card. -/
theorem controlMaps_card : Rows.ControlMapsCardSaid :=
  Claim7.holds_tied_plain_at .later [] [.data, .data, .data] true Rows.controlMapsCard.stood.harness false
    over_controlMaps (fun _ h => by cases h) (by kernel_rfl) (fun _ h => by cases h) controlMaps_row_tie rfl ⟨rfl, rfl⟩ (by kernel_rfl) rfl
    (fun f fn hf hfn => by
      obtain rfl : f = 4 := Option.some.inj ((show Tryd.prog.funcNamed "flagon/flagonlaw09.ControlMaps" = some 4 by kernel_rfl).symm.trans hf) |>.symm
      obtain rfl : fn = Tryd.f4 := (Option.some.inj (Tryd.func4.symm.trans hfn)).symm
      exact ⟨by kernel_rfl, fun j t ht => by
        rw [Tryd.params4] at ht
        have hm : t ∈ [22] := by simpa using Array.mem_of_getElem? ht
        have hall : (([22] : List TypeId).all fun u => !Tryd.prog.wantsStandIn u) = true := by kernel_rfl
        exact (show Tryd.prog.wantsStandIn t = false by simpa using List.all_eq_true.1 hall t hm)⟩)
    (by kernel_rfl)
end Go.Proofs.YtiaoonlhgjfdjaaDoor
