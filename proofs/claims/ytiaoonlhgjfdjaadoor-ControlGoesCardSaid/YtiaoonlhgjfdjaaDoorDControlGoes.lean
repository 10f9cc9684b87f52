/- Labels and the places where control can go are told as the document says, and the answers are new memory: 'flagonlaw09.ControlGoes' answers true for every code, every place. The listed tables of Go's library lie as the program's text lays them. -/
import Derived.Test.YtiaoonlhgjfdjaaDoorEControlGoes
namespace Go.Proofs.YtiaoonlhgjfdjaaDoor
open Go Go.ChangeShapes Go.WideShapes Go.ChangeAt Go.RowKit

/-- The tied card. -/
theorem controlGoes_card : Rows.ControlGoesCardSaid :=
  Claim7.holds_tied_plain_at .later [] [.data, .data, .data] true Rows.controlGoesCard.stood.harness false
    over_controlGoes (fun _ h => by cases h) (by kernel_rfl) (fun _ h => by cases h) controlGoes_row_tie rfl ⟨rfl, rfl⟩ (by kernel_rfl) rfl
    (fun f fn hf hfn => by
      obtain rfl : f = 5 := Option.some.inj ((show Tryd.prog.funcNamed "flagon/flagonlaw09.ControlGoes" = some 5 by kernel_rfl).symm.trans hf) |>.symm
      obtain rfl : fn = Tryd.f5 := (Option.some.inj (Tryd.func5.symm.trans hfn)).symm
      exact ⟨by kernel_rfl, fun j t ht => by
        rw [Tryd.params5] at ht
        have hm : t ∈ [22, 3] := by simpa using Array.mem_of_getElem? ht
        have hall : (([22, 3] : List TypeId).all fun u => !Tryd.prog.wantsStandIn u) = true := by kernel_rfl
        exact (show Tryd.prog.wantsStandIn t = false by simpa using List.all_eq_true.1 hall t hm)⟩)
    (by kernel_rfl)
end Go.Proofs.YtiaoonlhgjfdjaaDoor
