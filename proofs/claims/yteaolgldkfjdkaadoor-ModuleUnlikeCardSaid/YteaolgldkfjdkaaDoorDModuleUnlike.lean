/- Unlike modules have unlike bytes: 'flagonlaw05.ModuleUnlike' answers true for every two modules. The listed tables of Go's library lie as the program's text lays them. -/
import Derived.Test.YteaolgldkfjdkaaDoorEModuleUnlike
namespace Go.Proofs.YteaolgldkfjdkaaDoor
open Go Go.ChangeShapes Go.WideShapes Go.ChangeAt Go.RowKit

/-- The tied card. -/
theorem moduleUnlike_card : Rows.ModuleUnlikeCardSaid :=
  Claim7.holds_tied_plain_at .later [] [.listed, .data] true Rows.moduleUnlikeCard.stood.harness true
    over_moduleUnlike (fun _ h => by cases h) (by kernel_rfl) (fun _ h => by cases h) moduleUnlike_row_tie rfl ⟨rfl, rfl⟩ (by kernel_rfl) rfl
    (fun f fn hf hfn => by
      obtain rfl : f = 5 := Option.some.inj ((show Tryd.prog.funcNamed "flagon/flagonlaw05.ModuleUnlike" = some 5 by kernel_rfl).symm.trans hf) |>.symm
      obtain rfl : fn = Tryd.f5 := (Option.some.inj (Tryd.func5.symm.trans hfn)).symm
      exact ⟨by kernel_rfl, fun j t ht => by
        rw [Tryd.params5] at ht
        have hm : t ∈ [29, 29] := by simpa using Array.mem_of_getElem? ht
        have hall : (([29, 29] : List TypeId).all fun u => !Tryd.prog.wantsStandIn u) = true := by kernel_rfl
        exact (show Tryd.prog.wantsStandIn t = false by simpa using List.all_eq_true.1 hall t hm)⟩)
    (by kernel_rfl)
end Go.Proofs.YteaolgldkfjdkaaDoor
