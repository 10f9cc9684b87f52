/- A nop that is put in changes nothing but places: 'flagonlaw10.ValidateNops' answers true for every module, every two numbers. The listed tables of Go's library lie as the program's text lays them. -/
import Derived.Test.YtebegkgechadlaaDoorEValidateNops
namespace Go.Proofs.YtebegkgechadlaaDoor
open Go Go.ChangeShapes Go.WideShapes Go.ChangeAt Go.RowKit

/-- The tied card. -/
theorem validateNops_card : Rows.ValidateNopsCardSaid :=
  Claim7.holds_tied_plain_at .later [] [.listed, .data] true Rows.validateNopsCard.stood.harness true
    over_validateNops (fun _ h => by cases h) (by kernel_rfl) (fun _ h => by cases h) validateNops_row_tie rfl ⟨rfl, rfl⟩ (by kernel_rfl) rfl
    (fun f fn hf hfn => by
      obtain rfl : f = 4 := Option.some.inj ((show Tryd.prog.funcNamed "flagon/flagonlaw10.ValidateNops" = some 4 by kernel_rfl).symm.trans hf) |>.symm
      obtain rfl : fn = Tryd.f4 := (Option.some.inj (Tryd.func4.symm.trans hfn)).symm
      exact ⟨by kernel_rfl, fun j t ht => by
        rw [Tryd.params4] at ht
        have hm : t ∈ [29, 3, 3] := by simpa using Array.mem_of_getElem? ht
        have hall : (([29, 3, 3] : List TypeId).all fun u => !Tryd.prog.wantsStandIn u) = true := by kernel_rfl
        exact (show Tryd.prog.wantsStandIn t = false by simpa using List.all_eq_true.1 hall t hm)⟩)
    (by kernel_rfl)
end Go.Proofs.YtebegkgechadlaaDoor
