/- Every instruction of numbers answers what the document says, by bits: 'flagonlaw07.NumsDo' answers true for every two numbers. The listed tables of Go's library lie as the program's text lays them. -/
import Derived.Test.YtmlniifdipeboaaDoorENumsDo
namespace Go.Proofs.YtmlniifdipeboaaDoor
open Go Go.ChangeShapes Go.WideShapes Go.ChangeAt Go.RowKit

/-- The tied card. -/
theorem numsDo_card : Rows.NumsDoCardSaid :=
  Claim7.holds_tied_plain_at .later [] [.data, .listed, .data] true Rows.numsDoCard.stood.harness false
    over_numsDo (fun _ h => by cases h) (by kernel_rfl) (fun _ h => by cases h) numsDo_row_tie rfl ⟨rfl, rfl⟩ (by kernel_rfl) rfl
    (fun f fn hf hfn => by
      obtain rfl : f = 8 := Option.some.inj ((show Tryd.prog.funcNamed "flagon/flagonlaw07.NumsDo" = some 8 by kernel_rfl).symm.trans hf) |>.symm
      obtain rfl : fn = Tryd.f8 := (Option.some.inj (Tryd.func8.symm.trans hfn)).symm
      exact ⟨by kernel_rfl, fun j t ht => by
        rw [Tryd.params8] at ht
        have hm : t ∈ [91, 91] := by simpa using Array.mem_of_getElem? ht
        have hall : (([91, 91] : List TypeId).all fun u => !Tryd.prog.wantsStandIn u) = true := by kernel_rfl
        exact (show Tryd.prog.wantsStandIn t = false by simpa using List.all_eq_true.1 hall t hm)⟩)
    (by kernel_rfl)
end Go.Proofs.YtmlniifdipeboaaDoor
