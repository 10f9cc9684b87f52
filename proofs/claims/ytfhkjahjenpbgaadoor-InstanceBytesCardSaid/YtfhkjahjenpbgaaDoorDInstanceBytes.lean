/- The memory that a module begins with has the bytes of its data where they say, and noughts: 'flagonlaw21.InstanceBytes' answers true for every module, every text, every list of numbers. The listed tables of Go's library lie as the program's text lays them. -/
import Derived.Test.YtfhkjahjenpbgaaDoorEInstanceBytes
namespace Go.Proofs.YtfhkjahjenpbgaaDoor
open Go Go.ChangeShapes Go.WideShapes Go.ChangeAt Go.RowKit

/-- The tied card. -/
theorem instanceBytes_card : Rows.InstanceBytesCardSaid :=
  Claim7.holds_tied_plain_at .later [] [.listed, .data] true Rows.instanceBytesCard.stood.harness true
    over_instanceBytes (fun _ h => by cases h) (by kernel_rfl) (fun _ h => by cases h) instanceBytes_row_tie rfl ⟨rfl, rfl⟩ (by kernel_rfl) rfl
    (fun f fn hf hfn => by
      obtain rfl : f = 3 := Option.some.inj ((show Tryd.prog.funcNamed "flagon/flagonlaw21.InstanceBytes" = some 3 by kernel_rfl).symm.trans hf) |>.symm
      obtain rfl : fn = Tryd.f3 := (Option.some.inj (Tryd.func3.symm.trans hfn)).symm
      exact ⟨by kernel_rfl, fun j t ht => by
        rw [Tryd.params3] at ht
        have hm : t ∈ [29, 9, 30] := by simpa using Array.mem_of_getElem? ht
        have hall : (([29, 9, 30] : List TypeId).all fun u => !Tryd.prog.wantsStandIn u) = true := by kernel_rfl
        exact (show Tryd.prog.wantsStandIn t = false by simpa using List.all_eq_true.1 hall t hm)⟩)
    (by kernel_rfl)
end Go.Proofs.YtfhkjahjenpbgaaDoor
