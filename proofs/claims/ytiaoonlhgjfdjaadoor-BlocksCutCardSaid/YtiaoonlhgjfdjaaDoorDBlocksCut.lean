/- Code is cut into segments as the document says, and the answers are new memory: 'flagonlaw12.BlocksCut' answers true for every code, every table. The listed tables of Go's library lie as the program's text lays them. -/
import Derived.Test.YtiaoonlhgjfdjaaDoorFBlocksCut
import Derived.Test.YtiaoonlhgjfdjaaDoorGBlocksCut
namespace Go.Proofs.YtiaoonlhgjfdjaaDoor
open Go Go.ChangeShapes Go.WideShapes Go.ChangeAt Go.RowKit

theorem over_blocksCut : Rows.blocksCutRow.holds Tryd.pinned (OpenSpec.ofChange Rows.blocksCutSpec) :=
  OpenClaim.holds_of_wide 3 Tryd.f3 rfl rfl rfl rfl rfl rfl rfl ⟨rfl, rfl, rfl, rfl, rfl⟩ rfl rfl rfl rfl rfl named_blocksCut Tryd.func3 facts_blocksCut inst_blocksCut wrap_blocksCut
    (fun os started H enc _ => lifted_blocksCut os started H enc)

/-- The tied card. -/
theorem blocksCut_card : Rows.BlocksCutCardSaid :=
  Claim7.holds_tied_plain_at .later [] [.data, .data, .data] true Rows.blocksCutCard.stood.harness false
    over_blocksCut (fun _ h => by cases h) (by kernel_rfl) (fun _ h => by cases h) blocksCut_row_tie rfl ⟨rfl, rfl⟩ (by kernel_rfl) rfl
    (fun f fn hf hfn => by
      obtain rfl : f = 3 := Option.some.inj ((show Tryd.prog.funcNamed "flagon/flagonlaw12.BlocksCut" = some 3 by kernel_rfl).symm.trans hf) |>.symm
      obtain rfl : fn = Tryd.f3 := (Option.some.inj (Tryd.func3.symm.trans hfn)).symm
      exact ⟨by kernel_rfl, fun j t ht => by
        rw [Tryd.params3] at ht
        have hm : t ∈ [22, 26] := by simpa using Array.mem_of_getElem? ht
        have hall : (([22, 26] : List TypeId).all fun u => !Tryd.prog.wantsStandIn u) = true := by kernel_rfl
        exact (show Tryd.prog.wantsStandIn t = false by simpa using List.all_eq_true.1 hall t hm)⟩)
    (by kernel_rfl)
end Go.Proofs.YtiaoonlhgjfdjaaDoor
