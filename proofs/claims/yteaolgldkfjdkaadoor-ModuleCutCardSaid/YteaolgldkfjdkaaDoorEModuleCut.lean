/- A beginning of a module's bytes is no module, nor are they with something behind: 'flagonlaw05.ModuleCut' answers true for every module, every place, every byte. The listed tables of Go's library lie as the program's text lays them. -/
import Derived.Test.YteaolgldkfjdkaaDoorFModuleCut
import Derived.Test.YteaolgldkfjdkaaDoorGModuleCut
namespace Go.Proofs.YteaolgldkfjdkaaDoor
open Go Go.ChangeShapes Go.WideShapes Go.ChangeAt Go.RowKit

theorem over_moduleCut : Rows.moduleCutRow.holds Tryd.pinned (OpenSpec.ofChange Rows.moduleCutSpec) :=
  OpenClaim.holds_of_wide 4 Tryd.f4 rfl rfl rfl rfl rfl rfl rfl ⟨rfl, rfl, rfl, rfl, rfl⟩ rfl rfl rfl rfl rfl named_moduleCut Tryd.func4 facts_moduleCut inst_moduleCut wrap_moduleCut
    (fun os started H enc _ => lifted_moduleCut os started H enc)

end Go.Proofs.YteaolgldkfjdkaaDoor
