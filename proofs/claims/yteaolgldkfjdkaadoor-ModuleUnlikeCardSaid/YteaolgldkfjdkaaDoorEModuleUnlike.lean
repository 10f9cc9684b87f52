/- Unlike modules have unlike bytes: 'flagonlaw05.ModuleUnlike' answers true for every two modules. The listed tables of Go's library lie as the program's text lays them. -/
import Derived.Test.YteaolgldkfjdkaaDoorFModuleUnlike
import Derived.Test.YteaolgldkfjdkaaDoorGModuleUnlike
namespace Go.Proofs.YteaolgldkfjdkaaDoor
open Go Go.ChangeShapes Go.WideShapes Go.ChangeAt Go.RowKit

theorem over_moduleUnlike : Rows.moduleUnlikeRow.holds Tryd.pinned (OpenSpec.ofChange Rows.moduleUnlikeSpec) :=
  OpenClaim.holds_of_wide 5 Tryd.f5 rfl rfl rfl rfl rfl rfl rfl ⟨rfl, rfl, rfl, rfl, rfl⟩ rfl rfl rfl rfl rfl named_moduleUnlike Tryd.func5 facts_moduleUnlike inst_moduleUnlike wrap_moduleUnlike
    (fun os started H enc _ => lifted_moduleUnlike os started H enc)

end Go.Proofs.YteaolgldkfjdkaaDoor
