/- Each module has one text of bytes, and each text of bytes that is accepted is that of its module: 'flagonlaw05.ModuleBack' answers true for every module, all bytes. The listed tables of Go's library lie as the program's text lays them. -/
import Derived.Test.YteaolgldkfjdkaaDoorFModuleBack
import Derived.Test.YteaolgldkfjdkaaDoorGModuleBack
namespace Go.Proofs.YteaolgldkfjdkaaDoor
open Go Go.ChangeShapes Go.WideShapes Go.ChangeAt Go.RowKit

theorem over_moduleBack : Rows.moduleBackRow.holds Tryd.pinned (OpenSpec.ofChange Rows.moduleBackSpec) :=
  OpenClaim.holds_of_wide 3 Tryd.f3 rfl rfl rfl rfl rfl rfl rfl ⟨rfl, rfl, rfl, rfl, rfl⟩ rfl rfl rfl rfl rfl named_moduleBack Tryd.func3 facts_moduleBack inst_moduleBack wrap_moduleBack
    (fun os started H enc _ => lifted_moduleBack os started H enc)

end Go.Proofs.YteaolgldkfjdkaaDoor
