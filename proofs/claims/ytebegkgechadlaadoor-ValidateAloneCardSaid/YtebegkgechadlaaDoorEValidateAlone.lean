/- A function's table does not hang on what other functions do: 'flagonlaw10.ValidateAlone' answers true for every module, every two numbers. The listed tables of Go's library lie as the program's text lays them. -/
import Derived.Test.YtebegkgechadlaaDoorFValidateAlone
import Derived.Test.YtebegkgechadlaaDoorGValidateAlone
namespace Go.Proofs.YtebegkgechadlaaDoor
open Go Go.ChangeShapes Go.WideShapes Go.ChangeAt Go.RowKit

theorem over_validateAlone : Rows.validateAloneRow.holds Tryd.pinned (OpenSpec.ofChange Rows.validateAloneSpec) :=
  OpenClaim.holds_of_wide 3 Tryd.f3 rfl rfl rfl rfl rfl rfl rfl ⟨rfl, rfl, rfl, rfl, rfl⟩ rfl rfl rfl rfl rfl named_validateAlone Tryd.func3 facts_validateAlone inst_validateAlone wrap_validateAlone
    (fun os started H enc _ => lifted_validateAlone os started H enc)

end Go.Proofs.YtebegkgechadlaaDoor
