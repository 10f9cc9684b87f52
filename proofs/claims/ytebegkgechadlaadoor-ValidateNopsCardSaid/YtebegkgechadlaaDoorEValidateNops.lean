/- A nop that is put in changes nothing but places: 'flagonlaw10.ValidateNops' answers true for every module, every two numbers. The listed tables of Go's library lie as the program's text lays them. -/
import Derived.Test.YtebegkgechadlaaDoorFValidateNops
import Derived.Test.YtebegkgechadlaaDoorGValidateNops
namespace Go.Proofs.YtebegkgechadlaaDoor
open Go Go.ChangeShapes Go.WideShapes Go.ChangeAt Go.RowKit

theorem over_validateNops : Rows.validateNopsRow.holds Tryd.pinned (OpenSpec.ofChange Rows.validateNopsSpec) :=
  OpenClaim.holds_of_wide 4 Tryd.f4 rfl rfl rfl rfl rfl rfl rfl ⟨rfl, rfl, rfl, rfl, rfl⟩ rfl rfl rfl rfl rfl named_validateNops Tryd.func4 facts_validateNops inst_validateNops wrap_validateNops
    (fun os started H enc _ => lifted_validateNops os started H enc)

end Go.Proofs.YtebegkgechadlaaDoor
