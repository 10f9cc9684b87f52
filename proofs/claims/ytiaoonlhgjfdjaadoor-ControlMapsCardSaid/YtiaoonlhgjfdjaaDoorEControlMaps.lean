/- What opens and ends is told as the document says, and the answers are new memory: 'flagonlaw09.ControlMaps' answers true for every code. The listed tables of Go's library lie as the program's text lays them. -/
import Derived.Test.YtiaoonlhgjfdjaaDoorFControlMaps
import Derived.Test.YtiaoonlhgjfdjaaDoorGControlMaps
namespace Go.Proofs.YtiaoonlhgjfdjaaDoor
open Go Go.ChangeShapes Go.WideShapes Go.ChangeAt Go.RowKit

theorem over_controlMaps : Rows.controlMapsRow.holds Tryd.pinned (OpenSpec.ofChange Rows.controlMapsSpec) :=
  OpenClaim.holds_of_wide 4 Tryd.f4 rfl rfl rfl rfl rfl rfl rfl ⟨rfl, rfl, rfl, rfl, rfl⟩ rfl rfl rfl rfl rfl named_controlMaps Tryd.func4 facts_controlMaps inst_controlMaps wrap_controlMaps
    (fun os started H enc _ => lifted_controlMaps os started H enc)

end Go.Proofs.YtiaoonlhgjfdjaaDoor
