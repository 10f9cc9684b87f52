/- Labels and the places where control can go are told as the document says, and the answers are new memory: 'flagonlaw09.ControlGoes' answers true for every code, every place. The listed tables of Go's library lie as the program's text lays them. -/
import Derived.Test.YtiaoonlhgjfdjaaDoorFControlGoes
import Derived.Test.YtiaoonlhgjfdjaaDoorGControlGoes
namespace Go.Proofs.YtiaoonlhgjfdjaaDoor
open Go Go.ChangeShapes Go.WideShapes Go.ChangeAt Go.RowKit

theorem over_controlGoes : Rows.controlGoesRow.holds Tryd.pinned (OpenSpec.ofChange Rows.controlGoesSpec) :=
  OpenClaim.holds_of_wide 5 Tryd.f5 rfl rfl rfl rfl rfl rfl rfl ⟨rfl, rfl, rfl, rfl, rfl⟩ rfl rfl rfl rfl rfl named_controlGoes Tryd.func5 facts_controlGoes inst_controlGoes wrap_controlGoes
    (fun os started H enc _ => lifted_controlGoes os started H enc)

end Go.Proofs.YtiaoonlhgjfdjaaDoor
