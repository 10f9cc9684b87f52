/- States are written as bytes, or refused, as the document says; the state stays, the answers are new memory: 'flagonlaw22.SnapWrites' answers true for every state. The listed tables of Go's library lie as the program's text lays them. -/
import Derived.Test.YthlkckpadjjbdaaDoorFSnapWrites
import Derived.Test.YthlkckpadjjbdaaDoorGSnapWrites
namespace Go.Proofs.YthlkckpadjjbdaaDoor
open Go Go.ChangeShapes Go.WideShapes Go.ChangeAt Go.RowKit

theorem over_snapWrites : Rows.snapWritesRow.holds Tryd.pinned (OpenSpec.ofChange Rows.snapWritesSpec) :=
  OpenClaim.holds_of_wide 3 Tryd.f3 rfl rfl rfl rfl rfl rfl rfl ⟨rfl, rfl, rfl, rfl, rfl⟩ rfl rfl rfl rfl rfl named_snapWrites Tryd.func3 facts_snapWrites inst_snapWrites wrap_snapWrites
    (fun os started H enc _ => lifted_snapWrites os started H enc)

end Go.Proofs.YthlkckpadjjbdaaDoor
