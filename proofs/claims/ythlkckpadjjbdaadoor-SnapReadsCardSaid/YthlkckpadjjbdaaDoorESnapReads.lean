/- Bytes are read as states, or refused, as the document says; the bytes stay, the answers are new memory: 'flagonlaw22.SnapReads' answers true for all bytes. The listed tables of Go's library lie as the program's text lays them. -/
import Derived.Test.YthlkckpadjjbdaaDoorFSnapReads
import Derived.Test.YthlkckpadjjbdaaDoorGSnapReads
namespace Go.Proofs.YthlkckpadjjbdaaDoor
open Go Go.ChangeShapes Go.WideShapes Go.ChangeAt Go.RowKit

theorem over_snapReads : Rows.snapReadsRow.holds Tryd.pinned (OpenSpec.ofChange Rows.snapReadsSpec) :=
  OpenClaim.holds_of_wide 4 Tryd.f4 rfl rfl rfl rfl rfl rfl rfl ⟨rfl, rfl, rfl, rfl, rfl⟩ rfl rfl rfl rfl rfl named_snapReads Tryd.func4 facts_snapReads inst_snapReads wrap_snapReads
    (fun os started H enc _ => lifted_snapReads os started H enc)

end Go.Proofs.YthlkckpadjjbdaaDoor
