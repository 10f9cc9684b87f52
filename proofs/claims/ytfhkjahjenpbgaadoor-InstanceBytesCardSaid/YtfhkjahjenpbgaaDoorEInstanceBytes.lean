/- The memory that a module begins with has the bytes of its data where they say, and noughts: 'flagonlaw21.InstanceBytes' answers true for every module, every text, every list of numbers. The listed tables of Go's library lie as the program's text lays them. -/
import Derived.Test.YtfhkjahjenpbgaaDoorFInstanceBytes
import Derived.Test.YtfhkjahjenpbgaaDoorGInstanceBytes
namespace Go.Proofs.YtfhkjahjenpbgaaDoor
open Go Go.ChangeShapes Go.WideShapes Go.ChangeAt Go.RowKit

theorem over_instanceBytes : Rows.instanceBytesRow.holds Tryd.pinned (OpenSpec.ofChange Rows.instanceBytesSpec) :=
  OpenClaim.holds_of_wide 3 Tryd.f3 rfl rfl rfl rfl rfl rfl rfl ⟨rfl, rfl, rfl, rfl, rfl⟩ rfl rfl rfl rfl rfl named_instanceBytes Tryd.func3 facts_instanceBytes inst_instanceBytes wrap_instanceBytes
    (fun os started H enc _ => lifted_instanceBytes os started H enc)

end Go.Proofs.YtfhkjahjenpbgaaDoor
