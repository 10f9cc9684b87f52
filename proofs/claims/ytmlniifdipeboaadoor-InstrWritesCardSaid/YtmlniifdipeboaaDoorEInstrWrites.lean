/- Instructions are written as bytes, or refused, as the document says; the answers are new memory: 'flagonlaw04.InstrWrites' answers true for every instruction. The listed tables of Go's library lie as the program's text lays them. -/
import Derived.Test.YtmlniifdipeboaaDoorFInstrWrites
import Derived.Test.YtmlniifdipeboaaDoorGInstrWrites
namespace Go.Proofs.YtmlniifdipeboaaDoor
open Go Go.ChangeShapes Go.WideShapes Go.ChangeAt Go.RowKit

theorem over_instrWrites : Rows.instrWritesRow.holds Tryd.pinned (OpenSpec.ofChange Rows.instrWritesSpec) :=
  OpenClaim.holds_of_wide 15 Tryd.f15 rfl rfl rfl rfl rfl rfl rfl ⟨rfl, rfl, rfl, rfl, rfl⟩ rfl rfl rfl rfl rfl named_instrWrites Tryd.func15 facts_instrWrites inst_instrWrites wrap_instrWrites
    (fun os started H enc _ => lifted_instrWrites os started H enc)

end Go.Proofs.YtmlniifdipeboaaDoor
