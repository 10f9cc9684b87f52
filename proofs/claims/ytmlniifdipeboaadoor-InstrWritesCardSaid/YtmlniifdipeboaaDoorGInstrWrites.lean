/- What the row says of the function: its name, its form. -/
import Derived.Test.YtmlniifdipeboaaDoorCards
import Derived.SevenTiedAt
import Derived.ChangeMaps5
import Derived.ShutString
import Derived.ChangeOld
import Derived.Below
import Derived.ProofKit
import Derived.OpenShut
import Derived.Stop.Joined
namespace Go.Proofs.YtmlniifdipeboaaDoor
open Go Go.ChangeShapes Go.WideShapes Go.ChangeAt Go.RowKit

theorem named_instrWrites : Tryd.pinned.checked.prog.funcNamed Rows.instrWritesRow.func = some 15 := by kernel_rfl
theorem facts_instrWrites : joinedFacts Tryd.pinned.checked.prog 15 Tryd.f15 Rows.instrWritesSpec Rows.instrWritesRow = true := by kernel_rfl
theorem inst_instrWrites : Func.isInstance Tryd.pinned.checked.prog Tryd.f15 Rows.instrWritesRow.origin Rows.instrWritesRow.targs := of_decide_eq_true (by kernel_rfl)
theorem wrap_instrWrites : Func.isWrapper Tryd.pinned.checked.prog Tryd.f15 Rows.instrWritesRow.wrapper Rows.instrWritesRow.mainSum := by unfold Func.isWrapper; rw [if_neg (of_decide_eq_false (by kernel_rfl))]; exact ⟨rfl, rfl⟩
end Go.Proofs.YtmlniifdipeboaaDoor
