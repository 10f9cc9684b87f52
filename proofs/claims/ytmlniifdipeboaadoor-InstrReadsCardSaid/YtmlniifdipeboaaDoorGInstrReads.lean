/- What the row says of the function: its name, its form. -/
import Derived.Test.YtmlniifdipeboaaDoorCards
import Derived.SevenTiedAt
import Derived.ChangeMaps5
import Derived.ShutString
import Derived.ChangeOld
import Derived.Below
import Derived.ProofKit
import Derived.OpenShut
import Derived.Stop.Joined
namespace Go.Proofs.YtmlniifdipeboaaDoor
open Go Go.ChangeShapes Go.WideShapes Go.ChangeAt Go.RowKit

theorem named_instrReads : Tryd.pinned.checked.prog.funcNamed Rows.instrReadsRow.func = some 16 := by kernel_rfl
theorem facts_instrReads : joinedFacts Tryd.pinned.checked.prog 16 Tryd.f16 Rows.instrReadsSpec Rows.instrReadsRow = true := by kernel_rfl
theorem inst_instrReads : Func.isInstance Tryd.pinned.checked.prog Tryd.f16 Rows.instrReadsRow.origin Rows.instrReadsRow.targs := of_decide_eq_true (by kernel_rfl)
theorem wrap_instrReads : Func.isWrapper Tryd.pinned.checked.prog Tryd.f16 Rows.instrReadsRow.wrapper Rows.instrReadsRow.mainSum := by unfold Func.isWrapper; rw [if_neg (of_decide_eq_false (by kernel_rfl))]; exact ⟨rfl, rfl⟩
end Go.Proofs.YtmlniifdipeboaaDoor
