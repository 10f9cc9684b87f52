/- What the row says of the function: its name, its form. -/
import Derived.Test.YteaolgldkfjdkaaDoorCards
import Derived.SevenTiedAt
import Derived.ChangeMaps5
import Derived.ShutString
import Derived.ChangeOld
import Derived.Below
import Derived.ProofKit
import Derived.OpenShut
import Derived.Stop.Joined
namespace Go.Proofs.YteaolgldkfjdkaaDoor
open Go Go.ChangeShapes Go.WideShapes Go.ChangeAt Go.RowKit

theorem named_moduleCut : Tryd.pinned.checked.prog.funcNamed Rows.moduleCutRow.func = some 4 := by kernel_rfl
theorem facts_moduleCut : joinedFacts Tryd.pinned.checked.prog 4 Tryd.f4 Rows.moduleCutSpec Rows.moduleCutRow = true := by kernel_rfl
theorem inst_moduleCut : Func.isInstance Tryd.pinned.checked.prog Tryd.f4 Rows.moduleCutRow.origin Rows.moduleCutRow.targs := of_decide_eq_true (by kernel_rfl)
theorem wrap_moduleCut : Func.isWrapper Tryd.pinned.checked.prog Tryd.f4 Rows.moduleCutRow.wrapper Rows.moduleCutRow.mainSum := by unfold Func.isWrapper; rw [if_neg (of_decide_eq_false (by kernel_rfl))]; exact ⟨rfl, rfl⟩
end Go.Proofs.YteaolgldkfjdkaaDoor
