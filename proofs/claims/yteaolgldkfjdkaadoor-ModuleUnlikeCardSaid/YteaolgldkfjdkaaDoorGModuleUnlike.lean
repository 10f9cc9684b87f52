/- What the row says of the function: its name, its form. -/
import Derived.Test.YteaolgldkfjdkaaDoorCards
import Derived.SevenTiedAt
import Derived.ChangeMaps5
import Derived.ShutString
import Derived.ChangeOld
import Derived.Below
import Derived.ProofKit
import Derived.OpenShut
import Derived.Stop.Joined
namespace Go.Proofs.YteaolgldkfjdkaaDoor
open Go Go.ChangeShapes Go.WideShapes Go.ChangeAt Go.RowKit

theorem named_moduleUnlike : Tryd.pinned.checked.prog.funcNamed Rows.moduleUnlikeRow.func = some 5 := by kernel_rfl
theorem facts_moduleUnlike : joinedFacts Tryd.pinned.checked.prog 5 Tryd.f5 Rows.moduleUnlikeSpec Rows.moduleUnlikeRow = true := by kernel_rfl
theorem inst_moduleUnlike : Func.isInstance Tryd.pinned.checked.prog Tryd.f5 Rows.moduleUnlikeRow.origin Rows.moduleUnlikeRow.targs := of_decide_eq_true (by kernel_rfl)
theorem wrap_moduleUnlike : Func.isWrapper Tryd.pinned.checked.prog Tryd.f5 Rows.moduleUnlikeRow.wrapper Rows.moduleUnlikeRow.mainSum := by unfold Func.isWrapper; rw [if_neg (of_decide_eq_false (by kernel_rfl))]; exact ⟨rfl, rfl⟩
end Go.Proofs.YteaolgldkfjdkaaDoor
