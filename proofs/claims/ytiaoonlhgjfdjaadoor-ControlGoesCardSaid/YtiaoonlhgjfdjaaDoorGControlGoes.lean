/- What the row says of the function: its name, its form. -/
import Derived.Test.YtiaoonlhgjfdjaaDoorCards
import Derived.SevenTiedAt
import Derived.ChangeMaps5
import Derived.ShutString
import Derived.ChangeOld
import Derived.Below
import Derived.ProofKit
import Derived.OpenShut
import Derived.Stop.Joined
namespace Go.Proofs.YtiaoonlhgjfdjaaDoor
open Go Go.ChangeShapes Go.WideShapes Go.ChangeAt Go.RowKit

theorem named_controlGoes : Tryd.pinned.checked.prog.funcNamed Rows.controlGoesRow.func = some 5 := by kernel_rfl
theorem facts_controlGoes : joinedFacts Tryd.pinned.checked.prog 5 Tryd.f5 Rows.controlGoesSpec Rows.controlGoesRow = true := by kernel_rfl
theorem inst_controlGoes : Func.isInstance Tryd.pinned.checked.prog Tryd.f5 Rows.controlGoesRow.origin Rows.controlGoesRow.targs := of_decide_eq_true (by kernel_rfl)
theorem wrap_controlGoes : Func.isWrapper Tryd.pinned.checked.prog Tryd.f5 Rows.controlGoesRow.wrapper Rows.controlGoesRow.mainSum := by unfold Func.isWrapper; rw [if_neg (of_decide_eq_false (by kernel_rfl))]; exact ⟨rfl, rfl⟩
end Go.Proofs.YtiaoonlhgjfdjaaDoor
