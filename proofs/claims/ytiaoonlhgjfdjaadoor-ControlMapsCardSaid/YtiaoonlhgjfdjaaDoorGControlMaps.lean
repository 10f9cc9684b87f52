/- What the row says of the function: its name, its form. -/
import Derived.Test.YtiaoonlhgjfdjaaDoorCards
import Derived.SevenTiedAt
import Derived.ChangeMaps5
import Derived.ShutString
import Derived.ChangeOld
import Derived.Below
import Derived.ProofKit
import Derived.OpenShut
import Derived.Stop.Joined
namespace Go.Proofs.YtiaoonlhgjfdjaaDoor
open Go Go.ChangeShapes Go.WideShapes Go.ChangeAt Go.RowKit

theorem named_controlMaps : Tryd.pinned.checked.prog.funcNamed Rows.controlMapsRow.func = some 4 := by kernel_rfl
theorem facts_controlMaps : joinedFacts Tryd.pinned.checked.prog 4 Tryd.f4 Rows.controlMapsSpec Rows.controlMapsRow = true := by kernel_rfl
theorem inst_controlMaps : Func.isInstance Tryd.pinned.checked.prog Tryd.f4 Rows.controlMapsRow.origin Rows.controlMapsRow.targs := of_decide_eq_true (by kernel_rfl)
theorem wrap_controlMaps : Func.isWrapper Tryd.pinned.checked.prog Tryd.f4 Rows.controlMapsRow.wrapper Rows.controlMapsRow.mainSum := by unfold Func.isWrapper; rw [if_neg (of_decide_eq_false (by kernel_rfl))]; exact ⟨rfl, rfl⟩
end Go.Proofs.YtiaoonlhgjfdjaaDoor
