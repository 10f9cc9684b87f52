/- What the row says of the function: its name, its form. -/
import Derived.Test.YtfhkjahjenpbgaaDoorCards
import Derived.SevenTiedAt
import Derived.ChangeMaps5
import Derived.ShutString
import Derived.ChangeOld
import Derived.Below
import Derived.ProofKit
import Derived.OpenShut
import Derived.Stop.Joined
namespace Go.Proofs.YtfhkjahjenpbgaaDoor
open Go Go.ChangeShapes Go.WideShapes Go.ChangeAt Go.RowKit

theorem named_instanceBytes : Tryd.pinned.checked.prog.funcNamed Rows.instanceBytesRow.func = some 3 := by kernel_rfl
theorem facts_instanceBytes : joinedFacts Tryd.pinned.checked.prog 3 Tryd.f3 Rows.instanceBytesSpec Rows.instanceBytesRow = true := by kernel_rfl
theorem inst_instanceBytes : Func.isInstance Tryd.pinned.checked.prog Tryd.f3 Rows.instanceBytesRow.origin Rows.instanceBytesRow.targs := of_decide_eq_true (by kernel_rfl)
theorem wrap_instanceBytes : Func.isWrapper Tryd.pinned.checked.prog Tryd.f3 Rows.instanceBytesRow.wrapper Rows.instanceBytesRow.mainSum := by unfold Func.isWrapper; rw [if_neg (of_decide_eq_false (by kernel_rfl))]; exact ⟨rfl, rfl⟩
end Go.Proofs.YtfhkjahjenpbgaaDoor
