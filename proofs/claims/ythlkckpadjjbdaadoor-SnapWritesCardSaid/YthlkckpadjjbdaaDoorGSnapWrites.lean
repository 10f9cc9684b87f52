/- What the row says of the function: its name, its form. -/
import Derived.Test.YthlkckpadjjbdaaDoorCards
import Derived.SevenTiedAt
import Derived.ChangeMaps5
import Derived.ShutString
import Derived.ChangeOld
import Derived.Below
import Derived.ProofKit
import Derived.OpenShut
import Derived.Stop.Joined
namespace Go.Proofs.YthlkckpadjjbdaaDoor
open Go Go.ChangeShapes Go.WideShapes Go.ChangeAt Go.RowKit

theorem named_snapWrites : Tryd.pinned.checked.prog.funcNamed Rows.snapWritesRow.func = some 3 := by kernel_rfl
theorem facts_snapWrites : joinedFacts Tryd.pinned.checked.prog 3 Tryd.f3 Rows.snapWritesSpec Rows.snapWritesRow = true := by kernel_rfl
theorem inst_snapWrites : Func.isInstance Tryd.pinned.checked.prog Tryd.f3 Rows.snapWritesRow.origin Rows.snapWritesRow.targs := of_decide_eq_true (by kernel_rfl)
theorem wrap_snapWrites : Func.isWrapper Tryd.pinned.checked.prog Tryd.f3 Rows.snapWritesRow.wrapper Rows.snapWritesRow.mainSum := by unfold Func.isWrapper; rw [if_neg (of_decide_eq_false (by kernel_rfl))]; exact ⟨rfl, rfl⟩
end Go.Proofs.YthlkckpadjjbdaaDoor
