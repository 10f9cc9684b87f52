/- What the row says of the function: its name, its form. -/
import Derived.Test.YthlkckpadjjbdaaDoorCards
import Derived.SevenTiedAt
import Derived.ChangeMaps5
import Derived.ShutString
import Derived.ChangeOld
import Derived.Below
import Derived.ProofKit
import Derived.OpenShut
import Derived.Stop.Joined
namespace Go.Proofs.YthlkckpadjjbdaaDoor
open Go Go.ChangeShapes Go.WideShapes Go.ChangeAt Go.RowKit

theorem named_snapReads : Tryd.pinned.checked.prog.funcNamed Rows.snapReadsRow.func = some 4 := by kernel_rfl
theorem facts_snapReads : joinedFacts Tryd.pinned.checked.prog 4 Tryd.f4 Rows.snapReadsSpec Rows.snapReadsRow = true := by kernel_rfl
theorem inst_snapReads : Func.isInstance Tryd.pinned.checked.prog Tryd.f4 Rows.snapReadsRow.origin Rows.snapReadsRow.targs := of_decide_eq_true (by kernel_rfl)
theorem wrap_snapReads : Func.isWrapper Tryd.pinned.checked.prog Tryd.f4 Rows.snapReadsRow.wrapper Rows.snapReadsRow.mainSum := by unfold Func.isWrapper; rw [if_neg (of_decide_eq_false (by kernel_rfl))]; exact ⟨rfl, rfl⟩
end Go.Proofs.YthlkckpadjjbdaaDoor
