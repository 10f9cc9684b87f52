/- What the row says of the function: its name, its form. -/
import Derived.Test.YtiaoonlhgjfdjaaDoorCards
import Derived.SevenTiedAt
import Derived.ChangeMaps5
import Derived.ShutString
import Derived.ChangeOld
import Derived.Below
import Derived.ProofKit
import Derived.OpenShut
import Derived.Stop.Joined
namespace Go.Proofs.YtiaoonlhgjfdjaaDoor
open Go Go.ChangeShapes Go.WideShapes Go.ChangeAt Go.RowKit

theorem named_blocksCut : Tryd.pinned.checked.prog.funcNamed Rows.blocksCutRow.func = some 3 := by kernel_rfl
theorem facts_blocksCut : joinedFacts Tryd.pinned.checked.prog 3 Tryd.f3 Rows.blocksCutSpec Rows.blocksCutRow = true := by kernel_rfl
theorem inst_blocksCut : Func.isInstance Tryd.pinned.checked.prog Tryd.f3 Rows.blocksCutRow.origin Rows.blocksCutRow.targs := of_decide_eq_true (by kernel_rfl)
theorem wrap_blocksCut : Func.isWrapper Tryd.pinned.checked.prog Tryd.f3 Rows.blocksCutRow.wrapper Rows.blocksCutRow.mainSum := by unfold Func.isWrapper; rw [if_neg (of_decide_eq_false (by kernel_rfl))]; exact ⟨rfl, rfl⟩
end Go.Proofs.YtiaoonlhgjfdjaaDoor
