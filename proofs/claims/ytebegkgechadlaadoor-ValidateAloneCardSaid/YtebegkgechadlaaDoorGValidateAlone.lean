/- What the row says of the function: its name, its form. -/
import Derived.Test.YtebegkgechadlaaDoorCards
import Derived.SevenTiedAt
import Derived.ChangeMaps5
import Derived.ShutString
import Derived.ChangeOld
import Derived.Below
import Derived.ProofKit
import Derived.OpenShut
import Derived.Stop.Joined
namespace Go.Proofs.YtebegkgechadlaaDoor
open Go Go.ChangeShapes Go.WideShapes Go.ChangeAt Go.RowKit

theorem named_validateAlone : Tryd.pinned.checked.prog.funcNamed Rows.validateAloneRow.func = some 3 := by kernel_rfl
theorem facts_validateAlone : joinedFacts Tryd.pinned.checked.prog 3 Tryd.f3 Rows.validateAloneSpec Rows.validateAloneRow = true := by kernel_rfl
theorem inst_validateAlone : Func.isInstance Tryd.pinned.checked.prog Tryd.f3 Rows.validateAloneRow.origin Rows.validateAloneRow.targs := of_decide_eq_true (by kernel_rfl)
theorem wrap_validateAlone : Func.isWrapper Tryd.pinned.checked.prog Tryd.f3 Rows.validateAloneRow.wrapper Rows.validateAloneRow.mainSum := by unfold Func.isWrapper; rw [if_neg (of_decide_eq_false (by kernel_rfl))]; exact ⟨rfl, rfl⟩
end Go.Proofs.YtebegkgechadlaaDoor
