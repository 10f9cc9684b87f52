/- What the row says of the function: its name, its form. -/
import Derived.Test.YtebegkgechadlaaDoorCards
import Derived.SevenTiedAt
import Derived.ChangeMaps5
import Derived.ShutString
import Derived.ChangeOld
import Derived.Below
import Derived.ProofKit
import Derived.OpenShut
import Derived.Stop.Joined
namespace Go.Proofs.YtebegkgechadlaaDoor
open Go Go.ChangeShapes Go.WideShapes Go.ChangeAt Go.RowKit

theorem named_validateNops : Tryd.pinned.checked.prog.funcNamed Rows.validateNopsRow.func = some 4 := by kernel_rfl
theorem facts_validateNops : joinedFacts Tryd.pinned.checked.prog 4 Tryd.f4 Rows.validateNopsSpec Rows.validateNopsRow = true := by kernel_rfl
theorem inst_validateNops : Func.isInstance Tryd.pinned.checked.prog Tryd.f4 Rows.validateNopsRow.origin Rows.validateNopsRow.targs := of_decide_eq_true (by kernel_rfl)
theorem wrap_validateNops : Func.isWrapper Tryd.pinned.checked.prog Tryd.f4 Rows.validateNopsRow.wrapper Rows.validateNopsRow.mainSum := by unfold Func.isWrapper; rw [if_neg (of_decide_eq_false (by kernel_rfl))]; exact ⟨rfl, rfl⟩
end Go.Proofs.YtebegkgechadlaaDoor
