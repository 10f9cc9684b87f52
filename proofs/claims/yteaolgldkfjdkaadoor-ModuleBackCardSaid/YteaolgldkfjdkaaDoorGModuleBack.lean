/- What the row says of the function: its name, its form. -/
import Derived.Test.YteaolgldkfjdkaaDoorCards
import Derived.SevenTiedAt
import Derived.ChangeMaps5
import Derived.ShutString
import Derived.ChangeOld
import Derived.Below
import Derived.ProofKit
import Derived.OpenShut
import Derived.Stop.Joined
namespace Go.Proofs.YteaolgldkfjdkaaDoor
open Go Go.ChangeShapes Go.WideShapes Go.ChangeAt Go.RowKit

theorem named_moduleBack : Tryd.pinned.checked.prog.funcNamed Rows.moduleBackRow.func = some 3 := by kernel_rfl
theorem facts_moduleBack : joinedFacts Tryd.pinned.checked.prog 3 Tryd.f3 Rows.moduleBackSpec Rows.moduleBackRow = true := by kernel_rfl
theorem inst_moduleBack : Func.isInstance Tryd.pinned.checked.prog Tryd.f3 Rows.moduleBackRow.origin Rows.moduleBackRow.targs := of_decide_eq_true (by kernel_rfl)
theorem wrap_moduleBack : Func.isWrapper Tryd.pinned.checked.prog Tryd.f3 Rows.moduleBackRow.wrapper Rows.moduleBackRow.mainSum := by unfold Func.isWrapper; rw [if_neg (of_decide_eq_false (by kernel_rfl))]; exact ⟨rfl, rfl⟩
end Go.Proofs.YteaolgldkfjdkaaDoor
