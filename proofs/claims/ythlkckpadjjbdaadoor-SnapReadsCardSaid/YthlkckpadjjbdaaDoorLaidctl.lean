/- What the tied rows' condition gives: the library's tables lie. -/
import Derived.Test.YthlkckpadjjbdaaDoorTie
import Derived.Test.YthlkckpadjjbdaaDoorLib2
import Derived.LaidMore
import Derived.ProofKit
import Derived.OpenShut
import Derived.Stop.Joined
import Derived.Stop.LaidErr
import Derived.Lib.LaidTab
namespace Go.Proofs.YthlkckpadjjbdaaDoor
open Go Go.ChangeShapes Go.WideShapes Go.ChangeAt Go.RowKit

theorem own_ctl : ownKnob Tryd.prog.godebug = none := by kernel_rfl
theorem laidOut_ctl : laidOutB Tryd.prog = true := by kernel_rfl
def laid_ctl : List (String × DataW Unit) := [("math/bits.deBruijn32tab", Rows.laid_math_bits_deBruijn32tab), ("math/bits.deBruijn64tab", Rows.laid_math_bits_deBruijn64tab), ("internal/strconv.uint64pow10", Rows.laid_internal_strconv_uint64pow10)]
theorem door_ctl (os : Os) (args : Array Value) : laidMetH Tryd.prog laid_ctl ((World.doorLaid Tryd.prog 400 os).forCall (fun _ _ => 0) ⟨#[], args, []⟩).memory :=
  laidMetH_of_parts3 (fuel := 8) (laidMet_of_run' 8 (by kernel_rfl) (by kernel_rfl)) (by kernel_rfl) (by kernel_rfl)
end Go.Proofs.YthlkckpadjjbdaaDoor
