/- What the tied rows' condition gives: the library's table of blanks lies. -/
import Derived.Test.YtfhkjahjenpbgaaDoorTie
import Derived.Test.YtfhkjahjenpbgaaDoorMLib
import Derived.Test.YtfhkjahjenpbgaaDoorMOps3
import Derived.LaidMore
import Derived.ProofKit
import Derived.OpenShut
import Derived.Stop.Joined
import Derived.Stop.LaidErr
import Derived.Lib.LaidTab
namespace Go.Proofs.YtfhkjahjenpbgaaDoor
open Go Go.ChangeShapes Go.WideShapes Go.ChangeAt Go.RowKit

theorem own_ops : ownKnob Tryd.prog.godebug = none := by kernel_rfl
theorem laidOut_ops : laidOutB Tryd.prog = true := by kernel_rfl
def laid_ops : List (String × DataW Unit) := [("unicode.White_Space", Rows.laid_unicode_White_Space), ("strings.asciiSpace", Rows.laid_strings_asciiSpace)]
theorem door_ops (os : Os) (args : Array Value) : laidMetH Tryd.prog laid_ops ((World.doorLaid Tryd.prog 400 os).forCall (fun _ _ => 0) ⟨#[], args, []⟩).memory :=
  laidMetH_of_parts3 (fuel := 8) (laidMet_of_run' 8 (by kernel_rfl) (by kernel_rfl)) (by kernel_rfl) (by kernel_rfl)
theorem space_ops : (Rows.laid_strings_asciiSpace : DataW Unit) = Lib.tabData .u8 Lib.asciiSpaceTab := by kernel_rfl
theorem tb_ops {W : World} (h : laidMetH Tryd.prog laid_ops W) : Tb W := by
  rw [MakeChecks.laidMetH_plain _ _ _ (by kernel_rfl)] at h
  unfold laid_ops at h
  rw [space_ops] at h
  have h0 := h
  have h1 := laidMet.tail h0
  exact Lib.tabIs_of_head (by kernel_rfl : Tryd.prog.globalNamed "strings.asciiSpace" = some 0) (t := 159) (by kernel_rfl) (e := 5) (n := 256) (by kernel_rfl) Tryd.underlying5 (by kernel_rfl) (by kernel_rfl) h1
end Go.Proofs.YtfhkjahjenpbgaaDoor
