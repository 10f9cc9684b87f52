/- What the tied rows' condition gives: the library's table of blanks lies. -/
import Derived.Test.YtmlniifdipeboaaDoorTie
import Derived.Test.YtmlniifdipeboaaDoorLib2
import Derived.Test.YtmlniifdipeboaaDoorOps2
import Derived.LaidMore
import Derived.ProofKit
import Derived.OpenShut
import Derived.Stop.Joined
import Derived.Stop.LaidErr
import Derived.Lib.LaidTab
namespace Go.Proofs.YtmlniifdipeboaaDoor
open Go Go.ChangeShapes Go.WideShapes Go.ChangeAt Go.RowKit

theorem own_bag : ownKnob Tryd.prog.godebug = none := by kernel_rfl
theorem laidOut_bag : laidOutB Tryd.prog = true := by kernel_rfl
def laid_bag : List (String × DataW Unit) := [("math/bits.deBruijn32tab", Rows.laid_math_bits_deBruijn32tab), ("math/bits.deBruijn64tab", Rows.laid_math_bits_deBruijn64tab), ("internal/strconv.uint64pow10", Rows.laid_internal_strconv_uint64pow10), ("unicode.White_Space", Rows.laid_unicode_White_Space), ("strings.asciiSpace", Rows.laid_strings_asciiSpace)]
theorem door_bag (os : Os) (args : Array Value) : laidMetH Tryd.prog laid_bag ((World.doorLaid Tryd.prog 400 os).forCall (fun _ _ => 0) ⟨#[], args, []⟩).memory :=
  laidMetH_of_parts3 (fuel := 8) (laidMet_of_run' 8 (by kernel_rfl) (by kernel_rfl)) (by kernel_rfl) (by kernel_rfl)
theorem space_bag : (Rows.laid_strings_asciiSpace : DataW Unit) = Lib.tabData .u8 Lib.asciiSpaceTab := by kernel_rfl
theorem tb_bag {W : World} (h : laidMetH Tryd.prog laid_bag W) : Tb W := by
  rw [MakeChecks.laidMetH_plain _ _ _ (by kernel_rfl)] at h
  unfold laid_bag at h
  rw [space_bag] at h
  have h0 := h
  have h1 := laidMet.tail h0
  have h2 := laidMet.tail h1
  have h3 := laidMet.tail h2
  have h4 := laidMet.tail h3
  exact Lib.tabIs_of_head (by kernel_rfl : Tryd.prog.globalNamed "strings.asciiSpace" = some 0) (t := 216) (by kernel_rfl) (e := 5) (n := 256) (by kernel_rfl) Tryd.underlying5 (by kernel_rfl) (by kernel_rfl) h4
end Go.Proofs.YtmlniifdipeboaaDoor
