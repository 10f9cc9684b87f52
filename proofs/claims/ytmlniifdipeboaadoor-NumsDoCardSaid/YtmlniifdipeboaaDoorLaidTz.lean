/- What the tied rows' condition gives: the table of places of lowest bits lies. -/
import Derived.Test.YtmlniifdipeboaaDoorLaidnums
import Derived.Test.YtmlniifdipeboaaDoorTz
namespace Go.Proofs.YtmlniifdipeboaaDoor
open Go Go.ChangeShapes Go.WideShapes Go.ChangeAt Go.RowKit

theorem table_nums : (Rows.laid_math_bits_deBruijn64tab : DataW Unit) = Lib.tabData .u8 (Lib.deBruijn64tab.map fun n : Nat => (n : Int)) := by kernel_rfl
theorem tz_nums {W : World} (h : laidMetH Tryd.prog laid_nums W) : Tz W := by
  rw [MakeChecks.laidMetH_plain _ _ _ (by kernel_rfl)] at h
  unfold laid_nums at h
  rw [table_nums] at h
  exact Lib.tabIs_of_head (by kernel_rfl : Tryd.prog.globalNamed "math/bits.deBruijn64tab" = some 1) (t := 220) (by kernel_rfl) (e := 5) (n := 64) (by kernel_rfl) Tryd.underlying5 (by kernel_rfl) (by kernel_rfl) h
end Go.Proofs.YtmlniifdipeboaaDoor
