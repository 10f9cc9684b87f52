/- What the tied rows' condition gives: the table of powers of ten lies. -/
import Derived.Test.YthlkckpadjjbdaaDoorLaidctl
import Derived.Test.YthlkckpadjjbdaaDoorMText
namespace Go.Proofs.YthlkckpadjjbdaaDoor
open Go Go.ChangeShapes Go.WideShapes Go.ChangeAt Go.RowKit

theorem table_ctl : (Rows.laid_internal_strconv_uint64pow10 : DataW Unit) = Lib.tabData .u64 Lib.pow10Tab := by kernel_rfl
theorem tp_ctl {W : World} (h : laidMetH Tryd.prog laid_ctl W) : Tp W := by
  rw [MakeChecks.laidMetH_plain _ _ _ (by kernel_rfl)] at h
  unfold laid_ctl at h
  rw [table_ctl] at h
  have h1 := laidMet.tail h
  have h2 := laidMet.tail h1
  exact Lib.tabIs_of_head (by kernel_rfl : Tryd.prog.globalNamed "internal/strconv.uint64pow10" = some 0) (t := 147) (by kernel_rfl) (e := 63) (n := 20) (by kernel_rfl) Tryd.underlying63 (by kernel_rfl) (by kernel_rfl) h2
end Go.Proofs.YthlkckpadjjbdaaDoor
