/- flagonref00.num. -/
import Derived.Test.YthlkckpadjjbdaaDoorLib2
import Derived.OwnWalk
namespace Go.Proofs.YthlkckpadjjbdaaDoor
open Go Go.RowKit
set_option maxRecDepth 100000 in
theorem ref_num (w : World) (n i : Nat) (hn : n ≤ 1000000) (hi : i ≤ 1125899906842624) :
    Calls Tryd.prog 69 #[.int .i64 n, .int .i64 i] w fun e w' => e = .returned (.int .i64 ((1048576 * n + i + 1 : Nat))) ∧ w' = w := by
  go_enter Tryd.func69, Tryd.ntmps69
  go_wp2
  go_ret
  exact ⟨ret_int (by (try unfold wrap64); omega), rfl⟩
end Go.Proofs.YthlkckpadjjbdaaDoor
