/- flagonref03.Of: its results. -/
import Derived.Test.YtmlniifdipeboaaDoorFindLaw
namespace Go.Proofs.YtmlniifdipeboaaDoor
open Go Go.RowKit

theorem Tryd.cRow2 : Tryd.prog.cellsOf 27 = 6 := by kernel_rfl
theorem ref_results {a : Act} {w : World} (g : Nat) (cs : Array Value) (u3 : Value) (hrow : w.heap[g]? = some (.cells cs 27 (0, 0))) (hsz : cs.size = 6) (h2 : a.tmps.getD 2 undef = .pointer (some ⟨g, 0, none⟩)) (h3 : a.tmps.getD 3 undef = u3) :
    (results Tryd.f20 a.tmps).run Tryd.prog w = .ok (.tuple #[.agg cs, u3]) w := by
  have hl := run_loadVar_row (P := Tryd.prog) w g 27 27 cs (0, 0) _ hrow Tryd.underlying27 rfl (by rw [hsz]; kernel_rfl)
  have h2' : a.tmps[2]?.getD undef = .pointer (some ⟨g, 0, none⟩) := by simpa using h2
  have h3' : a.tmps[3]?.getD undef = u3 := by simpa using h3
  simp [results, Tryd.results20, asAddr, h2', h3', hl]
end Go.Proofs.YtmlniifdipeboaaDoor
