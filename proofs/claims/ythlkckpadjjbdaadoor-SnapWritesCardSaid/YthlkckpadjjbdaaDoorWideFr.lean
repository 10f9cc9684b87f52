/- Frames handed in with marks behind them: flagonref00.WideFrame, SpareFrame. -/
import Derived.Test.YthlkckpadjjbdaaDoorWideW
import Derived.Test.YthlkckpadjjbdaaDoorState
namespace Go.Proofs.YthlkckpadjjbdaaDoor
open Go Go.RowKit
set_option linter.unusedSimpArgs false

theorem fr_results {a : Act} {w : World} (g : Nat) (cs : Array Value) (hrow : w.heap[g]? = some (.cells cs 66 (0, 0))) (hsz : cs.size = 4) (h2 : a.tmps.getD 2 undef = .pointer (some ⟨g, 0, none⟩)) :
    (results Tryd.f68 a.tmps).run Tryd.prog w = .ok (.agg cs) w := by
  have hl := run_loadVar_row (P := Tryd.prog) w g 66 66 cs (0, 0) _ hrow Tryd.underlying66 rfl (by rw [hsz]; kernel_rfl)
  have h2' : a.tmps[2]?.getD undef = .pointer (some ⟨g, 0, none⟩) := by simpa using h2
  simp [results, Tryd.results68, asAddr, h2', hl]
theorem set4_row {w : World} {g : Nat} {o0 o1 o2 o3 : Value} {T : Nat} {fr : Nat × Nat} (h : w.heap[g]? = some (.cells #[o0, o1, o2, o3] T fr)) (v0 v1 v2 v3 : Value) :
    ((((w.setCell ⟨g, 0, none⟩ v0).setCell ⟨g, 1, none⟩ v1).setCell ⟨g, 2, none⟩ v2).setCell ⟨g, 3, none⟩ v3).heap[g]? = some (.cells #[v0, v1, v2, v3] T fr) := by
  have h0 := row_setCell h 0 v0
  simp only [List.setIfInBounds_toArray, List.set_cons_zero] at h0
  have h1 := row_setCell h0 1 v1
  simp only [List.setIfInBounds_toArray, List.set_cons_zero, List.set_cons_succ] at h1
  have h2 := row_setCell h1 2 v2
  simp only [List.setIfInBounds_toArray, List.set_cons_zero, List.set_cons_succ] at h2
  have h3 := row_setCell h2 3 v3
  simp only [List.setIfInBounds_toArray, List.set_cons_zero, List.set_cons_succ] at h3
  exact h3
set_option maxRecDepth 100000 in
set_option maxHeartbeats 1600000 in
theorem spareFrame (w : World) (ga gb : Nat) (fn pc : Int) (l1 l2 : List Int) (h1 : Wd.WideL w ga l1) (h2 : Wd.WideL w gb l2) (hl1 : l1.length ≤ 1073741824) (hl2 : l2.length ≤ 1073741824) :
    Calls Tryd.prog 74 #[.agg #[.int .i64 fn, .int .i64 pc, .slice (some ⟨ga, 0, none⟩) l1.length (l1.length + 64), .slice (some ⟨gb, 0, none⟩) l2.length (l2.length + 64)]] w fun e w' => e = .returned (.bool true) ∧ Below w.heap.size w w' := by
  have hb0 := below_alloc w (.cells #[.int .i64 fn, .int .i64 pc, .slice (some ⟨ga, 0, none⟩) l1.length (l1.length + 64), .slice (some ⟨gb, 0, none⟩) l2.length (l2.length + 64)] 66)
  have H1 := Lib.hid (h1.keeps (Keeps.all (fun _ => True) hb0) trivial)
  have H2 := Lib.hid (h2.keeps (Keeps.all (fun _ => True) hb0) trivial)
  have HB0 := Lib.hid hb0
  clear h1 h2 hb0
  go_enter Tryd.func74, Tryd.ntmps74
  go_wp2_with fail
  refine (Wd.spareWords _ ga l1 H1.out (by omega)).mono ?_
  rintro e w1 ⟨rfl, rfl⟩
  go_wp2_with fail
  refine (Wd.spareWords _ gb l2 H2.out (by omega)).mono ?_
  rintro e w1 ⟨rfl, rfl⟩
  go_wp2
  go_ret
  exact ⟨rfl, HB0.out⟩
end Go.Proofs.YthlkckpadjjbdaaDoor
