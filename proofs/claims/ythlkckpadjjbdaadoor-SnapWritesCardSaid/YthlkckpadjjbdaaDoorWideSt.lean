/- flagonref00.WideState, SpareState. -/
import Derived.Test.YthlkckpadjjbdaaDoorWideFr4
import Derived.Test.YthlkckpadjjbdaaDoorWidePg
import Derived.Test.YthlkckpadjjbdaaDoorSizes
namespace Go.Proofs.YthlkckpadjjbdaaDoor
open Go Go.RowKit
set_option linter.unusedSimpArgs false

theorem szGo_bd {α : Type} {f : α → Nat} {M : Nat} (hM : M ≤ 2147483647) : ∀ (l : List α) (n : Nat), szGo f l n ≤ M → n ≤ M ∧ ∀ x ∈ l, f x ≤ M := by
  intro l
  induction l with
  | nil => intro n h; rw [szGo] at h; exact ⟨h, fun x hx => by cases hx⟩
  | cons x l ih =>
    intro n h
    rw [szGo] at h
    split at h
    · obtain ⟨h1, h2⟩ := ih _ h
      exact ⟨by omega, fun y hy => (List.mem_cons.1 hy).elim (fun e => by subst e; omega) (h2 y)⟩
    · omega
/-- Bounds. -/
structure StOk (s : StateD) : Prop where
  fr : s.frames.length ≤ 1048576
  fl : ∀ j (h : j < s.frames.length), s.frames[j].loc.length ≤ 1048576 ∧ s.frames[j].stk.length ≤ 1048576
  gl : s.globals.length ≤ 1048576
  pg : s.pages.length ≤ 1048576
  pl : ∀ j (h : j < s.pages.length), s.pages[j].length ≤ 1048576
  rs : s.results.length ≤ 1048576
theorem stOk_of {s : StateD} (h : szState s ≤ 1048576) : StOk s := by
  obtain ⟨h1, h2⟩ := szGo_bd (by omega) _ _ h
  have h3 : szPages s.pages ≤ 1048576 := by omega
  obtain ⟨h4, h5⟩ := szGo_bd (by omega) _ _ h3
  exact ⟨by omega, fun j h => by have := h2 _ (List.getElem_mem h); omega, by omega, h4, fun j h => h5 _ (List.getElem_mem h), by omega⟩
theorem WideFrs.keeps' {S T : Nat → Prop} {w w' : World} {g : Nat} {l : List FrameD} (h : WideFrs S w g l) (hk : Keeps T w w') (hg : T g) (hS : ∀ b, S b → T b) : WideFrs S w' g l := by
  obtain ⟨c, h1, h2⟩ := h
  refine ⟨c, (hk.block g (row_lt h1) hg).trans h1, fun j hj => ?_⟩
  obtain ⟨x, y, z, u, q0, q1, q2, q3, hv⟩ := h2 j hj
  exact ⟨x, y, z, u, q0, q1, q2, q3, fun hj => by obtain ⟨h1, h2, ga, gb, h3, h4, h5, h6, h7, h8⟩ := hv.1 hj; exact ⟨h1, h2, ga, gb, h3, h4, h5, h6, h7.keeps hk (hS ga h3), h8.keeps hk (hS gb h4)⟩, hv.2⟩
theorem WideFrs.mono {S T : Nat → Prop} {w : World} {g : Nat} {l : List FrameD} (h : WideFrs S w g l) (hS : ∀ b, S b → T b) : WideFrs T w g l := by
  obtain ⟨c, h1, h2⟩ := h
  refine ⟨c, h1, fun j hj => ?_⟩
  obtain ⟨x, y, z, u, q0, q1, q2, q3, hv⟩ := h2 j hj
  exact ⟨x, y, z, u, q0, q1, q2, q3, hv.mono hS⟩
theorem WidePg.keeps' {S T : Nat → Prop} {w w' : World} {g : Nat} {l : List (List Int)} (h : WidePg S w g l) (hk : Keeps T w w') (hg : T g) (hS : ∀ b, S b → T b) : WidePg S w' g l := by
  obtain ⟨c, h1, h2⟩ := h
  exact ⟨c, (hk.block g (row_lt h1) hg).trans h1, fun j hj => by
    obtain ⟨x, hx, hp⟩ := h2 j hj
    exact ⟨x, hx, fun hj => by obtain ⟨gk, h1, h2, h3⟩ := hp.1 hj; exact ⟨gk, h1, h2, h3.keeps hk (hS gk h1)⟩, fun hj => by obtain ⟨gk, cap, h1, h2, h3⟩ := hp.2 hj; exact ⟨gk, cap, h1, h2, h3.keeps hk (hS gk h1)⟩⟩⟩
theorem WidePg.mono {S T : Nat → Prop} {w : World} {g : Nat} {l : List (List Int)} (h : WidePg S w g l) (hS : ∀ b, S b → T b) : WidePg T w g l := by
  obtain ⟨c, h1, h2⟩ := h
  exact ⟨c, h1, fun j hj => by
    obtain ⟨x, hx, hp⟩ := h2 j hj
    exact ⟨x, hx, fun hj => by obtain ⟨gk, h1, h2, h3⟩ := hp.1 hj; exact ⟨gk, hS gk h1, h2, h3⟩, fun hj => by obtain ⟨gk, cap, h1, h2, h3⟩ := hp.2 hj; exact ⟨gk, cap, hS gk h1, h2, h3⟩⟩⟩
/-- The four lists of a state that is handed in, each with marks behind it. -/
structure WState (S : Nat → Prop) (w : World) (g0 g1 g2 g3 : Nat) (s : StateD) : Prop where
  fr : WideFrs S w g0 s.frames
  gl : Wd.WideL w g1 s.globals
  pg : WidePg S w g2 s.pages
  rs : Wd.WideL w g3 s.results
  lo : S g0 ∧ S g1 ∧ S g2 ∧ S g3
theorem WState.keeps {S T : Nat → Prop} {w w' : World} {g0 g1 g2 g3 : Nat} {s : StateD} (h : WState S w g0 g1 g2 g3 s) (hk : Keeps T w w') (hS : ∀ b, S b → T b) : WState S w' g0 g1 g2 g3 s :=
  ⟨h.fr.keeps' hk (hS _ h.lo.1) hS, h.gl.keeps hk (hS _ h.lo.2.1), h.pg.keeps' hk (hS _ h.lo.2.2.1) hS, h.rs.keeps hk (hS _ h.lo.2.2.2), h.lo⟩
theorem WState.mono {S T : Nat → Prop} {w : World} {g0 g1 g2 g3 : Nat} {s : StateD} (h : WState S w g0 g1 g2 g3 s) (hS : ∀ b, S b → T b) : WState T w g0 g1 g2 g3 s :=
  ⟨h.fr.mono hS, h.gl, h.pg.mono hS, h.rs, hS _ h.lo.1, hS _ h.lo.2.1, hS _ h.lo.2.2.1, hS _ h.lo.2.2.2⟩
theorem WState.bel {S : Nat → Prop} {w w' : World} {g0 g1 g2 g3 : Nat} {s : StateD} (h : WState S w g0 g1 g2 g3 s) (hb : Below w.heap.size w w') : WState S w' g0 g1 g2 g3 s := h.keeps (Keeps.all (fun _ => True) hb) fun _ _ => trivial
theorem WState.live {S : Nat → Prop} {w : World} {g0 g1 g2 g3 : Nat} {s : StateD} (h : WState S w g0 g1 g2 g3 s) : WState (· < w.heap.size) w g0 g1 g2 g3 s := by
  refine ⟨?_, h.gl, ?_, h.rs, h.fr.lt, h.gl.lt, h.pg.lt, h.rs.lt⟩
  · obtain ⟨c, h1, h2⟩ := h.fr
    refine ⟨c, h1, fun j hj => ?_⟩
    obtain ⟨x, y, z, u, q0, q1, q2, q3, hv⟩ := h2 j hj
    exact ⟨x, y, z, u, q0, q1, q2, q3, fun hj => by obtain ⟨h1, h2, ga, gb, h3, h4, h5, h6, h7, h8⟩ := hv.1 hj; exact ⟨h1, h2, ga, gb, h7.lt, h8.lt, h5, h6, h7, h8⟩, hv.2⟩
  · obtain ⟨c, h1, h2⟩ := h.pg
    exact ⟨c, h1, fun j hj => by
      obtain ⟨x, hx, hp⟩ := h2 j hj
      exact ⟨x, hx, fun hj => by obtain ⟨gk, h1, h2, h3⟩ := hp.1 hj; exact ⟨gk, h3.lt, h2, h3⟩, fun hj => by obtain ⟨gk, cap, h1, h2, h3⟩ := hp.2 hj; exact ⟨gk, cap, h3.lt, h2, h3⟩⟩⟩
theorem WState.rd {S : Nat → Prop} {w : World} {g0 g1 g2 g3 : Nat} {s : StateD} (h : WState S w g0 g1 g2 g3 s) (ho : StOk s) :
    RState (fun _ => True) w [.slice (some ⟨g0, 0, none⟩) s.frames.length (s.frames.length + 64), .slice (some ⟨g1, 0, none⟩) s.globals.length (s.globals.length + 64), .slice (some ⟨g2, 0, none⟩) s.pages.length (s.pages.length + 64), .int .i64 s.replies, .int .i8 s.ends, .slice (some ⟨g3, 0, none⟩) s.results.length (s.results.length + 64), .int .i8 s.trap, .int .i64 s.used] s :=
  ⟨_, _, _, _, rfl, h.fr.rd (by have := ho.fr; omega) (fun j hj => by have := ho.fl j hj; omega), (h.gl.rd (by have := ho.gl; omega)).mono fun _ _ _ => trivial, h.pg.rd (by have := ho.pg; omega) (fun j hj => by have := ho.pl j hj; omega), (h.rs.rd (by have := ho.rs; omega)).mono fun _ _ _ => trivial⟩
theorem state_results {a : Act} {w : World} (g : Nat) (cs : Array Value) (hrow : w.heap[g]? = some (.cells cs 27 (0, 0))) (hsz : cs.size = 8) (h2 : a.tmps.getD 2 undef = .pointer (some ⟨g, 0, none⟩)) :
    (results Tryd.f7 a.tmps).run Tryd.prog w = .ok (.agg cs) w := by
  have hl := run_loadVar_row (P := Tryd.prog) w g 27 27 cs (0, 0) _ hrow Tryd.underlying27 rfl (by rw [hsz]; kernel_rfl)
  have h2' : a.tmps[2]?.getD undef = .pointer (some ⟨g, 0, none⟩) := by simpa using h2
  simp [results, Tryd.results7, asAddr, h2', hl]
theorem set8_row {w : World} {g : Nat} {o0 o1 o2 o3 o4 o5 o6 o7 : Value} {T : Nat} {fr : Nat × Nat} (h : w.heap[g]? = some (.cells #[o0, o1, o2, o3, o4, o5, o6, o7] T fr)) (v0 v1 v2 v3 v4 v5 v6 v7 : Value) :
    (((((((((w.setCell ⟨g, 0, none⟩ v0).setCell ⟨g, 1, none⟩ v1).setCell ⟨g, 2, none⟩ v2).setCell ⟨g, 3, none⟩ v3).setCell ⟨g, 4, none⟩ v4).setCell ⟨g, 5, none⟩ v5).setCell ⟨g, 6, none⟩ v6).setCell ⟨g, 7, none⟩ v7)).heap[g]? = some (.cells #[v0, v1, v2, v3, v4, v5, v6, v7] T fr) := by
  have h0 := row_setCell h 0 v0
  simp only [List.setIfInBounds_toArray, List.set_cons_zero, List.set_cons_succ] at h0
  have h1 := row_setCell h0 1 v1
  simp only [List.setIfInBounds_toArray, List.set_cons_zero, List.set_cons_succ] at h1
  have h2 := row_setCell h1 2 v2
  simp only [List.setIfInBounds_toArray, List.set_cons_zero, List.set_cons_succ] at h2
  have h3 := row_setCell h2 3 v3
  simp only [List.setIfInBounds_toArray, List.set_cons_zero, List.set_cons_succ] at h3
  have h4 := row_setCell h3 4 v4
  simp only [List.setIfInBounds_toArray, List.set_cons_zero, List.set_cons_succ] at h4
  have h5 := row_setCell h4 5 v5
  simp only [List.setIfInBounds_toArray, List.set_cons_zero, List.set_cons_succ] at h5
  have h6 := row_setCell h5 6 v6
  simp only [List.setIfInBounds_toArray, List.set_cons_zero, List.set_cons_succ] at h6
  have h7 := row_setCell h6 7 v7
  simp only [List.setIfInBounds_toArray, List.set_cons_zero, List.set_cons_succ] at h7
  exact h7
set_option maxRecDepth 100000 in
set_option maxHeartbeats 6400000 in
theorem wideState (w : World) (cs : List Value) (s : StateD) (hr : RState (· < w.heap.size) w cs s) (ho : StOk s) (ht : Tp w) :
    Calls Tryd.prog 7 #[.agg cs.toArray] w fun e w' => ∃ g0 g1 g2 g3, e = .returned (.agg #[.slice (some ⟨g0, 0, none⟩) s.frames.length (s.frames.length + 64), .slice (some ⟨g1, 0, none⟩) s.globals.length (s.globals.length + 64), .slice (some ⟨g2, 0, none⟩) s.pages.length (s.pages.length + 64), .int .i64 s.replies, .int .i8 s.ends, .slice (some ⟨g3, 0, none⟩) s.results.length (s.results.length + 64), .int .i8 s.trap, .int .i64 s.used]) ∧ WState (w.heap.size + 1 < ·) w' g0 g1 g2 g3 s ∧ Below w.heap.size w w' := by
  have HO := Lib.hid ho
  have HT := Lib.hid ht
  obtain ⟨fv, gv, pv, rv, rfl, hf, hg, hp, hrs⟩ := hr
  obtain ⟨a0, c0, rfl, _⟩ := hf.len
  obtain ⟨a1, c1, rfl, _⟩ := hg.len
  obtain ⟨a2, c2, rfl, _⟩ := hp.len
  obtain ⟨a5, c5, rfl, _⟩ := hrs.len
  have HR0 := Lib.hid (And.intro hf (And.intro hg (And.intro hp hrs)))
  clear hf hg hp hrs ho ht
  go_enter Tryd.func7, Tryd.ntmps7
  have hb2 := below_alloc2 w (.cells #[.slice a0 s.frames.length c0, .slice a1 s.globals.length c1, .slice a2 s.pages.length c2, .int .i64 s.replies, .int .i8 s.ends, .slice a5 s.results.length c5, .int .i8 s.trap, .int .i64 s.used] 27) (.cells #[.slice none 0 0, .slice none 0 0, .slice none 0 0, .int .i64 0, .int .i8 0, .slice none 0 0, .int .i8 0, .int .i64 0] 27)
  have hr1 := heap_alloc_new w (.cells #[.slice a0 s.frames.length c0, .slice a1 s.globals.length c1, .slice a2 s.pages.length c2, .int .i64 s.replies, .int .i8 s.ends, .slice a5 s.results.length c5, .int .i8 s.trap, .int .i64 s.used] 27)
  have hs1 : (w.alloc (.cells #[.slice a0 s.frames.length c0, .slice a1 s.globals.length c1, .slice a2 s.pages.length c2, .int .i64 s.replies, .int .i8 s.ends, .slice a5 s.results.length c5, .int .i8 s.trap, .int .i64 s.used] 27)).heap.size = w.heap.size + 1 := World.size_alloc _ _
  have hr2 := heap_alloc_new (w.alloc (.cells #[.slice a0 s.frames.length c0, .slice a1 s.globals.length c1, .slice a2 s.pages.length c2, .int .i64 s.replies, .int .i8 s.ends, .slice a5 s.results.length c5, .int .i8 s.trap, .int .i64 s.used] 27)) (.cells #[.slice none 0 0, .slice none 0 0, .slice none 0 0, .int .i64 0, .int .i8 0, .slice none 0 0, .int .i8 0, .int .i64 0] 27)
  rw [hs1] at hr2
  have hr1' := (Below.heap_alloc _ (.cells #[.slice none 0 0, .slice none 0 0, .slice none 0 0, .int .i64 0, .int .i8 0, .slice none 0 0, .int .i8 0, .int .i64 0] 27) _ (row_lt hr1)).trans hr1
  go_upto_region 1 with fail
  obtain ⟨w2, hw2⟩ : ∃ w2, (w.alloc (.cells #[.slice a0 s.frames.length c0, .slice a1 s.globals.length c1, .slice a2 s.pages.length c2, .int .i64 s.replies, .int .i8 s.ends, .slice a5 s.results.length c5, .int .i8 s.trap, .int .i64 s.used] 27)).alloc (.cells #[.slice none 0 0, .slice none 0 0, .slice none 0 0, .int .i64 0, .int .i8 0, .slice none 0 0, .int .i8 0, .int .i64 0] 27) = w2 := ⟨_, rfl⟩
  rw [hw2] at hb2 hr2 hr1' ⊢
  have HB2 := Lib.hid hb2; have HQ1 := Lib.hid hr1'; have HQ2 := Lib.hid hr2
  clear hw2 hs1 hb2 hr1 hr2 hr1'
  have hlo : w.heap.size + 2 ≤ w2.heap.size := row_lt HQ2.out
  have x0 := row_cell HQ1.out 0 rfl
  simp only [List.getElem_toArray, List.getElem_cons_zero, List.getElem_cons_succ] at x0
  go_wp2_with fail
  refine (wideFrames w2 _ _ s.frames (HR0.out.1.keeps (Keeps.all _ HB2.out)) (by exact HO.out.fr) HO.out.fl).mono ?_
  rintro e w3 ⟨rfl, hw, hb⟩
  have hw := (hw.mono fun b (hb : w2.heap.size < b) => (show w.heap.size + 1 < b by omega))
  obtain ⟨g0, hg0⟩ : ∃ g0, w2.heap.size = g0 := ⟨_, rfl⟩
  rw [hg0] at hw ⊢
  have hlo0 : w.heap.size + 2 ≤ g0 := by omega
  have q := (hb.block _ (row_lt HQ1.out)).trans HQ1.out
  have q2 := (hb.block _ (row_lt HQ2.out)).trans HQ2.out
  have y : ∃ u, w3.cell? ⟨w.heap.size, 0, none⟩ = some u := ⟨_, row_cell q 0 rfl⟩
  obtain ⟨y0, y0'⟩ := y
  have f0 := row_free q 0
  have q3 := row_setCell q 0 (.slice (some ⟨g0, 0, none⟩) s.frames.length (s.frames.length + 64))
  simp only [List.setIfInBounds_toArray, List.set_cons_zero, List.set_cons_succ] at q3
  have hk : Keeps (fun b => b ≠ w.heap.size) w3 (w3.setCell ⟨w.heap.size, 0, none⟩ (.slice (some ⟨g0, 0, none⟩) s.frames.length (s.frames.length + 64))) := (Keeps.refl _ _).setCell (a := ⟨w.heap.size, 0, none⟩) (by simp) _
  have HB4 := Lib.hid ((below_next HB2.out hb).setCell (p := ⟨w.heap.size, 0, none⟩) (Nat.le_refl _) (.slice (some ⟨g0, 0, none⟩) s.frames.length (s.frames.length + 64)))
  have HW0 := Lib.hid (hw.keeps' hk (by omega) (fun b (_ : w.heap.size + 1 < b) => (show b ≠ w.heap.size by omega)))
  have HQ11 := Lib.hid q3
  have HQ2' := Lib.hid ((hk.block _ (row_lt q2) (by omega)).trans q2)
  have hsz : w2.heap.size ≤ w3.heap.size := hb.size
  rw [hg0] at hsz
  clear q q2 q3 hk hw hb HQ2 HQ1 hg0
  have HQ2 := HQ2'
  clear HQ2'
  go_upto_region 2 with fail
  obtain ⟨w4, hw2⟩ : ∃ w4, w3.setCell ⟨w.heap.size, 0, none⟩ (.slice (some ⟨g0, 0, none⟩) s.frames.length (s.frames.length + 64)) = w4 := ⟨_, rfl⟩
  have hsz2 : g0 ≤ w4.heap.size := by rw [← hw2, World.size_setCell]; omega
  rw [hw2] at HB4 HQ11 HQ2 HW0 ⊢
  clear hw2 x0 y0' f0
  have x1 := row_cell HQ11.out 1 rfl
  simp only [List.getElem_toArray, List.getElem_cons_zero, List.getElem_cons_succ] at x1
  go_wp2_with fail
  refine (Wd.wideWords w4 _ _ s.globals (HR0.out.2.1.keeps (Keeps.all _ HB4.out)) (by have := HO.out.gl; omega)).mono ?_
  rintro e w5 ⟨rfl, hw, hb⟩
  obtain ⟨g1, hg1⟩ : ∃ g1, w4.heap.size = g1 := ⟨_, rfl⟩
  rw [hg1] at hw ⊢
  have hlo1 : w.heap.size + 2 ≤ g1 := by omega
  have q := (hb.block _ (row_lt HQ11.out)).trans HQ11.out
  have q2 := (hb.block _ (row_lt HQ2.out)).trans HQ2.out
  have y : ∃ u, w5.cell? ⟨w.heap.size, 1, none⟩ = some u := ⟨_, row_cell q 1 rfl⟩
  obtain ⟨y1, y1'⟩ := y
  have f1 := row_free q 1
  have q3 := row_setCell q 1 (.slice (some ⟨g1, 0, none⟩) s.globals.length (s.globals.length + 64))
  simp only [List.setIfInBounds_toArray, List.set_cons_zero, List.set_cons_succ] at q3
  have hk : Keeps (fun b => b ≠ w.heap.size) w5 (w5.setCell ⟨w.heap.size, 1, none⟩ (.slice (some ⟨g1, 0, none⟩) s.globals.length (s.globals.length + 64))) := (Keeps.refl _ _).setCell (a := ⟨w.heap.size, 1, none⟩) (by simp) _
  have HB6 := Lib.hid ((below_next HB4.out hb).setCell (p := ⟨w.heap.size, 1, none⟩) (Nat.le_refl _) (.slice (some ⟨g1, 0, none⟩) s.globals.length (s.globals.length + 64)))
  have HW1 := Lib.hid (hw.keeps hk (by omega))
  have HW01 := Lib.hid ((HW0.out.keeps' (Keeps.all (fun _ => True) hb) trivial (fun _ _ => trivial)).keeps' hk (by omega) (fun b (_ : w.heap.size + 1 < b) => (show b ≠ w.heap.size by omega)))
  have HQ12 := Lib.hid q3
  have HQ2' := Lib.hid ((hk.block _ (row_lt q2) (by omega)).trans q2)
  have hsz : w4.heap.size ≤ w5.heap.size := hb.size
  rw [hg1] at hsz
  clear q q2 q3 hk hw hb HQ2 HQ11 hg1
  have HQ2 := HQ2'
  clear HQ2'
  go_upto_region 3 with fail
  obtain ⟨w6, hw2⟩ : ∃ w6, w5.setCell ⟨w.heap.size, 1, none⟩ (.slice (some ⟨g1, 0, none⟩) s.globals.length (s.globals.length + 64)) = w6 := ⟨_, rfl⟩
  have hsz2 : g1 ≤ w6.heap.size := by rw [← hw2, World.size_setCell]; omega
  rw [hw2] at HB6 HQ12 HQ2 HW1 HW01 ⊢
  clear hw2 x1 y1' f1 HW0
  have x2 := row_cell HQ12.out 2 rfl
  simp only [List.getElem_toArray, List.getElem_cons_zero, List.getElem_cons_succ] at x2
  go_wp2_with fail
  refine (widePages w6 _ _ s.pages (HR0.out.2.2.1.keeps (Keeps.all _ HB6.out)) (by exact HO.out.pg) HO.out.pl (HT.out.bel HB6.out)).mono ?_
  rintro e w7 ⟨rfl, hw, hb⟩
  have hw := (hw.mono fun b (hb : w6.heap.size < b) => (show w.heap.size + 1 < b by omega))
  obtain ⟨g2, hg2⟩ : ∃ g2, w6.heap.size = g2 := ⟨_, rfl⟩
  rw [hg2] at hw ⊢
  have hlo2 : w.heap.size + 2 ≤ g2 := by omega
  have q := (hb.block _ (row_lt HQ12.out)).trans HQ12.out
  have q2 := (hb.block _ (row_lt HQ2.out)).trans HQ2.out
  have y : ∃ u, w7.cell? ⟨w.heap.size, 2, none⟩ = some u := ⟨_, row_cell q 2 rfl⟩
  obtain ⟨y2, y2'⟩ := y
  have f2 := row_free q 2
  have q3 := row_setCell q 2 (.slice (some ⟨g2, 0, none⟩) s.pages.length (s.pages.length + 64))
  simp only [List.setIfInBounds_toArray, List.set_cons_zero, List.set_cons_succ] at q3
  have hk : Keeps (fun b => b ≠ w.heap.size) w7 (w7.setCell ⟨w.heap.size, 2, none⟩ (.slice (some ⟨g2, 0, none⟩) s.pages.length (s.pages.length + 64))) := (Keeps.refl _ _).setCell (a := ⟨w.heap.size, 2, none⟩) (by simp) _
  have HB8 := Lib.hid ((below_next HB6.out hb).setCell (p := ⟨w.heap.size, 2, none⟩) (Nat.le_refl _) (.slice (some ⟨g2, 0, none⟩) s.pages.length (s.pages.length + 64)))
  have HW2 := Lib.hid (hw.keeps' hk (by omega) (fun b (_ : w.heap.size + 1 < b) => (show b ≠ w.heap.size by omega)))
  have HW02 := Lib.hid ((HW01.out.keeps' (Keeps.all (fun _ => True) hb) trivial (fun _ _ => trivial)).keeps' hk (by omega) (fun b (_ : w.heap.size + 1 < b) => (show b ≠ w.heap.size by omega)))
  have HW12 := Lib.hid ((HW1.out.keeps (Keeps.all (fun _ => True) hb) trivial).keeps hk (by omega))
  have HQ13 := Lib.hid q3
  have HQ2' := Lib.hid ((hk.block _ (row_lt q2) (by omega)).trans q2)
  have hsz : w6.heap.size ≤ w7.heap.size := hb.size
  rw [hg2] at hsz
  clear q q2 q3 hk hw hb HQ2 HQ12 hg2
  have HQ2 := HQ2'
  clear HQ2'
  go_upto_region 4 with fail
  obtain ⟨w8, hw2⟩ : ∃ w8, w7.setCell ⟨w.heap.size, 2, none⟩ (.slice (some ⟨g2, 0, none⟩) s.pages.length (s.pages.length + 64)) = w8 := ⟨_, rfl⟩
  have hsz2 : g2 ≤ w8.heap.size := by rw [← hw2, World.size_setCell]; omega
  rw [hw2] at HB8 HQ13 HQ2 HW2 HW02 HW12 ⊢
  clear hw2 x2 y2' f2 HW01 HW1
  have x3 := row_cell HQ13.out 5 rfl
  simp only [List.getElem_toArray, List.getElem_cons_zero, List.getElem_cons_succ] at x3
  go_wp2_with fail
  refine (Wd.wideWords w8 _ _ s.results (HR0.out.2.2.2.keeps (Keeps.all _ HB8.out)) (by have := HO.out.rs; omega)).mono ?_
  rintro e w9 ⟨rfl, hw, hb⟩
  obtain ⟨g3, hg3⟩ : ∃ g3, w8.heap.size = g3 := ⟨_, rfl⟩
  rw [hg3] at hw ⊢
  have hlo3 : w.heap.size + 2 ≤ g3 := by omega
  have q := (hb.block _ (row_lt HQ13.out)).trans HQ13.out
  have q2 := (hb.block _ (row_lt HQ2.out)).trans HQ2.out
  have y : ∃ u, w9.cell? ⟨w.heap.size, 5, none⟩ = some u := ⟨_, row_cell q 5 rfl⟩
  obtain ⟨y3, y3'⟩ := y
  have f3 := row_free q 5
  have q3 := row_setCell q 5 (.slice (some ⟨g3, 0, none⟩) s.results.length (s.results.length + 64))
  simp only [List.setIfInBounds_toArray, List.set_cons_zero, List.set_cons_succ] at q3
  have hk : Keeps (fun b => b ≠ w.heap.size) w9 (w9.setCell ⟨w.heap.size, 5, none⟩ (.slice (some ⟨g3, 0, none⟩) s.results.length (s.results.length + 64))) := (Keeps.refl _ _).setCell (a := ⟨w.heap.size, 5, none⟩) (by simp) _
  have HB10 := Lib.hid ((below_next HB8.out hb).setCell (p := ⟨w.heap.size, 5, none⟩) (Nat.le_refl _) (.slice (some ⟨g3, 0, none⟩) s.results.length (s.results.length + 64)))
  have HW3 := Lib.hid (hw.keeps hk (by omega))
  have HW03 := Lib.hid ((HW02.out.keeps' (Keeps.all (fun _ => True) hb) trivial (fun _ _ => trivial)).keeps' hk (by omega) (fun b (_ : w.heap.size + 1 < b) => (show b ≠ w.heap.size by omega)))
  have HW13 := Lib.hid ((HW12.out.keeps (Keeps.all (fun _ => True) hb) trivial).keeps hk (by omega))
  have HW23 := Lib.hid ((HW2.out.keeps' (Keeps.all (fun _ => True) hb) trivial (fun _ _ => trivial)).keeps' hk (by omega) (fun b (_ : w.heap.size + 1 < b) => (show b ≠ w.heap.size by omega)))
  have HQ14 := Lib.hid q3
  have HQ2' := Lib.hid ((hk.block _ (row_lt q2) (by omega)).trans q2)
  have hsz : w8.heap.size ≤ w9.heap.size := hb.size
  rw [hg3] at hsz
  clear q q2 q3 hk hw hb HQ2 HQ13 hg3
  have HQ2 := HQ2'
  clear HQ2'
  go_upto_region 5 with fail
  obtain ⟨w10, hw2⟩ : ∃ w10, w9.setCell ⟨w.heap.size, 5, none⟩ (.slice (some ⟨g3, 0, none⟩) s.results.length (s.results.length + 64)) = w10 := ⟨_, rfl⟩
  have hsz2 : g3 ≤ w10.heap.size := by rw [← hw2, World.size_setCell]; omega
  rw [hw2] at HB10 HQ14 HQ2 HW3 HW03 HW13 HW23 ⊢
  clear hw2 x3 y3' f3 HW02 HW12 HW2
  have z0 := row_cell HQ14.out 0 rfl; have z1 := row_cell HQ14.out 1 rfl; have z2 := row_cell HQ14.out 2 rfl; have z3 := row_cell HQ14.out 3 rfl; have z4 := row_cell HQ14.out 4 rfl; have z5 := row_cell HQ14.out 5 rfl; have z6 := row_cell HQ14.out 6 rfl; have z7 := row_cell HQ14.out 7 rfl
  have k0 := row_cell HQ2.out 0 rfl; have k1 := row_cell HQ2.out 1 rfl; have k2 := row_cell HQ2.out 2 rfl; have k3 := row_cell HQ2.out 3 rfl; have k4 := row_cell HQ2.out 4 rfl; have k5 := row_cell HQ2.out 5 rfl; have k6 := row_cell HQ2.out 6 rfl; have k7 := row_cell HQ2.out 7 rfl
  simp only [List.getElem_toArray, List.getElem_cons_zero, List.getElem_cons_succ] at z0 k0 z1 k1 z2 k2 z3 k3 z4 k4 z5 k5 z6 k6 z7 k7
  have l0 := row_free HQ2.out 0; have l1 := row_free HQ2.out 1; have l2 := row_free HQ2.out 2; have l3 := row_free HQ2.out 3; have l4 := row_free HQ2.out 4; have l5 := row_free HQ2.out 5; have l6 := row_free HQ2.out 6; have l7 := row_free HQ2.out 7
  go_wp2
  refine bodyPost_ret (state_results (w.heap.size + 1) _ (set8_row HQ2.out _ _ _ _ _ _ _ _) rfl rfl) rfl ⟨g0, g1, g2, g3, rfl, ?_, ?_⟩
  · have hk : Keeps (fun b => b ≠ w.heap.size + 1) w10 _ := (((((((((Keeps.refl _ w10).setCell (a := ⟨w.heap.size + 1, 0, none⟩) (by simp) (.slice (some ⟨g0, 0, none⟩) s.frames.length (s.frames.length + 64))).setCell (a := ⟨w.heap.size + 1, 1, none⟩) (by simp) (.slice (some ⟨g1, 0, none⟩) s.globals.length (s.globals.length + 64))).setCell (a := ⟨w.heap.size + 1, 2, none⟩) (by simp) (.slice (some ⟨g2, 0, none⟩) s.pages.length (s.pages.length + 64))).setCell (a := ⟨w.heap.size + 1, 3, none⟩) (by simp) (.int .i64 s.replies)).setCell (a := ⟨w.heap.size + 1, 4, none⟩) (by simp) (.int .i8 s.ends)).setCell (a := ⟨w.heap.size + 1, 5, none⟩) (by simp) (.slice (some ⟨g3, 0, none⟩) s.results.length (s.results.length + 64))).setCell (a := ⟨w.heap.size + 1, 6, none⟩) (by simp) (.int .i8 s.trap)).setCell (a := ⟨w.heap.size + 1, 7, none⟩) (by simp) (.int .i64 s.used))
    exact (WState.mk (S := (w.heap.size + 1 < ·)) HW03.out HW13.out HW23.out HW3.out ⟨by omega, by omega, by omega, by omega⟩).keeps hk fun b (_ : w.heap.size + 1 < b) => (show b ≠ w.heap.size + 1 by omega)
  · exact ((((((((HB10.out.setCell (p := ⟨w.heap.size + 1, 0, none⟩) (by simp) _).setCell (p := ⟨w.heap.size + 1, 1, none⟩) (by simp) _).setCell (p := ⟨w.heap.size + 1, 2, none⟩) (by simp) _).setCell (p := ⟨w.heap.size + 1, 3, none⟩) (by simp) _).setCell (p := ⟨w.heap.size + 1, 4, none⟩) (by simp) _).setCell (p := ⟨w.heap.size + 1, 5, none⟩) (by simp) _).setCell (p := ⟨w.heap.size + 1, 6, none⟩) (by simp) _).setCell (p := ⟨w.heap.size + 1, 7, none⟩) (by simp) _)
set_option maxRecDepth 100000 in
set_option maxHeartbeats 3200000 in
theorem spareState (w : World) (S : Nat → Prop) (g0 g1 g2 g3 : Nat) (s : StateD) (h : WState S w g0 g1 g2 g3 s) (ho : StOk s) (ht : Tp w) :
    Calls Tryd.prog 14 #[.agg #[.slice (some ⟨g0, 0, none⟩) s.frames.length (s.frames.length + 64), .slice (some ⟨g1, 0, none⟩) s.globals.length (s.globals.length + 64), .slice (some ⟨g2, 0, none⟩) s.pages.length (s.pages.length + 64), .int .i64 s.replies, .int .i8 s.ends, .slice (some ⟨g3, 0, none⟩) s.results.length (s.results.length + 64), .int .i8 s.trap, .int .i64 s.used]] w fun e w' => e = .returned (.bool true) ∧ Below w.heap.size w w' := by
  have HO := Lib.hid ho
  have hb1 := below_alloc w (.cells #[.slice (some ⟨g0, 0, none⟩) s.frames.length (s.frames.length + 64), .slice (some ⟨g1, 0, none⟩) s.globals.length (s.globals.length + 64), .slice (some ⟨g2, 0, none⟩) s.pages.length (s.pages.length + 64), .int .i64 s.replies, .int .i8 s.ends, .slice (some ⟨g3, 0, none⟩) s.results.length (s.results.length + 64), .int .i8 s.trap, .int .i64 s.used] 27)
  have hr1 := heap_alloc_new w (.cells #[.slice (some ⟨g0, 0, none⟩) s.frames.length (s.frames.length + 64), .slice (some ⟨g1, 0, none⟩) s.globals.length (s.globals.length + 64), .slice (some ⟨g2, 0, none⟩) s.pages.length (s.pages.length + 64), .int .i64 s.replies, .int .i8 s.ends, .slice (some ⟨g3, 0, none⟩) s.results.length (s.results.length + 64), .int .i8 s.trap, .int .i64 s.used] 27)
  have HW := Lib.hid (h.bel hb1)
  have HT := Lib.hid (ht.bel hb1)
  clear h ho ht
  go_enter Tryd.func14, Tryd.ntmps14
  go_upto_region 1 with fail
  obtain ⟨w1, hw1⟩ : ∃ w1, w.alloc (.cells #[.slice (some ⟨g0, 0, none⟩) s.frames.length (s.frames.length + 64), .slice (some ⟨g1, 0, none⟩) s.globals.length (s.globals.length + 64), .slice (some ⟨g2, 0, none⟩) s.pages.length (s.pages.length + 64), .int .i64 s.replies, .int .i8 s.ends, .slice (some ⟨g3, 0, none⟩) s.results.length (s.results.length + 64), .int .i8 s.trap, .int .i64 s.used] 27) = w1 := ⟨_, rfl⟩
  rw [hw1] at hb1 hr1 HW HT ⊢
  have HB1 := Lib.hid hb1; have HQ := Lib.hid hr1
  clear hw1 hb1 hr1
  have x0 := row_cell HQ.out 0 rfl
  simp only [List.getElem_toArray, List.getElem_cons_zero, List.getElem_cons_succ] at x0
  go_wp2_with fail
  refine (spareFrames w1 _ g0 s.frames HW.out.fr HO.out.fr HO.out.fl).mono ?_
  rintro e w2 ⟨rfl, hb2⟩
  have HB2 := Lib.hid hb2
  have x1 := row_cell ((hb2.block _ (row_lt HQ.out)).trans HQ.out) 1 rfl
  have x2 := row_cell ((hb2.block _ (row_lt HQ.out)).trans HQ.out) 2 rfl
  simp only [List.getElem_toArray, List.getElem_cons_zero, List.getElem_cons_succ] at x1 x2
  clear x0 hb2
  go_wp2_with fail
  refine (Wd.spareWords w2 g1 s.globals (HW.out.gl.keeps (Keeps.all (fun _ => True) HB2.out) trivial) (by have := HO.out.gl; omega)).mono ?_
  rintro e w' ⟨rfl, rfl⟩
  go_wp2_with fail
  refine (sparePages w' _ g2 s.pages (HW.out.pg.keeps' (Keeps.all (fun _ => True) HB2.out) trivial (fun _ _ => trivial)) HO.out.pg HO.out.pl (HT.out.bel HB2.out)).mono ?_
  rintro e w3 ⟨rfl, hb3⟩
  have HB3 := Lib.hid (below_next HB2.out hb3)
  have x5 := row_cell ((HB3.out.block _ (row_lt HQ.out)).trans HQ.out) 5 rfl
  simp only [List.getElem_toArray, List.getElem_cons_zero, List.getElem_cons_succ] at x5
  clear x1 x2 hb3
  go_wp2_with fail
  refine (Wd.spareWords w3 g3 s.results (HW.out.rs.keeps (Keeps.all (fun _ => True) HB3.out) trivial) (by have := HO.out.rs; omega)).mono ?_
  rintro e w' ⟨rfl, rfl⟩
  go_wp2
  go_ret
  exact ⟨rfl, below_next HB1.out HB3.out⟩
end Go.Proofs.YthlkckpadjjbdaaDoor
