/- Lists of integers handed in with marks behind them: flagonref00.WideInts, SpareInts, WideIns, SpareIns. -/
import Derived.Test.YtiaoonlhgjfdjaaDoorLib2
import Derived.OwnWalk
namespace Go.Proofs.YtiaoonlhgjfdjaaDoor
open Go Go.RowKit

theorem Tryd.infoIntB : (Tryd.prog.info? 3).map (fun i => (i.zero, i.size, i.bytes)) = some (some (.int .i64 0), 1, 8) := by kernel_rfl
set_option maxRecDepth 100000 in
theorem ref_num (w : World) (n i : Nat) (hn : n ≤ 1000000) (hi : i ≤ 1125899906842624) :
    Calls Tryd.prog 34 #[.int .i64 n, .int .i64 i] w fun e w' => e = .returned (.int .i64 ((1048576 * n + i + 1 : Nat))) ∧ w' = w := by
  go_enter Tryd.func34, Tryd.ntmps34
  go_wp2
  go_ret
  exact ⟨ret_int (by (try unfold wrap64); omega), rfl⟩
/-- What lies behind a list that is handed in. -/
def behind (l : List Int) : List Int := l ++ (List.range 64).map fun i => ((9437184 + (l.length + i) + 1 : Nat) : Int)
theorem behind_len (l : List Int) : (behind l).length = l.length + 64 := by simp [behind]
theorem behind_lo {l : List Int} {j : Nat} (h : j < l.length) : (behind l)[j]? = some l[j] := by
  rw [behind, List.getElem?_append_left h, List.getElem?_eq_getElem h]
theorem behind_hi {l : List Int} {j : Nat} (h : l.length ≤ j) (h2 : j < l.length + 64) : (behind l)[j]? = some ((9437184 + j + 1 : Nat) : Int) := by
  rw [behind, List.getElem?_append_right h, List.getElem?_map, List.getElem?_range (by omega)]
  simp; omega
/-- The block g holds the list l and the marks behind it. -/
def WideL (w : World) (g : Nat) (l : List Int) : Prop := ∃ c : Array Value, w.heap[g]? = some (.cells c 3 (0, 0)) ∧ ∀ (j : Nat) (x : Int), (behind l)[j]? = some x → c[j]? = some (Value.int .i64 x)
theorem WideL.keeps {S : Nat → Prop} {w w' : World} {g : Nat} {l : List Int} (h : WideL w g l) (hk : Keeps S w w') (hg : S g) : WideL w' g l := by
  obtain ⟨c, h1, h2⟩ := h
  exact ⟨c, (hk.block g (row_lt h1) hg).trans h1, h2⟩
theorem WideL.cell {w : World} {g j : Nat} {l : List Int} {x : Int} (h : WideL w g l) (hx : (behind l)[j]? = some x) : w.cell? ⟨g, j, none⟩ = some (.int .i64 x) := by
  obtain ⟨c, h1, h2⟩ := h
  exact row_cell h1 j (h2 j x hx)
theorem WideL.lt {w : World} {g : Nat} {l : List Int} (h : WideL w g l) : g < w.heap.size := by obtain ⟨c, h1, _⟩ := h; exact row_lt h1
theorem WideL.rd {w : World} {g : Nat} {l : List Int} (h : WideL w g l) (hl : l.length ≤ 140737488355328) : RdI .i64 (· = g) w (.slice (some ⟨g, 0, none⟩) l.length (l.length + 64)) l :=
  ⟨_, _, rfl, by omega, hl, fun j hj => ⟨g, 0, rfl, rfl, by rw [Nat.zero_add]; exact h.cell (behind_lo hj)⟩⟩

set_option maxRecDepth 100000 in
set_option maxHeartbeats 1600000 in
theorem wideInts (w : World) (S) (v : Value) (l : List Int) (hr : RdI .i64 S w v l) (hl : l.length ≤ 17592186044352) :
    Calls Tryd.prog 36 #[v] w fun e w' => e = .returned (.slice (some ⟨w.heap.size, 0, none⟩) l.length (l.length + 64)) ∧ WideL w' w.heap.size l ∧ Below w.heap.size w w' := by
  obtain ⟨i0, hi, hz0, hz1, hz2⟩ := info_parts Tryd.infoIntB
  have HL := Lib.hid hr
  obtain ⟨va, vc, rfl, hlc⟩ := hr.lenc
  clear hr
  have e1 : wrap64 ((l.length : Int) + 64) = ((l.length + 64 : Nat) : Int) := by unfold wrap64; omega
  have e2 : (l.length : Int) + 64 = ((l.length + 64 : Nat) : Int) := by omega
  obtain ⟨N, hN⟩ : ∃ N, N = l.length + 64 := ⟨_, rfl⟩
  rw [← hN] at e1 e2 ⊢
  have HN := Lib.hid hN; clear hN
  go_enter Tryd.func36, Tryd.ntmps36
  go_wp2_with (at_make; refine wpList_make_full _ rfl _ _ 24 rfl w.heap.size 3 i0 (.int .i64 0) 1 Tryd.underlying24 hi hz0 hz1 _ _ _ _ N rfl rfl rfl rfl ?b1 ?b2 (Nat.le_refl _) ?_)
  case b1 => rw [hz2, HN.out]; omega
  case b2 => rw [HN.out]; unfold maxLen; omega
  intro w1 hown hgrow
  have hb1 : Below w.heap.size w w1 := (Below.refl _ _).grown hgrow (Nat.le_refl _) (fun k hk => by cases hk)
  have hrow : ∃ c : Array Value, w1.heap[w.heap.size]? = some (.cells c 3 (0, 0)) ∧ c.size = N := by
    rcases hown.2 with ⟨h, _⟩ | ⟨g, cap, cur, e, _, hg, _, _, hs, _⟩
    · simp at h
    · simp only [Value.slice.injEq, Option.some.injEq, Addr.mk.injEq, and_true, true_and] at e
      obtain ⟨rfl, rfl⟩ := e
      exact ⟨cur, hg, by simpa using hs⟩
  have HB1 := Lib.hid hb1; have HW1 := Lib.hid hrow
  have HL0 := Lib.hid HL.out.any
  clear hown hgrow hb1 hrow HL
  go_wp2
  go_loopw [4] (fun i wr => ∃ k : Nat, k ≤ N ∧ i = .int .i64 k ∧ Hid (∃ c : Array Value, wr.heap[w.heap.size]? = some (.cells c 3 (0, 0)) ∧ c.size = N ∧ ∀ (j : Nat) (x : Int), j < k → (behind l)[j]? = some x → c[j]? = some (Value.int .i64 x)) ∧ Hid (Below w.heap.size w wr)) (fun i _ => N - (intOf i).toNat)
  case atStart => exact ⟨0, by omega, rfl, Lib.hid (by obtain ⟨c, h1, h2⟩ := HW1.out; exact ⟨c, h1, h2, fun j x h => absurd h (by omega)⟩), HB1⟩
  case round =>
    obtain ⟨k, hk, rfl, HC, HB⟩ := hrel
    obtain ⟨c, hc, hcs, hcf⟩ := HC.out
    by_cases hlt : k < N
    · obtain ⟨u, hu⟩ : ∃ u, c[k]? = some u := ⟨c[k]'(by omega), Array.getElem?_eq_getElem (by omega)⟩
      have hcell := row_cell hc k hu
      have hfree := row_free hc k
      have HNx : Hid (∀ x : Int, (behind l)[k]? = some x → (∃ c : Array Value, (wr.setCell ⟨w.heap.size, k, none⟩ (.int .i64 x)).heap[w.heap.size]? = some (.cells c 3 (0, 0)) ∧ c.size = N ∧ ∀ (j : Nat) (x : Int), j < k + 1 → (behind l)[j]? = some x → c[j]? = some (Value.int .i64 x)) ∧ Below w.heap.size w (wr.setCell ⟨w.heap.size, k, none⟩ (.int .i64 x))) := by
        intro x hx
        refine ⟨⟨_, row_setCell hc k _, by simpa using hcs, fun j y hj hy => ?_⟩, HB.out.setCell (p := ⟨w.heap.size, k, none⟩) (Nat.le_refl _) _⟩
        by_cases hjk : j = k
        · subst hjk
          obtain rfl : x = y := Option.some.inj (hx.symm.trans hy)
          rw [Array.getElem?_setIfInBounds_self_of_lt (by omega)]
        · rw [Array.getElem?_setIfInBounds_ne (Ne.symm hjk)]
          exact hcf j y (by omega) hy
      clear hc hcs hcf HC hu
      by_cases h1 : k < l.length
      · have HX := Lib.hid (HNx.out _ (behind_lo h1)); clear HNx
        obtain ⟨va', vc', e, _, _, hce⟩ := HL0.out.keeps (Keeps.of_below HB.out)
        simp only [Value.slice.injEq] at e
        obtain ⟨rfl, _, rfl⟩ := e
        obtain ⟨bb, off, rfl, _, hcl⟩ := hce k h1
        clear hce
        generalize l[k] = x at *
        go_wp2
        go_roundw
        case rel => exact ⟨k + 1, by omega, by go_num, Lib.hid HX.out.1, Lib.hid HX.out.2⟩
        case measure => simp [intOf]; omega
      · have HX := Lib.hid (HNx.out _ (behind_hi (by omega) (by have := HN.out; omega))); clear HNx
        have hnum := ref_num wr 9 k (by omega) (by have := HN.out; omega)
        rw [show 1048576 * 9 + k + 1 = 9437184 + k + 1 by omega] at hnum
        have HM := Lib.hid hnum; clear hnum
        generalize 9437184 + k + 1 = x at *
        go_wp2_with fail
        refine HM.out.mono ?_
        rintro e w' ⟨rfl, rfl⟩
        go_wp2
        go_roundw
        case rel => exact ⟨k + 1, by omega, by go_num, Lib.hid HX.out.1, Lib.hid HX.out.2⟩
        case measure => simp [intOf]; omega
    · obtain rfl : k = N := by omega
      have hle : l.length ≤ k := by have := HN.out; omega
      go_wp2
      go_ret
      exact ⟨rfl, ⟨c, hc, fun j x hx => hcf j x (by have := (List.getElem?_eq_some_iff.1 hx).1; rw [behind_len] at this; have := HN.out; omega) hx⟩, HB.out⟩

set_option maxRecDepth 100000 in
set_option maxHeartbeats 1600000 in
theorem spareInts (w : World) (g : Nat) (l : List Int) (h : WideL w g l) (hl : l.length ≤ 17592186044352) :
    Calls Tryd.prog 63 #[.slice (some ⟨g, 0, none⟩) l.length (l.length + 64)] w fun e w' => e = .returned (.bool true) ∧ w' = w := by
  have H := Lib.hid h; clear h
  have e1 : wrap64 ((l.length : Int) + 64) = ((l.length + 64 : Nat) : Int) := by unfold wrap64; omega
  have e2 : (l.length : Int) + 64 = ((l.length + 64 : Nat) : Int) := by omega
  obtain ⟨N, hN⟩ : ∃ N, N = l.length + 64 := ⟨_, rfl⟩
  rw [← hN] at e1 e2 ⊢
  have hle : l.length ≤ N := by omega
  have HN := Lib.hid hN; clear hN
  go_enter Tryd.func63, Tryd.ntmps63
  go_wp2
  go_loopw [4] (fun i wr => ∃ k : Nat, l.length ≤ k ∧ k ≤ N ∧ i = .int .i64 k ∧ wr = w) (fun i _ => N - (intOf i).toNat)
  case atStart => exact ⟨l.length, by omega, hle, rfl, rfl⟩
  case round =>
    obtain ⟨k, hk1, hk, rfl, rfl⟩ := hrel
    by_cases hlt : k < N
    · have hcell := H.out.cell (behind_hi hk1 (by have := HN.out; omega))
      have hnum := ref_num wr 9 k (by omega) (by have := HN.out; omega)
      rw [show 1048576 * 9 + k + 1 = 9437184 + k + 1 by omega] at hnum
      have HM := Lib.hid hnum; clear hnum
      have hb : k ≤ 17592186044416 := by have := HN.out; omega
      generalize 9437184 + k + 1 = x at *
      go_wp2_with fail
      refine HM.out.mono ?_
      rintro e w' ⟨rfl, rfl⟩
      go_wp2
      go_roundw
      case rel => exact ⟨k + 1, by omega, by omega, by go_num, by trivial⟩
      case measure => simp [intOf]; omega
    · obtain rfl : k = N := by omega
      go_wp2
      go_ret
      exact ⟨rfl, rfl⟩
set_option maxRecDepth 100000 in
set_option maxHeartbeats 1600000 in
theorem spareIns (w : World) (g : Nat) (op : Nat) (a : Int) (l : List Int) (h : WideL w g l) (hl : l.length ≤ 1073741824) :
    Calls Tryd.prog 60 #[.agg #[.int .u8 op, .int .i64 a, .slice (some ⟨g, 0, none⟩) l.length (l.length + 64)]] w fun e w' => e = .returned (.bool true) ∧ Below w.heap.size w w' := by
  have hb0 := below_alloc w (.cells #[.int .u8 op, .int .i64 a, .slice (some ⟨g, 0, none⟩) l.length (l.length + 64)] 74)
  have H0 := Lib.hid (h.keeps (Keeps.all (fun _ => True) hb0) trivial)
  have HB0 := Lib.hid hb0
  clear h hb0
  go_enter Tryd.func60, Tryd.ntmps60
  go_wp2_with fail
  refine (spareInts _ g l H0.out (by omega)).mono ?_
  rintro e w1 ⟨rfl, rfl⟩
  go_wp2
  go_ret
  exact ⟨rfl, HB0.out⟩
theorem set3_row {w : World} {g : Nat} {o0 o1 o2 : Value} {T : Nat} {fr : Nat × Nat} (h : w.heap[g]? = some (.cells #[o0, o1, o2] T fr)) (v0 v1 v2 : Value) :
    (((w.setCell ⟨g, 0, none⟩ v0).setCell ⟨g, 1, none⟩ v1).setCell ⟨g, 2, none⟩ v2).heap[g]? = some (.cells #[v0, v1, v2] T fr) := by
  have h0 := row_setCell h 0 v0
  simp only [List.setIfInBounds_toArray, List.set_cons_zero] at h0
  have h1 := row_setCell h0 1 v1
  simp only [List.setIfInBounds_toArray, List.set_cons_zero, List.set_cons_succ] at h1
  have h2 := row_setCell h1 2 v2
  simp only [List.setIfInBounds_toArray, List.set_cons_zero, List.set_cons_succ] at h2
  exact h2
theorem wide_results {a : Act} {w : World} (g : Nat) (cs : Array Value) (hrow : w.heap[g]? = some (.cells cs 74 (0, 0))) (hsz : cs.size = 3) (h2 : a.tmps.getD 2 undef = .pointer (some ⟨g, 0, none⟩)) :
    (results Tryd.f33 a.tmps).run Tryd.prog w = .ok (.agg cs) w := by
  have hl := run_loadVar_row (P := Tryd.prog) w g 74 74 cs (0, 0) _ hrow Tryd.underlying74 rfl (by rw [hsz]; kernel_rfl)
  have h2' : a.tmps[2]?.getD undef = .pointer (some ⟨g, 0, none⟩) := by simpa using h2
  simp [results, Tryd.results33, asAddr, h2', hl]
set_option maxRecDepth 100000 in
set_option maxHeartbeats 1600000 in
theorem wideIns (w : World) (S) (op : Nat) (a : Int) (v : Value) (l : List Int) (hr : RdI .i64 S w v l) (hl : l.length ≤ 1073741824) :
    Calls Tryd.prog 33 #[.agg #[.int .u8 op, .int .i64 a, v]] w fun e w' => ∃ g, e = .returned (.agg #[.int .u8 op, .int .i64 a, .slice (some ⟨g, 0, none⟩) l.length (l.length + 64)]) ∧ WideL w' g l ∧ w.heap.size ≤ g ∧ Below w.heap.size w w' := by
  have HL := Lib.hid hr
  obtain ⟨va, vc, rfl, hlc⟩ := hr.lenc
  clear hr
  go_enter Tryd.func33, Tryd.ntmps33
  have hb1 := below_alloc w (.cells #[.int .u8 op, .int .i64 a, .slice va l.length vc] 74)
  have hr1 := heap_alloc_new w (.cells #[.int .u8 op, .int .i64 a, .slice va l.length vc] 74)
  go_wp2_with fail
  have hsz1 : (w.alloc (.cells #[.int .u8 op, .int .i64 a, .slice va l.length vc] 74)).heap.size = w.heap.size + 1 := World.size_alloc _ _
  generalize w.alloc (.cells #[.int .u8 op, .int .i64 a, .slice va l.length vc] 74) = w1 at *
  have hb2 := below_alloc w1 (.cells #[.int .u8 0, .int .i64 0, .slice none 0 0] 74)
  have hr2 := heap_alloc_new w1 (.cells #[.int .u8 0, .int .i64 0, .slice none 0 0] 74)
  have hsz2 : (w1.alloc (.cells #[.int .u8 0, .int .i64 0, .slice none 0 0] 74)).heap.size = w1.heap.size + 1 := World.size_alloc _ _
  generalize w1.alloc (.cells #[.int .u8 0, .int .i64 0, .slice none 0 0] 74) = w2 at *
  have HL2 := Lib.hid ((HL.out.any.bel hb1).bel hb2)
  have hr12 := (hb2.block _ (row_lt hr1)).trans hr1
  rw [hsz1] at hr2
  refine (wideInts w2 _ _ l HL2.out (by omega)).mono ?_
  rintro e w3 ⟨rfl, hw3, hb3⟩
  have q1 := (hb3.block _ (row_lt hr12)).trans hr12
  have q2 := (hb3.block _ (row_lt hr2)).trans hr2
  have HB3 := Lib.hid (below_next (below_next hb1 hb2) hb3)
  have hg : w2.heap.size = w.heap.size + 1 + 1 := by rw [hsz2, hsz1]
  rw [hg] at hw3 ⊢
  have HW3 := Lib.hid hw3
  have HQ := Lib.hid (And.intro q1 q2)
  have x0 := row_cell q1 0 rfl; have x1 := row_cell q1 1 rfl; have x2 := row_cell q1 2 rfl; have y0 := row_cell q2 0 rfl; have y1 := row_cell q2 1 rfl; have y2 := row_cell q2 2 rfl
  have f0 := row_free q1 0; have f1 := row_free q1 1; have f2 := row_free q1 2; have k0 := row_free q2 0; have k1 := row_free q2 1; have k2 := row_free q2 2
  simp only [List.getElem_toArray, List.getElem_cons_zero, List.getElem_cons_succ] at x0 x1 x2 y0 y1 y2
  clear hb1 hr1 hsz1 hb2 hr2 hsz2 HL2 hr12 hw3 hb3 q1 q2 hg HL
  go_wp2
  have qA := row_setCell HQ.out.1 2 (.slice (some ⟨w.heap.size + 1 + 1, 0, none⟩) l.length (l.length + 64))
  have qB : ((w3.setCell ⟨w.heap.size, 2, none⟩ (.slice (some ⟨w.heap.size + 1 + 1, 0, none⟩) l.length (l.length + 64))).heap[w.heap.size + 1]? = some (.cells #[.int .u8 0, .int .i64 0, .slice none 0 0] 74 (0, 0))) := by
    rw [Below.heap_setCell _ _ _ _ (by simp)]; exact HQ.out.2
  refine bodyPost_ret (wide_results (w.heap.size + 1) #[.int .u8 op, .int .i64 a, .slice (some ⟨w.heap.size + 1 + 1, 0, none⟩) l.length (l.length + 64)] (set3_row qB _ _ _) rfl rfl) rfl ⟨_, rfl, ?_, by omega, ?_⟩
  · exact HW3.out.keeps (S := fun b => b ≠ w.heap.size ∧ b ≠ w.heap.size + 1) (((((Keeps.refl _ w3).setCell (a := ⟨w.heap.size, 2, none⟩) (by simp) _).setCell (a := ⟨w.heap.size + 1, 0, none⟩) (by simp) _).setCell (a := ⟨w.heap.size + 1, 1, none⟩) (by simp) _).setCell (a := ⟨w.heap.size + 1, 2, none⟩) (by simp) _) (by omega)
  · exact (((HB3.out.setCell (p := ⟨w.heap.size, 2, none⟩) (Nat.le_refl _) _).setCell (p := ⟨w.heap.size + 1, 0, none⟩) (by simp) _).setCell (p := ⟨w.heap.size + 1, 1, none⟩) (by simp) _).setCell (p := ⟨w.heap.size + 1, 2, none⟩) (by simp) _
end Go.Proofs.YtiaoonlhgjfdjaaDoor
