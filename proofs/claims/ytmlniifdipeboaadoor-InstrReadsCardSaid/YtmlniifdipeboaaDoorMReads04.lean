/- flagonlaw04.InstrReads, walked. -/
import Derived.Test.YtmlniifdipeboaaDoorBack04
import Derived.Test.YtmlniifdipeboaaDoorMRef4d
import Derived.Test.YtmlniifdipeboaaDoorUvar
import Derived.OwnWalk
import Derived.Test.YtmlniifdipeboaaDoorMBagJ
namespace Go.Proofs.YtmlniifdipeboaaDoor
open Go Go.RowKit
namespace By

theorem wide_mark {k : Nat} (_hk : k ≤ 1073741888) : wrap64 (wrap64 (279 + wrap64 (7 * (k : Int))) + 3) % 256 = (((279 + 7 * k + 3) % 256 : Nat) : Int) := by
  unfold wrap64; omega
/-- What lies behind a list that is handed in. -/
def behind (l : List Int) : List Int := l ++ (List.range 64).map fun i => (((279 + 7 * (l.length + i) + 3) % 256 : Nat) : Int)
theorem behind_len (l : List Int) : (behind l).length = l.length + 64 := by simp [behind]
theorem behind_lo {l : List Int} {j : Nat} (h : j < l.length) : (behind l)[j]? = some l[j] := by
  rw [behind, List.getElem?_append_left h, List.getElem?_eq_getElem h]
theorem behind_hi {l : List Int} {j : Nat} (h : l.length ≤ j) (h2 : j < l.length + 64) : (behind l)[j]? = some (((279 + 7 * j + 3) % 256 : Nat) : Int) := by
  rw [behind, List.getElem?_append_right h, List.getElem?_map, List.getElem?_range (by omega)]
  simp; omega
/-- The block g holds the list l and the marks behind it. -/
def WideL (w : World) (g : Nat) (l : List Int) : Prop := ∃ c : Array Value, w.heap[g]? = some (.cells c 5 (0, 0)) ∧ ∀ (j : Nat) (x : Int), (behind l)[j]? = some x → c[j]? = some (Value.int .u8 x)
theorem WideL.keeps {S : Nat → Prop} {w w' : World} {g : Nat} {l : List Int} (h : WideL w g l) (hk : Keeps S w w') (hg : S g) : WideL w' g l := by
  obtain ⟨c, h1, h2⟩ := h
  exact ⟨c, (hk.block g (row_lt h1) hg).trans h1, h2⟩
theorem WideL.cell {w : World} {g j : Nat} {l : List Int} {x : Int} (h : WideL w g l) (hx : (behind l)[j]? = some x) : w.cell? ⟨g, j, none⟩ = some (.int .u8 x) := by
  obtain ⟨c, h1, h2⟩ := h
  exact row_cell h1 j (h2 j x hx)
theorem WideL.lt {w : World} {g : Nat} {l : List Int} (h : WideL w g l) : g < w.heap.size := by obtain ⟨c, h1, _⟩ := h; exact row_lt h1
theorem WideL.rd {w : World} {g : Nat} {l : List Int} (h : WideL w g l) (hl : l.length ≤ 140737488355328) : RdI .u8 (· = g) w (.slice (some ⟨g, 0, none⟩) l.length (l.length + 64)) l :=
  ⟨_, _, rfl, by omega, hl, fun j hj => ⟨g, 0, rfl, rfl, by rw [Nat.zero_add]; exact h.cell (behind_lo hj)⟩⟩

set_option maxRecDepth 100000 in
set_option maxHeartbeats 1600000 in
theorem wideBytes (w : World) (S) (v : Value) (l : List Int) (hr : RdI .u8 S w v l) (hl : l.length ≤ 1073741824) :
    Calls Tryd.prog 65 #[v] w fun e w' => e = .returned (.slice (some ⟨w.heap.size, 0, none⟩) l.length (l.length + 64)) ∧ WideL w' w.heap.size l ∧ Below w.heap.size w w' := by
  obtain ⟨i0, hi, hz0, hz1, hz2⟩ := info_parts Tryd.infoU8
  have HL := Lib.hid hr
  obtain ⟨va, vc, rfl, hlc⟩ := hr.lenc
  clear hr
  have e1 : wrap64 ((l.length : Int) + 64) = ((l.length + 64 : Nat) : Int) := by unfold wrap64; omega
  have e2 : (l.length : Int) + 64 = ((l.length + 64 : Nat) : Int) := by omega
  obtain ⟨N, hN⟩ : ∃ N, N = l.length + 64 := ⟨_, rfl⟩
  rw [← hN] at e1 e2 ⊢
  have HN := Lib.hid hN; clear hN
  go_enter Tryd.func65, Tryd.ntmps65
  go_wp2_with (at_make; refine wpList_make_full _ rfl _ _ 34 rfl w.heap.size 5 i0 (.int .u8 0) 1 Tryd.underlying34 hi hz0 hz1 _ _ _ _ N rfl rfl rfl rfl ?b1 ?b2 (Nat.le_refl _) ?_)
  case b1 => rw [hz2, HN.out]; omega
  case b2 => rw [HN.out]; unfold maxLen; omega
  intro w1 hown hgrow
  have hb1 : Below w.heap.size w w1 := (Below.refl _ _).grown hgrow (Nat.le_refl _) (fun k hk => by cases hk)
  have hrow : ∃ c : Array Value, w1.heap[w.heap.size]? = some (.cells c 5 (0, 0)) ∧ c.size = N := by
    rcases hown.2 with ⟨h, _⟩ | ⟨g, cap, cur, e, _, hg, _, _, hs, _⟩
    · simp at h
    · simp only [Value.slice.injEq, Option.some.injEq, Addr.mk.injEq, and_true, true_and] at e
      obtain ⟨rfl, rfl⟩ := e
      exact ⟨cur, hg, by simpa using hs⟩
  have HB1 := Lib.hid hb1; have HW1 := Lib.hid hrow
  have HL0 := Lib.hid HL.out.any
  clear hown hgrow hb1 hrow HL
  go_wp2
  go_loopw [4] (fun i wr => ∃ k : Nat, k ≤ N ∧ i = .int .i64 k ∧ Hid (∃ c : Array Value, wr.heap[w.heap.size]? = some (.cells c 5 (0, 0)) ∧ c.size = N ∧ ∀ (j : Nat) (x : Int), j < k → (behind l)[j]? = some x → c[j]? = some (Value.int .u8 x)) ∧ Hid (Below w.heap.size w wr)) (fun i _ => N - (intOf i).toNat)
  case atStart => exact ⟨0, by omega, rfl, Lib.hid (by obtain ⟨c, h1, h2⟩ := HW1.out; exact ⟨c, h1, h2, fun j x h => absurd h (by omega)⟩), HB1⟩
  case round =>
    obtain ⟨k, hk, rfl, HC, HB⟩ := hrel
    obtain ⟨c, hc, hcs, hcf⟩ := HC.out
    by_cases hlt : k < N
    · obtain ⟨u, hu⟩ : ∃ u, c[k]? = some u := ⟨c[k]'(by omega), Array.getElem?_eq_getElem (by omega)⟩
      have hcell := row_cell hc k hu
      have hfree := row_free hc k
      have HNx : Hid (∀ x : Int, (behind l)[k]? = some x → (∃ c : Array Value, (wr.setCell ⟨w.heap.size, k, none⟩ (.int .u8 x)).heap[w.heap.size]? = some (.cells c 5 (0, 0)) ∧ c.size = N ∧ ∀ (j : Nat) (x : Int), j < k + 1 → (behind l)[j]? = some x → c[j]? = some (Value.int .u8 x)) ∧ Below w.heap.size w (wr.setCell ⟨w.heap.size, k, none⟩ (.int .u8 x))) := by
        intro x hx
        refine ⟨⟨_, row_setCell hc k _, by simpa using hcs, fun j y hj hy => ?_⟩, HB.out.setCell (p := ⟨w.heap.size, k, none⟩) (Nat.le_refl _) _⟩
        by_cases hjk : j = k
        · subst hjk
          obtain rfl : x = y := Option.some.inj (hx.symm.trans hy)
          rw [Array.getElem?_setIfInBounds_self_of_lt (by omega)]
        · rw [Array.getElem?_setIfInBounds_ne (Ne.symm hjk)]
          exact hcf j y (by omega) hy
      clear hc hcs hcf HC hu
      by_cases h1 : k < l.length
      · have HX := Lib.hid (HNx.out _ (behind_lo h1)); clear HNx
        obtain ⟨va', vc', e, _, _, hce⟩ := HL0.out.keeps (Keeps.of_below HB.out)
        simp only [Value.slice.injEq] at e
        obtain ⟨rfl, _, rfl⟩ := e
        obtain ⟨bb, off, rfl, _, hcl⟩ := hce k h1
        clear hce
        generalize l[k] = x at *
        go_wp2
        go_roundw
        case rel => exact ⟨k + 1, by omega, by go_num, Lib.hid HX.out.1, Lib.hid HX.out.2⟩
        case measure => simp [intOf]; omega
      · have HX := Lib.hid (HNx.out _ (behind_hi (by omega) (by have := HN.out; omega))); clear HNx
        have hkk : k ≤ 1073741888 := by have := HN.out; omega
        have hm := wide_mark hkk
        have hm2 : ((279 : Int) + 7 * k + 3) % 256 = (((279 + 7 * k + 3) % 256 : Nat) : Int) := by omega
        generalize (279 + 7 * k + 3) % 256 = x at *
        go_wp2
        go_roundw
        case rel => exact ⟨k + 1, by omega, by go_num, Lib.hid HX.out.1, Lib.hid HX.out.2⟩
        case measure => simp [intOf]; omega
    · obtain rfl : k = N := by omega
      have hle : l.length ≤ k := by have := HN.out; omega
      go_wp2
      go_ret
      exact ⟨rfl, ⟨c, hc, fun j x hx => hcf j x (by have := (List.getElem?_eq_some_iff.1 hx).1; rw [behind_len] at this; have := HN.out; omega) hx⟩, HB.out⟩

set_option maxRecDepth 100000 in
set_option maxHeartbeats 1600000 in
theorem spareBytes (w : World) (g : Nat) (l : List Int) (h : WideL w g l) (hl : l.length ≤ 1073741824) :
    Calls Tryd.prog 68 #[.slice (some ⟨g, 0, none⟩) l.length (l.length + 64)] w fun e w' => e = .returned (.bool true) ∧ w' = w := by
  have H := Lib.hid h; clear h
  have e1 : wrap64 ((l.length : Int) + 64) = ((l.length + 64 : Nat) : Int) := by unfold wrap64; omega
  have e2 : (l.length : Int) + 64 = ((l.length + 64 : Nat) : Int) := by omega
  obtain ⟨N, hN⟩ : ∃ N, N = l.length + 64 := ⟨_, rfl⟩
  rw [← hN] at e1 e2 ⊢
  have hle : l.length ≤ N := by omega
  have HN := Lib.hid hN; clear hN
  go_enter Tryd.func68, Tryd.ntmps68
  go_wp2
  go_loopw [4] (fun i wr => ∃ k : Nat, l.length ≤ k ∧ k ≤ N ∧ i = .int .i64 k ∧ wr = w) (fun i _ => N - (intOf i).toNat)
  case atStart => exact ⟨l.length, by omega, hle, rfl, rfl⟩
  case round =>
    obtain ⟨k, hk1, hk, rfl, rfl⟩ := hrel
    by_cases hlt : k < N
    · have hcell := H.out.cell (behind_hi hk1 (by have := HN.out; omega))
      have hkk : k ≤ 1073741888 := by have := HN.out; omega
      have hm := wide_mark hkk
      have hm2 : ((279 : Int) + 7 * k + 3) % 256 = (((279 + 7 * k + 3) % 256 : Nat) : Int) := by omega
      generalize (279 + 7 * k + 3) % 256 = x at *
      go_wp2
      go_roundw
      case rel => exact ⟨k + 1, by omega, by omega, by go_num, by trivial⟩
      case measure => simp [intOf]; omega
    · obtain rfl : k = N := by omega
      go_wp2
      go_ret
      exact ⟨rfl, rfl⟩
end By
end Go.Proofs.YtmlniifdipeboaaDoor

namespace Go.Proofs.YtmlniifdipeboaaDoor
open Go Go.RowKit

theorem Tb.lt {w : World} (h : Tb w) : 0 < w.heap.size := by
  unfold Tb Lib.TabIs World.var? at h
  obtain ⟨g, hg, h1⟩ := Option.bind_eq_some_iff.1 h
  obtain rfl : g = 0 := Option.some.inj (hg.symm.trans (by kernel_rfl))
  split at h1
  · rename_i cs T fr hr
    exact row_lt hr
  · simp at h1
theorem Tb.low {B : Nat} {w w' : World} (h : Tb w) (hb : Below B w w') (hB : 0 < B) : Tb w' := by
  unfold Tb Lib.TabIs World.var? at *
  obtain ⟨g, hg, h1⟩ := Option.bind_eq_some_iff.1 h
  refine Option.bind_eq_some_iff.2 ⟨g, hg, ?_⟩
  obtain rfl : g = 0 := Option.some.inj (hg.symm.trans (by kernel_rfl))
  split at h1
  · rename_i cs T fr hr
    rw [hb.block _ hB, hr]
    exact h1
  · simp at h1
set_option maxRecDepth 100000 in
set_option maxHeartbeats 1600000 in
theorem add_ins (w : World) (B gb : Nat) (hv : Value) (vs : List Value) (op : Nat) (a : Int) (va : Option Addr) (n c : Nat) (h : J.Bg B w gb hv vs) (hn : vs.length < 300) :
    Calls Tryd.prog 67 #[.pointer (some ⟨gb, 0, none⟩), .agg #[.int .u8 op, .int .i64 a, .slice va n c]] w fun e w' => e = .returned (.tuple #[]) ∧
      ∃ hv', J.Bg B w' gb hv' (vs ++ [.slice va n c]) ∧ Below B w w' ∧ Keeps (fun b => b ≠ gb ∧ hv.ownBlock ≠ some b) w w' ∧ (∀ g, hv'.ownBlock = some g → hv.ownBlock = some g ∨ w.heap.size ≤ g) := by
  have hb1 := below_alloc w (.cells #[.int .u8 op, .int .i64 a, .slice va n c] 81)
  have hsz := World.size_alloc w (.cells #[.int .u8 op, .int .i64 a, .slice va n c] 81)
  have H1 := Lib.hid (h.on hb1)
  have hBw : B ≤ w.heap.size := Nat.le_trans h.hB (Nat.le_of_lt (row_lt h.row))
  have HB := Lib.hid (And.intro hb1 hsz)
  clear h hb1 hsz
  go_enter Tryd.func67, Tryd.ntmps67
  go_wp2_with fail
  refine (J.add_ints _ B gb hv (.slice va n c) vs H1.out hn ⟨_, _, _, rfl⟩).mono ?_
  rintro e w1 ⟨rfl, hv', h1, h2, h3, h4⟩
  have HX := Lib.hid (And.intro h1 (And.intro h2 (And.intro h3 h4)))
  clear h1 h2 h3 h4
  go_wp2
  exact bodyPost_end (results_none rfl _ _ _) rfl ⟨rfl, hv', HX.out.1, (HB.out.1.mono hBw).trans HX.out.2.1, (Keeps.all _ HB.out.1).trans HX.out.2.2.1, fun g hg => (HX.out.2.2.2 g hg).imp id fun h => by have := HB.out.2; omega⟩

/-- How the loop stands. -/
structure Ld (w : World) (gw gp gb : Nat) (b : List Int) (pl : List Int) (wr : World) (hv : Value) (vs : List Value) (ls : List (List Int)) : Prop where
  bel : Below w.heap.size w wr
  wide : By.WideL wr gw b
  row : wr.heap[gp]? = some (.cells (pl.map (Value.int .i64)).toArray 3 (0, 0))
  bg : J.Bg gb wr gb hv vs
  len : ls.length = vs.length
  own : ∀ (k : Nat) v l, vs[k]? = some v → ls[k]? = some l → wr.ownsRow w.heap.size 3 1 v l.length (l.map (Value.int .i64)) ∧ l.length ≤ 1073741824
  far : ∀ (k : Nat) v g, vs[k]? = some v → v.ownBlock = some g → gb < g ∧ hv.ownBlock ≠ some g
  ne : ∀ (k j : Nat) v u g, vs[k]? = some v → vs[j]? = some u → v.ownBlock = some g → u.ownBlock = some g → j = k
  lo : w.heap.size ≤ gw ∧ gw < gp ∧ gp < gb
section
variable {w wr wy : World} {gw gp gb : Nat} {b pl : List Int} {hv hv' : Value} {vs : List Value} {ls : List (List Int)}
theorem Ld.on (h : Ld w gw gp gb b pl wr hv vs ls) (hb : Below wr.heap.size wr wy) : Ld w gw gp gb b pl wy hv vs ls :=
  ⟨below_next h.bel hb, h.wide.keeps (Keeps.all (fun _ => True) hb) trivial, (hb.block _ (row_lt h.row)).trans h.row, h.bg.on hb, h.len, fun k v l a c => ⟨own_below (h.own k v l a c).1 hb, (h.own k v l a c).2⟩, h.far, h.ne, h.lo⟩
theorem Ld.add (h : Ld w gw gp gb b pl wr hv vs ls) {v : Value} {l : List Int} {B : Nat} (ho : wr.ownsRow B 3 1 v l.length (l.map (Value.int .i64))) (hl : l.length ≤ 1073741824) (hB : gb < B) (hBh : ∀ g, hv.ownBlock = some g → g < B) (hBv : ∀ (k : Nat) u g, vs[k]? = some u → u.ownBlock = some g → g < B)
    (h1 : J.Bg gb wy gb hv' (vs ++ [v])) (h2 : Below gb wr wy) (h3 : Keeps (fun b => b ≠ gb ∧ hv.ownBlock ≠ some b) wr wy) (h4 : ∀ g, hv'.ownBlock = some g → hv.ownBlock = some g ∨ wr.heap.size ≤ g) : Ld w gw gp gb b pl wy hv' (vs ++ [v]) (ls ++ [l]) := by
  have hlo := h.lo
  have hs := h.bel.size
  have hv_lt : ∀ g, v.ownBlock = some g → B ≤ g ∧ g < wr.heap.size := fun g hg => ho.lt g hg
  have hfar : ∀ g, v.ownBlock = some g → gb < g ∧ hv.ownBlock ≠ some g := fun g hg => ⟨by have := hv_lt g hg; omega, fun e => by have := hBh g e; have := hv_lt g hg; omega⟩
  have up : ∀ (k : Nat) u g, vs[k]? = some u → u.ownBlock = some g → g < wr.heap.size := fun k u g hk hg => by
    obtain ⟨m, hm⟩ : ∃ m, ls[k]? = some m := by
      have := (List.getElem?_eq_some_iff.1 hk).1
      exact ⟨ls[k]'(by rw [h.len]; exact this), List.getElem?_eq_getElem _⟩
    exact ((h.own k u m hk hm).1.lt g hg).2
  have last : ∀ (k : Nat) u, (vs ++ [v])[k]? = some u → (k < vs.length ∧ vs[k]? = some u) ∨ (k = vs.length ∧ u = v) := fun k u hk => by
    by_cases hk' : k < vs.length
    · rw [List.getElem?_append_left hk'] at hk; exact .inl ⟨hk', hk⟩
    · rw [List.getElem?_append_right (by omega)] at hk
      have : k - vs.length = 0 := by have := (List.getElem?_eq_some_iff.1 hk).1; simp at this; omega
      rw [this] at hk
      exact .inr ⟨by omega, (Option.some.inj hk).symm⟩
  have hB0 : w.heap.size ≤ B := by omega
  refine ⟨h.bel.trans (h2.mono (by omega)), h.wide.keeps (Keeps.of_below h2) (show gw < gb by omega), (h2.block _ (by omega)).trans h.row, h1, by simp [h.len], fun k u l' hk hl' => ?_, fun k u g hk hg => ?_, fun k j u u' g hk hj hg hg' => ?_, hlo⟩
  · rcases last k u hk with ⟨hlt, hk'⟩ | ⟨rfl, rfl⟩
    · rw [List.getElem?_append_left (by rw [h.len]; exact hlt)] at hl'
      have hx := h.own k u l' hk' hl'
      exact ⟨own_keeps hx.1 h3 fun g hg => by have := h.far k u g hk' hg; exact ⟨by omega, this.2⟩, hx.2⟩
    · rw [List.getElem?_append_right (by rw [h.len]; exact Nat.le_refl _), h.len, Nat.sub_self] at hl'
      obtain rfl := Option.some.inj hl'
      exact ⟨own_keeps (own_base ho hB0) h3 fun g hg => by have := hfar g hg; exact ⟨by omega, this.2⟩, hl⟩
  · rcases last k u hk with ⟨_, hk'⟩ | ⟨_, rfl⟩
    · refine ⟨(h.far k u g hk' hg).1, fun e => ?_⟩
      rcases h4 g e with h5 | h5
      · exact (h.far k u g hk' hg).2 h5
      · have := up k u g hk' hg; omega
    · refine ⟨(hfar g hg).1, fun e => ?_⟩
      rcases h4 g e with h5 | h5
      · exact (hfar g hg).2 h5
      · have := hv_lt g hg; omega
  · rcases last k u hk with ⟨_, hk'⟩ | ⟨hk0, rfl⟩
    · rcases last j u' hj with ⟨_, hj'⟩ | ⟨_, rfl⟩
      · exact h.ne k j u u' g hk' hj' hg hg'
      · have := hBv k u g hk' hg; have := hv_lt g hg'; omega
    · rcases last j u' hj with ⟨_, hj'⟩ | ⟨hj0, _⟩
      · have := hBv j u' g hj' hg'; have := hv_lt g hg; omega
      · omega
theorem Ld.hi (h : Ld w gw gp gb b pl wr hv vs ls) : gb < wr.heap.size ∧ (∀ g, hv.ownBlock = some g → g < wr.heap.size) ∧ (∀ (k : Nat) u g, vs[k]? = some u → u.ownBlock = some g → g < wr.heap.size) := by
  refine ⟨row_lt h.bg.row, fun g hg => (h.bg.own.lt g hg).2, fun k u g hk hg => ?_⟩
  obtain ⟨m, hm⟩ : ∃ m, ls[k]? = some m := by
    have := (List.getElem?_eq_some_iff.1 hk).1
    exact ⟨ls[k]'(by rw [h.len]; exact this), List.getElem?_eq_getElem _⟩
  exact ((h.own k u m hk hm).1.lt g hg).2
end

theorem dec_len (b : List Int) (q : Int) : (decI b q).1.l.length ≤ 16 := by
  have hr : ∀ op p, (rbodyI b p op).1.l.length ≤ 16 := fun op p => by
    unfold rbodyI
    split
    · show (rlistI b _ _).1.length ≤ 16
      rw [rlistI_len]; exact rnumI_le _ _ _ _
    split
    · exact Nat.zero_le _
    split
    · exact Nat.zero_le _
    · exact Nat.zero_le _
  unfold decI
  split
  · exact Nat.zero_le _
  split
  · exact Nat.zero_le _
  split
  · exact Nat.zero_le _
  split
  · exact Nat.zero_le _
  · exact hr _ _
set_option maxRecDepth 100000 in
set_option maxHeartbeats 6400000 in
theorem law_reads04 (w : World) (b : List Int) (v : Value) (p : Int) (hb : Bytes b) (hr : RdI .u8 (· < w.heap.size) w v b) (ht : Tb w) :
    Calls Tryd.prog 16 #[v, .int .i64 p] w fun e w' => e = .returned (.bool true) ∧ Below w.heap.size w w' := by
  have HT := Lib.hid ht; have HR := Lib.hid hr; have HBy := Lib.hid hb
  obtain ⟨va, vc, rfl, hlc⟩ := hr.lenc
  clear ht hr hb
  go_enter Tryd.func16, Tryd.ntmps16
  go_wp2_with fail
  refine (law_works04 _ HT.out).mono ?_
  rintro e w1 ⟨rfl, hb1⟩
  have HB1 := Lib.hid hb1
  have HT1 := Lib.hid (HT.out.bel hb1)
  have HR1 := Lib.hid (HR.out.keeps (Keeps.all _ hb1))
  clear hb1 HT
  by_cases hlen : 1048576 < b.length
  · go_wp2
    go_ret
    exact ⟨rfl, HB1.out⟩
  have hlen' : b.length ≤ 1048576 := by omega
  clear hlen
  go_wp2_with fail
  refine (By.wideBytes _ _ _ b HR1.out (by omega)).mono ?_
  rintro e w2 ⟨rfl, hw2, hb2⟩
  have hpl : ([p, 0, -1, (b.length : Int), (b.length : Int) + 1, 9223372036854775807] : List Int).length = 6 := rfl
  have hb3 := below_alloc w2 (.cells #[.int .i64 p, .int .i64 0, .int .i64 (-1), .int .i64 (b.length : Int), .int .i64 ((b.length : Int) + 1), .int .i64 9223372036854775807] 3)
  have hr3 := heap_alloc_new w2 (.cells #[.int .i64 p, .int .i64 0, .int .i64 (-1), .int .i64 (b.length : Int), .int .i64 ((b.length : Int) + 1), .int .i64 9223372036854775807] 3)
  have hs3 := World.size_alloc w2 (.cells #[.int .i64 p, .int .i64 0, .int .i64 (-1), .int .i64 (b.length : Int), .int .i64 ((b.length : Int) + 1), .int .i64 9223372036854775807] 3)
  have hb4 := below_alloc (w2.alloc (.cells #[.int .i64 p, .int .i64 0, .int .i64 (-1), .int .i64 (b.length : Int), .int .i64 ((b.length : Int) + 1), .int .i64 9223372036854775807] 3)) (.cells #[.slice none 0 0, .slice none 0 0, .slice none 0 0, .slice none 0 0, .slice none 0 0, .slice none 0 0, .slice none 0 0, .slice none 0 0, .slice none 0 0, .slice none 0 0, .slice none 0 0, .slice none 0 0, .slice none 0 0, .slice none 0 0, .slice none 0 0, .slice none 0 0, .slice none 0 0] 70)
  have hr4 := heap_alloc_new (w2.alloc (.cells #[.int .i64 p, .int .i64 0, .int .i64 (-1), .int .i64 (b.length : Int), .int .i64 ((b.length : Int) + 1), .int .i64 9223372036854775807] 3)) (.cells #[.slice none 0 0, .slice none 0 0, .slice none 0 0, .slice none 0 0, .slice none 0 0, .slice none 0 0, .slice none 0 0, .slice none 0 0, .slice none 0 0, .slice none 0 0, .slice none 0 0, .slice none 0 0, .slice none 0 0, .slice none 0 0, .slice none 0 0, .slice none 0 0, .slice none 0 0] 70)
  have hs4 := World.size_alloc (w2.alloc (.cells #[.int .i64 p, .int .i64 0, .int .i64 (-1), .int .i64 (b.length : Int), .int .i64 ((b.length : Int) + 1), .int .i64 9223372036854775807] 3)) (.cells #[.slice none 0 0, .slice none 0 0, .slice none 0 0, .slice none 0 0, .slice none 0 0, .slice none 0 0, .slice none 0 0, .slice none 0 0, .slice none 0 0, .slice none 0 0, .slice none 0 0, .slice none 0 0, .slice none 0 0, .slice none 0 0, .slice none 0 0, .slice none 0 0, .slice none 0 0] 70)
  rw [hs3] at hr4 hs4
  have hbel := below_next hb2 (below_next hb3 hb4)
  have HLd : Hid (Ld w w1.heap.size w2.heap.size (w2.heap.size + 1) b [p, 0, -1, (b.length : Int), (b.length : Int) + 1, 9223372036854775807] ((w2.alloc (.cells #[.int .i64 p, .int .i64 0, .int .i64 (-1), .int .i64 (b.length : Int), .int .i64 ((b.length : Int) + 1), .int .i64 9223372036854775807] 3)).alloc (.cells #[.slice none 0 0, .slice none 0 0, .slice none 0 0, .slice none 0 0, .slice none 0 0, .slice none 0 0, .slice none 0 0, .slice none 0 0, .slice none 0 0, .slice none 0 0, .slice none 0 0, .slice none 0 0, .slice none 0 0, .slice none 0 0, .slice none 0 0, .slice none 0 0, .slice none 0 0] 70)) (.slice none 0 0) [] []) :=
    Lib.hid ⟨below_next HB1.out hbel, hw2.keeps (Keeps.all (fun _ => True) (below_next hb3 hb4)) trivial, (hb4.block _ (row_lt hr3)).trans hr3, ⟨hr4, World.ownsRow_nil _ _ _ _, by simp [Value.ownBlock], Nat.le_refl _⟩, rfl, fun k v l h => by simp at h, fun k v g h => by simp at h, fun k j v u g h => by simp at h, by have := HB1.out.size; have := hw2.lt; omega⟩
  have HT4 := Lib.hid (HT1.out.bel hbel)
  have HTL : Hid (0 < w2.heap.size + 1) := Lib.hid (by have := HT1.out.lt; have := hb2.size; omega)
  have hgw : w1.heap.size < w2.heap.size := hw2.lt
  clear hw2 hb2 hpl hb3 hr3 hs3 hb4 hr4 hs4 hbel HB1 HT1 HR1
  go_wp2_with fail
  generalize (w2.alloc (.cells #[.int .i64 p, .int .i64 0, .int .i64 (-1), .int .i64 (b.length : Int), .int .i64 ((b.length : Int) + 1), .int .i64 9223372036854775807] 3)).alloc (.cells #[.slice none 0 0, .slice none 0 0, .slice none 0 0, .slice none 0 0, .slice none 0 0, .slice none 0 0, .slice none 0 0, .slice none 0 0, .slice none 0 0, .slice none 0 0, .slice none 0 0, .slice none 0 0, .slice none 0 0, .slice none 0 0, .slice none 0 0, .slice none 0 0, .slice none 0 0] 70) = w4 at *
  generalize w2.heap.size + 1 = gb at *
  generalize w2.heap.size = gp at *
  generalize w1.heap.size = gw at *
  generalize hPL : ([p, 0, -1, (b.length : Int), (b.length : Int) + 1, 9223372036854775807] : List Int) = PL at *
  have hPl : PL.length = 6 := by rw [← hPL]; rfl
  clear hPL
  go_loopw [9] (fun i wr => ∃ (k : Nat) (hv : Value) (vs : List Value) (ls : List (List Int)), k ≤ 6 ∧ i = .int .i64 k ∧ vs.length = k ∧ Hid (Tb wr) ∧ Hid (Ld w gw gp gb b PL wr hv vs ls)) (fun i _ => 6 - (intOf i).toNat)
  case atStart => exact ⟨0, _, _, _, by omega, rfl, rfl, HT4, HLd⟩
  case round =>
    obtain ⟨k, hv, vs, ls, hk, rfl, hvl, HTr, HL⟩ := hrel
    by_cases hlt : k < 6
    · obtain ⟨q, hcell⟩ : ∃ q, ∀ wx, Ld w gw gp gb b PL wx hv vs ls → wx.cell? ⟨gp, k, none⟩ = some (.int .i64 q) := ⟨PL[k]'(by omega), fun wx h => row_cell h.row k (by simp [hPl, hlt])⟩
      have HCq := Lib.hid hcell
      have hc := hcell wr HL.out
      have HDc := Lib.hid (instr_Decode (· = gw) wr _ b q HBy.out (HL.out.wide.rd (by omega)) (fun x hx => by rw [hx]; exact HL.out.wide.lt) HTr.out)
      have HDl := Lib.hid (dec_len b q)
      obtain ⟨D, n, z, hD⟩ : ∃ D n z, decI b q = (D, n, z) := ⟨_, _, _, rfl⟩
      have HD := Lib.hid hD
      clear hcell hD
      go_wp2_with fail
      clear hc
      refine HDc.out.mono ?_
      rintro e w5 hd
      obtain ⟨vl, he, ho⟩ := hd.own
      rw [HD.out] at he ho HDl
      subst he
      have HL5 := Lib.hid (HL.out.on hd.bel)
      have HT5 := Lib.hid (HTr.out.bel hd.bel)
      obtain ⟨al, cl, rfl, _⟩ := own_slice ho.2.1
      have hb6 := below_alloc w5 (.cells #[.int .u8 D.op, .int .i64 D.a, .slice al D.l.length cl] 81)
      have hr6 := heap_alloc_new w5 (.cells #[.int .u8 D.op, .int .i64 D.a, .slice al D.l.length cl] 81)
      have HL6 := Lib.hid (HL5.out.on hb6)
      have HT6 := Lib.hid (HT5.out.bel hb6)
      have HO6 := Lib.hid (ho.keeps (Keeps.all _ hb6))
      have HX6 := Lib.hid hr6
      have hc := HCq.out _ HL6.out
      have HS5 := Lib.hid hd.bel.size
      clear hd ho hb6 hr6 HL5 HT5 HDc
      go_wp2_with fail
      clear hc
      generalize w5.alloc (.cells #[.int .u8 D.op, .int .i64 D.a, .slice al D.l.length cl] 81) = w6 at *
      generalize w5.heap.size = gx at *
      refine (ref4_Decode w6 _ b q HBy.out (HR.out.keeps (Keeps.of_below HL6.out.bel)).any).mono ?_
      rintro e w7 hd
      obtain ⟨vl2, he, hr2⟩ := hd.out
      rw [HD.out] at he hr2
      subst he
      obtain ⟨al2, cl2, rfl, _⟩ := hr2.lenc
      have hb8 := below_alloc w7 (.cells #[.int .u8 D.op, .int .i64 D.a, .slice al2 D.l.length cl2] 81)
      have hr8 := heap_alloc_new w7 (.cells #[.int .u8 D.op, .int .i64 D.a, .slice al2 D.l.length cl2] 81)
      have hb68 := below_next hd.bel hb8
      have HL8 := Lib.hid (HL6.out.on hb68)
      have HT8 := Lib.hid (HT6.out.bel hb68)
      have HO8 := Lib.hid (HO6.out.keeps (Keeps.all _ hb68))
      have hx8 := (hb68.block _ (row_lt HX6.out)).trans HX6.out
      have HX8 := Lib.hid hx8
      have HR8 := Lib.hid (hr2.keeps (Keeps.all _ hb8))
      have x0 := row_cell hx8 0 rfl; have x1 := row_cell hx8 1 rfl; have x2 := row_cell hx8 2 rfl
      have y0 := row_cell hr8 0 rfl; have y1 := row_cell hr8 1 rfl; have y2 := row_cell hr8 2 rfl
      simp only [List.getElem_toArray, List.getElem_cons_zero, List.getElem_cons_succ] at x0 x1 x2 y0 y1 y2
      clear hd hr2 hb8 hr8 hb68 hx8 HL6 HT6 HO6 HX6
      go_wp2_with fail
      clear x0 x1 x2 y0 y1 y2
      refine (eqInsQ _ _ _ D _ _ HO8.out.1 HR8.out).mono ?_
      rintro e w9 ⟨rfl, hb9⟩
      have HL9 := Lib.hid (HL8.out.on hb9)
      have HT9 := Lib.hid (HT8.out.bel hb9)
      have HO9 := Lib.hid (HO8.out.keeps (Keeps.all _ hb9))
      have hx9 := (hb9.block _ (row_lt HX8.out)).trans HX8.out
      have x0 := row_cell hx9 0 rfl; have x1 := row_cell hx9 1 rfl; have x2 := row_cell hx9 2 rfl
      simp only [List.getElem_toArray, List.getElem_cons_zero, List.getElem_cons_succ] at x0 x1 x2
      clear hb9 hx9 HL8 HT8 HO8 HX8 HR8
      go_wp2_with fail
      clear x0 x1 x2
      refine (add_ins _ gb gb hv vs D.op D.a al D.l.length cl HL9.out.bg (by omega)).mono ?_
      rintro e w10 ⟨rfl, hv', h1, h2, h3, h4⟩
      have hhi := HL.out.hi
      have HL10 := Lib.hid (HL9.out.add HO9.out.2.1 (by have := HDl.out; omega) hhi.1 hhi.2.1 hhi.2.2 h1 h2 h3 h4)
      have HT10 := Lib.hid (HT9.out.low h2 HTL.out)
      clear h1 h2 h3 h4 hhi
      go_wp2
      go_roundw
      case rel => exact ⟨k + 1, hv', _, _, by omega, by go_num, by simp; omega, HT10, HL10⟩
      case measure => simp [intOf]; omega
    · go_wp2_with fail
      have hlo := HL.out.lo
      have hne : ∀ (k : Nat) v g, vs[k]? = some v → v.ownBlock = some g → g ≠ gb ∧ hv.ownBlock ≠ some g := fun k v g h1 h2 => by have := HL.out.far k v g h1 h2; exact ⟨by omega, this.2⟩
      refine (J.bag_apart _ w.heap.size gb gb hv vs ls HL.out.bg (by omega) HL.out.len (by omega) HL.out.own hne HL.out.ne).mono ?_
      rintro e w5 ⟨rfl, hk5⟩
      have hb5 : Below (gb + 1) wr w5 := hk5.below (by have := HL.out.hi.1; omega) fun x hx k v h1 h2 => by have := (HL.out.far k v x h1 h2).1; omega
      have HW5 := Lib.hid (HL.out.wide.keeps (Keeps.of_below hb5) (show gw < gb + 1 by omega))
      have HB5 := Lib.hid (HL.out.bel.trans (hb5.mono (by omega)))
      have HR5 := Lib.hid (HR.out.keeps (Keeps.of_below HB5.out))
      clear hk5 hb5 hne hlo
      go_wp2_with fail
      refine (eqBytes _ _ _ _ _ _ _ (HW5.out.rd (by omega)) HR5.out).mono ?_
      rintro e w6 ⟨he, m, rfl⟩
      rw [decide_eq_true rfl] at he
      subst he
      have HW6 := Lib.hid (HW5.out.keeps (Keeps.of_drewN (S := fun _ => True) m) trivial)
      go_wp2_with fail
      refine (By.spareBytes _ gw b HW6.out (by omega)).mono ?_
      rintro e w7 ⟨rfl, rfl⟩
      have HB7 := Lib.hid (below_next HB5.out (drewN_below _ m))
      go_wp2
      go_ret
      exact ⟨rfl, HB7.out⟩
end Go.Proofs.YtmlniifdipeboaaDoor
