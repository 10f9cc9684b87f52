/- flagonref00.WideFrames, SpareFrames. -/
import Derived.Test.YthlkckpadjjbdaaDoorWideFr2
namespace Go.Proofs.YthlkckpadjjbdaaDoor
open Go Go.RowKit
set_option linter.unusedSimpArgs false

theorem Tryd.infoFr : (Tryd.prog.info? 66).map (fun i => (i.zero, i.size, i.bytes)) = some (some (.agg #[.int .i64 0, .int .i64 0, .slice none 0 0, .slice none 0 0]), 4, 64) := by kernel_rfl
/-- The four cells of place j. -/
def FVal (S : Nat → Prop) (w : World) (l : List FrameD) (j : Nat) (x y z u : Value) : Prop :=
  (∀ h : j < l.length, x = .int .i64 l[j].fn ∧ y = .int .i64 l[j].pc ∧ ∃ ga gb, S ga ∧ S gb ∧ z = .slice (some ⟨ga, 0, none⟩) l[j].loc.length (l[j].loc.length + 64) ∧ u = .slice (some ⟨gb, 0, none⟩) l[j].stk.length (l[j].stk.length + 64) ∧ Wd.WideL w ga l[j].loc ∧ Wd.WideL w gb l[j].stk) ∧
  (l.length ≤ j → x = .int .i64 0 ∧ y = .int .i64 ((9437184 + j + 1 : Nat) : Int) ∧ z = .slice none 0 0 ∧ u = .slice none 0 0)
theorem FVal.keeps {S T : Nat → Prop} {w w' : World} {l : List FrameD} {j : Nat} {x y z u : Value} (h : FVal S w l j x y z u) (hk : Keeps T w w') (hS : ∀ b, S b → T b) : FVal S w' l j x y z u :=
  ⟨fun hj => by obtain ⟨h1, h2, ga, gb, h3, h4, h5, h6, h7, h8⟩ := h.1 hj; exact ⟨h1, h2, ga, gb, h3, h4, h5, h6, h7.keeps hk (hS ga h3), h8.keeps hk (hS gb h4)⟩, h.2⟩
theorem FVal.mono {S T : Nat → Prop} {w : World} {l : List FrameD} {j : Nat} {x y z u : Value} (h : FVal S w l j x y z u) (hS : ∀ b, S b → T b) : FVal T w l j x y z u :=
  ⟨fun hj => by obtain ⟨h1, h2, ga, gb, h3, h4, h5, h6, h7, h8⟩ := h.1 hj; exact ⟨h1, h2, ga, gb, hS ga h3, hS gb h4, h5, h6, h7, h8⟩, h.2⟩
def FAt (S : Nat → Prop) (w : World) (c : Array Value) (l : List FrameD) (j : Nat) : Prop :=
  ∃ x y z u, c[j * 4]? = some x ∧ c[j * 4 + 1]? = some y ∧ c[j * 4 + 2]? = some z ∧ c[j * 4 + 3]? = some u ∧ FVal S w l j x y z u
theorem FAt.keeps {S T : Nat → Prop} {w w' : World} {c : Array Value} {l : List FrameD} {j : Nat} (h : FAt S w c l j) (hk : Keeps T w w') (hS : ∀ b, S b → T b) : FAt S w' c l j := by
  obtain ⟨x, y, z, u, h0, h1, h2, h3, h4⟩ := h
  exact ⟨x, y, z, u, h0, h1, h2, h3, h4.keeps hk hS⟩
def set4 (c : Array Value) (k : Nat) (x y z u : Value) : Array Value := (((c.setIfInBounds (k * 4) x).setIfInBounds (k * 4 + 1) y).setIfInBounds (k * 4 + 2) z).setIfInBounds (k * 4 + 3) u
theorem set4_at {c : Array Value} {k : Nat} (h : k * 4 + 3 < c.size) (x y z u : Value) :
    (set4 c k x y z u)[k * 4]? = some x ∧ (set4 c k x y z u)[k * 4 + 1]? = some y ∧ (set4 c k x y z u)[k * 4 + 2]? = some z ∧ (set4 c k x y z u)[k * 4 + 3]? = some u := by
  unfold set4
  refine ⟨?_, ?_, ?_, ?_⟩
  · rw [Array.getElem?_setIfInBounds_ne (by omega), Array.getElem?_setIfInBounds_ne (by omega), Array.getElem?_setIfInBounds_ne (by omega), Array.getElem?_setIfInBounds_self_of_lt (by omega)]
  · rw [Array.getElem?_setIfInBounds_ne (by omega), Array.getElem?_setIfInBounds_ne (by omega), Array.getElem?_setIfInBounds_self_of_lt (by simp; omega)]
  · rw [Array.getElem?_setIfInBounds_ne (by omega), Array.getElem?_setIfInBounds_self_of_lt (by simp; omega)]
  · rw [Array.getElem?_setIfInBounds_self_of_lt (by simp; omega)]
theorem set4_ne {c : Array Value} {k m : Nat} (x y z u : Value) (h : m < k * 4 ∨ k * 4 + 3 < m) : (set4 c k x y z u)[m]? = c[m]? := by
  unfold set4
  rw [Array.getElem?_setIfInBounds_ne (by omega), Array.getElem?_setIfInBounds_ne (by omega), Array.getElem?_setIfInBounds_ne (by omega), Array.getElem?_setIfInBounds_ne (by omega)]
/-- The block g holds the frames l and the marks behind them. -/
def WideFrs (S : Nat → Prop) (w : World) (g : Nat) (l : List FrameD) : Prop :=
  ∃ c : Array Value, w.heap[g]? = some (.cells c 66 (0, 0)) ∧ ∀ j, j < l.length + 64 → FAt S w c l j
theorem WideFrs.keeps {S T : Nat → Prop} {w w' : World} {g : Nat} {l : List FrameD} (h : WideFrs S w g l) (hk : Keeps T w w') (hg : T g) (hS : ∀ b, S b → T b) : WideFrs S w' g l := by
  obtain ⟨c, h1, h2⟩ := h
  exact ⟨c, (hk.block g (row_lt h1) hg).trans h1, fun j hj => (h2 j hj).keeps hk hS⟩
theorem WideFrs.lt {S : Nat → Prop} {w : World} {g : Nat} {l : List FrameD} (h : WideFrs S w g l) : g < w.heap.size := by obtain ⟨c, h1, _⟩ := h; exact row_lt h1
theorem four_at {P : Nat → Option Value → Prop} {x y z u : Value} (h0 : P 0 (some x)) (h1 : P 1 (some y)) (h2 : P 2 (some z)) (h3 : P 3 (some u)) : ∀ (i : Nat) (_ : i < 4), P i [x, y, z, u][i]? := by
  intro i h
  match i, h with
  | 0, _ => exact h0
  | 1, _ => exact h1
  | 2, _ => exact h2
  | 3, _ => exact h3
theorem WideFrs.rd {S : Nat → Prop} {w : World} {g : Nat} {l : List FrameD} (h : WideFrs S w g l) (hl : l.length ≤ 1073741824) (hll : ∀ j (h : j < l.length), l[j].loc.length ≤ 1073741824 ∧ l[j].stk.length ≤ 1073741824) : RdFrames (fun _ => True) w (.slice (some ⟨g, 0, none⟩) l.length (l.length + 64)) l := by
  obtain ⟨c, h1, h2⟩ := h
  refine ⟨_, _, rfl, by omega, by omega, fun j hj => ?_⟩
  obtain ⟨x, y, z, u, q0, q1, q2, q3, hv⟩ := h2 j (by omega)
  obtain ⟨rfl, rfl, ga, gb, _, _, rfl, rfl, hwa, hwb⟩ := hv.1 hj
  exact ⟨g, 0, [.int .i64 l[j].fn, .int .i64 l[j].pc, .slice (some ⟨ga, 0, none⟩) l[j].loc.length (l[j].loc.length + 64), .slice (some ⟨gb, 0, none⟩) l[j].stk.length (l[j].stk.length + 64)], rfl, trivial, rfl, four_at (P := fun i v => w.cell? ⟨g, 0 + j * 4 + i, none⟩ = v) (row_cell h1 _ (by rw [Nat.zero_add]; exact q0)) (row_cell h1 _ (by rw [Nat.zero_add]; exact q1)) (row_cell h1 _ (by rw [Nat.zero_add]; exact q2)) (row_cell h1 _ (by rw [Nat.zero_add]; exact q3)),
    _, _, rfl, (hwa.rd (by have := hll j hj; omega)).mono fun _ _ _ => trivial, (hwb.rd (by have := hll j hj; omega)).mono fun _ _ _ => trivial⟩
/-- WideFrames' loop, at k. -/
structure WF (w : World) (g N : Nat) (l : List FrameD) (k : Nat) (wr : World) : Prop where
  bel : Below w.heap.size w wr
  lo : w.heap.size ≤ g
  row : ∃ c : Array Value, wr.heap[g]? = some (.cells c 66 (0, 0)) ∧ c.size = N * 4 ∧ ∀ j, j < k → FAt (g < ·) wr c l j
theorem WF.next {w wr wy : World} {g N k : Nat} {l : List FrameD} (h : WF w g N l k wr) (hk : k < N) (hb : Below wr.heap.size wr wy) (x y z u : Value) (hv : FVal (g < ·) wy l k x y z u) :
    WF w g N l (k + 1) ((((wy.setCell ⟨g, k * 4, none⟩ x).setCell ⟨g, k * 4 + 1, none⟩ y).setCell ⟨g, k * 4 + 2, none⟩ z).setCell ⟨g, k * 4 + 3, none⟩ u) := by
  obtain ⟨c, r1, r2, r3⟩ := h.row
  have hb' := below_next h.bel hb
  have r1' := (hb.block _ (row_lt r1)).trans r1
  have hkp : Keeps (fun b => b ≠ g) wy ((((wy.setCell ⟨g, k * 4, none⟩ x).setCell ⟨g, k * 4 + 1, none⟩ y).setCell ⟨g, k * 4 + 2, none⟩ z).setCell ⟨g, k * 4 + 3, none⟩ u) :=
    ((((Keeps.refl _ wy).setCell (a := ⟨g, k * 4, none⟩) (by simp) _).setCell (a := ⟨g, k * 4 + 1, none⟩) (by simp) _).setCell (a := ⟨g, k * 4 + 2, none⟩) (by simp) _).setCell (a := ⟨g, k * 4 + 3, none⟩) (by simp) _
  refine ⟨(((hb'.setCell (p := ⟨g, k * 4, none⟩) h.lo _).setCell (p := ⟨g, k * 4 + 1, none⟩) h.lo _).setCell (p := ⟨g, k * 4 + 2, none⟩) h.lo _).setCell (p := ⟨g, k * 4 + 3, none⟩) h.lo _, h.lo, set4 c k x y z u, row_setCell (row_setCell (row_setCell (row_setCell r1' _ x) _ y) _ z) _ u, by simpa [set4] using r2, fun j hj => ?_⟩
  by_cases e : j = k
  · subst e
    obtain ⟨s0, s1, s2, s3⟩ := set4_at (c := c) (k := j) (by omega) x y z u
    exact ⟨x, y, z, u, s0, s1, s2, s3, hv.keeps hkp fun b hb => by omega⟩
  · obtain ⟨x', y', z', u', q0, q1, q2, q3, hv'⟩ := r3 j (by omega)
    exact ⟨x', y', z', u', by rw [set4_ne _ _ _ _ (by omega)]; exact q0, by rw [set4_ne _ _ _ _ (by omega)]; exact q1, by rw [set4_ne _ _ _ _ (by omega)]; exact q2, by rw [set4_ne _ _ _ _ (by omega)]; exact q3, (hv'.keeps (Keeps.all (fun _ => True) hb) fun _ _ => trivial).keeps hkp fun b hb => by omega⟩
set_option maxRecDepth 100000 in
set_option maxHeartbeats 3200000 in
theorem wideFrames (w : World) (S) (v : Value) (l : List FrameD) (hr : RdFrames S w v l) (hl : l.length ≤ 1048576) (hll : ∀ j (h : j < l.length), l[j].loc.length ≤ 1048576 ∧ l[j].stk.length ≤ 1048576) :
    Calls Tryd.prog 22 #[v] w fun e w' => e = .returned (.slice (some ⟨w.heap.size, 0, none⟩) l.length (l.length + 64)) ∧ WideFrs (w.heap.size < ·) w' w.heap.size l ∧ Below w.heap.size w w' := by
  obtain ⟨i0, hi, hz0, hz1, hz2⟩ := info_parts Tryd.infoFr
  have HLL := Lib.hid hll
  have HL := Lib.hid hr
  obtain ⟨va, vc, rfl, hlc⟩ := hr.len
  clear hr hll
  have e1 : wrap64 ((l.length : Int) + 64) = ((l.length + 64 : Nat) : Int) := by unfold wrap64; omega
  have e2 : (l.length : Int) + 64 = ((l.length + 64 : Nat) : Int) := by omega
  obtain ⟨N, hN⟩ : ∃ N, N = l.length + 64 := ⟨_, rfl⟩
  rw [← hN] at e1 e2 ⊢
  have HN := Lib.hid hN; clear hN
  go_enter Tryd.func22, Tryd.ntmps22
  go_wp2_with (at_make; refine wpList_make_full _ rfl _ _ 22 rfl w.heap.size 66 i0 (.agg #[.int .i64 0, .int .i64 0, .slice none 0 0, .slice none 0 0]) 4 Tryd.underlying22 hi hz0 hz1 _ _ _ _ N rfl rfl rfl rfl ?b1 ?b2 (Nat.le_refl _) ?_)
  case b1 => rw [hz2, HN.out]; omega
  case b2 => rw [HN.out]; unfold maxLen; omega
  intro w1 hown hgrow
  have hb1 : Below w.heap.size w w1 := (Below.refl _ _).grown hgrow (Nat.le_refl _) (fun k hk => by cases hk)
  have HW : Hid (WF w w.heap.size N l 0 w1) := Lib.hid ⟨hb1, Nat.le_refl _, by
    rcases hown.2 with ⟨h, _⟩ | ⟨g, cap, cur, e, _, hg, _, _, hs, _⟩
    · simp at h
    · simp only [Value.slice.injEq, Option.some.injEq, Addr.mk.injEq, and_true, true_and] at e
      obtain ⟨rfl, rfl⟩ := e
      exact ⟨cur, hg, hs, fun j hj => absurd hj (by omega)⟩⟩
  clear hown hgrow hb1
  go_wp2
  go_loopw [4] (fun i wr => ∃ k : Nat, k ≤ N ∧ i = .int .i64 k ∧ Hid (WF w w.heap.size N l k wr)) (fun i _ => N - (intOf i).toNat)
  case atStart => exact ⟨0, by omega, rfl, HW⟩
  case round =>
    obtain ⟨k, hk, rfl, HWk⟩ := hrel
    clear HW
    by_cases hlt : k < N
    · have HCL : Hid (∀ wy, Below wr.heap.size wr wy → ∃ u0 u1 u2 u3, (wy.cell? ⟨w.heap.size, k * 4, none⟩ = some u0 ∧ wy.cell? ⟨w.heap.size, k * 4 + 1, none⟩ = some u1 ∧ wy.cell? ⟨w.heap.size, k * 4 + 2, none⟩ = some u2 ∧ wy.cell? ⟨w.heap.size, k * 4 + 3, none⟩ = some u3) ∧ (wy.frozen? ⟨w.heap.size, k * 4, none⟩ = false ∧ wy.frozen? ⟨w.heap.size, k * 4 + 1, none⟩ = false ∧ wy.frozen? ⟨w.heap.size, k * 4 + 2, none⟩ = false ∧ wy.frozen? ⟨w.heap.size, k * 4 + 3, none⟩ = false)) := Lib.hid fun wy hb => by
        obtain ⟨c, r1, r2, _⟩ := HWk.out.row
        have r1' := (hb.block _ (row_lt r1)).trans r1
        exact ⟨_, _, _, _, ⟨row_cell r1' _ (Array.getElem?_eq_getElem (by omega)), row_cell r1' _ (Array.getElem?_eq_getElem (by omega)), row_cell r1' _ (Array.getElem?_eq_getElem (by omega)), row_cell r1' _ (Array.getElem?_eq_getElem (by omega))⟩, row_free r1' _, row_free r1' _, row_free r1' _, row_free r1' _⟩
      by_cases h1 : k < l.length
      · obtain ⟨_, _, ee, _, _, rr⟩ := HL.out.keeps (Keeps.all _ HWk.out.bel)
        obtain ⟨b, o, cs, ea, _, hn4, hcell, lv, sv, rfl, hrl, hrs⟩ := rr k h1
        rw [← (Value.slice.inj ee).1] at ea
        subst ea
        have x0 := hcell 0 (by omega); have x1 := hcell 1 (by omega); have x2 := hcell 2 (by omega); have x3 := hcell 3 (by omega)
        simp at x0 x1 x2 x3
        clear ee rr hcell hn4
        have HW0 := Lib.hid (wideFrame wr l[k].fn l[k].pc lv sv l[k].loc l[k].stk (hrl.mono fun _ _ _ => trivial) (hrs.mono fun _ _ _ => trivial) (by have := HLL.out k h1; omega) (by have := HLL.out k h1; omega))
        have HX : Hid (∀ wy ga gb, w.heap.size < ga → w.heap.size < gb → Wd.WideL wy ga l[k].loc → Wd.WideL wy gb l[k].stk → FVal (w.heap.size < ·) wy l k (.int .i64 l[k].fn) (.int .i64 l[k].pc) (.slice (some ⟨ga, 0, none⟩) l[k].loc.length (l[k].loc.length + 64)) (.slice (some ⟨gb, 0, none⟩) l[k].stk.length (l[k].stk.length + 64))) := Lib.hid fun wy ga gb hga hgb hwa hwb => ⟨fun _ => ⟨rfl, rfl, ga, gb, hga, hgb, rfl, rfl, hwa, hwb⟩, fun h => absurd h (by omega)⟩
        have HG : Hid (w.heap.size < wr.heap.size) := Lib.hid (by obtain ⟨c, r1, _, _⟩ := HWk.out.row; exact row_lt r1)
        clear hrl hrs
        generalize l[k] = f at *
        obtain ⟨ffn, fpc, floc, fstk⟩ := f
        go_wp2_with fail
        refine HW0.out.mono ?_
        rintro e w5 ⟨ga, gb, rfl, hwa, hwb, hga, hgb, hb5⟩
        obtain ⟨u0, u1, u2, u3, ⟨q0, q1, q2, q3⟩, f0, f1, f2, f3⟩ := HCL.out w5 hb5
        have HNX := Lib.hid (HWk.out.next hlt hb5 _ _ _ _ (HX.out w5 ga gb (by have := HG.out; omega) (by have := HG.out; omega) hwa hwb))
        clear hwa hwb hga hgb hb5 x0 x1 x2 x3 HCL HX HW0
        go_wp2
        go_roundw
        case rel => exact ⟨k + 1, by omega, by go_num, HNX⟩
        case measure => simp [intOf]; omega
      · have hnum := ref_num wr 9 k (by omega) (by have := HN.out; omega)
        rw [show 1048576 * 9 + k + 1 = 9437184 + k + 1 by omega] at hnum
        have HM := Lib.hid hnum; clear hnum
        have HNX := Lib.hid (HWk.out.next hlt (Below.refl _ _) (.int .i64 0) (.int .i64 ((9437184 + k + 1 : Nat) : Int)) (.slice none 0 0) (.slice none 0 0) ⟨fun hk => absurd hk h1, fun _ => ⟨rfl, rfl, rfl, rfl⟩⟩)
        obtain ⟨u0, u1, u2, u3, ⟨q0, q1, q2, q3⟩, f0, f1, f2, f3⟩ := HCL.out wr (Below.refl _ _)
        clear HCL
        generalize 9437184 + k + 1 = x at *
        go_wp2_with fail
        refine HM.out.mono ?_
        rintro e w' ⟨rfl, rfl⟩
        go_wp2
        go_roundw
        case rel => exact ⟨k + 1, by omega, by go_num, HNX⟩
        case measure => simp [intOf]; omega
    · obtain rfl : k = N := by omega
      have hle : l.length ≤ k := by have := HN.out; omega
      go_wp2
      go_ret
      obtain ⟨c, r1, r2, r3⟩ := HWk.out.row
      exact ⟨rfl, ⟨c, r1, fun j hj => r3 j (by have := HN.out; omega)⟩, HWk.out.bel⟩
end Go.Proofs.YthlkckpadjjbdaaDoor
