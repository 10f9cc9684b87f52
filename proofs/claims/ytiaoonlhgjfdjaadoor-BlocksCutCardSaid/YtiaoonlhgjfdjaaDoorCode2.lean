/- flagonref00.WideCode. -/
import Derived.Test.YtiaoonlhgjfdjaaDoorCode
namespace Go.Proofs.YtiaoonlhgjfdjaaDoor
open Go Go.RowKit

theorem Tryd.infoIns : (Tryd.prog.info? 74).map (fun i => (i.zero, i.size, i.bytes)) = some (some (.agg #[.int .u8 0, .int .i64 0, .slice none 0 0]), 3, 40) := by kernel_rfl
/-- Place j of a code that is handed in, and of the marks behind it. -/
def Ent (S : Nat → Prop) (w : World) (c : Array Value) (l : List InsD) (j : Nat) : Prop :=
  (∀ h : j < l.length, ∃ gk, S gk ∧ c[j * 3]? = some (.int .u8 l[j].op) ∧ c[j * 3 + 1]? = some (.int .i64 l[j].a) ∧ c[j * 3 + 2]? = some (.slice (some ⟨gk, 0, none⟩) l[j].l.length (l[j].l.length + 64)) ∧ WideL w gk l[j].l) ∧
  (l.length ≤ j → c[j * 3]? = some (.int .u8 0) ∧ c[j * 3 + 1]? = some (.int .i64 ((9437184 + j + 1 : Nat) : Int)) ∧ c[j * 3 + 2]? = some (.slice none 0 0))
theorem Ent.keeps {S T : Nat → Prop} {w w' : World} {c : Array Value} {l : List InsD} {j : Nat} (h : Ent S w c l j) (hk : Keeps T w w') (hS : ∀ b, S b → T b) : Ent S w' c l j :=
  ⟨fun hj => by obtain ⟨gk, h1, h2, h3, h4, h5⟩ := h.1 hj; exact ⟨gk, h1, h2, h3, h4, h5.keeps hk (hS gk h1)⟩, h.2⟩
theorem Ent.set {S : Nat → Prop} {w : World} {c : Array Value} {l : List InsD} {j k : Nat} (h : Ent S w c l j) (hk : j ≠ k) (x y z : Value) : Ent S w (((c.setIfInBounds (k * 3) x).setIfInBounds (k * 3 + 1) y).setIfInBounds (k * 3 + 2) z) l j := by
  have e : ∀ m, m ≠ k * 3 → m ≠ k * 3 + 1 → m ≠ k * 3 + 2 → (((c.setIfInBounds (k * 3) x).setIfInBounds (k * 3 + 1) y).setIfInBounds (k * 3 + 2) z)[m]? = c[m]? := fun m h0 h1 h2 => by
    rw [Array.getElem?_setIfInBounds_ne (Ne.symm h2), Array.getElem?_setIfInBounds_ne (Ne.symm h1), Array.getElem?_setIfInBounds_ne (Ne.symm h0)]
  have e0 := e (j * 3) (by omega) (by omega) (by omega); have e1 := e (j * 3 + 1) (by omega) (by omega) (by omega); have e2 := e (j * 3 + 2) (by omega) (by omega) (by omega)
  unfold Ent
  rw [e0, e1, e2]
  exact h
theorem set3_at {c : Array Value} {k : Nat} (h : k * 3 + 2 < c.size) (x y z : Value) :
    (((c.setIfInBounds (k * 3) x).setIfInBounds (k * 3 + 1) y).setIfInBounds (k * 3 + 2) z)[k * 3]? = some x ∧ (((c.setIfInBounds (k * 3) x).setIfInBounds (k * 3 + 1) y).setIfInBounds (k * 3 + 2) z)[k * 3 + 1]? = some y ∧ (((c.setIfInBounds (k * 3) x).setIfInBounds (k * 3 + 1) y).setIfInBounds (k * 3 + 2) z)[k * 3 + 2]? = some z := by
  refine ⟨?_, ?_, ?_⟩
  · rw [Array.getElem?_setIfInBounds_ne (by omega), Array.getElem?_setIfInBounds_ne (by omega), Array.getElem?_setIfInBounds_self_of_lt (by omega)]
  · rw [Array.getElem?_setIfInBounds_ne (by omega), Array.getElem?_setIfInBounds_self_of_lt (by simp; omega)]
  · rw [Array.getElem?_setIfInBounds_self_of_lt (by simp; omega)]
/-- The block g holds the code l and the marks behind it. -/
def WideCd (S : Nat → Prop) (w : World) (g : Nat) (l : List InsD) : Prop :=
  ∃ c : Array Value, w.heap[g]? = some (.cells c 74 (0, 0)) ∧ c.size = (l.length + 64) * 3 ∧ ∀ j, j < l.length + 64 → Ent S w c l j
theorem WideCd.keeps {S T : Nat → Prop} {w w' : World} {g : Nat} {l : List InsD} (h : WideCd S w g l) (hk : Keeps T w w') (hg : T g) (hS : ∀ b, S b → T b) : WideCd S w' g l := by
  obtain ⟨c, h1, h2, h3⟩ := h
  exact ⟨c, (hk.block g (row_lt h1) hg).trans h1, h2, fun j hj => (h3 j hj).keeps hk hS⟩
theorem WideCd.lt {S : Nat → Prop} {w : World} {g : Nat} {l : List InsD} (h : WideCd S w g l) : g < w.heap.size := by obtain ⟨c, h1, _⟩ := h; exact row_lt h1
theorem three_at {P : Nat → Option Value → Prop} {x y z : Value} (h0 : P 0 (some x)) (h1 : P 1 (some y)) (h2 : P 2 (some z)) : ∀ (i : Nat) (_ : i < 3), P i [x, y, z][i]? := by
  intro i h
  match i, h with
  | 0, _ => exact h0
  | 1, _ => exact h1
  | 2, _ => exact h2
theorem WideCd.cd {S : Nat → Prop} {w : World} {g : Nat} {l : List InsD} (h : WideCd S w g l) (hl : l.length ≤ 1073741824) (hll : ∀ j (h : j < l.length), l[j].l.length ≤ 1073741824) : Cd w (.slice (some ⟨g, 0, none⟩) l.length (l.length + 64)) l := by
  obtain ⟨c, h1, h2, h3⟩ := h
  refine ⟨_, _, rfl, by omega, by omega, fun j hj => ?_⟩
  obtain ⟨gk, hs, k0, k1, k2, hw⟩ := (h3 j (by omega)).1 hj
  exact ⟨g, 0, [.int .u8 l[j].op, .int .i64 l[j].a, .slice (some ⟨gk, 0, none⟩) l[j].l.length (l[j].l.length + 64)], rfl, row_lt h1, rfl, three_at (P := fun i u => w.cell? ⟨g, 0 + j * 3 + i, none⟩ = u) (row_cell h1 _ (by rw [Nat.zero_add]; exact k0)) (row_cell h1 _ (by rw [Nat.zero_add]; exact k1)) (row_cell h1 _ (by rw [Nat.zero_add]; exact k2)), _, rfl, (hw.rd (by have := hll j hj; omega)).mono fun b hb e => hb⟩
/-- WideCode's loop, at k. -/
structure WC (w : World) (g N : Nat) (l : List InsD) (k : Nat) (wr : World) : Prop where
  bel : Below w.heap.size w wr
  lo : w.heap.size ≤ g
  row : ∃ c : Array Value, wr.heap[g]? = some (.cells c 74 (0, 0)) ∧ c.size = N * 3 ∧ ∀ j, j < k → Ent (g < ·) wr c l j
theorem WC.next {w wr wy : World} {g N k : Nat} {l : List InsD} (h : WC w g N l k wr) (hk : k < N) (hb : Below wr.heap.size wr wy) (x y z : Value)
    (h1 : ∀ hk : k < l.length, x = .int .u8 l[k].op ∧ y = .int .i64 l[k].a ∧ ∃ gk, g < gk ∧ z = .slice (some ⟨gk, 0, none⟩) l[k].l.length (l[k].l.length + 64) ∧ WideL wy gk l[k].l)
    (h2 : l.length ≤ k → x = .int .u8 0 ∧ y = .int .i64 ((9437184 + k + 1 : Nat) : Int) ∧ z = .slice none 0 0) :
    WC w g N l (k + 1) (((wy.setCell ⟨g, k * 3, none⟩ x).setCell ⟨g, k * 3 + 1, none⟩ y).setCell ⟨g, k * 3 + 2, none⟩ z) := by
  obtain ⟨c, r1, r2, r3⟩ := h.row
  have hb' := below_next h.bel hb
  have r1' := (hb.block _ (row_lt r1)).trans r1
  have hsz : k * 3 + 2 < c.size := by omega
  have hkp : Keeps (fun b => b ≠ g) wy (((wy.setCell ⟨g, k * 3, none⟩ x).setCell ⟨g, k * 3 + 1, none⟩ y).setCell ⟨g, k * 3 + 2, none⟩ z) :=
    (((Keeps.refl _ wy).setCell (a := ⟨g, k * 3, none⟩) (by simp) _).setCell (a := ⟨g, k * 3 + 1, none⟩) (by simp) _).setCell (a := ⟨g, k * 3 + 2, none⟩) (by simp) _
  refine ⟨((hb'.setCell (p := ⟨g, k * 3, none⟩) h.lo _).setCell (p := ⟨g, k * 3 + 1, none⟩) h.lo _).setCell (p := ⟨g, k * 3 + 2, none⟩) h.lo _, h.lo, _, row_setCell (row_setCell (row_setCell r1' _ x) _ y) _ z, by simpa using r2, fun j hj => ?_⟩
  obtain ⟨s0, s1, s2⟩ := set3_at hsz x y z
  by_cases e : j = k
  · subst e
    refine ⟨fun hl => ?_, fun hl => ?_⟩
    · obtain ⟨rfl, rfl, gk, hg, rfl, hw⟩ := h1 hl
      exact ⟨gk, hg, s0, s1, s2, hw.keeps hkp (by omega)⟩
    · obtain ⟨rfl, rfl, rfl⟩ := h2 hl
      exact ⟨s0, s1, s2⟩
  · exact ((((r3 j (by omega)).keeps (Keeps.all (fun _ => True) hb) fun _ _ => trivial).keeps hkp fun b hb => by omega).set e x y z)
theorem ins_zero (n : Nat) : (madeCells (Value.cells (.agg #[.int .u8 0, .int .i64 0, .slice none 0 0])) (n * 3)).size = n * 3 := by simp [madeCells]
set_option maxRecDepth 100000 in
set_option maxHeartbeats 3200000 in
theorem wideCode (w : World) (v : Value) (l : List InsD) (hc : Cd w v l) (hl : l.length ≤ 1048576) (hll : ∀ j (h : j < l.length), l[j].l.length ≤ 1048576) :
    Calls Tryd.prog 8 #[v] w fun e w' => e = .returned (.slice (some ⟨w.heap.size, 0, none⟩) l.length (l.length + 64)) ∧ WideCd (w.heap.size < ·) w' w.heap.size l ∧ Below w.heap.size w w' := by
  obtain ⟨i0, hi, hz0, hz1, hz2⟩ := info_parts Tryd.infoIns
  have HL := Lib.hid hc
  have HLL := Lib.hid hll
  obtain ⟨va, vc, rfl, hlc⟩ := hc.len
  clear hc hll
  have e1 : wrap64 ((l.length : Int) + 64) = ((l.length + 64 : Nat) : Int) := by unfold wrap64; omega
  have e2 : (l.length : Int) + 64 = ((l.length + 64 : Nat) : Int) := by omega
  obtain ⟨N, hN⟩ : ∃ N, N = l.length + 64 := ⟨_, rfl⟩
  rw [← hN] at e1 e2 ⊢
  have HN := Lib.hid hN; clear hN
  go_enter Tryd.func8, Tryd.ntmps8
  go_wp2_with (at_make; refine wpList_make_full _ rfl _ _ 22 rfl w.heap.size 74 i0 (.agg #[.int .u8 0, .int .i64 0, .slice none 0 0]) 3 Tryd.underlying22 hi hz0 hz1 _ _ _ _ N rfl rfl rfl rfl ?b1 ?b2 (Nat.le_refl _) ?_)
  case b1 => rw [hz2, HN.out]; omega
  case b2 => rw [HN.out]; unfold maxLen; omega
  intro w1 hown hgrow
  have hb1 : Below w.heap.size w w1 := (Below.refl _ _).grown hgrow (Nat.le_refl _) (fun k hk => by cases hk)
  have HW : Hid (WC w w.heap.size N l 0 w1) := Lib.hid ⟨hb1, Nat.le_refl _, by
    rcases hown.2 with ⟨h, _⟩ | ⟨g, cap, cur, e, _, hg, _, _, hs, _⟩
    · simp at h
    · simp only [Value.slice.injEq, Option.some.injEq, Addr.mk.injEq, and_true, true_and] at e
      obtain ⟨rfl, rfl⟩ := e
      exact ⟨cur, hg, hs, fun j hj => absurd hj (by omega)⟩⟩
  clear hown hgrow hb1
  go_wp2
  go_loopw [4] (fun i wr => ∃ k : Nat, k ≤ N ∧ i = .int .i64 k ∧ Hid (WC w w.heap.size N l k wr)) (fun i _ => N - (intOf i).toNat)
  case atStart => exact ⟨0, by omega, rfl, HW⟩
  case round =>
    obtain ⟨k, hk, rfl, HWk⟩ := hrel
    clear HW
    by_cases hlt : k < N
    · by_cases h1 : k < l.length
      · obtain ⟨b, off, vl, rfl, x0, x1, x2, hrl⟩ := Cd.at_ (Cd.bel HL.out HWk.out.bel) h1
        have HW0 := Lib.hid (wideIns wr _ l[k].op l[k].a vl l[k].l hrl (by have := HLL.out k h1; omega))
        have HB0 := Lib.hid HWk.out.bel.size
        clear hrl
        generalize hop : l[k].op = op at *
        generalize hxa : l[k].a = xa at *
        generalize hxl : l[k].l = xl at *
        have HX := Lib.hid (And.intro hop (And.intro hxa hxl))
        clear hop hxa hxl
        go_wp2_with fail
        refine HW0.out.mono ?_
        rintro e w5 ⟨gk, rfl, hwl, hgk, hb5⟩
        have HK := Lib.hid (And.intro hwl (And.intro hgk hb5))
        obtain ⟨c, r1, r2, _⟩ := HWk.out.row
        have r1' := (hb5.block _ (row_lt r1)).trans r1
        have u : ∀ j, j < c.size → ∃ u, w5.cell? ⟨w.heap.size, j, none⟩ = some u := fun j hj => ⟨_, row_cell r1' j (Array.getElem?_eq_getElem hj)⟩
        obtain ⟨u0, q0⟩ := u (k * 3) (by omega); obtain ⟨u1, q1⟩ := u (k * 3 + 1) (by omega); obtain ⟨u2, q2⟩ := u (k * 3 + 2) (by omega)
        have f0 := row_free r1' (k * 3); have f1 := row_free r1' (k * 3 + 1); have f2 := row_free r1' (k * 3 + 2)
        have HNX := Lib.hid (HWk.out.next hlt hb5 (.int .u8 op) (.int .i64 xa) (.slice (some ⟨gk, 0, none⟩) xl.length (xl.length + 64)) (fun hk => by
          obtain ⟨a1, a2, a3⟩ := HX.out
          rw [a1, a2, a3]
          exact ⟨rfl, rfl, gk, by have := HB0.out; have := row_lt r1; omega, rfl, hwl⟩) (fun h => absurd h (by omega)))
        clear hwl hgk hb5 r1 r1' r2 u x0 x1 x2
        go_wp2
        go_roundw
        case rel => exact ⟨k + 1, by omega, by go_num, HNX⟩
        case measure => simp [intOf]; omega
      · have hnum := ref_num wr 9 k (by omega) (by have := HN.out; omega)
        rw [show 1048576 * 9 + k + 1 = 9437184 + k + 1 by omega] at hnum
        have HM := Lib.hid hnum; clear hnum
        have HNX := Lib.hid (HWk.out.next hlt (Below.refl _ _) (.int .u8 0) (.int .i64 ((9437184 + k + 1 : Nat) : Int)) (.slice none 0 0) (fun hk => absurd hk h1) (fun _ => ⟨rfl, rfl, rfl⟩))
        obtain ⟨c, r1, r2, _⟩ := HWk.out.row
        have u : ∀ j, j < c.size → ∃ u, wr.cell? ⟨w.heap.size, j, none⟩ = some u := fun j hj => ⟨_, row_cell r1 j (Array.getElem?_eq_getElem hj)⟩
        obtain ⟨u0, q0⟩ := u (k * 3) (by omega); obtain ⟨u1, q1⟩ := u (k * 3 + 1) (by omega); obtain ⟨u2, q2⟩ := u (k * 3 + 2) (by omega)
        have f0 := row_free r1 (k * 3); have f1 := row_free r1 (k * 3 + 1); have f2 := row_free r1 (k * 3 + 2)
        clear r1 r2 u
        generalize 9437184 + k + 1 = x at *
        go_wp2_with fail
        refine HM.out.mono ?_
        rintro e w' ⟨rfl, rfl⟩
        go_wp2
        go_roundw
        case rel => exact ⟨k + 1, by omega, by go_num, HNX⟩
        case measure => simp [intOf]; omega
    · obtain rfl : k = N := by omega
      have hle : l.length ≤ k := by have := HN.out; omega
      go_wp2
      go_ret
      obtain ⟨c, r1, r2, r3⟩ := HWk.out.row
      exact ⟨rfl, ⟨c, r1, by rw [r2, HN.out], fun j hj => r3 j (by have := HN.out; omega)⟩, HWk.out.bel⟩
end Go.Proofs.YtiaoonlhgjfdjaaDoor
