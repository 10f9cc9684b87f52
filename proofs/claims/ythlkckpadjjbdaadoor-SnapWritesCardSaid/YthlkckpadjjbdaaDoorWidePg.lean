/- Lists of lists of bytes handed in with marks behind them: flagonref00.WidePages, SparePages. -/
import Derived.Test.YthlkckpadjjbdaaDoorText22
import Derived.Test.YthlkckpadjjbdaaDoorWideB
import Derived.Test.YthlkckpadjjbdaaDoorState
namespace Go.Proofs.YthlkckpadjjbdaaDoor
open Go Go.RowKit

theorem Tryd.infoPg : (Tryd.prog.info? 31).map (fun i => (i.zero, i.size, i.bytes)) = some (some (.slice none 0 0), 1, 24) := by kernel_rfl
/-- The value of place j. -/
def PVal (S : Nat → Prop) (w : World) (l : List (List Int)) (j : Nat) (x : Value) : Prop :=
  (∀ h : j < l.length, ∃ gk, S gk ∧ x = .slice (some ⟨gk, 0, none⟩) l[j].length (l[j].length + 64) ∧ By.WideL w gk l[j]) ∧
  (l.length ≤ j → ∃ gk cap, S gk ∧ x = .slice (some ⟨gk, 0, none⟩) (txtB 9 j).size cap ∧ TxtAt w gk (txtB 9 j))
theorem PVal.keeps {S T : Nat → Prop} {w w' : World} {l : List (List Int)} {j : Nat} {x : Value} (h : PVal S w l j x) (hk : Keeps T w w') (hS : ∀ b, S b → T b) : PVal S w' l j x :=
  ⟨fun hj => by obtain ⟨gk, h1, h2, h3⟩ := h.1 hj; exact ⟨gk, h1, h2, h3.keeps hk (hS gk h1)⟩, fun hj => by obtain ⟨gk, cap, h1, h2, h3⟩ := h.2 hj; exact ⟨gk, cap, h1, h2, h3.keeps hk (hS gk h1)⟩⟩
/-- The block g holds the lists l and the marks behind them. -/
def WidePg (S : Nat → Prop) (w : World) (g : Nat) (l : List (List Int)) : Prop :=
  ∃ c : Array Value, w.heap[g]? = some (.cells c 31 (0, 0)) ∧ ∀ j, j < l.length + 64 → ∃ x, c[j]? = some x ∧ PVal S w l j x
theorem WidePg.keeps {S T : Nat → Prop} {w w' : World} {g : Nat} {l : List (List Int)} (h : WidePg S w g l) (hk : Keeps T w w') (hg : T g) (hS : ∀ b, S b → T b) : WidePg S w' g l := by
  obtain ⟨c, h1, h2⟩ := h
  exact ⟨c, (hk.block g (row_lt h1) hg).trans h1, fun j hj => by obtain ⟨x, hx, hp⟩ := h2 j hj; exact ⟨x, hx, hp.keeps hk hS⟩⟩
theorem WidePg.lt {S : Nat → Prop} {w : World} {g : Nat} {l : List (List Int)} (h : WidePg S w g l) : g < w.heap.size := by obtain ⟨c, h1, _⟩ := h; exact row_lt h1
theorem WidePg.rd {S : Nat → Prop} {w : World} {g : Nat} {l : List (List Int)} (h : WidePg S w g l) (hl : l.length ≤ 1073741824) (hll : ∀ j (h : j < l.length), l[j].length ≤ 1073741824) : RdLL .u8 (fun _ => True) w (.slice (some ⟨g, 0, none⟩) l.length (l.length + 64)) l := by
  obtain ⟨c, h1, h2⟩ := h
  refine ⟨_, _, rfl, by omega, by omega, fun j hj => ?_⟩
  obtain ⟨x, hx, hp⟩ := h2 j (by omega)
  obtain ⟨gk, hs, rfl, hw⟩ := hp.1 hj
  exact ⟨g, 0, [.slice (some ⟨gk, 0, none⟩) l[j].length (l[j].length + 64)], rfl, trivial, rfl, fun i hi => by
    obtain rfl : i = 0 := by omega
    have := row_cell h1 j hx
    simpa using this, _, rfl, (hw.rd (by have := hll j hj; omega)).mono fun _ _ _ => trivial⟩
/-- WidePages' loop, at k. -/
structure WP (w : World) (g N : Nat) (l : List (List Int)) (k : Nat) (wr : World) : Prop where
  bel : Below w.heap.size w wr
  lo : w.heap.size ≤ g
  row : ∃ c : Array Value, wr.heap[g]? = some (.cells c 31 (0, 0)) ∧ c.size = N ∧ ∀ j, j < k → ∃ x, c[j]? = some x ∧ PVal (g < ·) wr l j x
theorem WP.next {w wr wy : World} {g N k : Nat} {l : List (List Int)} (h : WP w g N l k wr) (hk : k < N) (hb : Below wr.heap.size wr wy) (x : Value) (hx : PVal (g < ·) wy l k x) :
    WP w g N l (k + 1) (wy.setCell ⟨g, k, none⟩ x) := by
  obtain ⟨c, r1, r2, r3⟩ := h.row
  have hb' := below_next h.bel hb
  have r1' := (hb.block _ (row_lt r1)).trans r1
  have hkp : Keeps (fun b => b ≠ g) wy (wy.setCell ⟨g, k, none⟩ x) := (Keeps.refl _ wy).setCell (a := ⟨g, k, none⟩) (by simp) _
  refine ⟨hb'.setCell (p := ⟨g, k, none⟩) h.lo _, h.lo, _, row_setCell r1' _ x, by simpa using r2, fun j hj => ?_⟩
  by_cases e : j = k
  · subst e
    exact ⟨x, Array.getElem?_setIfInBounds_self_of_lt (by omega), hx.keeps hkp fun b hb => by omega⟩
  · obtain ⟨y, hy, hp⟩ := r3 j (by omega)
    exact ⟨y, by rw [Array.getElem?_setIfInBounds_ne (Ne.symm e)]; exact hy, (hp.keeps (Keeps.all (fun _ => True) hb) fun _ _ => trivial).keeps hkp fun b hb => by omega⟩
set_option maxRecDepth 100000 in
set_option maxHeartbeats 3200000 in
theorem widePages (w : World) (S) (v : Value) (l : List (List Int)) (hr : RdLL .u8 S w v l) (hl : l.length ≤ 1048576) (hll : ∀ j (h : j < l.length), l[j].length ≤ 1048576) (ht : Tp w) :
    Calls Tryd.prog 24 #[v] w fun e w' => e = .returned (.slice (some ⟨w.heap.size, 0, none⟩) l.length (l.length + 64)) ∧ WidePg (w.heap.size < ·) w' w.heap.size l ∧ Below w.heap.size w w' := by
  obtain ⟨i0, hi, hz0, hz1, hz2⟩ := info_parts Tryd.infoPg
  have HLL := Lib.hid hll
  have HT := Lib.hid ht
  have HL := Lib.hid hr
  obtain ⟨va, vc, rfl, hlc⟩ := hr.len
  clear hr hll ht
  have e1 : wrap64 ((l.length : Int) + 64) = ((l.length + 64 : Nat) : Int) := by unfold wrap64; omega
  have e2 : (l.length : Int) + 64 = ((l.length + 64 : Nat) : Int) := by omega
  obtain ⟨N, hN⟩ : ∃ N, N = l.length + 64 := ⟨_, rfl⟩
  rw [← hN] at e1 e2 ⊢
  have HN := Lib.hid hN; clear hN
  go_enter Tryd.func24, Tryd.ntmps24
  go_wp2_with (at_make; refine wpList_make_full _ rfl _ _ 24 rfl w.heap.size 31 i0 (.slice none 0 0) 1 Tryd.underlying24 hi hz0 hz1 _ _ _ _ N rfl rfl rfl rfl ?b1 ?b2 (Nat.le_refl _) ?_)
  case b1 => rw [hz2, HN.out]; omega
  case b2 => rw [HN.out]; unfold maxLen; omega
  intro w1 hown hgrow
  have hb1 : Below w.heap.size w w1 := (Below.refl _ _).grown hgrow (Nat.le_refl _) (fun k hk => by cases hk)
  have HW : Hid (WP w w.heap.size N l 0 w1) := Lib.hid ⟨hb1, Nat.le_refl _, by
    rcases hown.2 with ⟨h, _⟩ | ⟨g, cap, cur, e, _, hg, _, _, hs, _⟩
    · simp at h
    · simp only [Value.slice.injEq, Option.some.injEq, Addr.mk.injEq, and_true, true_and] at e
      obtain ⟨rfl, rfl⟩ := e
      exact ⟨cur, hg, by simpa using hs, fun j hj => absurd hj (by omega)⟩⟩
  clear hown hgrow hb1
  go_wp2
  go_loopw [4] (fun i wr => ∃ k : Nat, k ≤ N ∧ i = .int .i64 k ∧ Hid (WP w w.heap.size N l k wr)) (fun i _ => N - (intOf i).toNat)
  case atStart => exact ⟨0, by omega, rfl, HW⟩
  case round =>
    obtain ⟨k, hk, rfl, HWk⟩ := hrel
    clear HW
    have HCL : Hid (∀ wy, Below wr.heap.size wr wy → (∃ u, wy.cell? ⟨w.heap.size, k, none⟩ = some u) ∧ wy.frozen? ⟨w.heap.size, k, none⟩ = false ∨ ¬ k < N) := Lib.hid fun wy hb => by
      by_cases hlt : k < N
      · obtain ⟨c, r1, r2, _⟩ := HWk.out.row
        have r1' := (hb.block _ (row_lt r1)).trans r1
        exact .inl ⟨⟨_, row_cell r1' k (Array.getElem?_eq_getElem (by omega))⟩, row_free r1' k⟩
      · exact .inr hlt
    by_cases hlt : k < N
    · by_cases h1 : k < l.length
      · obtain ⟨_, _, ee, _, _, rr⟩ := HL.out.keeps (Keeps.all _ HWk.out.bel)
        obtain ⟨b, o, cs, ea, _, hn1, hcell, vl, rfl, hrl⟩ := rr k h1
        rw [← (Value.slice.inj ee).1] at ea
        subst ea
        have x0 := hcell 0 (by omega)
        simp at x0
        clear ee rr hcell hn1
        have HW0 := Lib.hid (By.wideBytes wr _ vl l[k] hrl (by have := HLL.out k h1; omega))
        have HB0 := Lib.hid HWk.out.bel.size
        obtain ⟨c, r1, _, _⟩ := HWk.out.row
        have HG := Lib.hid (row_lt r1)
        clear r1 hrl
        generalize hxl : l[k] = xl at *
        have HX := Lib.hid hxl
        clear hxl
        go_wp2_with fail
        refine HW0.out.mono ?_
        rintro e w5 ⟨rfl, hwl, hb5⟩
        obtain ⟨⟨u0, q0⟩, f0⟩ := (HCL.out w5 hb5).resolve_right (not_not_intro hlt)
        have HNX := Lib.hid (HWk.out.next hlt hb5 (.slice (some ⟨wr.heap.size, 0, none⟩) xl.length (xl.length + 64)) ⟨fun hk => by
          rw [HX.out]
          exact ⟨wr.heap.size, HG.out, rfl, hwl⟩, fun h => absurd h (by omega)⟩)
        clear hwl hb5 x0 HCL
        go_wp2
        go_roundw
        case rel => exact ⟨k + 1, by omega, by go_num, HNX⟩
        case measure => simp [intOf]; omega
      · have HM := Lib.hid (ref_text wr 9 k (by omega) (by have := HN.out; omega) (HT.out.bel HWk.out.bel))
        obtain ⟨c, r1, _, _⟩ := HWk.out.row
        have HG := Lib.hid (row_lt r1)
        clear r1
        obtain ⟨s, hs⟩ : ∃ s, s = txtB 9 k := ⟨_, rfl⟩
        rw [← hs] at HM
        have HS := Lib.hid hs; clear hs
        go_wp2_with fail
        refine HM.out.mono ?_
        rintro e w5 ⟨rfl, hb5⟩
        have kc := txt_conv w5 s
        have hb6 := below_next hb5 (txt_below w5 s)
        obtain ⟨⟨u0, q0⟩, f0⟩ := (HCL.out _ hb6).resolve_right (not_not_intro hlt)
        have HNX := Lib.hid (HWk.out.next hlt hb6 (.slice (some ⟨w5.heap.size, 0, none⟩) s.size (grownCap w5 s.size 0 5)) ⟨fun hk => absurd hk h1, fun _ => by
          rw [← HS.out]
          exact ⟨w5.heap.size, _, Nat.lt_of_lt_of_le HG.out hb5.size, rfl, txt_at w5 s⟩⟩)
        clear hb5 hb6 HCL
        go_wp2
        go_roundw
        case rel => exact ⟨k + 1, by omega, by go_num, HNX⟩
        case measure => simp [intOf]; omega
    · obtain rfl : k = N := by omega
      have hle : l.length ≤ k := by have := HN.out; omega
      clear HCL
      go_wp2
      go_ret
      obtain ⟨c, r1, r2, r3⟩ := HWk.out.row
      exact ⟨rfl, ⟨c, r1, fun j hj => r3 j (by have := HN.out; omega)⟩, HWk.out.bel⟩
set_option maxRecDepth 100000 in
set_option maxHeartbeats 3200000 in
theorem sparePages (w : World) (S : Nat → Prop) (g : Nat) (l : List (List Int)) (h : WidePg S w g l) (hl : l.length ≤ 1048576) (hll : ∀ j (h : j < l.length), l[j].length ≤ 1048576) (ht : Tp w) :
    Calls Tryd.prog 54 #[.slice (some ⟨g, 0, none⟩) l.length (l.length + 64)] w fun e w' => e = .returned (.bool true) ∧ Below w.heap.size w w' := by
  have HLL := Lib.hid hll
  have HT := Lib.hid ht
  have HK : Hid (∀ wr, Below w.heap.size w wr → WidePg (fun _ => True) wr g l) := Lib.hid fun wr hb => by
    obtain ⟨c, h1, h2⟩ := h
    refine WidePg.keeps (S := fun _ => True) ⟨c, h1, fun j hj => ?_⟩ (Keeps.all (fun _ => True) hb) trivial fun _ _ => trivial
    obtain ⟨x, hx, hp⟩ := h2 j hj
    exact ⟨x, hx, fun hj => by obtain ⟨gk, h1, h2, h3⟩ := hp.1 hj; exact ⟨gk, trivial, h2, h3⟩, fun hj => by obtain ⟨gk, cap, h1, h2, h3⟩ := hp.2 hj; exact ⟨gk, cap, trivial, h2, h3⟩⟩
  clear h hll ht
  have e1 : wrap64 ((l.length : Int) + 64) = ((l.length + 64 : Nat) : Int) := by unfold wrap64; omega
  have e2 : (l.length : Int) + 64 = ((l.length + 64 : Nat) : Int) := by omega
  obtain ⟨N, hN⟩ : ∃ N, N = l.length + 64 := ⟨_, rfl⟩
  rw [← hN] at e1 e2 ⊢
  have hle : l.length ≤ N := by omega
  have HN := Lib.hid hN; clear hN
  go_enter Tryd.func54, Tryd.ntmps54
  go_wp2
  go_loopw [4] (fun i wr => ∃ k : Nat, l.length ≤ k ∧ k ≤ N ∧ i = .int .i64 k ∧ Hid (Below w.heap.size w wr)) (fun i _ => N - (intOf i).toNat)
  case atStart => exact ⟨l.length, by omega, hle, rfl, Lib.hid (Below.refl _ _)⟩
  case round =>
    obtain ⟨k, hk1, hk, rfl, HB⟩ := hrel
    by_cases hlt : k < N
    · obtain ⟨c, r1, r2⟩ := HK.out wr HB.out
      obtain ⟨x, hx, hp⟩ := r2 k (by have := HN.out; omega)
      obtain ⟨gk, cap, _, rfl, hta⟩ := hp.2 hk1
      have x0 := row_cell r1 k hx
      have HMx : Hid (∀ wx, Hid (Below wr.heap.size wr wx) → Calls Tryd.prog 70 #[.int .i64 9, .int .i64 k] wx fun e w' => e = .returned (.string (txtB 9 k)) ∧ Hid (Below wr.heap.size wr w')) := Lib.hid fun wx h => by
        refine (ref_text wx 9 k (by omega) (by have := HN.out; omega) ((HT.out.bel HB.out).bel h.out)).mono ?_
        rintro e w' ⟨he, hb⟩
        exact ⟨he, Lib.hid (below_next h.out hb)⟩
      have HCx : Hid (∀ wx, Hid (Below wr.heap.size wr wx) → (convert 31 9 (.slice (some ⟨gk, 0, none⟩) (txtB 9 k).size cap)).run Tryd.prog wx = .ok (.string (txtB 9 k)) wx) := Lib.hid fun wx h => (hta.keeps (Keeps.all (fun _ => True) h.out) trivial).back cap
      have hq0 : Hid (Below wr.heap.size wr wr.drew) := Lib.hid (drewN_below wr 1)
      have hb : k ≤ 1073741888 := by have := HN.out; omega
      clear r1 r2 hx hp hta
      generalize txtB 9 k = s at *
      go_upto_region 6 with fail
      go_region_held3 (fun wx => (convert 31 9 (.slice (some ⟨gk, 0, none⟩) s.size cap)).run Tryd.prog wx = .ok (.string s) wx ∧ True ∧ Hid (Below wr.heap.size wr wx))
        (first | exact ⟨HCx.out _ hq0, trivial, hq0⟩ | exact ⟨HCx.out _ (by assumption), trivial, by assumption⟩)
        (first | (go_at_call 70; with_reducible refine (HMx.out _ (heldOf (by assumption))).mono ?_; rintro e w' ⟨rfl, hk5⟩))
      have HB5 := Lib.hid (below_next HB.out hk5.out)
      clear hk5 HMx HCx hq0
      go_wp2
      go_roundw
      case rel => exact ⟨k + 1, by omega, by omega, by go_num, HB5⟩
      case measure => simp [intOf]; omega
    · obtain rfl : k = N := by omega
      have HB0 := HB
      go_wp2
      go_loopw [6] (fun i wx => ∃ k : Nat, k ≤ l.length ∧ i = .int .i64 k ∧ Hid (Below w.heap.size w wx)) (fun i _ => l.length - (intOf i).toNat)
      case atStart => exact ⟨0, by omega, rfl, HB0⟩
      case round =>
        obtain ⟨k2, hk2, rfl, HB2⟩ := hrel
        by_cases hlt2 : k2 < l.length
        · obtain ⟨c, r1, r2⟩ := HK.out _ HB2.out
          obtain ⟨x, hx, hp⟩ := r2 k2 (by omega)
          obtain ⟨gk, _, rfl, hw⟩ := hp.1 hlt2
          have x0 := row_cell r1 k2 hx
          have HS := Lib.hid (By.spareBytes _ gk l[k2] hw (by have := HLL.out k2 hlt2; omega))
          clear r1 r2 hx hp hw
          generalize l[k2] = y at *
          go_wp2_with fail
          refine HS.out.mono ?_
          rintro e w' ⟨rfl, rfl⟩
          go_wp2
          go_roundw
          case rel => exact ⟨k2 + 1, by omega, by go_num, HB2⟩
          case measure => simp [intOf]; omega
        · go_wp2
          go_ret
          exact ⟨rfl, HB2.out⟩
end Go.Proofs.YthlkckpadjjbdaaDoor
