/- flagonlaw22.SnapReads, walked. -/
import Derived.Test.YthlkckpadjjbdaaDoorLaw22
import Derived.Test.YthlkckpadjjbdaaDoorReadO
import Derived.Test.YthlkckpadjjbdaaDoorRefRead22
import Derived.Test.YthlkckpadjjbdaaDoorApartG22
import Derived.Test.YthlkckpadjjbdaaDoorWideB
namespace Go.Proofs.YthlkckpadjjbdaaDoor
open Go Go.RowKit

theorem tp_lt {w : World} (h : Tp w) : 0 < w.heap.size := by
  unfold Tp Lib.TabIs World.var? at h
  obtain ⟨g, hg, h1⟩ := Option.bind_eq_some_iff.1 h
  obtain rfl : g = 0 := Option.some.inj (hg.symm.trans (by kernel_rfl))
  split at h1
  · rename_i cs T fr hr
    exact row_lt hr
  · simp at h1
theorem rread_none {b : List Int} (h : (rread b).2.1 ≠ 0) : (rread b).1 = emptyS := by
  unfold rread at h ⊢
  by_cases h1 : 524288 < b.length
  · rw [if_pos h1]
  · rw [if_neg h1] at h ⊢
    by_cases h2 : b.length < 5 ∨ b.take 5 ≠ magic5
    · rw [if_pos h2]
    · rw [if_neg h2] at h ⊢
      simp only at h ⊢
      split
      · rfl
      · rename_i h3
        rw [if_neg h3] at h
        exact absurd rfl h
theorem sm_of {b : List Int} (hb : ∀ x ∈ b, 0 ≤ x ∧ x ≤ 255) {xs : List Fq} (hx : xs.map (·.1) = (rread b).1.frames) : G.SmSt xs (rread b).1 := by
  have hl : xs.length = (rread b).1.frames.length := by rw [← hx, List.length_map]
  by_cases h0 : (rread b).2.1 = 0
  · obtain ⟨x1, x2, x3⟩ := rread_inv hb h0
    obtain ⟨h1, h2, h3, h4, h5, h6, h7, h8⟩ := okState_parts x1
    refine ⟨by omega, by have := h6.2; omega, by omega, by omega, fun x hxm => ?_⟩
    have hm : x.1 ∈ (rread b).1.frames := by rw [← hx]; exact List.mem_map.2 ⟨x, hxm, rfl⟩
    obtain ⟨_, _, k3, k4⟩ := okFrame_parts (h8 _ hm)
    exact ⟨by omega, by omega⟩
  · rw [rread_none h0] at hl ⊢
    have e : xs = [] := List.eq_nil_of_length_eq_zero (by simpa [emptyS] using hl)
    subst e
    exact ⟨by simp, by simp [emptyS], by simp [emptyS], by simp [emptyS], fun x hx => by simp at hx⟩
theorem ownst_base {B B' : Nat} {w : World} {fv gv pv rv : Value} {xs : List Fq} {gs : List Nat} {s : StateD} (h : G.OwnSt B w fv gv pv rv xs gs s) (hB : B' ≤ B) : G.OwnSt B' w fv gv pv rv xs gs s :=
  ⟨own_base h.fr hB, h.fl, fun x hx => ⟨own_base (h.inr x hx).1 hB, own_base (h.inr x hx).2 hB⟩, own_base h.gl hB, pg_base h.pg hB, own_base h.rs hB, h.dj⟩
/-- Such a state, read. -/
theorem ownst_rd {B : Nat} {w : World} {fv gv pv rv : Value} {xs : List Fq} {gs : List Nat} {s : StateD} (h : G.OwnSt B w fv gv pv rv xs gs s) (sm : G.SmSt xs s) :
    RState (fun x => x < w.heap.size) w [fv, gv, pv, .int .i64 s.replies, .int .i8 s.ends, rv, .int .i8 s.trap, .int .i64 s.used] s := by
  have hd := h.dj
  unfold G.allOf at hd
  have hne : ∀ u ∈ G.inn xs, ∀ b, u.ownBlock = some b → fv.ownBlock ≠ some b := fun u hu b e e2 => by
    have h1 : G.Dj ([fv] ++ G.inn xs) := G.Dj.left (G.Dj.left (G.Dj.left (G.Dj.left hd)))
    unfold G.Dj at h1
    rw [G.blks_app, List.nodup_append] at h1
    exact h1.2.2 b (G.mem_blks.2 ⟨fv, by simp, e2⟩) b (G.mem_blks.2 ⟨u, hu, e⟩) rfl
  have hF : FrOwn B w fv xs := ⟨h.fr,
    fun x hx => (RdI.of_own (h.inr x hx).1 (by have := (sm.ni x hx).1; omega)).mono fun b _ e => ⟨((h.inr x hx).1.lt b e).1, hne _ (G.mem_inn hx).1 b e⟩,
    fun x hx => (RdI.of_own (h.inr x hx).2 (by have := (sm.ni x hx).2; omega)).mono fun b _ e => ⟨((h.inr x hx).2.lt b e).1, hne _ (G.mem_inn hx).2 b e⟩⟩
  have hR := hF.read (by have := sm.nx; omega)
  rw [h.fl] at hR
  have h0 : RState (fun x => True) w [fv, gv, pv, .int .i64 s.replies, .int .i8 s.ends, rv, .int .i8 s.trap, .int .i64 s.used] s :=
    ⟨_, _, _, _, rfl, hR.mono' fun _ _ => trivial, (RdI.of_own h.gl (by have := sm.ng; omega)).mono fun _ _ _ => trivial, (h.pg.read (by rw [h.pg.len]; have := sm.np; omega)).widen fun _ _ _ => trivial, (RdI.of_own h.rs (by have := sm.nr; omega)).mono fun _ _ _ => trivial⟩
  exact h0.mono fun _ hb _ => hb
theorem gat_start {w : World} {gb B0 : Nat} (h : w.heap[gb]? = some (.cells #[.slice none 0 0, .slice none 0 0, .slice none 0 0, .slice none 0 0, .slice none 0 0, .slice none 0 0, .slice none 0 0, .slice none 0 0, .slice none 0 0, .slice none 0 0, .slice none 0 0, .slice none 0 0, .slice none 0 0, .slice none 0 0, .slice none 0 0, .slice none 0 0, .slice none 0 0] 53 (0, 0))) (hB : B0 ≤ gb) : G.Gat (fun x => x < gb) B0 gb [] 0 0 w :=
  ⟨_, _, _, G.Bg.start h hB, fun j k u hu => by simp at hu, fun _ _ _ _ _ => rfl, rfl, rfl, fun _ h => h, fun b hb => ⟨Nat.lt_trans hb (row_lt h), Nat.ne_of_lt hb⟩, fun j g _ e => by simp [Value.ownBlock] at e⟩
theorem row8 {w : World} {g : Nat} {c0 c1 c2 c3 c4 c5 c6 c7 : Value} {T : Nat} {fr : Nat × Nat} (h : w.heap[g]? = some (.cells #[c0, c1, c2, c3, c4, c5, c6, c7] T fr)) :
    w.cell? ⟨g, 0, none⟩ = some c0 ∧ w.cell? ⟨g, 1, none⟩ = some c1 ∧ w.cell? ⟨g, 2, none⟩ = some c2 ∧ w.cell? ⟨g, 3, none⟩ = some c3 ∧ w.cell? ⟨g, 4, none⟩ = some c4 ∧ w.cell? ⟨g, 5, none⟩ = some c5 ∧ w.cell? ⟨g, 6, none⟩ = some c6 ∧ w.cell? ⟨g, 7, none⟩ = some c7 := ⟨row_cell h 0 rfl, row_cell h 1 rfl, row_cell h 2 rfl, row_cell h 3 rfl, row_cell h 4 rfl, row_cell h 5 rfl, row_cell h 6 rfl, row_cell h 7 rfl⟩
set_option maxRecDepth 100000 in
set_option maxHeartbeats 6400000 in
theorem law_reads22 (w : World) (v : Value) (b : List Int) (hr : RdI .u8 (· < w.heap.size) w v b) (hby : Bytes b) (ht : Tp w) :
    Calls Tryd.prog 4 #[v] w fun e w' => e = .returned (.bool true) ∧ Below w.heap.size w w' := by
  have HR := Lib.hid hr; have HBY := Lib.hid hby; have HT := Lib.hid ht
  obtain ⟨va, vc, rfl, _⟩ := hr.lenc
  have HSM : Hid (∀ xs : List Fq, xs.map (·.1) = (rread b).1.frames → G.SmSt xs (rread b).1) := Lib.hid fun xs hx => sm_of hby hx
  obtain ⟨s, er, at_, hrd⟩ : ∃ s er at_, rread b = (s, er, at_) := ⟨_, _, _, rfl⟩
  have HRD := Lib.hid hrd
  clear hr hby ht hrd
  go_enter Tryd.func4, Tryd.ntmps4
  go_wp2_with fail
  refine (law_works w).mono ?_
  rintro e w1 ⟨rfl, hb1⟩
  have HB1 := Lib.hid hb1
  clear hb1
  by_cases hbig : 1048576 < b.length
  · go_wp2
    go_ret
    exact ⟨rfl, HB1.out⟩
  have hbl : b.length ≤ 1048576 := by omega
  clear hbig
  go_wp2_with fail
  refine (By.wideBytes w1 _ _ b (HR.out.bel HB1.out) (by omega)).mono ?_
  rintro e w2 ⟨rfl, hw2, hb2⟩
  obtain ⟨gk, hgk⟩ : ∃ gk, w1.heap.size = gk := ⟨_, rfl⟩
  have HGK : Hid (w.heap.size ≤ gk ∧ gk < w2.heap.size) := Lib.hid ⟨by rw [← hgk]; exact HB1.out.size, by have := hw2.lt; omega⟩
  rw [hgk] at hw2 ⊢
  have HW2 := Lib.hid hw2
  have HB2 := Lib.hid (below_next HB1.out hb2)
  clear hw2 hb2 hgk HB1
  go_wp2_with fail
  refine (snap_ReadO w2 _ _ b HBY.out (HW2.out.rd (by omega))).mono ?_
  rintro e w3 ⟨fv, gv, pv, rv, xxs, xgs, he, ho, hb3⟩
  rw [HRD.out] at he ho
  dsimp only at he ho
  obtain ⟨xfa, xfc, rfl, _⟩ := own_slice ho.fr
  obtain ⟨xga, xgc, rfl, _⟩ := own_slice ho.gl
  obtain ⟨xpa, xpc, rfl, _⟩ := own_slice ho.pg.own
  obtain ⟨xra, xrc, rfl, _⟩ := own_slice ho.rs
  subst he
  have hbx := below_alloc w3 (.cells #[.slice xfa xxs.length xfc, .slice xga s.globals.length xgc, .slice xpa xgs.length xpc, .int .i64 s.replies, .int .i8 s.ends, .slice xra s.results.length xrc, .int .i8 s.trap, .int .i64 s.used] 27)
  have hrx := heap_alloc_new w3 (.cells #[.slice xfa xxs.length xfc, .slice xga s.globals.length xgc, .slice xpa xgs.length xpc, .int .i64 s.replies, .int .i8 s.ends, .slice xra s.results.length xrc, .int .i8 s.trap, .int .i64 s.used] 27)
  have HX : Hid (G.OwnSt w2.heap.size (w3.alloc (.cells #[.slice xfa xxs.length xfc, .slice xga s.globals.length xgc, .slice xpa xgs.length xpc, .int .i64 s.replies, .int .i8 s.ends, .slice xra s.results.length xrc, .int .i8 s.trap, .int .i64 s.used] 27)) (.slice xfa xxs.length xfc) (.slice xga s.globals.length xgc) (.slice xpa xgs.length xpc) (.slice xra s.results.length xrc) xxs xgs s) := Lib.hid (ownst_on ho (Keeps.all (fun _ => True) hbx) fun _ _ _ _ => trivial)
  have HXS := Lib.hid (HSM.out xxs (by rw [HRD.out]; exact ho.fl))
  have HXT : Hid (∀ u ∈ (G.allOf (.slice xfa xxs.length xfc) xxs (.slice xga s.globals.length xgc) (.slice xpa xgs.length xpc) xgs (.slice xra s.results.length xrc)), ∀ g, u.ownBlock = some g → w2.heap.size ≤ g ∧ g < w3.heap.size) := Lib.hid (ownst_all ho)
  have HB24 := Lib.hid (below_next hb3 hbx)
  have HSX0 := Lib.hid hb3.size
  clear hb3 ho
  go_wp2_with fail
  obtain ⟨w4, hw4⟩ : ∃ w4, w3.alloc (.cells #[.slice xfa xxs.length xfc, .slice xga s.globals.length xgc, .slice xpa xgs.length xpc, .int .i64 s.replies, .int .i8 s.ends, .slice xra s.results.length xrc, .int .i8 s.trap, .int .i64 s.used] 27) = w4 := ⟨_, rfl⟩
  obtain ⟨gx, hgx⟩ : ∃ gx, w3.heap.size = gx := ⟨_, rfl⟩
  rw [hw4] at HX HB24 hrx ⊢
  rw [hgx] at HXT hrx HSX0 ⊢
  have HGX : Hid (w2.heap.size ≤ gx ∧ gx < w4.heap.size) := Lib.hid ⟨HSX0.out, row_lt hrx⟩
  have HRX := Lib.hid hrx
  clear hbx hrx hw4 hgx
  have HW4 := Lib.hid (HW2.out.keeps (Keeps.all (fun _ => True) HB24.out) trivial)
  refine (snap_ReadO w4 _ _ b HBY.out (HW4.out.rd (by omega))).mono ?_
  rintro e w5 ⟨fv, gv, pv, rv, yxs, ygs, he, ho, hb5⟩
  rw [HRD.out] at he ho
  dsimp only at he ho
  obtain ⟨yfa, yfc, rfl, _⟩ := own_slice ho.fr
  obtain ⟨yga, ygc, rfl, _⟩ := own_slice ho.gl
  obtain ⟨ypa, ypc, rfl, _⟩ := own_slice ho.pg.own
  obtain ⟨yra, yrc, rfl, _⟩ := own_slice ho.rs
  subst he
  have hbx := below_alloc w5 (.cells #[.slice yfa yxs.length yfc, .slice yga s.globals.length ygc, .slice ypa ygs.length ypc, .int .i64 s.replies, .int .i8 s.ends, .slice yra s.results.length yrc, .int .i8 s.trap, .int .i64 s.used] 27)
  have hrx := heap_alloc_new w5 (.cells #[.slice yfa yxs.length yfc, .slice yga s.globals.length ygc, .slice ypa ygs.length ypc, .int .i64 s.replies, .int .i8 s.ends, .slice yra s.results.length yrc, .int .i8 s.trap, .int .i64 s.used] 27)
  have HY : Hid (G.OwnSt w4.heap.size (w5.alloc (.cells #[.slice yfa yxs.length yfc, .slice yga s.globals.length ygc, .slice ypa ygs.length ypc, .int .i64 s.replies, .int .i8 s.ends, .slice yra s.results.length yrc, .int .i8 s.trap, .int .i64 s.used] 27)) (.slice yfa yxs.length yfc) (.slice yga s.globals.length ygc) (.slice ypa ygs.length ypc) (.slice yra s.results.length yrc) yxs ygs s) := Lib.hid (ownst_on ho (Keeps.all (fun _ => True) hbx) fun _ _ _ _ => trivial)
  have HYS := Lib.hid (HSM.out yxs (by rw [HRD.out]; exact ho.fl))
  have HYT : Hid (∀ u ∈ (G.allOf (.slice yfa yxs.length yfc) yxs (.slice yga s.globals.length ygc) (.slice ypa ygs.length ypc) ygs (.slice yra s.results.length yrc)), ∀ g, u.ownBlock = some g → w4.heap.size ≤ g ∧ g < w5.heap.size) := Lib.hid (ownst_all ho)
  have HB46 := Lib.hid (below_next hb5 hbx)
  have HSY0 := Lib.hid hb5.size
  clear hb5 ho
  go_wp2_with fail
  obtain ⟨w6, hw6⟩ : ∃ w6, w5.alloc (.cells #[.slice yfa yxs.length yfc, .slice yga s.globals.length ygc, .slice ypa ygs.length ypc, .int .i64 s.replies, .int .i8 s.ends, .slice yra s.results.length yrc, .int .i8 s.trap, .int .i64 s.used] 27) = w6 := ⟨_, rfl⟩
  obtain ⟨gy, hgy⟩ : ∃ gy, w5.heap.size = gy := ⟨_, rfl⟩
  rw [hw6] at HY HB46 hrx ⊢
  rw [hgy] at HYT hrx HSY0 ⊢
  have HGY : Hid (w4.heap.size ≤ gy ∧ gy < w6.heap.size) := Lib.hid ⟨HSY0.out, row_lt hrx⟩
  have HRY := Lib.hid hrx
  clear hbx hrx hw6 hgy
  have HRX6 := Lib.hid ((HB46.out.block _ (row_lt HRX.out)).trans HRX.out)
  have HX6 := Lib.hid (ownst_on HX.out (Keeps.all (fun _ => True) HB46.out) fun _ _ _ _ => trivial)
  have HW6 := Lib.hid (HW4.out.keeps (Keeps.all (fun _ => True) HB46.out) trivial)
  have HB6 := Lib.hid (below_next (below_next HB2.out HB24.out) HB46.out)
  have HB26 := Lib.hid (below_next HB24.out HB46.out)
  clear HRX HX HW4 HW2
  refine (R22.ref22_Read w6 _ _ b HBY.out (HR.out.bel HB6.out)).mono ?_
  rintro e w7 ⟨cs, he, hs7, hb7⟩
  rw [HRD.out] at he hs7
  dsimp only at he hs7
  obtain ⟨fa, fc, ga, gc, pa, pc, ra, rc, rfl⟩ := hs7.open
  subst he
  have hbx := below_alloc w7 (.cells #[.slice fa s.frames.length fc, .slice ga s.globals.length gc, .slice pa s.pages.length pc, .int .i64 s.replies, .int .i8 s.ends, .slice ra s.results.length rc, .int .i8 s.trap, .int .i64 s.used] 27)
  have hrx := heap_alloc_new w7 (.cells #[.slice fa s.frames.length fc, .slice ga s.globals.length gc, .slice pa s.pages.length pc, .int .i64 s.replies, .int .i8 s.ends, .slice ra s.results.length rc, .int .i8 s.trap, .int .i64 s.used] 27)
  have HS8 := Lib.hid ((hs7.mono (T := (· < w7.heap.size)) fun _ hb _ => hb).bel hbx)
  have HB68 := Lib.hid (below_next hb7 hbx)
  clear hs7 hb7
  obtain ⟨w8, hw8⟩ : ∃ w8, w7.alloc (.cells #[.slice fa s.frames.length fc, .slice ga s.globals.length gc, .slice pa s.pages.length pc, .int .i64 s.replies, .int .i8 s.ends, .slice ra s.results.length rc, .int .i8 s.trap, .int .i64 s.used] 27) = w8 := ⟨_, rfl⟩
  obtain ⟨gw, hgw⟩ : ∃ gw, w7.heap.size = gw := ⟨_, rfl⟩
  rw [hw8] at HS8 HB68 hrx
  rw [hgw] at hrx
  have HRW := Lib.hid hrx
  have hbg := below_alloc w8 (.cells #[.slice none 0 0, .slice none 0 0, .slice none 0 0, .slice none 0 0, .slice none 0 0, .slice none 0 0, .slice none 0 0, .slice none 0 0, .slice none 0 0, .slice none 0 0, .slice none 0 0, .slice none 0 0, .slice none 0 0, .slice none 0 0, .slice none 0 0, .slice none 0 0, .slice none 0 0] 53)
  have hrg := heap_alloc_new w8 (.cells #[.slice none 0 0, .slice none 0 0, .slice none 0 0, .slice none 0 0, .slice none 0 0, .slice none 0 0, .slice none 0 0, .slice none 0 0, .slice none 0 0, .slice none 0 0, .slice none 0 0, .slice none 0 0, .slice none 0 0, .slice none 0 0, .slice none 0 0, .slice none 0 0, .slice none 0 0] 53)
  have HBG := Lib.hid hbg; have HRG := Lib.hid hrg
  clear hbx hrx hbg hrg
  go_upto_region 9 with fail
  clear hw8 hgw
  obtain ⟨w9, hw9⟩ : ∃ w9, w8.alloc (.cells #[.slice none 0 0, .slice none 0 0, .slice none 0 0, .slice none 0 0, .slice none 0 0, .slice none 0 0, .slice none 0 0, .slice none 0 0, .slice none 0 0, .slice none 0 0, .slice none 0 0, .slice none 0 0, .slice none 0 0, .slice none 0 0, .slice none 0 0, .slice none 0 0, .slice none 0 0] 53) = w9 := ⟨_, rfl⟩
  obtain ⟨gb, hgb⟩ : ∃ gb, w8.heap.size = gb := ⟨_, rfl⟩
  rw [hw9] at HBG HRG ⊢
  rw [hgb] at HBG HRG ⊢
  have HB69 : Hid (Below w6.heap.size w6 w9) := Lib.hid (below_next HB68.out (by rw [hgb]; exact HBG.out))
  have HGB : Hid (w6.heap.size ≤ gb ∧ w8.heap.size = gb) := Lib.hid ⟨by rw [← hgb]; exact HB68.out.size, hgb⟩
  clear hw9 hgb
  -- all of it, where the bag is new
  have HX9 := Lib.hid (ownst_on HX6.out (Keeps.all (fun _ => True) HB69.out) fun _ _ _ _ => trivial)
  have HY9 := Lib.hid (ownst_on HY.out (Keeps.all (fun _ => True) HB69.out) fun _ _ _ _ => trivial)
  have HRX9 := Lib.hid ((HB69.out.block _ (row_lt HRX6.out)).trans HRX6.out)
  have HRY9 := Lib.hid ((HB69.out.block _ (row_lt HRY.out)).trans HRY.out)
  have HRW9 := Lib.hid ((HBG.out.block _ (by rw [← HGB.out.2]; exact row_lt HRW.out)).trans HRW.out)
  have HS9 : Hid (RState (· < gb) w9 [.slice fa s.frames.length fc, .slice ga s.globals.length gc, .slice pa s.pages.length pc, .int .i64 s.replies, .int .i8 s.ends, .slice ra s.results.length rc, .int .i8 s.trap, .int .i64 s.used] s) := Lib.hid (by have h := HS8.out.keeps (Keeps.of_below (by rw [HGB.out.2]; exact HBG.out)); rw [HGB.out.2] at h; exact h)
  have HW9 := Lib.hid (HW6.out.keeps (Keeps.all (fun _ => True) HB69.out) trivial)
  have HB9 := Lib.hid (below_next HB6.out HB69.out)
  have HSZ : Hid (gk < w2.heap.size ∧ w2.heap.size ≤ gx ∧ gx < w4.heap.size ∧ w4.heap.size ≤ gy ∧ gy < w6.heap.size ∧ w6.heap.size ≤ gb ∧ gw < gb ∧ w.heap.size ≤ gk) := Lib.hid ⟨HGK.out.2, HGX.out.1, HGX.out.2, HGY.out.1, HGY.out.2, HGB.out.1, by rw [← HGB.out.2]; exact row_lt HRW.out, HGK.out.1⟩
  have HXL : Hid (∀ u ∈ (G.allOf (.slice xfa xxs.length xfc) xxs (.slice xga s.globals.length xgc) (.slice xpa xgs.length xpc) xgs (.slice xra s.results.length xrc)), ∀ g, u.ownBlock = some g → g < gb) := Lib.hid fun u hu g e => by have := HXT.out u hu g e; have := HSZ.out; omega
  have HYL : Hid (∀ u ∈ (G.allOf (.slice yfa yxs.length yfc) yxs (.slice yga s.globals.length ygc) (.slice ypa ygs.length ypc) ygs (.slice yra s.results.length yrc)), ∀ g, u.ownBlock = some g → g < gb) := Lib.hid fun u hu g e => by have := HYT.out u hu g e; have := HSZ.out; omega
  have HDJ : Hid (G.Dj ((G.allOf (.slice xfa xxs.length xfc) xxs (.slice xga s.globals.length xgc) (.slice xpa xgs.length xpc) xgs (.slice xra s.results.length xrc)) ++ (G.allOf (.slice yfa yxs.length yfc) yxs (.slice yga s.globals.length ygc) (.slice ypa ygs.length ypc) ygs (.slice yra s.results.length yrc)))) := Lib.hid (G.Dj.join (n := w4.heap.size) HX9.out.dj HY9.out.dj (fun u hu g e => by have := HXT.out u hu g e; have := HSZ.out; omega) fun u hu g e => (HYT.out u hu g e).1)
  have HG9 := Lib.hid (gat_start (B0 := w2.heap.size) HRG.out (by have := HSZ.out; omega))
  have HTP9 := Lib.hid (HT.out.bel HB9.out)
  have HTG := Lib.hid (tp_lt HT.out)
  have hb2 := HB2.out.size
  have HX9b : Hid (G.OwnSt w2.heap.size w9 (.slice xfa xxs.length xfc) (.slice xga s.globals.length xgc) (.slice xpa xgs.length xpc) (.slice xra s.results.length xrc) xxs xgs s) := HX9
  have HY9b : Hid (G.OwnSt w2.heap.size w9 (.slice yfa yxs.length yfc) (.slice yga s.globals.length ygc) (.slice ypa ygs.length ypc) (.slice yra s.results.length yrc) yxs ygs s) := Lib.hid (ownst_base HY9.out (by have := HSZ.out; omega))
  have HSX : Hid (G.SmSt xxs s) := Lib.hid (by have := HXS.out; rw [HRD.out] at this; exact this)
  have HSY : Hid (G.SmSt yxs s) := Lib.hid (by have := HYS.out; rw [HRD.out] at this; exact this)
  clear HX6 HY HRX6 HRY HRW HS8 HW6 HBG HRG HGX HGY HGB HX9 HY9 HXS HYS HB24 HB46 HB26 HB68 HB69 HB6 hb2
  obtain ⟨a0, a1, a2, a3, a4, a5, a6, a7⟩ := row8 HRX9.out
  go_wp2_with fail
  refine (G.gat_State HG9.out (by decide) (by decide) HX9b.out HSX.out HXL.out (by rw [List.nil_append]; exact G.Dj.left HDJ.out)).mono ?_
  rintro e w10 ⟨rfl, hg, hk⟩
  have HG10 := Lib.hid hg; have HK10 := Lib.hid hk
  have HRY10 := Lib.hid ((hk.block _ (row_lt HRY9.out) (by have := HSZ.out; omega)).trans HRY9.out)
  have HY10 := Lib.hid (ownst_on HY9b.out hk fun u hu g e => HYL.out u hu g e)
  clear hg hk HG9 a0 a1 a2 a3 a4 a5 a6 a7
  obtain ⟨a0, a1, a2, a3, a4, a5, a6, a7⟩ := row8 HRY10.out
  go_wp2_with fail
  refine (G.gat_State HG10.out (by decide) (by decide) HY10.out HSY.out HYL.out (by rw [List.nil_append]; exact HDJ.out)).mono ?_
  rintro e w11 ⟨rfl, hg, hk⟩
  have HG11 := Lib.hid hg
  have HK11 := Lib.hid (HK10.out.trans hk)
  clear hg hk HG10 HRY10 HY10 HK10 a0 a1 a2 a3 a4 a5 a6 a7
  have HRX11 := Lib.hid ((HK11.out.block _ (row_lt HRX9.out) (by have := HSZ.out; omega)).trans HRX9.out)
  have HRY11 := Lib.hid ((HK11.out.block _ (row_lt HRY9.out) (by have := HSZ.out; omega)).trans HRY9.out)
  have HRW11 := Lib.hid ((HK11.out.block _ (row_lt HRW9.out) (by have := HSZ.out; omega)).trans HRW9.out)
  have HS11 := Lib.hid (HS9.out.keeps HK11.out)
  have HX11 := Lib.hid (ownst_on HX9b.out HK11.out fun u hu g e => HXL.out u hu g e)
  have HY11 := Lib.hid (ownst_on HY9b.out HK11.out fun u hu g e => HYL.out u hu g e)
  have HB11 : Hid (Below w.heap.size w w11) := Lib.hid (HB9.out.trans ((HK11.out.below (B := w.heap.size) HB9.out.size fun x hx => by have := HSZ.out; omega)))
  have HK9 := HK11
  clear HRX9 HRY9 HRW9 HS9 HX9b HY9b HB9
  obtain ⟨a0, a1, a2, a3, a4, a5, a6, a7⟩ := row8 HRX11.out
  obtain ⟨c0, c1, c2, c3, c4, c5, c6, c7⟩ := row8 HRW11.out
  go_wp2_with fail
  refine (eqState _ _ _ _ _ s s (ownst_rd HX11.out HSX.out) HS11.out).mono ?_
  rintro e w12 ⟨he, hb12⟩
  rw [decide_eq_true rfl] at he
  subst he
  have HRY12 := Lib.hid ((hb12.block _ (row_lt HRY11.out)).trans HRY11.out)
  have HRW12 := Lib.hid ((hb12.block _ (row_lt HRW11.out)).trans HRW11.out)
  have HS12 := Lib.hid (HS11.out.keeps (Keeps.all (· < gb) hb12))
  have HY12 := Lib.hid (ownst_on HY11.out (Keeps.all (fun _ => True) hb12) fun _ _ _ _ => trivial)
  have HG12 := Lib.hid (HG11.out.on hb12)
  have HB12 := Lib.hid (below_next HB11.out hb12)
  have HK12 := Lib.hid (HK9.out.trans (Keeps.all (fun x => x < gb) hb12))
  clear hb12 HRX11 HRY11 HRW11 HS11 HX11 HY11 HG11 HB11 HK11 HK9 a0 c0 a1 c1 a2 c2 a3 c3 a4 c4 a5 c5 a6 c6 a7 c7
  obtain ⟨a0, a1, a2, a3, a4, a5, a6, a7⟩ := row8 HRY12.out
  obtain ⟨c0, c1, c2, c3, c4, c5, c6, c7⟩ := row8 HRW12.out
  go_wp2_with fail
  refine (eqState _ _ _ _ _ s s (ownst_rd HY12.out HSY.out) HS12.out).mono ?_
  rintro e w13 ⟨he, hb13⟩
  rw [decide_eq_true rfl] at he
  subst he
  have HG13 := Lib.hid (HG12.out.on hb13)
  have HB13 := Lib.hid (below_next HB12.out hb13)
  have HK13 := Lib.hid (HK12.out.trans (Keeps.all (fun x => x < gb) hb13))
  clear hb13 HRY12 HRW12 HS12 HY12 HG12 HB12 HK12 a0 c0 a1 c1 a2 c2 a3 c3 a4 c4 a5 c5 a6 c6 a7 c7
  go_wp2_with fail
  refine (G.gat_apart HG13.out (HT.out.bel HB13.out) (by have := HTG.out; have := HB2.out.size; omega)).mono ?_
  rintro e w14 ⟨rfl, hk⟩
  have hlow : ∀ x, x < w2.heap.size → ∀ u ∈ [] ++ (G.allOf (.slice xfa xxs.length xfc) xxs (.slice xga s.globals.length xgc) (.slice xpa xgs.length xpc) xgs (.slice xra s.results.length xrc)) ++ (G.allOf (.slice yfa yxs.length yfc) yxs (.slice yga s.globals.length ygc) (.slice ypa ygs.length ypc) ygs (.slice yra s.results.length yrc)), u.ownBlock ≠ some x := fun x hx u hu e => by
    rcases List.mem_append.1 hu with hu | hu
    · have := HXT.out u (by simpa using hu) x e; omega
    · have := HYT.out u hu x e; have := HSZ.out; omega
  have HW14 := Lib.hid ((HW9.out.keeps HK13.out (by have := HSZ.out; omega)).keeps hk (hlow gk HGK.out.2))
  have HB14 : Hid (Below w.heap.size w w14) := Lib.hid (HB13.out.trans (hk.below HB13.out.size fun x hx => hlow x (by have := HB2.out.size; omega)))
  clear hk hlow HG13 HB13 HK13 HW9
  go_wp2_with fail
  refine (eqBytes _ _ _ _ _ _ _ (HW14.out.rd (by omega)) (HR.out.keeps (Keeps.of_below HB14.out))).mono ?_
  rintro e w' ⟨he, n, rfl⟩
  rw [decide_eq_true rfl] at he
  subst he
  go_wp2_with fail
  refine (By.spareBytes _ gk b (HW14.out.keeps (Keeps.of_drewN (S := fun _ => True) n) trivial) (by omega)).mono ?_
  rintro e w' ⟨rfl, hw'⟩
  subst hw'
  go_wp2
  go_ret
  exact ⟨rfl, below_next HB14.out (drewN_below _ _)⟩
end Go.Proofs.YthlkckpadjjbdaaDoor
