/- The law ControlMaps. -/
import Derived.Test.YtiaoonlhgjfdjaaDoorWorks09
import Derived.Test.YtiaoonlhgjfdjaaDoorBagS
namespace Go.Proofs.YtiaoonlhgjfdjaaDoor
open Go Go.RowKit

theorem WideCd.any {S : Nat → Prop} {w : World} {g : Nat} {l : List InsD} (h : WideCd S w g l) : WideCd (· < w.heap.size) w g l := by
  obtain ⟨c, h1, h2, h3⟩ := h
  refine ⟨c, h1, h2, fun j hj => ⟨fun hj' => ?_, (h3 j hj).2⟩⟩
  obtain ⟨gk, _, a, b, d, e⟩ := (h3 j hj).1 hj'
  exact ⟨gk, e.lt, a, b, d, e⟩
theorem map_lens (ops : List Nat) {E L O : List Int} {er : Int} {q : Nat} (h : mapP ops = (E, L, O, er, q)) : E.length ≤ ops.length ∧ L.length ≤ ops.length ∧ O.length ≤ ops.length := by
  by_cases he : (mapP ops).2.2.2.1 = 0
  · have hk := mapP_ok he
    rw [h] at hk
    exact ⟨by have := hk.le; simp only at this; omega, by have := hk.ll; simp only at this; omega, by have := hk.lo; simp only at this; omega⟩
  · obtain ⟨h1, h2, h3⟩ := mapP_no he
    rw [h] at h1 h2 h3
    simp only at h1 h2 h3
    subst h1 h2 h3
    exact ⟨Nat.zero_le _, Nat.zero_le _, Nat.zero_le _⟩
theorem Bs.fresh {B0 gb : Nat} {wr : World} {hv v : Value} {vs : List Value} {ls : List (List Int)} (h : Bs B0 gb wr hv vs ls) (hlt : ∀ g, v.ownBlock = some g → g < gb) (hd : ∀ u ∈ vs, ∀ g, v.ownBlock = some g → u.ownBlock ≠ some g) :
    ∀ g, v.ownBlock = some g → g ≠ gb ∧ hv.ownBlock ≠ some g ∧ ∀ (k : Nat) u, vs[k]? = some u → u.ownBlock ≠ some g := fun g hg =>
  ⟨by have := hlt g hg; omega, fun e => by have := (h.hvlt e).1; have := hlt g hg; omega, fun k u hk => hd u (List.mem_of_getElem? hk) g hg⟩
/-- A row that lies below gb, in a world that keeps what lies there. -/
theorem own_far {B T gb : Nat} {w w' : World} {v : Value} {l : List Int} (h : OwnI B T w v l) (hlt : ∀ g, v.ownBlock = some g → g < gb) (hb : Below gb w w') : OwnI B T w' v l := own_keeps h (Keeps.of_below hb) hlt
theorem rd_far {B T gb : Nat} {w w' : World} {v : Value} {l : List Int} (h : OwnI B T w v l) (hl : l.length ≤ 1000000) (hlt : ∀ g, v.ownBlock = some g → g < gb) (hb : Below gb w w') : RdI .i64 (· < gb) w' v l := ((h.rd (by omega)).mono fun b _ e => hlt b e).keeps (Keeps.of_below hb)
theorem below_drewN {B : Nat} {w w' : World} (h : Below B w w') (n : Nat) : Below B w (w'.drewN n) := ⟨h.os, h.tape, h.output, h.size, h.block⟩
set_option maxRecDepth 100000 in
set_option maxHeartbeats 12800000 in
theorem law_maps (w : World) (v : Value) (l : List InsD) (hc : Cd w v l) :
    Calls Tryd.prog 4 #[v] w fun e w' => e = .returned (.bool true) ∧ Below w.heap.size w w' := by
  have HC := Lib.hid hc
  obtain ⟨va, vc, rfl, _⟩ := hc.len
  clear hc
  go_enter Tryd.func4, Tryd.ntmps4
  go_wp2_with fail
  refine (law_works09 w).mono ?_
  rintro e w1 ⟨rfl, hb1⟩
  have HB1 := Lib.hid hb1
  have HC1 := Lib.hid (Cd.bel HC.out hb1)
  clear hb1
  go_wp2_with fail
  refine (sizeCode w1 _ l HC1.out).mono ?_
  rintro e w' ⟨m, rfl, hw', hm⟩
  obtain rfl : w1 = w' := hw'.symm
  have HM := Lib.hid hm
  clear hw' hm
  by_cases hbig : 3000 < m
  · go_wp2
    go_ret
    exact ⟨rfl, HB1.out⟩
  have hl : l.length ≤ 3000 := by have := (HM.out (by omega)).1; omega
  have HLL : Hid (∀ j (h : j < l.length), l[j].l.length ≤ 3000) := Lib.hid (fun j h => by have := (HM.out (by omega)).2 j h; omega)
  have HLL2 : Hid (∀ j (h : j < l.length), l[j].l.length ≤ 1048576) := Lib.hid (fun j h => by have := HLL.out j h; omega)
  clear HM
  go_wp2_with fail
  refine (wideCode w1 _ l HC1.out (by omega) HLL2.out).mono ?_
  rintro e w2 ⟨rfl, hw2, hb2⟩
  have HW2 := Lib.hid hw2.any
  have HB2 := Lib.hid (below_next HB1.out hb2)
  have HCK := Lib.hid (hw2.cd (by omega) fun j h => by have := HLL.out j h; omega)
  have HC2 := Lib.hid (Cd.bel HC1.out hb2)
  have hg1 : w1.heap.size < w2.heap.size := hw2.lt
  clear hw2 hb2 HB1 HC1
  obtain ⟨E, L, O, er, q, hP⟩ : ∃ E L O er q, mapP (opsOf l) = (E, L, O, er, q) := ⟨_, _, _, _, _, rfl⟩
  have HP := Lib.hid hP
  have hlen := map_lens _ hP
  rw [opsOf_len] at hlen
  have HLn := Lib.hid hlen
  clear hP hlen
  go_wp2_with fail
  generalize w1.heap.size = gk at *
  refine (control_Map w2 _ l HCK.out (by omega)).mono ?_
  rintro e w3 ⟨v1, v2, v3, rfl, hA⟩
  rw [HP.out]
  have hr3 := hA.rows
  rw [HP.out] at hr3
  have hb3 := hA.bel
  have HR3 := Lib.hid hr3
  have HB3 := Lib.hid hb3
  clear hA hr3 hb3
  go_wp2_with fail
  refine (control_Map w3 _ l (Cd.bel HCK.out HB3.out) (by omega)).mono ?_
  rintro e w4 ⟨u1, u2, u3, rfl, hA⟩
  rw [HP.out]
  have hr4 := hA.rows
  rw [HP.out] at hr4
  have hb4 := hA.bel
  have HR4 := Lib.hid hr4
  have HB4 := Lib.hid hb4
  clear hA hr4 hb4
  go_wp2_with fail
  refine (ref09_Map w4 _ l (Cd.bel HC2.out (below_next HB3.out HB4.out)) (by omega)).mono ?_
  rintro e w5 ⟨x1, x2, x3, rfl, hA⟩
  rw [HP.out]
  have hr5 := hA.rows
  rw [HP.out] at hr5
  have hb5 := hA.bel
  have hb6 := below_alloc w5 (.cells (C.bagCells (.slice none 0 0)) 56)
  have hr6 := heap_alloc_new w5 (.cells (C.bagCells (.slice none 0 0)) 56)
  have HBS0 : Hid (Bs w2.heap.size w5.heap.size (w5.alloc (.cells (C.bagCells (.slice none 0 0)) 56)) (.slice none 0 0) [] []) := Lib.hid (Bs.start hr6)
  have hR3 := HR3.out; have hR4 := HR4.out
  have hs3 := HB3.out.size; have hs4 := HB4.out.size; have hs5 := hb5.size
  have hb46 := below_next hb5 hb6
  have hb36 := below_next HB4.out hb46
  have lt1 : ∀ v l, OwnI w2.heap.size 3 w3 v l → ∀ g, v.ownBlock = some g → g < w3.heap.size := fun v l h g e => (h.lt g e).2
  have HLT : Hid ((∀ g, v1.ownBlock = some g → g < w5.heap.size) ∧ (∀ g, v2.ownBlock = some g → g < w5.heap.size) ∧ (∀ g, v3.ownBlock = some g → g < w5.heap.size) ∧ (∀ g, u1.ownBlock = some g → g < w5.heap.size)) :=
    Lib.hid ⟨fun g e => by have := (hR3.r1.lt g e).2; omega, fun g e => by have := (hR3.r2.lt g e).2; omega, fun g e => by have := (hR3.r3.lt g e).2; omega, fun g e => by have := (hR4.r1.lt g e).2; omega⟩
  have HDD : Hid ((∀ g, v2.ownBlock = some g → v1.ownBlock ≠ some g) ∧ (∀ g, v3.ownBlock = some g → v1.ownBlock ≠ some g ∧ v2.ownBlock ≠ some g) ∧ (∀ g, u1.ownBlock = some g → v1.ownBlock ≠ some g ∧ v2.ownBlock ≠ some g ∧ v3.ownBlock ≠ some g)) :=
    Lib.hid ⟨fun g e e' => hR3.d12 g e' e, fun g e => ⟨fun e' => hR3.d13 g e' e, fun e' => hR3.d23 g e' e⟩, fun g e => by
      have := (hR4.r1.lt g e).1
      exact ⟨fun e' => by have := (hR3.r1.lt g e').2; omega, fun e' => by have := (hR3.r2.lt g e').2; omega, fun e' => by have := (hR3.r3.lt g e').2; omega⟩⟩
  have HO : Hid (OwnI w2.heap.size 3 (w5.alloc (.cells (C.bagCells (.slice none 0 0)) 56)) v1 E ∧ OwnI w2.heap.size 3 (w5.alloc (.cells (C.bagCells (.slice none 0 0)) 56)) v2 L ∧ OwnI w2.heap.size 3 (w5.alloc (.cells (C.bagCells (.slice none 0 0)) 56)) v3 O ∧ OwnI w2.heap.size 3 (w5.alloc (.cells (C.bagCells (.slice none 0 0)) 56)) u1 E) :=
    Lib.hid ⟨own_below hR3.r1 hb36, own_below hR3.r2 hb36, own_below hR3.r3 hb36, own_base (own_below hR4.r1 hb46) hs3⟩
  have HX : Hid ((OwnI w2.heap.size 3 (w5.alloc (.cells (C.bagCells (.slice none 0 0)) 56)) x1 E ∧ ∀ g, x1.ownBlock = some g → g < w5.heap.size) ∧ (OwnI w2.heap.size 3 (w5.alloc (.cells (C.bagCells (.slice none 0 0)) 56)) x2 L ∧ ∀ g, x2.ownBlock = some g → g < w5.heap.size) ∧ (OwnI w2.heap.size 3 (w5.alloc (.cells (C.bagCells (.slice none 0 0)) 56)) x3 O ∧ ∀ g, x3.ownBlock = some g → g < w5.heap.size)) :=
    Lib.hid ⟨⟨own_base (own_below hr5.r1 hb6) (by omega), fun g e => (hr5.r1.lt g e).2⟩, ⟨own_base (own_below hr5.r2 hb6) (by omega), fun g e => (hr5.r2.lt g e).2⟩, ⟨own_base (own_below hr5.r3 hb6) (by omega), fun g e => (hr5.r3.lt g e).2⟩⟩
  have HB26 := Lib.hid (below_next HB3.out hb36)
  have HGB : Hid (w2.heap.size ≤ w5.heap.size) := Lib.hid (by omega)
  unfold C.bagCells at *
  clear hA hr5 hb5 hb6 hr6 hR3 hR4 hs3 hs4 hs5 hb46 hb36 lt1 HR3 HR4 HB3 HB4
  go_wp2_with fail
  generalize w5.alloc _ = w6 at *
  generalize w5.heap.size = gb at *
  refine (HBS0.out.call (by simp) (.inl HO.out.1) (by have := HLn.out; omega) (HBS0.out.fresh HLT.out.1 (by simp))).mono ?_
  rintro e w7 ⟨rfl, hv1, hs1, hb7, -, -⟩
  have HBS1 := Lib.hid hs1
  have HB7 := Lib.hid hb7
  clear hs1 hb7
  go_wp2_with fail
  refine (HBS1.out.call (by simp) (.inl (own_far HO.out.2.1 HLT.out.2.1 HB7.out)) (by have := HLn.out; omega) (HBS1.out.fresh HLT.out.2.1 (fun u hu g e => by simp at hu; subst hu; exact HDD.out.1 g e))).mono ?_
  rintro e w8 ⟨rfl, hv2, hs1, hb8, -, -⟩
  have HBS2 := Lib.hid hs1
  have HB8 := Lib.hid (HB7.out.trans hb8)
  clear hs1 hb8 HBS1 HBS0 HB7
  go_wp2_with fail
  refine (HBS2.out.call (by simp) (.inl (own_far HO.out.2.2.1 HLT.out.2.2.1 HB8.out)) (by have := HLn.out; omega) (HBS2.out.fresh HLT.out.2.2.1 (fun u hu g e => by
    simp at hu
    rcases hu with rfl | rfl
    · exact (HDD.out.2.1 g e).1
    · exact (HDD.out.2.1 g e).2))).mono ?_
  rintro e w9 ⟨rfl, hv3, hs1, hb9, -, -⟩
  have HBS3 := Lib.hid hs1
  have HB9 := Lib.hid (HB8.out.trans hb9)
  clear hs1 hb9 HBS2 HB8
  go_wp2_with fail
  refine (HBS3.out.call (by simp) (.inl (own_far HO.out.2.2.2 HLT.out.2.2.2 HB9.out)) (by have := HLn.out; omega) (HBS3.out.fresh HLT.out.2.2.2 (fun u hu g e => by
    simp at hu
    rcases hu with rfl | rfl | rfl
    · exact (HDD.out.2.2 g e).1
    · exact (HDD.out.2.2 g e).2.1
    · exact (HDD.out.2.2 g e).2.2))).mono ?_
  rintro e w10 ⟨rfl, hv4, hs1, hb10, -, -⟩
  have HBS10 := Lib.hid hs1
  have HB10 := Lib.hid (HB9.out.trans hb10)
  clear hs1 hb10 HBS3 HB9 HDD
  go_wp2_with fail
  refine (eqIntsT w10 _ _ _ _ E (rd_far HO.out.1 (by have := HLn.out; omega) HLT.out.1 HB10.out) (rd_far HX.out.1.1 (by have := HLn.out; omega) HX.out.1.2 HB10.out)).mono ?_
  rintro e w11 ⟨rfl, n10, hw⟩
  have HB11 : Hid (Below gb w6 w11) := Lib.hid (by rw [hw]; exact below_drewN HB10.out _)
  have hs1 := HBS10.out.on (drewN_below w10 n10)
  rw [← hw] at hs1
  have HBS11 := Lib.hid hs1
  clear hs1 hw HB10 HBS10
  go_wp2_with fail
  refine (eqIntsT w11 _ _ _ _ L (rd_far HO.out.2.1 (by have := HLn.out; omega) HLT.out.2.1 HB11.out) (rd_far HX.out.2.1.1 (by have := HLn.out; omega) HX.out.2.1.2 HB11.out)).mono ?_
  rintro e w12 ⟨rfl, n11, hw⟩
  have HB12 : Hid (Below gb w6 w12) := Lib.hid (by rw [hw]; exact below_drewN HB11.out _)
  have hs1 := HBS11.out.on (drewN_below w11 n11)
  rw [← hw] at hs1
  have HBS12 := Lib.hid hs1
  clear hs1 hw HB11 HBS11
  go_wp2_with fail
  refine (eqIntsT w12 _ _ _ _ O (rd_far HO.out.2.2.1 (by have := HLn.out; omega) HLT.out.2.2.1 HB12.out) (rd_far HX.out.2.2.1 (by have := HLn.out; omega) HX.out.2.2.2 HB12.out)).mono ?_
  rintro e w13 ⟨rfl, n12, hw⟩
  have HB13 : Hid (Below gb w6 w13) := Lib.hid (by rw [hw]; exact below_drewN HB12.out _)
  have hs1 := HBS12.out.on (drewN_below w12 n12)
  rw [← hw] at hs1
  have HBS13 := Lib.hid hs1
  clear hs1 hw HB12 HBS12
  go_wp2_with fail
  refine (eqIntsT w13 _ _ _ _ E (rd_far HO.out.2.2.2 (by have := HLn.out; omega) HLT.out.2.2.2 HB13.out) (rd_far HX.out.1.1 (by have := HLn.out; omega) HX.out.1.2 HB13.out)).mono ?_
  rintro e w14 ⟨rfl, n13, hw⟩
  have HB14 : Hid (Below gb w6 w14) := Lib.hid (by rw [hw]; exact below_drewN HB13.out _)
  have hs1 := HBS13.out.on (drewN_below w13 n13)
  rw [← hw] at hs1
  have HBS14 := Lib.hid hs1
  clear hs1 hw HB13 HBS13
  go_wp2_with fail
  refine (HBS14.out.apart (by simp) HGB.out).mono ?_
  rintro e w15 ⟨rfl, hk⟩
  have HK15 : Hid (Keeps (· < w2.heap.size) w2 w15) := Lib.hid (((Keeps.of_below HB26.out).trans (Keeps.of_below (HB14.out.mono HGB.out))).trans (hk.mono fun b _ hb k v hv e => by have := (HBS14.out.up hv e).1; omega))
  clear hk HBS14 HB14 HB26 HO HX HLT
  go_wp2_with fail
  refine (eqCode w15 _ _ l (CdS.any (CdS.keeps HCK.out HK15.out fun _ h => h)) (CdS.any (CdS.keeps HC2.out HK15.out fun _ h => h))).mono ?_
  rintro e w16 ⟨rfl, hb16⟩
  have HK16 := Lib.hid (HK15.out.trans (Keeps.all _ hb16))
  clear hb16 HK15
  go_wp2_with fail
  refine (spareCode w16 _ gk l (HW2.out.keeps HK16.out hg1 fun _ h => h) (by omega) HLL2.out).mono ?_
  rintro e w17 ⟨rfl, hb17⟩
  have HK17 := Lib.hid (HK16.out.trans (Keeps.all _ hb17))
  clear hb17 HK16
  go_wp2
  go_ret
  exact ⟨rfl, below_next HB2.out (HK17.out.below (Nat.le_refl _) fun _ h => h)⟩
end Go.Proofs.YtiaoonlhgjfdjaaDoor
