/- The law ControlGoes. -/
import Derived.Test.YtiaoonlhgjfdjaaDoorMaps09
namespace Go.Proofs.YtiaoonlhgjfdjaaDoor
open Go Go.RowKit

theorem labelsP_len (ops : List Nat) (pc : Int) : (labelsP ops pc).length ≤ ops.length := by
  by_cases h : (mapP ops).2.2.2.1 ≠ 0 ∨ pc < 0 ∨ (ops.length : Int) ≤ pc
  · rw [labelsP_none h]; exact Nat.zero_le _
  · have h0 : (mapP ops).2.2.2.1 = 0 := Decidable.not_not.1 fun e => h (.inl e)
    obtain ⟨n, rfl⟩ : ∃ n : Nat, pc = n := ⟨pc.toNat, by omega⟩
    rw [labelsP_some h0 (by omega)]
    have := ((mapP_ok h0).lab (pc := n) (by omega)).2
    omega
theorem nextsP_len (ops : List Nat) (pc a : Int) (l : List Int) : (nextsP ops pc a l).length ≤ ops.length + 1 := by
  unfold nextsP
  split
  · exact Nat.zero_le _
  · unfold rise
    rw [List.length_map]
    exact Nat.le_trans (List.length_filter_le _ _) (by rw [List.length_range]; exact Nat.le_refl _)
theorem Bs.put {B0 gb : Nat} {w : World} {hv v : Value} {vs : List Value} {ls : List (List Int)} {l : List Int} (h : Bs B0 gb w hv vs ls) (hn : vs.length ≤ 300) (ho : Own2 w B0 3 1 v l.length (ints l)) (hl : l.length ≤ 1073741824)
    (hnew : ∀ g, v.ownBlock = some g → g ≠ gb ∧ hv.ownBlock ≠ some g ∧ ∀ (k : Nat) u, vs[k]? = some u → u.ownBlock ≠ some g) :
    Calls Tryd.prog 27 #[.pointer (some ⟨gb, 0, none⟩), v] w fun e w' => e = .returned (.tuple #[]) ∧ ∃ hv' vs' ls', Bs B0 gb w' hv' vs' ls' ∧ vs'.length ≤ 300 ∧ (∀ u ∈ vs', u ∈ vs ∨ u = v) ∧ (∀ g, hv'.ownBlock = some g → hv.ownBlock = some g ∨ w.heap.size ≤ g) ∧ Below gb w w' ∧ Keeps (fun b => b ≠ gb ∧ hv.ownBlock ≠ some b) w w' := by
  by_cases h3 : vs.length < 300
  · refine (h.call h3 ho hl hnew).mono ?_
    rintro e w' ⟨rfl, hv', h1, h2, h4, h5⟩
    exact ⟨rfl, hv', _, _, h1, by simp; omega, fun u hu => by simpa using hu, h5, h2, h4⟩
  · refine (h.full (by omega)).mono ?_
    rintro e w' ⟨rfl, rfl⟩
    exact ⟨rfl, hv, _, _, h, hn, fun u hu => .inl hu, fun g hg => .inl hg, Below.refl _ _, Keeps.refl _ _⟩
/-- How the loop stands: the bag; what lies below it is as it was. -/
def Gs (w2 : World) (gb : Nat) (wr : World) : Prop := ∃ hv vs ls, Bs w2.heap.size gb wr hv vs ls ∧ vs.length ≤ 300 ∧ Keeps (· < w2.heap.size) w2 wr
set_option maxRecDepth 100000 in
set_option maxHeartbeats 12800000 in
theorem law_goes (w : World) (v : Value) (l : List InsD) (pc : Int) (hc : Cd w v l) :
    Calls Tryd.prog 5 #[v, .int .i64 pc] w fun e w' => e = .returned (.bool true) ∧ Below w.heap.size w w' := by
  have HC := Lib.hid hc
  obtain ⟨va, vc, rfl, _⟩ := hc.len
  clear hc
  go_enter Tryd.func5, Tryd.ntmps5
  go_wp2_with fail
  refine (law_works09 w).mono ?_
  rintro e w1 ⟨rfl, hb1⟩
  have HB1 := Lib.hid hb1
  have HC1 := Lib.hid (Cd.bel HC.out hb1)
  clear hb1
  go_wp2_with fail
  refine (sizeCode w1 _ l HC1.out).mono ?_
  rintro e w' ⟨m, rfl, hw', hm⟩
  obtain rfl : w1 = w' := hw'.symm
  have HM := Lib.hid hm
  clear hw' hm
  by_cases hbig : 600 < m
  · go_wp2
    go_ret
    exact ⟨rfl, HB1.out⟩
  have hl : l.length ≤ 600 := by have := (HM.out (by omega)).1; omega
  have HLL2 : Hid (∀ j (h : j < l.length), l[j].l.length ≤ 1048576) := Lib.hid (fun j h => by have := (HM.out (by omega)).2 j h; omega)
  clear HM
  have hdm : decide ((600 : Int) < m) = false := decide_eq_false (by omega)
  go_wp2_with fail
  clear hdm
  refine (wideCode w1 _ l HC1.out (by omega) HLL2.out).mono ?_
  rintro e w2 ⟨rfl, hw2, hb2⟩
  have HW2 := Lib.hid hw2.any
  have HB2 := Lib.hid (below_next HB1.out hb2)
  have HCK := Lib.hid (hw2.cd (by omega) fun j h => by have := HLL2.out j h; omega)
  have HC2 := Lib.hid (Cd.bel HC1.out hb2)
  have hg1 : w1.heap.size < w2.heap.size := hw2.lt
  have HG1 := Lib.hid hg1
  have hb3 := below_alloc w2 (.cells (C.bagCells (.slice none 0 0)) 56)
  have hr3 := heap_alloc_new w2 (.cells (C.bagCells (.slice none 0 0)) 56)
  have HGS : Hid (Gs w2 w2.heap.size (w2.alloc (.cells (C.bagCells (.slice none 0 0)) 56))) := Lib.hid ⟨_, _, _, Bs.start hr3, by simp, Keeps.all _ hb3⟩
  unfold C.bagCells at *
  have HLb := Lib.hid (fun i => labelsP_len (opsOf l) i)
  have HNb := Lib.hid (fun i a xl => nextsP_len (opsOf l) i a xl)
  rw [opsOf_len] at HLb HNb
  clear hw2 hb2 HB1 HC1 hb3 hr3 hg1
  go_wp2_with fail
  generalize w1.heap.size = gk at *
  go_loopw [8] (fun i wr => ∃ k : Nat, k ≤ l.length + 2 ∧ i = .int .i64 ((k : Int) - 1) ∧ Hid (Gs w2 w2.heap.size wr)) (fun i _ => l.length + 2 - (intOf i + 1).toNat)
  case atStart => exact ⟨0, by omega, rfl, HGS⟩
  case round =>
    obtain ⟨k, hk, rfl, HG⟩ := hrel
    clear HGS
    obtain ⟨hv, vs, ls, hbs, hvl, hkp⟩ := HG.out
    have HBS := Lib.hid hbs
    have HKP := Lib.hid hkp
    have HVL := Lib.hid hvl
    clear hbs hkp hvl HG
    have cdk : ∀ wx, Below wr.heap.size wr wx → Cd wx (.slice (some ⟨gk, 0, none⟩) l.length (l.length + 64)) l := fun wx hb => CdS.any (CdS.keeps HCK.out (HKP.out.trans (Keeps.all _ hb)) fun _ h => h)
    have cdc : ∀ wx, Below wr.heap.size wr wx → Cd wx (.slice va l.length vc) l := fun wx hb => CdS.any (CdS.keeps HC2.out (HKP.out.trans (Keeps.all _ hb)) fun _ h => h)
    have HDK := Lib.hid cdk
    have HDC := Lib.hid cdc
    clear cdk cdc
    by_cases hlt : k < l.length + 2
    · obtain ⟨i, hi⟩ : ∃ i : Int, (k : Int) - 1 = i := ⟨_, rfl⟩
      rw [hi]
      have hir : -1 ≤ i ∧ i ≤ l.length := by omega
      have HI := Lib.hid hi
      clear hi
      obtain ⟨A, hA⟩ : ∃ A, labelsP (opsOf l) i = A := ⟨_, rfl⟩
      obtain ⟨N, hN⟩ : ∃ N, nextsP (opsOf l) i (l.getD i.toNat insZ).a (l.getD i.toNat insZ).l = N := ⟨_, rfl⟩
      have HA := Lib.hid hA; have HN := Lib.hid hN
      have hAl : A.length ≤ 600 := by rw [← hA]; exact Nat.le_trans (HLb.out i) hl
      have hNl : N.length ≤ 601 := by rw [← hN]; exact Nat.le_trans (HNb.out _ _ _) (by omega)
      clear hA hN
      go_wp2_with fail
      refine (control_Labels wr _ l i (HDK.out _ (Below.refl _ _)) (by omega)).mono ?_
      rintro e w3 ⟨ta, rfl, hb3, ho3⟩
      rw [HA.out] at ho3
      have HB3 := Lib.hid hb3; have HO3 := Lib.hid ho3
      clear hb3 ho3
      go_wp2_with fail
      refine (control_Next w3 _ l i (HDK.out _ HB3.out) (by omega) HLL2.out).mono ?_
      rintro e w4 ⟨tb, rfl, hb4, ho4⟩
      rw [HN.out] at ho4
      have HB34 := Lib.hid hb4
      have HB4 := Lib.hid (below_next HB3.out hb4); have HO4 := Lib.hid ho4
      clear hb4 ho4
      go_wp2_with fail
      refine (ref09_Labels w4 _ l i (HDC.out _ HB4.out) (by omega)).mono ?_
      rintro e w5 ⟨xa, rfl, hb5, ho5⟩
      rw [HA.out] at ho5
      have HB45 := Lib.hid hb5
      have HB5 := Lib.hid (below_next HB4.out hb5); have HO5 := Lib.hid ho5
      clear hb5 ho5
      go_wp2_with fail
      refine (eqIntsT w5 _ _ _ _ A ((HO3.out.rd (by omega)).keeps (Keeps.all _ (below_next HB34.out HB45.out))) (HO5.out.rd (by omega))).mono ?_
      rintro e w6 ⟨rfl, n6, hw⟩
      have hb6 := drewN_below w5 n6
      rw [← hw] at hb6
      have HB46 := Lib.hid (below_next HB45.out hb6)
      have HB6 := Lib.hid (below_next HB5.out hb6)
      clear hb6 hw HO5 HB5 HB45
      go_wp2_with fail
      refine (ref09_Next w6 _ l i (HDC.out _ HB6.out) (by omega) HLL2.out).mono ?_
      rintro e w7 ⟨xb, rfl, hb7, ho7⟩
      rw [HN.out] at ho7
      have HB47 := Lib.hid (below_next HB46.out hb7)
      have HB7 := Lib.hid (below_next HB6.out hb7); have HO7 := Lib.hid ho7
      clear hb7 ho7 HB46 HB6
      go_wp2_with fail
      refine (eqIntsT w7 _ _ _ _ N ((HO4.out.rdI (by omega)).keeps (Keeps.all _ HB47.out)) (HO7.out.rd (by omega))).mono ?_
      rintro e w8 ⟨rfl, n8, hw⟩
      have hb8 := drewN_below w7 n8
      rw [← hw] at hb8
      have HB48 := Lib.hid (below_next HB47.out hb8)
      have HB8 := Lib.hid (below_next HB7.out hb8)
      clear hb8 hw HO7 HB7 HB47
      have hs3 := HB3.out.size; have hs34 := HB34.out.size; have hs48 := HB48.out.size
      have hgl := HBS.out.lt
      have hk2 := HKP.out.size
      have HS8 := Lib.hid (HBS.out.on HB8.out)
      have HOa : Hid (Own2 w8 w2.heap.size 3 1 ta A.length (ints A) ∧ ∀ g, ta.ownBlock = some g → wr.heap.size ≤ g ∧ g < w3.heap.size) := Lib.hid ⟨.inl (own_base (own_below HO3.out (below_next HB34.out HB48.out)) (by omega)), fun g e => HO3.out.lt g e⟩
      have HOb : Hid (Own2 w8 w2.heap.size 3 1 tb N.length (ints N) ∧ ∀ g, tb.ownBlock = some g → w3.heap.size ≤ g ∧ g < w4.heap.size) := Lib.hid ⟨(HO4.out.below HB48.out).base (by omega), fun g e => HO4.out.lt g e⟩
      have HNa : Hid (∀ g, ta.ownBlock = some g → g ≠ w2.heap.size ∧ hv.ownBlock ≠ some g ∧ ∀ (k : Nat) u, vs[k]? = some u → u.ownBlock ≠ some g) := Lib.hid (fun g e => by
        have := HOa.out.2 g e
        exact ⟨by omega, fun e' => by have := (HBS.out.hvlt e').2; omega, fun k u hu e' => by have := (HBS.out.up hu e').2; omega⟩)
      have HVB : Hid ((∀ g, hv.ownBlock = some g → g < wr.heap.size) ∧ ∀ u ∈ vs, ∀ g, u.ownBlock = some g → g < wr.heap.size) := Lib.hid ⟨fun g e => (HBS.out.hvlt e).2, fun u hu g e => by obtain ⟨j, hj⟩ := List.getElem?_of_mem hu; exact (HBS.out.up hj e).2⟩
      clear HBS HO3 HO4
      go_wp2_with fail
      refine (HS8.out.put HVL.out HOa.out.1 (by omega) HNa.out).mono ?_
      rintro e w9 ⟨rfl, hv9, vs9, ls9, hs9, hl9, hm9, hh9, hb9, hk9⟩
      have HS9 := Lib.hid hs9; have HL9 := Lib.hid hl9; have HB9 := Lib.hid hb9
      have HOb9 : Hid (Own2 w9 w2.heap.size 3 1 tb N.length (ints N)) := Lib.hid (HOb.out.1.keeps hk9 fun g e => by have := HOb.out.2 g e; exact ⟨by omega, fun e' => by have := HVB.out.1 g e'; omega⟩)
      have HNb9 : Hid (∀ g, tb.ownBlock = some g → g ≠ w2.heap.size ∧ hv9.ownBlock ≠ some g ∧ ∀ (k : Nat) u, vs9[k]? = some u → u.ownBlock ≠ some g) := Lib.hid (fun g e => by
        have hg := HOb.out.2 g e
        refine ⟨by omega, fun e' => ?_, fun k u hu e' => ?_⟩
        · rcases hh9 g e' with h1 | h1
          · have := HVB.out.1 g h1; omega
          · omega
        · rcases hm9 u (List.mem_of_getElem? hu) with h1 | rfl
          · have := HVB.out.2 u h1 g e'; omega
          · have := HOa.out.2 g e'; omega)
      clear hs9 hl9 hm9 hh9 hb9 hk9
      go_wp2_with fail
      refine (HS9.out.put HL9.out HOb9.out (by omega) HNb9.out).mono ?_
      rintro e w10 ⟨rfl, hv10, vs10, ls10, hs10, hl10, -, -, hb10, -⟩
      have HGN : Hid (Gs w2 w2.heap.size w10) := Lib.hid ⟨hv10, vs10, ls10, hs10, hl10, ((HKP.out.trans (Keeps.all _ HB8.out)).trans (Keeps.of_below HB9.out)).trans (Keeps.of_below hb10)⟩
      have hik : i = (k : Int) - 1 := HI.out.symm
      have HIK := Lib.hid hik
      clear hs10 hl10 hb10 HS9 HS8 hik
      go_wp2
      go_roundw
      case rel => exact ⟨k + 1, by omega, by have := HIK.out; go_num, HGN⟩
      case measure => simp [intOf]; have := HIK.out; omega
    · obtain rfl : k = l.length + 2 := by omega
      obtain ⟨A, hA⟩ : ∃ A, labelsP (opsOf l) pc = A := ⟨_, rfl⟩
      obtain ⟨N, hN⟩ : ∃ N, nextsP (opsOf l) pc (l.getD pc.toNat insZ).a (l.getD pc.toNat insZ).l = N := ⟨_, rfl⟩
      have HA := Lib.hid hA; have HN := Lib.hid hN
      have hAl : A.length ≤ 600 := by rw [← hA]; exact Nat.le_trans (HLb.out pc) hl
      have hNl : N.length ≤ 601 := by rw [← hN]; exact Nat.le_trans (HNb.out _ _ _) (by omega)
      clear hA hN
      go_wp2_with fail
      refine (control_Labels wr _ l pc (HDK.out _ (Below.refl _ _)) (by omega)).mono ?_
      rintro e w3 ⟨ta, rfl, hb3, ho3⟩
      rw [HA.out] at ho3
      have HB3 := Lib.hid hb3; have HO3 := Lib.hid ho3
      clear hb3 ho3
      go_wp2_with fail
      refine (ref09_Labels w3 _ l pc (HDC.out _ HB3.out) (by omega)).mono ?_
      rintro e w5 ⟨xa, rfl, hb5, ho5⟩
      rw [HA.out] at ho5
      have HB35 := Lib.hid hb5
      have HB5 := Lib.hid (below_next HB3.out hb5); have HO5 := Lib.hid ho5
      clear hb5 ho5
      go_wp2_with fail
      refine (eqIntsT w5 _ _ _ _ A ((HO3.out.rd (by omega)).keeps (Keeps.all _ HB35.out)) (HO5.out.rd (by omega))).mono ?_
      rintro e w6 ⟨rfl, n6, hw⟩
      have hb6 := drewN_below w5 n6
      rw [← hw] at hb6
      have HB6 := Lib.hid (below_next HB5.out hb6)
      clear hb6 hw HO5 HB5 HB35 HO3 HB3
      go_wp2_with fail
      refine (control_Next w6 _ l pc (HDK.out _ HB6.out) (by omega) HLL2.out).mono ?_
      rintro e w7 ⟨tb, rfl, hb7, ho7⟩
      rw [HN.out] at ho7
      have HB7 := Lib.hid (below_next HB6.out hb7); have HO7 := Lib.hid ho7
      clear hb7 ho7 HB6
      go_wp2_with fail
      refine (ref09_Next w7 _ l pc (HDC.out _ HB7.out) (by omega) HLL2.out).mono ?_
      rintro e w8 ⟨xb, rfl, hb8, ho8⟩
      rw [HN.out] at ho8
      have HB78 := Lib.hid hb8
      have HB8 := Lib.hid (below_next HB7.out hb8); have HO8 := Lib.hid ho8
      clear hb8 ho8 HB7
      go_wp2_with fail
      refine (eqIntsT w8 _ _ _ _ N ((HO7.out.rdI (by omega)).keeps (Keeps.all _ HB78.out)) (HO8.out.rd (by omega))).mono ?_
      rintro e w9 ⟨rfl, n9, hw⟩
      have hb9 := drewN_below w8 n9
      rw [← hw] at hb9
      have HB9 := Lib.hid (below_next HB8.out hb9)
      have HS9 := Lib.hid (HBS.out.on HB9.out)
      have HK9 := Lib.hid (HKP.out.trans (Keeps.all _ HB9.out))
      clear hb9 hw HO8 HO7 HB78 HB8 HB9 HBS HKP
      go_wp2_with fail
      refine (HS9.out.apart HVL.out (Nat.le_refl _)).mono ?_
      rintro e w15 ⟨rfl, hk⟩
      have HK15 : Hid (Keeps (· < w2.heap.size) w2 w15) := Lib.hid (HK9.out.trans (hk.mono fun b _ hb k v hv e => by have := (HS9.out.up hv e).1; omega))
      clear hk HS9 HK9
      go_wp2_with fail
      refine (eqCode w15 _ _ l (CdS.any (CdS.keeps HCK.out HK15.out fun _ h => h)) (CdS.any (CdS.keeps HC2.out HK15.out fun _ h => h))).mono ?_
      rintro e w16 ⟨rfl, hb16⟩
      have HK16 := Lib.hid (HK15.out.trans (Keeps.all _ hb16))
      clear hb16 HK15
      go_wp2_with fail
      refine (spareCode w16 _ gk l (HW2.out.keeps HK16.out HG1.out fun _ h => h) (by omega) HLL2.out).mono ?_
      rintro e w17 ⟨rfl, hb17⟩
      have HK17 := Lib.hid (HK16.out.trans (Keeps.all _ hb17))
      clear hb17 HK16
      go_wp2
      go_ret
      exact ⟨rfl, below_next HB2.out (HK17.out.below (Nat.le_refl _) fun _ h => h)⟩
end Go.Proofs.YtiaoonlhgjfdjaaDoor
