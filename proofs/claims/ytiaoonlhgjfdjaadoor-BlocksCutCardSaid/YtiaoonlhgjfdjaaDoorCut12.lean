/- The law BlocksCut. -/
import Derived.Test.YtiaoonlhgjfdjaaDoorBagR
import Derived.Test.YtiaoonlhgjfdjaaDoorTable2
import Derived.Test.YtiaoonlhgjfdjaaDoorWorks12D
import Derived.Test.YtiaoonlhgjfdjaaDoorCode3
namespace Go.Proofs.YtiaoonlhgjfdjaaDoor
open Go Go.RowKit

theorem WideCd.any' {S : Nat → Prop} {w : World} {g : Nat} {l : List InsD} (h : WideCd S w g l) : WideCd (· < w.heap.size) w g l := by
  obtain ⟨c, h1, h2, h3⟩ := h
  refine ⟨c, h1, h2, fun j hj => ⟨fun hj' => ?_, (h3 j hj).2⟩⟩
  obtain ⟨gk, _, a, b, d, e⟩ := (h3 j hj).1 hj'
  exact ⟨gk, e.lt, a, b, d, e⟩
theorem map_lens' (ops : List Nat) {E L O : List Int} {er : Int} {q : Nat} (h : mapP ops = (E, L, O, er, q)) : E.length ≤ ops.length ∧ L.length ≤ ops.length ∧ O.length ≤ ops.length := by
  by_cases he : (mapP ops).2.2.2.1 = 0
  · have hk := mapP_ok he
    rw [h] at hk
    exact ⟨by have := hk.le; simp only at this; omega, by have := hk.ll; simp only at this; omega, by have := hk.lo; simp only at this; omega⟩
  · obtain ⟨h1, h2, h3⟩ := mapP_no he
    rw [h] at h1 h2 h3
    simp only at h1 h2 h3
    subst h1 h2 h3
    exact ⟨Nat.zero_le _, Nat.zero_le _, Nat.zero_le _⟩
theorem Cd.bel' {w w' : World} {v : Value} {l : List InsD} (h : Cd w v l) (hb : Below w.heap.size w w') : Cd w' v l := Cd.bel h hb
theorem Bl.kept' {S : Nat → Prop} {B : Nat} {w w' : World} {v1 v2 : Value} {S1 L1 : List Int} (h : Bl B w v1 v2 S1 L1) (hk : Keeps S w w') (h1 : ∀ g, (v1.ownBlock = some g ∨ v2.ownBlock = some g) → S g) : Bl B w' v1 v2 S1 L1 :=
  ⟨own_keeps h.s hk fun g hg => h1 g (.inl hg), own_keeps h.l hk fun g hg => h1 g (.inr hg), h.d⟩
theorem Bl.base' {B B' : Nat} {w : World} {v1 v2 : Value} {S1 L1 : List Int} (h : Bl B w v1 v2 S1 L1) (hb : B' ≤ B) : Bl B' w v1 v2 S1 L1 := ⟨own_base h.s hb, own_base h.l hb, h.d⟩
theorem below_four {w w1 w2 w3 w4 : World} (h1 : Below w.heap.size w w1) (h2 : Below w1.heap.size w1 w2) (h3 : Below w2.heap.size w2 w3) (h4 : Below w3.heap.size w3 w4) : Below w.heap.size w w4 := below_next (below_next (below_next h1 h2) h3) h4
theorem Own2.rdV {w : World} {base e n : Nat} {v : Value} {xs : List Value} (h : Own2 w base e 1 v n xs) (hl : n ≤ 140737488355328) : RdV (· < w.heap.size) w v xs := by
  have hlen := h.len
  obtain ⟨a, c, rfl, hc, ha⟩ := h.slice
  rw [Nat.mul_one] at hlen
  subst hlen
  refine RdV.any (S := fun _ => True) ⟨a, c, rfl, hc, hl, fun j hj => ?_⟩
  obtain ⟨g, rfl⟩ := ha (by omega)
  exact ⟨g, 0, rfl, trivial, by rw [Nat.zero_add]; exact h.at_ rfl (List.getElem?_eq_getElem hj)⟩
theorem blkP_len (ops : List Nat) (te tl : List Int) : (blkP ops te tl).1.length ≤ ops.length ∧ (blkP ops te tl).2.length ≤ ops.length := by
  unfold blkP
  split
  · exact ⟨Nat.zero_le _, Nat.zero_le _⟩
  · exact ⟨by simp [startsL], by simp [leftsL]⟩
theorem leadersP_len (ops : List Nat) : (leadersP ops).length ≤ ops.length := by
  unfold leadersP
  split
  · exact Nat.zero_le _
  · rw [leadL_len]; exact Nat.le_refl _
theorem row5 {w : World} {g : Nat} {c0 c1 c2 c3 c4 : Value} {T : Nat} {fr : Nat × Nat} (h : w.heap[g]? = some (.cells #[c0, c1, c2, c3, c4] T fr)) :
    w.cell? ⟨g, 0, none⟩ = some c0 ∧ w.cell? ⟨g, 1, none⟩ = some c1 ∧ w.cell? ⟨g, 2, none⟩ = some c2 ∧ w.cell? ⟨g, 3, none⟩ = some c3 ∧ w.cell? ⟨g, 4, none⟩ = some c4 :=
  ⟨row_cell h 0 rfl, row_cell h 1 rfl, row_cell h 2 rfl, row_cell h 3 rfl, row_cell h 4 rfl⟩
theorem row2 {w : World} {g : Nat} {c0 c1 : Value} {T : Nat} {fr : Nat × Nat} (h : w.heap[g]? = some (.cells #[c0, c1] T fr)) : w.cell? ⟨g, 0, none⟩ = some c0 ∧ w.cell? ⟨g, 1, none⟩ = some c1 := ⟨row_cell h 0 rfl, row_cell h 1 rfl⟩
set_option maxRecDepth 100000 in
set_option maxHeartbeats 12800000 in
theorem law_cut (w : World) (v v0 v1 v2 v3 : Value) (l : List InsD) (t : TabD) (hc : Cd w v l) (hr : RTab (· < w.heap.size) w v0 v1 v2 v3 t) (ho : t.Ok) (ht : Tp w) :
    Calls Tryd.prog 3 #[v, .agg #[v0, v1, v2, v3, .int .i64 t.hi]] w fun e w' => e = .returned (.bool true) ∧ Below w.heap.size w w' := by
  obtain ⟨sh, E, L, F, hi⟩ := t
  have HC := Lib.hid hc
  have HR := Lib.hid hr
  have HO := Lib.hid ho
  have HT := Lib.hid ht
  obtain ⟨va, vc, rfl, _⟩ := hc.len
  obtain ⟨a0, c0, rfl, _⟩ := hr.sh.lenc
  obtain ⟨a1, c1, rfl, _⟩ := hr.e.lenc
  obtain ⟨a2, c2, rfl, _⟩ := hr.l.lenc
  obtain ⟨a3, c3, rfl, _⟩ := hr.f.lenc
  simp only [List.length_map] at HR ⊢
  clear hc hr ho ht
  go_enter Tryd.func3, Tryd.ntmps3
  have hb1 := below_alloc w (.cells #[.slice a0 sh.length c0, .slice a1 E.length c1, .slice a2 L.length c2, .slice a3 F.length c3, .int .i64 hi] 26)
  have hr1 := heap_alloc_new w (.cells #[.slice a0 sh.length c0, .slice a1 E.length c1, .slice a2 L.length c2, .slice a3 F.length c3, .int .i64 hi] 26)
  go_upto_region 1 with fail
  obtain ⟨w1, hw1⟩ : ∃ w1, w.alloc (.cells #[.slice a0 sh.length c0, .slice a1 E.length c1, .slice a2 L.length c2, .slice a3 F.length c3, .int .i64 hi] 26) = w1 := ⟨_, rfl⟩
  rw [hw1] at hb1 hr1 ⊢
  obtain ⟨bt, hbt⟩ : ∃ bt, w.heap.size = bt := ⟨_, rfl⟩
  have HBT : Hid (bt = w.heap.size) := Lib.hid hbt.symm
  have HB1 := Lib.hid hb1
  rw [hbt] at hr1
  have HR1 := Lib.hid hr1
  clear hw1 hb1 hr1
  go_wp2_with fail
  refine (law_works12 w1).mono ?_
  rintro e w2 ⟨rfl, hb⟩
  have HB2 := Lib.hid (below_next HB1.out hb)
  have HR2 := Lib.hid ((hb.block _ (row_lt HR1.out)).trans HR1.out)
  clear hb HR1
  go_wp2_with fail
  refine (sizeCode w2 _ l (Cd.bel HC.out HB2.out)).mono ?_
  rintro e w' ⟨m, rfl, hw', hm⟩
  obtain rfl : w2 = w' := hw'.symm
  have HM := Lib.hid hm
  clear hw' hm
  by_cases hbig : 3000 < m
  · go_wp2
    go_ret
    exact ⟨rfl, HB2.out⟩
  have hl : l.length ≤ 3000 := by have := (HM.out (by omega)).1; omega
  have HLL2 : Hid (∀ j (h : j < l.length), l[j].l.length ≤ 1048576) := Lib.hid (fun j h => by have := (HM.out (by omega)).2 j h; omega)
  clear HM
  have hdm : decide ((3000 : Int) < m) = false := decide_eq_false (by omega)
  go_wp2_with fail
  clear hdm
  obtain ⟨gk, hgk⟩ : ∃ gk, w2.heap.size = gk := ⟨_, rfl⟩
  refine (wideCode w2 _ l (Cd.bel HC.out HB2.out) (by omega) HLL2.out).mono ?_
  rintro e w3 ⟨rfl, hw3, hb3⟩
  rw [hgk] at hw3 ⊢
  have HW3 := Lib.hid hw3.any'
  have HB3 := Lib.hid (below_next HB2.out hb3)
  have HR3 := Lib.hid ((hb3.block _ (row_lt HR2.out)).trans HR2.out)
  have HCK := Lib.hid (hw3.cd (by omega) fun j h => by have := HLL2.out j h; omega)
  clear hw3 hb3 HR2 hgk
  go_wp2_with fail
  refine (law_tableOf w3 _ l (Cd.bel HC.out HB3.out) (by omega)).mono ?_
  rintro e w4 ⟨u1, u2, rfl, hb4, ho1, ho2⟩
  obtain ⟨eu1, cu1, rfl, _⟩ := own_slice ho1
  obtain ⟨eu2, cu2, rfl, _⟩ := own_slice ho2
  obtain ⟨hml1, hml2, _⟩ := map_lens' (opsOf l) (E := (mapP (opsOf l)).1) (L := (mapP (opsOf l)).2.1) (O := (mapP (opsOf l)).2.2.1) (er := (mapP (opsOf l)).2.2.2.1) (q := (mapP (opsOf l)).2.2.2.2) rfl
  rw [opsOf_len] at hml1 hml2
  have HU1 : Hid (RdI .i64 (· < w4.heap.size) w4 (.slice eu1 (mapP (opsOf l)).1.length cu1) (mapP (opsOf l)).1) := Lib.hid (ho1.rd (by omega)).any
  have HU2 : Hid (RdI .i64 (· < w4.heap.size) w4 (.slice eu2 (mapP (opsOf l)).2.1.length cu2) (mapP (opsOf l)).2.1) := Lib.hid (ho2.rd (by omega)).any
  have HB4 := Lib.hid (below_next HB3.out hb4)
  have HB34 := Lib.hid hb4
  have HR4 := Lib.hid ((hb4.block _ (row_lt HR3.out)).trans HR3.out)
  clear hb4 ho1 ho2 HR3 hml1 hml2
  generalize (mapP (opsOf l)).1.length = nU1 at *
  generalize (mapP (opsOf l)).2.1.length = nU2 at *
  have hb5 := below_alloc w4 (.cells #[.slice none 0 0, .slice eu1 nU1 cu1, .slice eu2 nU2 cu2, .slice none 0 0, .int .i64 0] 26)
  have hr5 := heap_alloc_new w4 (.cells #[.slice none 0 0, .slice eu1 nU1 cu1, .slice eu2 nU2 cu2, .slice none 0 0, .int .i64 0] 26)
  go_upto_region 6 with fail
  obtain ⟨w5, hw5⟩ : ∃ w5, w4.alloc (.cells #[.slice none 0 0, .slice eu1 nU1 cu1, .slice eu2 nU2 cu2, .slice none 0 0, .int .i64 0] 26) = w5 := ⟨_, rfl⟩
  rw [hw5] at hb5 hr5 ⊢
  obtain ⟨b7, hb7⟩ : ∃ b7, w4.heap.size = b7 := ⟨_, rfl⟩
  rw [hb7] at hr5 ⊢
  have HB5 := Lib.hid (below_next HB4.out hb5)
  have HB35 := Lib.hid (below_next HB34.out hb5)
  have HR5 := Lib.hid ((hb5.block _ (row_lt HR4.out)).trans HR4.out)
  have HO5 := Lib.hid hr5
  have HV1 := Lib.hid (HU1.out.bel hb5)
  have HV2 := Lib.hid (HU2.out.bel hb5)
  have HQ5 := Lib.hid (hb5.block)
  clear hw5 hb5 hr5 hb7 HU1 HU2 HR4 HQ5 HB4 HB34 HB3
  obtain ⟨x0, x1, x2, x3, x4⟩ := row5 HR5.out
  go_wp2_with fail
  refine (wideTable w5 _ _ _ _ ⟨sh, E, L, F, hi⟩ (HR.out.bel HB5.out) HO.out (HT.out.bel HB5.out)).mono ?_
  rintro e w6 ⟨g0, g1, g2, g3, rfl, hw6, hb6⟩
  clear x0 x1 x2 x3 x4
  have HB6 := Lib.hid (below_next HB5.out hb6)
  have HB36 := Lib.hid (below_next HB35.out hb6)
  have HB56 := Lib.hid hb6
  have HW6 := Lib.hid hw6
  clear hw6 hb6
  have hb7 := below_alloc w6 (.cells #[.slice (some ⟨g0, 0, none⟩) sh.length (sh.length + 64), .slice (some ⟨g1, 0, none⟩) E.length (E.length + 64), .slice (some ⟨g2, 0, none⟩) L.length (L.length + 64), .slice (some ⟨g3, 0, none⟩) F.length (F.length + 64), .int .i64 hi] 26)
  have hr7 := heap_alloc_new w6 (.cells #[.slice (some ⟨g0, 0, none⟩) sh.length (sh.length + 64), .slice (some ⟨g1, 0, none⟩) E.length (E.length + 64), .slice (some ⟨g2, 0, none⟩) L.length (L.length + 64), .slice (some ⟨g3, 0, none⟩) F.length (F.length + 64), .int .i64 hi] 26)
  go_upto_region 7 with fail
  obtain ⟨w7, hw7⟩ : ∃ w7, w6.alloc (.cells #[.slice (some ⟨g0, 0, none⟩) sh.length (sh.length + 64), .slice (some ⟨g1, 0, none⟩) E.length (E.length + 64), .slice (some ⟨g2, 0, none⟩) L.length (L.length + 64), .slice (some ⟨g3, 0, none⟩) F.length (F.length + 64), .int .i64 hi] 26) = w7 := ⟨_, rfl⟩
  rw [hw7] at hb7 hr7 ⊢
  obtain ⟨b8, hb8⟩ : ∃ b8, w6.heap.size = b8 := ⟨_, rfl⟩
  rw [hb8] at hr7 ⊢
  have HB7 := Lib.hid (below_next HB6.out hb7)
  have HB37 := Lib.hid (below_next HB36.out hb7)
  have HB57 := Lib.hid (below_next HB56.out hb7)
  have HW7 := Lib.hid (HW6.out.bel hb7)
  have HT7 := Lib.hid hr7
  clear hw7 hb7 hr7 hb8 HW6 HB6 HB36 HB56
  -- all of the world w7 that is asked again at the end
  have HR7 := Lib.hid ((HB57.out.block _ (row_lt HR5.out)).trans HR5.out)
  have HO7 := Lib.hid ((HB57.out.block _ (row_lt HO5.out)).trans HO5.out)
  have HK7 := Lib.hid (HCK.out.bel' HB37.out)
  have HWC7 := Lib.hid (WideCd.any' (HW3.out.keeps (Keeps.all (fun _ => True) HB37.out) trivial fun _ _ => trivial))
  have HV17 := Lib.hid (HV1.out.bel HB57.out)
  have HV27 := Lib.hid (HV2.out.bel HB57.out)
  have HC7 := Lib.hid (Cd.bel HC.out HB7.out)
  have HRT7 := Lib.hid (HR.out.bel HB7.out)
  have HTP7 := Lib.hid (HT.out.bel HB7.out)
  have HGK := Lib.hid HW3.out.lt
  clear HR5 HO5 HCK HW3 HV1 HV2 HC HR HT HB35 HB37 HB57 HB5
  obtain ⟨x0, x1, x2, x3, x4⟩ := row5 HO7.out
  go_wp2_with fail
  clear x0 x1 x2 x3 x4
  obtain ⟨P1, hP1⟩ : ∃ P1, (blkP (opsOf l) (mapP (opsOf l)).1 (mapP (opsOf l)).2.1).1 = P1 := ⟨_, rfl⟩
  obtain ⟨P2, hP2⟩ : ∃ P2, (blkP (opsOf l) (mapP (opsOf l)).1 (mapP (opsOf l)).2.1).2 = P2 := ⟨_, rfl⟩
  obtain ⟨Q1, hQ1⟩ : ∃ Q1, (blkP (opsOf l) E L).1 = Q1 := ⟨_, rfl⟩
  obtain ⟨Q2, hQ2⟩ : ∃ Q2, (blkP (opsOf l) E L).2 = Q2 := ⟨_, rfl⟩
  have HP := Lib.hid (And.intro hP1 (And.intro hP2 (And.intro hQ1 hQ2)))
  have hlp := blkP_len (opsOf l) (mapP (opsOf l)).1 (mapP (opsOf l)).2.1
  have hlq := blkP_len (opsOf l) E L
  rw [hP1, hP2, opsOf_len] at hlp
  rw [hQ1, hQ2, opsOf_len] at hlq
  clear hP1 hP2 hQ1 hQ2
  refine (blk_Of w7 _ _ _ _ _ _ l _ _ HK7.out HV17.out HV27.out (by omega)).mono ?_
  rintro e w8 ⟨p1, p2, rfl, hb8, hbl8⟩
  rw [HP.out.1, HP.out.2.1] at hbl8
  obtain ⟨pa1, pc1, rfl, _⟩ := own_slice hbl8.s
  obtain ⟨pa2, pc2, rfl, _⟩ := own_slice hbl8.l
  have HBL8 := Lib.hid hbl8
  have HB78 := Lib.hid hb8
  have hb9 := below_alloc w8 (.cells #[.slice pa1 P1.length pc1, .slice pa2 P2.length pc2] 33)
  have hr9 := heap_alloc_new w8 (.cells #[.slice pa1 P1.length pc1, .slice pa2 P2.length pc2] 33)
  clear hb8 hbl8
  go_upto_region 8 with fail
  obtain ⟨w9, hw9⟩ : ∃ w9, w8.alloc (.cells #[.slice pa1 P1.length pc1, .slice pa2 P2.length pc2] 33) = w9 := ⟨_, rfl⟩
  rw [hw9] at hb9 hr9 ⊢
  obtain ⟨b9, hb9e⟩ : ∃ b9, w8.heap.size = b9 := ⟨_, rfl⟩
  rw [hb9e] at hr9 ⊢
  have HB79 := Lib.hid (below_next HB78.out hb9)
  have HBL9 := Lib.hid (HBL8.out.kept (Keeps.all (fun _ => True) hb9) fun _ _ => trivial)
  have HI9 : Hid (∀ g, ((Value.slice pa1 P1.length pc1).ownBlock = some g ∨ (Value.slice pa2 P2.length pc2).ownBlock = some g) → w7.heap.size ≤ g ∧ g < w9.heap.size) := Lib.hid fun g e => by
    have := hb9.size
    rcases e with e | e
    · have := HBL8.out.s.lt g e; omega
    · have := HBL8.out.l.lt g e; omega
  have HP9 := Lib.hid hr9
  have HS9 : Hid (w7.heap.size ≤ b9 ∧ b9 < w9.heap.size) := Lib.hid ⟨by rw [← hb9e]; exact HB78.out.size, row_lt hr9⟩
  clear hw9 hb9 hr9 hb9e HBL8 HB78
  obtain ⟨x0, x1, x2, x3, x4⟩ := row5 ((HB79.out.block _ (row_lt HT7.out)).trans HT7.out)
  go_wp2_with fail
  clear x0 x1 x2 x3 x4
  have hrw9 := HW7.out.bel HB79.out
  refine (blk_Of w9 _ _ _ _ _ _ l E L (Cd.bel HK7.out HB79.out) ((hrw9.e.rd (Nat.le_trans HO.out.e (by decide))).any) ((hrw9.l.rd (Nat.le_trans HO.out.l (by decide))).any) (by omega)).mono ?_
  clear hrw9
  rintro e w10 ⟨q1, q2, rfl, hb10, hbl10⟩
  rw [HP.out.2.2.1, HP.out.2.2.2] at hbl10
  obtain ⟨qa1, qc1, rfl, _⟩ := own_slice hbl10.s
  obtain ⟨qa2, qc2, rfl, _⟩ := own_slice hbl10.l
  have HBL10 := Lib.hid hbl10
  have HB910 := Lib.hid hb10
  have hb11 := below_alloc w10 (.cells #[.slice qa1 Q1.length qc1, .slice qa2 Q2.length qc2] 33)
  have hr11 := heap_alloc_new w10 (.cells #[.slice qa1 Q1.length qc1, .slice qa2 Q2.length qc2] 33)
  clear hb10 hbl10
  go_upto_region 9 with fail
  obtain ⟨w11, hw11⟩ : ∃ w11, w10.alloc (.cells #[.slice qa1 Q1.length qc1, .slice qa2 Q2.length qc2] 33) = w11 := ⟨_, rfl⟩
  rw [hw11] at hb11 hr11 ⊢
  obtain ⟨b10, hb10e⟩ : ∃ b10, w10.heap.size = b10 := ⟨_, rfl⟩
  rw [hb10e] at hr11 ⊢
  have HB911 := Lib.hid (below_next HB910.out hb11)
  have HB711 := Lib.hid (below_next HB79.out HB911.out)
  have HBL11 := Lib.hid (HBL10.out.kept (Keeps.all (fun _ => True) hb11) fun _ _ => trivial)
  have HBM11 := Lib.hid (HBL9.out.kept (Keeps.all (fun _ => True) HB911.out) fun _ _ => trivial)
  have HI11 : Hid (∀ g, ((Value.slice qa1 Q1.length qc1).ownBlock = some g ∨ (Value.slice qa2 Q2.length qc2).ownBlock = some g) → w9.heap.size ≤ g ∧ g < w11.heap.size) := Lib.hid fun g e => by
    have := hb11.size
    rcases e with e | e
    · have := HBL10.out.s.lt g e; omega
    · have := HBL10.out.l.lt g e; omega
  have HP11 := Lib.hid hr11
  have HS11 : Hid (w9.heap.size ≤ b10 ∧ b10 < w11.heap.size) := Lib.hid ⟨by rw [← hb10e]; exact HB910.out.size, row_lt hr11⟩
  have HP911 := Lib.hid ((HB911.out.block _ (row_lt HP9.out)).trans HP9.out)
  clear hw11 hb11 hr11 hb10e HBL10 HB910 HBL9 HP9
  go_wp2_with fail
  obtain ⟨LD, hLD⟩ : ∃ LD, leadersP (opsOf l) = LD := ⟨_, rfl⟩
  have HLD := Lib.hid hLD
  have hll := leadersP_len (opsOf l)
  rw [hLD, opsOf_len] at hll
  clear hLD
  refine (blk_Leaders w11 _ l (Cd.bel HK7.out HB711.out) (by omega)).mono ?_
  rintro e w12 ⟨k1, rfl, hb12, ho12⟩
  rw [HLD.out] at ho12
  obtain ⟨ka1, kc1, rfl, _, _⟩ := ho12.slice
  have HB712 := Lib.hid (below_next HB711.out hb12)
  have HB1112 := Lib.hid hb12
  have HK12 := Lib.hid ho12
  clear hb12 ho12
  go_wp2_with fail
  refine (blk_Leaders w12 _ l (Cd.bel HK7.out HB712.out) (by omega)).mono ?_
  rintro e w13 ⟨k2, rfl, hb13, ho13⟩
  rw [HLD.out] at ho13
  obtain ⟨ka2, kc2, rfl, _, _⟩ := ho13.slice
  have HB713 := Lib.hid (below_next HB712.out hb13)
  have HB1113 := Lib.hid (below_next HB1112.out hb13)
  have HK13 := Lib.hid ho13
  have HK123 := Lib.hid (HK12.out.below hb13)
  have HI12 : Hid (∀ g, (Value.slice ka1 LD.length kc1).ownBlock = some g → w11.heap.size ≤ g ∧ g < w12.heap.size) := Lib.hid fun g e => HK12.out.lt g e
  have HI13 : Hid (∀ g, (Value.slice ka2 LD.length kc2).ownBlock = some g → w12.heap.size ≤ g ∧ g < w13.heap.size) := Lib.hid fun g e => HK13.out.lt g e
  have HPB := Lib.hid ((HB1113.out.block _ (row_lt HP911.out)).trans HP911.out)
  have HQB := Lib.hid ((HB1113.out.block _ (row_lt HP11.out)).trans HP11.out)
  have HPL := Lib.hid (HBM11.out.kept (Keeps.all (fun _ => True) HB1113.out) fun _ _ => trivial)
  have HQL := Lib.hid (HBL11.out.kept (Keeps.all (fun _ => True) HB1113.out) fun _ _ => trivial)
  have HSZ : Hid (w7.heap.size ≤ w9.heap.size ∧ w9.heap.size ≤ w11.heap.size ∧ w11.heap.size ≤ w12.heap.size ∧ w12.heap.size ≤ w13.heap.size) := Lib.hid ⟨HB79.out.size, HB911.out.size, HB1112.out.size, hb13.size⟩
  clear hb13 ho13 HK12 HP911 HP11 HBM11 HBL11 HB1112 HB1113 HB711 HB712 HB79 HB911
  have hb14 := below_alloc w13 (.cells (Q.cells (.slice none 0 0) (.slice none 0 0)) 56)
  have hr14 := heap_alloc_new w13 (.cells (Q.cells (.slice none 0 0) (.slice none 0 0)) 56)
  have HG14 : Hid (Q.Bg w7.heap.size (w13.alloc (.cells (Q.cells (.slice none 0 0) (.slice none 0 0)) 56)) w13.heap.size (.slice none 0 0) (.slice none 0 0) [] [] [] []) := Lib.hid (Q.Bg.start hr14)
  unfold Q.cells at hb14 hr14 HG14
  go_upto_region 12 with fail
  obtain ⟨w14, hw14⟩ : ∃ w14, w13.alloc (.cells #[.slice none 0 0, .slice none 0 0, .slice none 0 0, .slice none 0 0, .slice none 0 0, .slice none 0 0, .slice none 0 0, .slice none 0 0, .slice none 0 0, .slice none 0 0, .slice none 0 0, .slice none 0 0, .slice none 0 0, .slice none 0 0, .slice none 0 0, .slice none 0 0, .slice none 0 0] 56) = w14 := ⟨_, rfl⟩
  rw [hw14] at hb14 HG14 ⊢
  obtain ⟨gb, hgb⟩ : ∃ gb, w13.heap.size = gb := ⟨_, rfl⟩
  have hgbw : gb < w14.heap.size := by rw [← hw14, World.size_alloc]; omega
  have HGB : Hid (w13.heap.size = gb) := Lib.hid hgb
  rw [hgb] at HG14 ⊢
  have HPB4 := Lib.hid ((hb14.block _ (row_lt HPB.out)).trans HPB.out)
  have HQB4 := Lib.hid ((hb14.block _ (row_lt HQB.out)).trans HQB.out)
  have HPL4 := Lib.hid (HPL.out.kept (Keeps.all (fun _ => True) hb14) fun _ _ => trivial)
  have HQL4 := Lib.hid (HQL.out.kept (Keeps.all (fun _ => True) hb14) fun _ _ => trivial)
  have HK14 := Lib.hid (HK123.out.below hb14)
  have HK24 := Lib.hid (HK13.out.below hb14)
  have HB714 := Lib.hid (below_next HB713.out hb14)
  have HLT : Hid (b9 < gb ∧ b10 < gb) := Lib.hid (by have := HS9.out; have := HS11.out; have := HSZ.out; omega)
  clear hw14 hb14 hr14 hgb HPB HQB HPL HQL HK123 HK13 HB713
  obtain ⟨x0, x1⟩ := row2 HPB4.out
  go_wp2_with fail
  clear x0 x1
  have hs1 := HSZ.out; have hgb' := HGB.out
  refine (Q.add_blocks HG14.out (by simp) HPL4.out (by omega) (by omega) (Q.New.mk' HG14.out (lo := w7.heap.size) (by simp) (by simp) fun g e => by have := HI9.out g (.inl e); omega) (Q.New.mk' HG14.out (lo := w7.heap.size) (by simp) (by simp) fun g e => by have := HI9.out g (.inr e); omega)).mono ?_
  rintro e w15 ⟨rfl, h1, hg15, hk15, hn15⟩
  have HKP15 : Hid (Keeps (· < gb) w14 w15) := Lib.hid (hk15.mono fun b _ h => ⟨by omega, by simp [Value.ownBlock]⟩)
  have HG15 := Lib.hid hg15
  clear hg15 hk15 hn15 HG14
  obtain ⟨x0, x1⟩ := row2 ((HKP15.out.block _ (row_lt HQB4.out) HLT.out.2).trans HQB4.out)
  go_wp2_with fail
  clear x0 x1
  have hm1 : ∀ u ∈ ([] ++ [Value.slice pa1 P1.length pc1, Value.slice pa2 P2.length pc2] : List Value), ∀ g, u.ownBlock = some g → g < w9.heap.size := fun u hu g e => by
    simp only [List.nil_append, List.mem_cons, List.not_mem_nil, or_false] at hu
    rcases hu with rfl | rfl
    · exact (HI9.out g (.inl e)).2
    · exact (HI9.out g (.inr e)).2
  refine (Q.add_blocks HG15.out (by simp) ((Bl.kept' HQL4.out HKP15.out fun g e => by have := HI11.out g e; omega).base' (by omega)) (by omega) (by omega) (Q.New.mk' HG15.out (lo := w9.heap.size) hm1 (by simp) fun g e => by have := HI11.out g (.inl e); omega) (Q.New.mk' HG15.out (lo := w9.heap.size) hm1 (by simp) fun g e => by have := HI11.out g (.inr e); omega)).mono ?_
  rintro e w16 ⟨rfl, h2, hg16, hk16, hn16⟩
  have HKP16 : Hid (Keeps (· < gb) w14 w16) := Lib.hid (HKP15.out.trans (hk16.mono fun b _ h => ⟨by omega, fun e => by have := (HG15.out.oi.lt b e).1; omega⟩))
  have HG16 := Lib.hid hg16
  clear hg16 hk16 hn16 HG15 hm1
  have hm2 : ∀ u ∈ (([] ++ [Value.slice pa1 P1.length pc1, Value.slice pa2 P2.length pc2]) ++ [Value.slice qa1 Q1.length qc1, Value.slice qa2 Q2.length qc2] : List Value), ∀ g, u.ownBlock = some g → w7.heap.size ≤ g ∧ g < w11.heap.size := fun u hu g e => by
    simp only [List.nil_append, List.cons_append, List.mem_cons, List.not_mem_nil, or_false] at hu
    rcases hu with rfl | rfl | rfl | rfl
    · have := HI9.out g (.inl e); omega
    · have := HI9.out g (.inr e); omega
    · have := HI11.out g (.inl e); omega
    · have := HI11.out g (.inr e); omega
  have HM2 := Lib.hid hm2
  go_wp2_with fail
  refine (Q.add_bools HG16.out (by simp) ((HK14.out.keeps HKP16.out fun g e => by have := HI12.out g e; omega).base (by omega)) (by omega) (Q.New.mk' HG16.out (lo := w11.heap.size) (fun u hu g e => (hm2 u hu g e).2) (by simp) fun g e => by have := HI12.out g e; omega)).mono ?_
  rintro e w17 ⟨rfl, h3, hg17, hk17, hn17⟩
  have HKP17 : Hid (Keeps (· < gb) w14 w17) := Lib.hid (HKP16.out.trans (hk17.mono fun b _ h => ⟨by omega, fun e => by have := (HG16.out.ob.lt b e).1; omega⟩))
  have HG17 := Lib.hid hg17
  clear hg17 hk17 hn17 HG16
  go_wp2_with fail
  refine (Q.add_bools HG17.out (by simp) ((HK24.out.keeps HKP17.out fun g e => by have := HI13.out g e; omega).base (by omega)) (by omega) (Q.New.mk' HG17.out (lo := w12.heap.size) (fun u hu g e => by have := (hm2 u hu g e).2; omega) (fun u hu g e => by simp only [List.nil_append, List.mem_cons, List.not_mem_nil, or_false] at hu; subst hu; exact (HI12.out g e).2) fun g e => by have := HI13.out g e; omega)).mono ?_
  rintro e w18 ⟨rfl, h4, hg18, hk18, hn18⟩
  have HKP18 : Hid (Keeps (· < gb) w14 w18) := Lib.hid (HKP17.out.trans (hk18.mono fun b _ h => ⟨by omega, fun e => by have := (HG17.out.ob.lt b e).1; omega⟩))
  have HG18 := Lib.hid hg18
  clear hg18 hk18 hn18 HG17 hm2 HKP15 HKP16 HKP17
  go_upto_region 16 with fail
  -- what the calls of the comparison give, in every world that keeps what lies below the bag
  have hsz14 : w7.heap.size ≤ w14.heap.size := HB714.out.size
  have HKK : Hid (∀ wx, Hid (Below w18.heap.size w18 wx) → Keeps (· < gb) w14 wx) := Lib.hid fun wx h => HKP18.out.trans (Keeps.all _ h.out)
  have HX : Hid (∀ wx, Hid (Below w18.heap.size w18 wx) → Below w7.heap.size w7 wx) := Lib.hid fun wx h => HB714.out.trans ((HKK.out wx h).below hsz14 fun b hb => by omega)
  have HXN : Hid (∀ wx w', Hid (Below w18.heap.size w18 wx) → Below wx.heap.size wx w' → Hid (Below w18.heap.size w18 w')) := Lib.hid fun wx w' h hb => Lib.hid (below_next h.out hb)
  have HRP1 : Hid (∀ wx, Hid (Below w18.heap.size w18 wx) → RdI .i64 (· < wx.heap.size) wx (.slice pa1 P1.length pc1) P1) := Lib.hid fun wx h => ((HPL4.out.s.rd (by omega)).keeps ((HKK.out wx h).mono fun b _ e => by have := HI9.out b (.inl e); omega)).any
  have HRP2 : Hid (∀ wx, Hid (Below w18.heap.size w18 wx) → RdI .i64 (· < wx.heap.size) wx (.slice pa2 P2.length pc2) P2) := Lib.hid fun wx h => ((HPL4.out.l.rd (by omega)).keeps ((HKK.out wx h).mono fun b _ e => by have := HI9.out b (.inr e); omega)).any
  have HRQ1 : Hid (∀ wx, Hid (Below w18.heap.size w18 wx) → RdI .i64 (· < wx.heap.size) wx (.slice qa1 Q1.length qc1) Q1) := Lib.hid fun wx h => ((HQL4.out.s.rd (by omega)).keeps ((HKK.out wx h).mono fun b _ e => by have := HI11.out b (.inl e); omega)).any
  have HRQ2 : Hid (∀ wx, Hid (Below w18.heap.size w18 wx) → RdI .i64 (· < wx.heap.size) wx (.slice qa2 Q2.length qc2) Q2) := Lib.hid fun wx h => ((HQL4.out.l.rd (by omega)).keeps ((HKK.out wx h).mono fun b _ e => by have := HI11.out b (.inr e); omega)).any
  have HRK1 : Hid (∀ wx, Hid (Below w18.heap.size w18 wx) → RdV (· < wx.heap.size) wx (.slice ka1 LD.length kc1) (bools' LD)) := Lib.hid fun wx h => (HK14.out.keeps (HKK.out wx h) fun g e => by have := HI12.out g e; omega).rdV (by omega)
  have HRK2 : Hid (∀ wx, Hid (Below w18.heap.size w18 wx) → RdV (· < wx.heap.size) wx (.slice ka2 LD.length kc2) (bools' LD)) := Lib.hid fun wx h => (HK24.out.keeps (HKK.out wx h) fun g e => by have := HI13.out g e; omega).rdV (by omega)
  have HE0 : Hid ((mapP (opsOf l)).1.length ≤ 3000 ∧ (mapP (opsOf l)).2.1.length ≤ 3000) := Lib.hid (by
    obtain ⟨h1, h2, _⟩ := map_lens' (opsOf l) (E := (mapP (opsOf l)).1) (L := (mapP (opsOf l)).2.1) (O := (mapP (opsOf l)).2.2.1) (er := (mapP (opsOf l)).2.2.2.1) (q := (mapP (opsOf l)).2.2.2.2) rfl
    rw [opsOf_len] at h1 h2
    omega)
  have HTab : Hid (∀ wx, Hid (Below w18.heap.size w18 wx) → Calls Tryd.prog 9 #[.slice va l.length vc] wx fun e w' => ∃ a n c a' n' c', e = .returned (.agg #[.slice none 0 0, .slice a n c, .slice a' n' c', .slice none 0 0, .int .i64 0]) ∧ Hid (Below w18.heap.size w18 w') ∧ Hid (RdI .i64 (· < w'.heap.size) w' (.slice a n c) (mapP (opsOf l)).1) ∧ Hid (RdI .i64 (· < w'.heap.size) w' (.slice a' n' c') (mapP (opsOf l)).2.1)) := Lib.hid fun wx h => by
    refine (law_tableOf wx _ l (Cd.bel HC7.out (HX.out wx h)) (by omega)).mono ?_
    rintro e w' ⟨u, u', rfl, hb, o1, o2⟩
    have r1 := (o1.rd (by have := HE0.out.1; omega)).any
    have r2 := (o2.rd (by have := HE0.out.2; omega)).any
    obtain ⟨a, c, rfl, _⟩ := own_slice o1
    obtain ⟨a', c', rfl, _⟩ := own_slice o2
    exact ⟨a, _, c, a', _, c', rfl, HXN.out _ _ h hb, Lib.hid r1, Lib.hid r2⟩
  have HOf1 : Hid (∀ wx ve vl, Hid (Below w18.heap.size w18 wx) → Hid (RdI .i64 (· < wx.heap.size) wx ve (mapP (opsOf l)).1) → Hid (RdI .i64 (· < wx.heap.size) wx vl (mapP (opsOf l)).2.1) → Calls Tryd.prog 16 #[.slice va l.length vc, .agg #[.slice none 0 0, ve, vl, .slice none 0 0, .int .i64 0]] wx fun e w' => ∃ a c a' c', e = .returned (.agg #[.slice a P1.length c, .slice a' P2.length c']) ∧ Hid (Below w18.heap.size w18 w') ∧ Hid (RdI .i64 (· < w'.heap.size) w' (.slice a P1.length c) P1) ∧ Hid (RdI .i64 (· < w'.heap.size) w' (.slice a' P2.length c') P2)) := Lib.hid fun wx ve vl h h1 h2 => by
    refine (ref12_Of wx _ _ _ _ _ _ l _ _ (Cd.bel HC7.out (HX.out wx h)) h1.out h2.out (by omega)).mono ?_
    rintro e w' ⟨u, u', rfl, hb, hbl⟩
    rw [HP.out.1, HP.out.2.1] at hbl
    have r1 := (hbl.s.rd (by omega)).any
    have r2 := (hbl.l.rd (by omega)).any
    obtain ⟨a, c, rfl, _⟩ := own_slice hbl.s
    obtain ⟨a', c', rfl, _⟩ := own_slice hbl.l
    exact ⟨a, c, a', c', rfl, HXN.out _ _ h hb, Lib.hid r1, Lib.hid r2⟩
  have HOf2 : Hid (∀ wx, Hid (Below w18.heap.size w18 wx) → Calls Tryd.prog 16 #[.slice va l.length vc, .agg #[.slice a0 sh.length c0, .slice a1 E.length c1, .slice a2 L.length c2, .slice a3 F.length c3, .int .i64 hi]] wx fun e w' => ∃ a c a' c', e = .returned (.agg #[.slice a Q1.length c, .slice a' Q2.length c']) ∧ Hid (Below w18.heap.size w18 w') ∧ Hid (RdI .i64 (· < w'.heap.size) w' (.slice a Q1.length c) Q1) ∧ Hid (RdI .i64 (· < w'.heap.size) w' (.slice a' Q2.length c') Q2)) := Lib.hid fun wx h => by
    have hrt := HRT7.out.bel (HX.out wx h)
    refine (ref12_Of wx _ _ _ _ _ _ l E L (Cd.bel HC7.out (HX.out wx h)) hrt.e hrt.l (by omega)).mono ?_
    rintro e w' ⟨u, u', rfl, hb, hbl⟩
    rw [HP.out.2.2.1, HP.out.2.2.2] at hbl
    have r1 := (hbl.s.rd (by omega)).any
    have r2 := (hbl.l.rd (by omega)).any
    obtain ⟨a, c, rfl, _⟩ := own_slice hbl.s
    obtain ⟨a', c', rfl, _⟩ := own_slice hbl.l
    exact ⟨a, c, a', c', rfl, HXN.out _ _ h hb, Lib.hid r1, Lib.hid r2⟩
  have HEq1 : Hid (∀ wx va' vb', Hid (Below w18.heap.size w18 wx) → Hid (RdI .i64 (· < wx.heap.size) wx va' P1) → Hid (RdI .i64 (· < wx.heap.size) wx vb' P2) → Calls Tryd.prog 15 #[.agg #[.slice pa1 P1.length pc1, .slice pa2 P2.length pc2], .agg #[va', vb']] wx fun e w' => e = .returned (.bool true) ∧ Hid (Below w18.heap.size w18 w')) := Lib.hid fun wx va' vb' h h1 h2 => by
    refine (eqBlocks wx _ _ _ _ P1 P2 (HRP1.out wx h) (HRP2.out wx h) h1.out h2.out).mono ?_
    rintro e w' ⟨rfl, hb⟩
    exact ⟨rfl, HXN.out _ _ h hb⟩
  have HEq2 : Hid (∀ wx va' vb', Hid (Below w18.heap.size w18 wx) → Hid (RdI .i64 (· < wx.heap.size) wx va' Q1) → Hid (RdI .i64 (· < wx.heap.size) wx vb' Q2) → Calls Tryd.prog 15 #[.agg #[.slice qa1 Q1.length qc1, .slice qa2 Q2.length qc2], .agg #[va', vb']] wx fun e w' => e = .returned (.bool true) ∧ Hid (Below w18.heap.size w18 w')) := Lib.hid fun wx va' vb' h h1 h2 => by
    refine (eqBlocks wx _ _ _ _ Q1 Q2 (HRQ1.out wx h) (HRQ2.out wx h) h1.out h2.out).mono ?_
    rintro e w' ⟨rfl, hb⟩
    exact ⟨rfl, HXN.out _ _ h hb⟩
  have HLd : Hid (∀ wx, Hid (Below w18.heap.size w18 wx) → Calls Tryd.prog 18 #[.slice va l.length vc] wx fun e w' => ∃ a c, e = .returned (.slice a LD.length c) ∧ Hid (Below w18.heap.size w18 w') ∧ Hid (RdV (· < w'.heap.size) w' (.slice a LD.length c) (bools' LD))) := Lib.hid fun wx h => by
    refine (ref12_Leaders wx _ l (Cd.bel HC7.out (HX.out wx h)) (by omega)).mono ?_
    rintro e w' ⟨u, rfl, hb, o⟩
    rw [HLD.out] at o
    have r := Own2.rdV (.inl o) (by omega)
    obtain ⟨a, c, rfl, _⟩ := own_slice o
    exact ⟨a, c, rfl, HXN.out _ _ h hb, Lib.hid r⟩
  have HEb1 : Hid (∀ wx va', Hid (Below w18.heap.size w18 wx) → Hid (RdV (· < wx.heap.size) wx va' (bools' LD)) → Calls Tryd.prog 17 #[.slice ka1 LD.length kc1, va'] wx fun e w' => e = .returned (.bool true) ∧ Hid (Below w18.heap.size w18 w')) := Lib.hid fun wx va' h h1 => by
    refine (eqBoolsV wx _ _ _ _ LD LD (HRK1.out wx h) h1.out).mono ?_
    rintro e w' ⟨rfl, n, rfl⟩
    exact ⟨by simp, HXN.out _ _ h (drewN_below _ _)⟩
  have HEb2 : Hid (∀ wx, Hid (Below w18.heap.size w18 wx) → Calls Tryd.prog 17 #[.slice ka2 LD.length kc2, .slice ka1 LD.length kc1] wx fun e w' => e = .returned (.bool true) ∧ Hid (Below w18.heap.size w18 w')) := Lib.hid fun wx h => by
    refine (eqBoolsV wx _ _ _ _ LD LD (HRK2.out wx h) (HRK1.out wx h)).mono ?_
    rintro e w' ⟨rfl, n, rfl⟩
    exact ⟨by simp, HXN.out _ _ h (drewN_below _ _)⟩
  have HCL : Hid (∀ wx, Hid (Below w18.heap.size w18 wx) → (wx.cell? ⟨b9, 0, none⟩ = some (.slice pa1 P1.length pc1) ∧ wx.cell? ⟨b9, 1, none⟩ = some (.slice pa2 P2.length pc2)) ∧ (wx.cell? ⟨b10, 0, none⟩ = some (.slice qa1 Q1.length qc1) ∧ wx.cell? ⟨b10, 1, none⟩ = some (.slice qa2 Q2.length qc2)) ∧
      wx.cell? ⟨bt, 0, none⟩ = some (.slice a0 sh.length c0) ∧ wx.cell? ⟨bt, 1, none⟩ = some (.slice a1 E.length c1) ∧ wx.cell? ⟨bt, 2, none⟩ = some (.slice a2 L.length c2) ∧ wx.cell? ⟨bt, 3, none⟩ = some (.slice a3 F.length c3) ∧ wx.cell? ⟨bt, 4, none⟩ = some (.int .i64 hi)) := Lib.hid fun wx h =>
    ⟨row2 (((HKK.out wx h).block _ (row_lt HPB4.out) HLT.out.1).trans HPB4.out), row2 (((HKK.out wx h).block _ (row_lt HQB4.out) HLT.out.2).trans HQB4.out), row5 (((HX.out wx h).block _ (row_lt HR7.out)).trans HR7.out)⟩
  have hq0 : Hid (Below w18.heap.size w18 w18.drew) := Lib.hid (drewN_below w18 1)
  generalize hE0 : (mapP (opsOf l)).1 = E0 at *
  generalize hL0 : (mapP (opsOf l)).2.1 = L0 at *
  have HEE := Lib.hid (And.intro hE0 hL0)
  clear hE0 hL0
  go_region_held3 (fun wx => ((wx.cell? ⟨b9, 0, none⟩ = some (.slice pa1 P1.length pc1) ∧ wx.cell? ⟨b9, 1, none⟩ = some (.slice pa2 P2.length pc2)) ∧ (wx.cell? ⟨b10, 0, none⟩ = some (.slice qa1 Q1.length qc1) ∧ wx.cell? ⟨b10, 1, none⟩ = some (.slice qa2 Q2.length qc2)) ∧
      wx.cell? ⟨bt, 0, none⟩ = some (.slice a0 sh.length c0) ∧ wx.cell? ⟨bt, 1, none⟩ = some (.slice a1 E.length c1) ∧ wx.cell? ⟨bt, 2, none⟩ = some (.slice a2 L.length c2) ∧ wx.cell? ⟨bt, 3, none⟩ = some (.slice a3 F.length c3) ∧ wx.cell? ⟨bt, 4, none⟩ = some (.int .i64 hi)) ∧ True ∧ Hid (Below w18.heap.size w18 wx)) (first | exact ⟨HCL.out _ hq0, trivial, hq0⟩ | exact ⟨HCL.out _ (by assumption), trivial, by assumption⟩) (first
    | (go_at_call 9; with_reducible refine (HTab.out _ (heldOf (by assumption))).mono ?_; rintro e w' ⟨ta, tn, tc, ta', tn', tc', rfl, hkT, hT1, hT2⟩)
    | (go_at_call 16; with_reducible refine (HOf1.out _ _ _ (heldOf (by assumption)) hT1 hT2).mono ?_; rintro e w' ⟨fa, fc, fa', fc', rfl, hkF, hF1, hF2⟩)
    | (go_at_call 16; with_reducible refine (HOf2.out _ (heldOf (by assumption))).mono ?_; rintro e w' ⟨ga, gc, ga', gc', rfl, hkG, hG1, hG2⟩)
    | (go_at_call 15; with_reducible refine (HEq1.out _ _ _ (heldOf (by assumption)) hF1 hF2).mono ?_; rintro e w' ⟨rfl, hkE⟩)
    | (go_at_call 15; with_reducible refine (HEq2.out _ _ _ (heldOf (by assumption)) hG1 hG2).mono ?_; rintro e w' ⟨rfl, hkE2⟩)
    | (go_at_call 18; with_reducible refine (HLd.out _ (heldOf (by assumption))).mono ?_; rintro e w' ⟨la, lc, rfl, hkL, hLd⟩)
    | (go_at_call 17; with_reducible refine (HEb1.out _ _ (heldOf (by assumption)) hLd).mono ?_; rintro e w' ⟨rfl, hkB⟩)
    | (go_at_call 17; with_reducible refine (HEb2.out _ (heldOf (by assumption))).mono ?_; rintro e w' ⟨rfl, hkC⟩))
  go_upto_region 17 with fail
  clear HOf1 HOf2 HEq1 HEq2 HLd HEb1 HEb2 HCL hq0 HRP1 HRP2 HRQ1 HRQ2 HRK1 HRK2 hkT hkF hkG hkE hkE2 hkL hkB hT1 hT2 hF1 hF2 hG1 hG2 hLd
  obtain ⟨wE, hwE⟩ : ∃ wE, w' = wE := ⟨_, rfl⟩
  rw [hwE] at hkC ⊢
  have HGE := Lib.hid (HG18.out.on hkC.out)
  have HBE := Lib.hid (HX.out wE hkC)
  clear hwE HTab
  go_wp2_with fail
  refine (Q.bag_apart HGE.out (by simp) (by simp) (by omega)).mono ?_
  rintro e wF ⟨rfl, hkF⟩
  have HBF : Hid (Below w7.heap.size w7 wF) := Lib.hid (HBE.out.trans (hkF.below (by have := HBE.out.size; exact this) fun b hb => ⟨fun k u hu e => by
    have := (HM2.out u (List.mem_of_getElem? hu) b e).1; omega, fun k u hu e => by
    have hu' := List.mem_of_getElem? hu
    simp only [List.nil_append, List.cons_append, List.mem_cons, List.not_mem_nil, or_false] at hu'
    rcases hu' with rfl | rfl
    · have := HI12.out b e; omega
    · have := HI13.out b e; omega⟩))
  clear hkF
  go_upto_region 19 with fail
  have HBW : Hid (Below w.heap.size w wF) := Lib.hid (HB7.out.trans (HBF.out.mono HB7.out.size))
  have HY : Hid (∀ wx, Hid (Below wF.heap.size wF wx) → Below w7.heap.size w7 wx) := Lib.hid fun wx h => below_next HBF.out h.out
  have HEc : Hid (∀ wx, Hid (Below wF.heap.size wF wx) → Calls Tryd.prog 20 #[.slice (some ⟨gk, 0, none⟩) l.length (l.length + 64), .slice va l.length vc] wx fun e w' => e = .returned (.bool true) ∧ Hid (Below wF.heap.size wF w')) := Lib.hid fun wx h => by
    refine (eqCode wx _ _ l (Cd.bel HK7.out (HY.out wx h)) (Cd.bel HC7.out (HY.out wx h))).mono ?_
    rintro e w' ⟨rfl, hb⟩
    exact ⟨rfl, Lib.hid (below_next h.out hb)⟩
  have HSc : Hid (∀ wx, Hid (Below wF.heap.size wF wx) → Calls Tryd.prog 21 #[.slice (some ⟨gk, 0, none⟩) l.length (l.length + 64)] wx fun e w' => e = .returned (.bool true) ∧ Hid (Below wF.heap.size wF w')) := Lib.hid fun wx h => by
    refine (spareCode wx (· < w7.heap.size) gk l (HWC7.out.keeps (Keeps.of_below (HY.out wx h)) HWC7.out.lt fun _ h => h) (by omega) HLL2.out).mono ?_
    rintro e w' ⟨rfl, hb⟩
    exact ⟨rfl, Lib.hid (below_next h.out hb)⟩
  have HEt : Hid (∀ wx, Hid (Below wF.heap.size wF wx) → Calls Tryd.prog 22 #[.agg #[.slice (some ⟨g0, 0, none⟩) sh.length (sh.length + 64), .slice (some ⟨g1, 0, none⟩) E.length (E.length + 64), .slice (some ⟨g2, 0, none⟩) L.length (L.length + 64), .slice (some ⟨g3, 0, none⟩) F.length (F.length + 64), .int .i64 hi], .agg #[.slice a0 sh.length c0, .slice a1 E.length c1, .slice a2 L.length c2, .slice a3 F.length c3, .int .i64 hi]] wx fun e w' => e = .returned (.bool true) ∧ Hid (Below wF.heap.size wF w')) := Lib.hid fun wx h => by
    have hw := HW7.out.bel (HY.out wx h)
    refine (eqTable wx _ _ _ _ _ _ _ _ ⟨sh, E, L, F, hi⟩ ⟨(hw.sh.rd (Nat.le_trans HO.out.sh (by decide))).any, (hw.e.rd (Nat.le_trans HO.out.e (by decide))).any, (hw.l.rd (Nat.le_trans HO.out.l (by decide))).any, (hw.f.rd (Nat.le_trans HO.out.f (by decide))).any⟩ (HRT7.out.bel (HY.out wx h))).mono ?_
    rintro e w' ⟨rfl, hb⟩
    exact ⟨rfl, Lib.hid (below_next h.out hb)⟩
  have HSt : Hid (∀ wx, Hid (Below wF.heap.size wF wx) → Calls Tryd.prog 23 #[.agg #[.slice (some ⟨g0, 0, none⟩) sh.length (sh.length + 64), .slice (some ⟨g1, 0, none⟩) E.length (E.length + 64), .slice (some ⟨g2, 0, none⟩) L.length (L.length + 64), .slice (some ⟨g3, 0, none⟩) F.length (F.length + 64), .int .i64 hi]] wx fun e w' => e = .returned (.bool true) ∧ Hid (Below wF.heap.size wF w')) := Lib.hid fun wx h => by
    refine (spareTable wx _ g0 g1 g2 g3 ⟨sh, E, L, F, hi⟩ (HW7.out.bel (HY.out wx h)) HO.out (HTP7.out.bel (HY.out wx h))).mono ?_
    rintro e w' ⟨rfl, hb⟩
    exact ⟨rfl, Lib.hid (below_next h.out hb)⟩
  have HTb : Hid (∀ wx, Hid (Below wF.heap.size wF wx) → Calls Tryd.prog 9 #[.slice va l.length vc] wx fun e w' => ∃ a n c a' n' c', e = .returned (.agg #[.slice none 0 0, .slice a n c, .slice a' n' c', .slice none 0 0, .int .i64 0]) ∧ Hid (Below wF.heap.size wF w') ∧ Hid (RdI .i64 (· < w'.heap.size) w' (.slice a n c) E0) ∧ Hid (RdI .i64 (· < w'.heap.size) w' (.slice a' n' c') L0)) := Lib.hid fun wx h => by
    refine (law_tableOf wx _ l (Cd.bel HC7.out (HY.out wx h)) (by omega)).mono ?_
    rintro e w' ⟨u, u', rfl, hb, o1, o2⟩
    rw [HEE.out.1] at o1
    rw [HEE.out.2] at o2
    have r1 := (o1.rd (by have := HE0.out.1; omega)).any
    have r2 := (o2.rd (by have := HE0.out.2; omega)).any
    obtain ⟨a, c, rfl, _⟩ := own_slice o1
    obtain ⟨a', c', rfl, _⟩ := own_slice o2
    exact ⟨a, _, c, a', _, c', rfl, Lib.hid (below_next h.out hb), Lib.hid r1, Lib.hid r2⟩
  have HEu : Hid (∀ wx v1' v2', Hid (Below wF.heap.size wF wx) → Hid (RdI .i64 (· < wx.heap.size) wx v1' E0) → Hid (RdI .i64 (· < wx.heap.size) wx v2' L0) → Calls Tryd.prog 22 #[.agg #[.slice none 0 0, .slice eu1 nU1 cu1, .slice eu2 nU2 cu2, .slice none 0 0, .int .i64 0], .agg #[.slice none 0 0, v1', v2', .slice none 0 0, .int .i64 0]] wx fun e w' => e = .returned (.bool true) ∧ Hid (Below wF.heap.size wF w')) := Lib.hid fun wx v1' v2' h h1 h2 => by
    refine (eqTable wx _ _ _ _ _ _ _ _ ⟨[], E0, L0, [], 0⟩ ⟨RdV.nil _ _, HV17.out.bel (HY.out wx h), HV27.out.bel (HY.out wx h), RdI.nil _ _ _⟩ ⟨RdV.nil _ _, h1.out, h2.out, RdI.nil _ _ _⟩).mono ?_
    rintro e w' ⟨rfl, hb⟩
    exact ⟨rfl, Lib.hid (below_next h.out hb)⟩
  have HCZ : Hid (∀ wx, Hid (Below wF.heap.size wF wx) → (wx.cell? ⟨b8, 0, none⟩ = some (.slice (some ⟨g0, 0, none⟩) sh.length (sh.length + 64)) ∧ wx.cell? ⟨b8, 1, none⟩ = some (.slice (some ⟨g1, 0, none⟩) E.length (E.length + 64)) ∧ wx.cell? ⟨b8, 2, none⟩ = some (.slice (some ⟨g2, 0, none⟩) L.length (L.length + 64)) ∧ wx.cell? ⟨b8, 3, none⟩ = some (.slice (some ⟨g3, 0, none⟩) F.length (F.length + 64)) ∧ wx.cell? ⟨b8, 4, none⟩ = some (.int .i64 hi)) ∧
      (wx.cell? ⟨b7, 0, none⟩ = some (.slice none 0 0) ∧ wx.cell? ⟨b7, 1, none⟩ = some (.slice eu1 nU1 cu1) ∧ wx.cell? ⟨b7, 2, none⟩ = some (.slice eu2 nU2 cu2) ∧ wx.cell? ⟨b7, 3, none⟩ = some (.slice none 0 0) ∧ wx.cell? ⟨b7, 4, none⟩ = some (.int .i64 0)) ∧
      wx.cell? ⟨bt, 0, none⟩ = some (.slice a0 sh.length c0) ∧ wx.cell? ⟨bt, 1, none⟩ = some (.slice a1 E.length c1) ∧ wx.cell? ⟨bt, 2, none⟩ = some (.slice a2 L.length c2) ∧ wx.cell? ⟨bt, 3, none⟩ = some (.slice a3 F.length c3) ∧ wx.cell? ⟨bt, 4, none⟩ = some (.int .i64 hi)) := Lib.hid fun wx h =>
    ⟨row5 (((HY.out wx h).block _ (row_lt HT7.out)).trans HT7.out), row5 (((HY.out wx h).block _ (row_lt HO7.out)).trans HO7.out), row5 (((HY.out wx h).block _ (row_lt HR7.out)).trans HR7.out)⟩
  have hz0 : Hid (Below wF.heap.size wF wF.drew) := Lib.hid (drewN_below wF 1)
  clear HG18 HGE HBE HKK HX HXN hkC
  go_region_held3 (fun wx => ((wx.cell? ⟨b8, 0, none⟩ = some (.slice (some ⟨g0, 0, none⟩) sh.length (sh.length + 64)) ∧ wx.cell? ⟨b8, 1, none⟩ = some (.slice (some ⟨g1, 0, none⟩) E.length (E.length + 64)) ∧ wx.cell? ⟨b8, 2, none⟩ = some (.slice (some ⟨g2, 0, none⟩) L.length (L.length + 64)) ∧ wx.cell? ⟨b8, 3, none⟩ = some (.slice (some ⟨g3, 0, none⟩) F.length (F.length + 64)) ∧ wx.cell? ⟨b8, 4, none⟩ = some (.int .i64 hi)) ∧
      (wx.cell? ⟨b7, 0, none⟩ = some (.slice none 0 0) ∧ wx.cell? ⟨b7, 1, none⟩ = some (.slice eu1 nU1 cu1) ∧ wx.cell? ⟨b7, 2, none⟩ = some (.slice eu2 nU2 cu2) ∧ wx.cell? ⟨b7, 3, none⟩ = some (.slice none 0 0) ∧ wx.cell? ⟨b7, 4, none⟩ = some (.int .i64 0)) ∧
      wx.cell? ⟨bt, 0, none⟩ = some (.slice a0 sh.length c0) ∧ wx.cell? ⟨bt, 1, none⟩ = some (.slice a1 E.length c1) ∧ wx.cell? ⟨bt, 2, none⟩ = some (.slice a2 L.length c2) ∧ wx.cell? ⟨bt, 3, none⟩ = some (.slice a3 F.length c3) ∧ wx.cell? ⟨bt, 4, none⟩ = some (.int .i64 hi)) ∧ True ∧ Hid (Below wF.heap.size wF wx)) (first | exact ⟨HCZ.out _ hz0, trivial, hz0⟩ | exact ⟨HCZ.out _ (by assumption), trivial, by assumption⟩) (first
    | (go_at_call 20; with_reducible refine (HEc.out _ (heldOf (by assumption))).mono ?_; rintro e w' ⟨rfl, hk1⟩)
    | (go_at_call 21; with_reducible refine (HSc.out _ (heldOf (by assumption))).mono ?_; rintro e w' ⟨rfl, hk2⟩)
    | (go_at_call 22; with_reducible refine (HEt.out _ (heldOf (by assumption))).mono ?_; rintro e w' ⟨rfl, hk3⟩)
    | (go_at_call 23; with_reducible refine (HSt.out _ (heldOf (by assumption))).mono ?_; rintro e w' ⟨rfl, hk4⟩)
    | (go_at_call 9; with_reducible refine (HTb.out _ (heldOf (by assumption))).mono ?_; rintro e w' ⟨ta, tn, tc, ta', tn', tc', rfl, hk5, hT1, hT2⟩)
    | (go_at_call 22; with_reducible refine (HEu.out _ _ _ (heldOf (by assumption)) hT1 hT2).mono ?_; rintro e w' ⟨rfl, hk6⟩))
  have HZ := Lib.hid (below_next HBW.out hk6.out)
  go_wp2
  go_ret
  exact ⟨rfl, HZ.out⟩
end Go.Proofs.YtiaoonlhgjfdjaaDoor
