/- Tables handed in: flagonref00.WideTable, SpareTable, EqTable; pairs: EqBlocks. -/
import Derived.Test.YtiaoonlhgjfdjaaDoorTexts
import Derived.Test.YtiaoonlhgjfdjaaDoorEqs
import Derived.Test.YtiaoonlhgjfdjaaDoorBlkOf
namespace Go.Proofs.YtiaoonlhgjfdjaaDoor
open Go Go.RowKit
set_option linter.unusedSimpArgs false

/-- A table as data. -/
structure TabD where
  sh : List ByteArray
  e : List Int
  l : List Int
  f : List Int
  hi : Int
/-- The values of a table's cells read as t. -/
structure RTab (S : Nat → Prop) (w : World) (v0 v1 v2 v3 : Value) (t : TabD) : Prop where
  sh : RdV S w v0 (texts t.sh)
  e : RdI .i64 S w v1 t.e
  l : RdI .i64 S w v2 t.l
  f : RdI .i64 S w v3 t.f
theorem RTab.bel {w w' : World} {v0 v1 v2 v3 : Value} {t : TabD} (h : RTab (· < w.heap.size) w v0 v1 v2 v3 t) (hb : Below w.heap.size w w') : RTab (· < w'.heap.size) w' v0 v1 v2 v3 t :=
  ⟨h.sh.bel hb, h.e.bel hb, h.l.bel hb, h.f.bel hb⟩
/-- The four lists of a table that is handed in, each with marks behind it. -/
structure WTab (lo : Nat) (w : World) (g0 g1 g2 g3 : Nat) (t : TabD) : Prop where
  sh : WideT w g0 t.sh
  e : WideL w g1 t.e
  l : WideL w g2 t.l
  f : WideL w g3 t.f
  lo : lo ≤ g0 ∧ lo ≤ g1 ∧ lo ≤ g2 ∧ lo ≤ g3
theorem WTab.keeps {lo : Nat} {S : Nat → Prop} {w w' : World} {g0 g1 g2 g3 : Nat} {t : TabD} (h : WTab lo w g0 g1 g2 g3 t) (hk : Keeps S w w') (h0 : S g0) (h1 : S g1) (h2 : S g2) (h3 : S g3) : WTab lo w' g0 g1 g2 g3 t :=
  ⟨h.sh.keeps hk h0, h.e.keeps hk h1, h.l.keeps hk h2, h.f.keeps hk h3, h.lo⟩
theorem WTab.bel {lo : Nat} {w w' : World} {g0 g1 g2 g3 : Nat} {t : TabD} (h : WTab lo w g0 g1 g2 g3 t) (hb : Below w.heap.size w w') : WTab lo w' g0 g1 g2 g3 t :=
  h.keeps (Keeps.all (fun _ => True) hb) trivial trivial trivial trivial
/-- Bounds. -/
structure TabD.Ok (t : TabD) : Prop where
  sh : t.sh.length ≤ 8796093022144
  e : t.e.length ≤ 17592186044352
  l : t.l.length ≤ 17592186044352
  f : t.f.length ≤ 17592186044352
theorem tab_results {a : Act} {w : World} (g : Nat) (cs : Array Value) (hrow : w.heap[g]? = some (.cells cs 26 (0, 0))) (hsz : cs.size = 5) (h2 : a.tmps.getD 2 undef = .pointer (some ⟨g, 0, none⟩)) :
    (results Tryd.f10 a.tmps).run Tryd.prog w = .ok (.agg cs) w := by
  have hl := run_loadVar_row (P := Tryd.prog) w g 26 26 cs (0, 0) _ hrow Tryd.underlying26 rfl (by rw [hsz]; kernel_rfl)
  have h2' : a.tmps[2]?.getD undef = .pointer (some ⟨g, 0, none⟩) := by simpa using h2
  simp [results, Tryd.results10, asAddr, h2', hl]
theorem set5_row {w : World} {g : Nat} {o0 o1 o2 o3 o4 : Value} {T : Nat} {fr : Nat × Nat} (h : w.heap[g]? = some (.cells #[o0, o1, o2, o3, o4] T fr)) (v0 v1 v2 v3 v4 : Value) :
    (((((w.setCell ⟨g, 0, none⟩ v0).setCell ⟨g, 1, none⟩ v1).setCell ⟨g, 2, none⟩ v2).setCell ⟨g, 3, none⟩ v3).setCell ⟨g, 4, none⟩ v4).heap[g]? = some (.cells #[v0, v1, v2, v3, v4] T fr) := by
  have h0 := row_setCell h 0 v0
  simp only [List.setIfInBounds_toArray, List.set_cons_zero] at h0
  have h1 := row_setCell h0 1 v1
  simp only [List.setIfInBounds_toArray, List.set_cons_zero, List.set_cons_succ] at h1
  have h2 := row_setCell h1 2 v2
  simp only [List.setIfInBounds_toArray, List.set_cons_zero, List.set_cons_succ] at h2
  have h3 := row_setCell h2 3 v3
  simp only [List.setIfInBounds_toArray, List.set_cons_zero, List.set_cons_succ] at h3
  have h4 := row_setCell h3 4 v4
  simp only [List.setIfInBounds_toArray, List.set_cons_zero, List.set_cons_succ] at h4
  exact h4
set_option maxRecDepth 100000 in
set_option maxHeartbeats 3200000 in
theorem wideTable (w : World) (v0 v1 v2 v3 : Value) (t : TabD) (hr : RTab (· < w.heap.size) w v0 v1 v2 v3 t) (ho : t.Ok) (ht : Tp w) :
    Calls Tryd.prog 10 #[.agg #[v0, v1, v2, v3, .int .i64 t.hi]] w fun e w' => ∃ g0 g1 g2 g3, e = .returned (.agg #[.slice (some ⟨g0, 0, none⟩) t.sh.length (t.sh.length + 64), .slice (some ⟨g1, 0, none⟩) t.e.length (t.e.length + 64), .slice (some ⟨g2, 0, none⟩) t.l.length (t.l.length + 64), .slice (some ⟨g3, 0, none⟩) t.f.length (t.f.length + 64), .int .i64 t.hi]) ∧ WTab w.heap.size w' g0 g1 g2 g3 t ∧ Below w.heap.size w w' := by
  obtain ⟨sh, E, L, F, hi⟩ := t
  have HO := Lib.hid ho
  have HT := Lib.hid ht
  have o0 : sh.length ≤ 8796093022144 := ho.sh; have o1 : E.length ≤ 17592186044352 := ho.e; have o2 : L.length ≤ 17592186044352 := ho.l; have o3 : F.length ≤ 17592186044352 := ho.f
  obtain ⟨a0, c0, rfl, _⟩ := hr.sh.lenc
  obtain ⟨a1, c1, rfl, _⟩ := hr.e.lenc
  obtain ⟨a2, c2, rfl, _⟩ := hr.l.lenc
  obtain ⟨a3, c3, rfl, _⟩ := hr.f.lenc
  simp only [List.length_map] at hr ⊢
  have HR := Lib.hid hr
  clear hr ho ht
  go_enter Tryd.func10, Tryd.ntmps10
  have hb2 := below_alloc2 w (.cells #[.slice a0 sh.length c0, .slice a1 E.length c1, .slice a2 L.length c2, .slice a3 F.length c3, .int .i64 hi] 26) (.cells #[.slice none 0 0, .slice none 0 0, .slice none 0 0, .slice none 0 0, .int .i64 0] 26)
  have hr1 := heap_alloc_new w (.cells #[.slice a0 sh.length c0, .slice a1 E.length c1, .slice a2 L.length c2, .slice a3 F.length c3, .int .i64 hi] 26)
  have hs1 : (w.alloc (.cells #[.slice a0 sh.length c0, .slice a1 E.length c1, .slice a2 L.length c2, .slice a3 F.length c3, .int .i64 hi] 26)).heap.size = w.heap.size + 1 := World.size_alloc _ _
  have hr2 := heap_alloc_new (w.alloc (.cells #[.slice a0 sh.length c0, .slice a1 E.length c1, .slice a2 L.length c2, .slice a3 F.length c3, .int .i64 hi] 26)) (.cells #[.slice none 0 0, .slice none 0 0, .slice none 0 0, .slice none 0 0, .int .i64 0] 26)
  rw [hs1] at hr2
  have hr1' := (Below.heap_alloc _ (.cells #[.slice none 0 0, .slice none 0 0, .slice none 0 0, .slice none 0 0, .int .i64 0] 26) _ (row_lt hr1)).trans hr1
  go_upto_region 1 with fail
  obtain ⟨w2, hw2⟩ : ∃ w2, (w.alloc (.cells #[.slice a0 sh.length c0, .slice a1 E.length c1, .slice a2 L.length c2, .slice a3 F.length c3, .int .i64 hi] 26)).alloc (.cells #[.slice none 0 0, .slice none 0 0, .slice none 0 0, .slice none 0 0, .int .i64 0] 26) = w2 := ⟨_, rfl⟩
  rw [hw2] at hb2 hr2 hr1' ⊢
  have HB2 := Lib.hid hb2; have HQ1 := Lib.hid hr1'; have HQ2 := Lib.hid hr2
  clear hw2 hs1 hb2 hr1 hr2 hr1'
  have hlo : w.heap.size + 2 ≤ w2.heap.size := row_lt HQ2.out
  have HR0 := HR
  have HR2 := Lib.hid (HR.out.bel HB2.out)
  have HT2 := Lib.hid (HT.out.bel HB2.out)
  clear HR HT
  have x0 := row_cell HQ1.out 0 rfl
  simp only [List.getElem_toArray, List.getElem_cons_zero, List.getElem_cons_succ] at x0
  go_wp2_with fail
  refine (wideTexts w2 _ _ sh (HR2.out.sh) (by omega) HT2.out).mono ?_
  rintro e w3 ⟨rfl, hw, hb⟩
  obtain ⟨g0, hg0⟩ : ∃ g0, w2.heap.size = g0 := ⟨_, rfl⟩
  rw [hg0] at hw ⊢
  have hlo0 : w.heap.size + 2 ≤ g0 := by omega
  have q := (hb.block _ (row_lt HQ1.out)).trans HQ1.out
  have q2 := (hb.block _ (row_lt HQ2.out)).trans HQ2.out
  have y : ∃ u, w3.cell? ⟨w.heap.size, 0, none⟩ = some u := ⟨_, row_cell q 0 rfl⟩
  obtain ⟨y0, y0'⟩ := y
  have f0 := row_free q 0
  have q3 := row_setCell q 0 (.slice (some ⟨g0, 0, none⟩) sh.length (sh.length + 64))
  simp only [List.setIfInBounds_toArray, List.set_cons_zero, List.set_cons_succ] at q3
  have hk : Keeps (fun b => b ≠ w.heap.size) w3 (w3.setCell ⟨w.heap.size, 0, none⟩ (.slice (some ⟨g0, 0, none⟩) sh.length (sh.length + 64))) := (Keeps.refl _ _).setCell (a := ⟨w.heap.size, 0, none⟩) (by simp) _
  have HK0 := Lib.hid hk
  have HB4 := Lib.hid ((below_next HB2.out hb).setCell (p := ⟨w.heap.size, 0, none⟩) (Nat.le_refl _) (.slice (some ⟨g0, 0, none⟩) sh.length (sh.length + 64)))
  have HW0 := Lib.hid (hw.keeps hk (by omega))
  have HQ11 := Lib.hid q3
  have HQ2' := Lib.hid ((hk.block _ (row_lt q2) (by omega)).trans q2)
  have hsz : w2.heap.size ≤ w3.heap.size := hb.size
  rw [hg0] at hsz
  clear q q2 q3 hk hw hb HQ2 HQ1 hg0
  have HQ2 := HQ2'
  clear HQ2'
  go_upto_region 2 with fail
  obtain ⟨w4, hw2⟩ : ∃ w4, w3.setCell ⟨w.heap.size, 0, none⟩ (.slice (some ⟨g0, 0, none⟩) sh.length (sh.length + 64)) = w4 := ⟨_, rfl⟩
  have hsz2 : g0 ≤ w4.heap.size := by rw [← hw2, World.size_setCell]; omega
  rw [hw2] at HK0 HB4 HQ11 HQ2 HW0 ⊢
  clear hw2 x0 y0' f0 HK0
  have HR4 := Lib.hid (HR0.out.bel HB4.out)
  have x1 := row_cell HQ11.out 1 rfl
  simp only [List.getElem_toArray, List.getElem_cons_zero, List.getElem_cons_succ] at x1
  go_wp2_with fail
  refine (wideInts w4 _ _ E (HR4.out.e) (by omega)).mono ?_
  rintro e w5 ⟨rfl, hw, hb⟩
  obtain ⟨g1, hg1⟩ : ∃ g1, w4.heap.size = g1 := ⟨_, rfl⟩
  rw [hg1] at hw ⊢
  have hlo1 : w.heap.size + 2 ≤ g1 := by omega
  have q := (hb.block _ (row_lt HQ11.out)).trans HQ11.out
  have q2 := (hb.block _ (row_lt HQ2.out)).trans HQ2.out
  have y : ∃ u, w5.cell? ⟨w.heap.size, 1, none⟩ = some u := ⟨_, row_cell q 1 rfl⟩
  obtain ⟨y1, y1'⟩ := y
  have f1 := row_free q 1
  have q3 := row_setCell q 1 (.slice (some ⟨g1, 0, none⟩) E.length (E.length + 64))
  simp only [List.setIfInBounds_toArray, List.set_cons_zero, List.set_cons_succ] at q3
  have hk : Keeps (fun b => b ≠ w.heap.size) w5 (w5.setCell ⟨w.heap.size, 1, none⟩ (.slice (some ⟨g1, 0, none⟩) E.length (E.length + 64))) := (Keeps.refl _ _).setCell (a := ⟨w.heap.size, 1, none⟩) (by simp) _
  have HK1 := Lib.hid hk
  have HB6 := Lib.hid ((below_next HB4.out hb).setCell (p := ⟨w.heap.size, 1, none⟩) (Nat.le_refl _) (.slice (some ⟨g1, 0, none⟩) E.length (E.length + 64)))
  have HW1 := Lib.hid (hw.keeps hk (by omega))
  have HW01 := Lib.hid ((HW0.out.keeps (Keeps.all (fun _ => True) hb) trivial).keeps hk (by omega))
  have HQ12 := Lib.hid q3
  have HQ2' := Lib.hid ((hk.block _ (row_lt q2) (by omega)).trans q2)
  have hsz : w4.heap.size ≤ w5.heap.size := hb.size
  rw [hg1] at hsz
  clear q q2 q3 hk hw hb HQ2 HQ11 hg1
  have HQ2 := HQ2'
  clear HQ2'
  go_upto_region 3 with fail
  obtain ⟨w6, hw2⟩ : ∃ w6, w5.setCell ⟨w.heap.size, 1, none⟩ (.slice (some ⟨g1, 0, none⟩) E.length (E.length + 64)) = w6 := ⟨_, rfl⟩
  have hsz2 : g1 ≤ w6.heap.size := by rw [← hw2, World.size_setCell]; omega
  rw [hw2] at HK1 HB6 HQ12 HQ2 HW1 HW01 ⊢
  clear hw2 x1 y1' f1 HK1
  have HR6 := Lib.hid (HR0.out.bel HB6.out)
  have x2 := row_cell HQ12.out 2 rfl
  simp only [List.getElem_toArray, List.getElem_cons_zero, List.getElem_cons_succ] at x2
  go_wp2_with fail
  refine (wideInts w6 _ _ L (HR6.out.l) (by omega)).mono ?_
  rintro e w7 ⟨rfl, hw, hb⟩
  obtain ⟨g2, hg2⟩ : ∃ g2, w6.heap.size = g2 := ⟨_, rfl⟩
  rw [hg2] at hw ⊢
  have hlo2 : w.heap.size + 2 ≤ g2 := by omega
  have q := (hb.block _ (row_lt HQ12.out)).trans HQ12.out
  have q2 := (hb.block _ (row_lt HQ2.out)).trans HQ2.out
  have y : ∃ u, w7.cell? ⟨w.heap.size, 2, none⟩ = some u := ⟨_, row_cell q 2 rfl⟩
  obtain ⟨y2, y2'⟩ := y
  have f2 := row_free q 2
  have q3 := row_setCell q 2 (.slice (some ⟨g2, 0, none⟩) L.length (L.length + 64))
  simp only [List.setIfInBounds_toArray, List.set_cons_zero, List.set_cons_succ] at q3
  have hk : Keeps (fun b => b ≠ w.heap.size) w7 (w7.setCell ⟨w.heap.size, 2, none⟩ (.slice (some ⟨g2, 0, none⟩) L.length (L.length + 64))) := (Keeps.refl _ _).setCell (a := ⟨w.heap.size, 2, none⟩) (by simp) _
  have HK2 := Lib.hid hk
  have HB8 := Lib.hid ((below_next HB6.out hb).setCell (p := ⟨w.heap.size, 2, none⟩) (Nat.le_refl _) (.slice (some ⟨g2, 0, none⟩) L.length (L.length + 64)))
  have HW2 := Lib.hid (hw.keeps hk (by omega))
  have HW02 := Lib.hid ((HW01.out.keeps (Keeps.all (fun _ => True) hb) trivial).keeps hk (by omega))
  have HW12 := Lib.hid ((HW1.out.keeps (Keeps.all (fun _ => True) hb) trivial).keeps hk (by omega))
  have HQ13 := Lib.hid q3
  have HQ2' := Lib.hid ((hk.block _ (row_lt q2) (by omega)).trans q2)
  have hsz : w6.heap.size ≤ w7.heap.size := hb.size
  rw [hg2] at hsz
  clear q q2 q3 hk hw hb HQ2 HQ12 hg2
  have HQ2 := HQ2'
  clear HQ2'
  go_upto_region 4 with fail
  obtain ⟨w8, hw2⟩ : ∃ w8, w7.setCell ⟨w.heap.size, 2, none⟩ (.slice (some ⟨g2, 0, none⟩) L.length (L.length + 64)) = w8 := ⟨_, rfl⟩
  have hsz2 : g2 ≤ w8.heap.size := by rw [← hw2, World.size_setCell]; omega
  rw [hw2] at HK2 HB8 HQ13 HQ2 HW2 HW02 HW12 ⊢
  clear hw2 x2 y2' f2 HK2
  have HR8 := Lib.hid (HR0.out.bel HB8.out)
  have x3 := row_cell HQ13.out 3 rfl
  simp only [List.getElem_toArray, List.getElem_cons_zero, List.getElem_cons_succ] at x3
  go_wp2_with fail
  refine (wideInts w8 _ _ F (HR8.out.f) (by omega)).mono ?_
  rintro e w9 ⟨rfl, hw, hb⟩
  obtain ⟨g3, hg3⟩ : ∃ g3, w8.heap.size = g3 := ⟨_, rfl⟩
  rw [hg3] at hw ⊢
  have hlo3 : w.heap.size + 2 ≤ g3 := by omega
  have q := (hb.block _ (row_lt HQ13.out)).trans HQ13.out
  have q2 := (hb.block _ (row_lt HQ2.out)).trans HQ2.out
  have y : ∃ u, w9.cell? ⟨w.heap.size, 3, none⟩ = some u := ⟨_, row_cell q 3 rfl⟩
  obtain ⟨y3, y3'⟩ := y
  have f3 := row_free q 3
  have q3 := row_setCell q 3 (.slice (some ⟨g3, 0, none⟩) F.length (F.length + 64))
  simp only [List.setIfInBounds_toArray, List.set_cons_zero, List.set_cons_succ] at q3
  have hk : Keeps (fun b => b ≠ w.heap.size) w9 (w9.setCell ⟨w.heap.size, 3, none⟩ (.slice (some ⟨g3, 0, none⟩) F.length (F.length + 64))) := (Keeps.refl _ _).setCell (a := ⟨w.heap.size, 3, none⟩) (by simp) _
  have HK3 := Lib.hid hk
  have HB10 := Lib.hid ((below_next HB8.out hb).setCell (p := ⟨w.heap.size, 3, none⟩) (Nat.le_refl _) (.slice (some ⟨g3, 0, none⟩) F.length (F.length + 64)))
  have HW3 := Lib.hid (hw.keeps hk (by omega))
  have HW03 := Lib.hid ((HW02.out.keeps (Keeps.all (fun _ => True) hb) trivial).keeps hk (by omega))
  have HW13 := Lib.hid ((HW12.out.keeps (Keeps.all (fun _ => True) hb) trivial).keeps hk (by omega))
  have HW23 := Lib.hid ((HW2.out.keeps (Keeps.all (fun _ => True) hb) trivial).keeps hk (by omega))
  have HQ14 := Lib.hid q3
  have HQ2' := Lib.hid ((hk.block _ (row_lt q2) (by omega)).trans q2)
  have hsz : w8.heap.size ≤ w9.heap.size := hb.size
  rw [hg3] at hsz
  clear q q2 q3 hk hw hb HQ2 HQ13 hg3
  have HQ2 := HQ2'
  clear HQ2'
  go_upto_region 5 with fail
  obtain ⟨w10, hw10⟩ : ∃ w10, w9.setCell ⟨w.heap.size, 3, none⟩ (.slice (some ⟨g3, 0, none⟩) F.length (F.length + 64)) = w10 := ⟨_, rfl⟩
  rw [hw10] at HB10 HQ14 HQ2 HW3 HW03 HW13 HW23 ⊢
  clear hw10 x3 y3' f3 HK3
  have z0 := row_cell HQ14.out 0 rfl; have z1 := row_cell HQ14.out 1 rfl; have z2 := row_cell HQ14.out 2 rfl; have z3 := row_cell HQ14.out 3 rfl; have z4 := row_cell HQ14.out 4 rfl
  have k0 := row_cell HQ2.out 0 rfl; have k1 := row_cell HQ2.out 1 rfl; have k2 := row_cell HQ2.out 2 rfl; have k3 := row_cell HQ2.out 3 rfl; have k4 := row_cell HQ2.out 4 rfl
  simp only [List.getElem_toArray, List.getElem_cons_zero, List.getElem_cons_succ] at z0 z1 z2 z3 z4 k0 k1 k2 k3 k4
  have l0 := row_free HQ2.out 0; have l1 := row_free HQ2.out 1; have l2 := row_free HQ2.out 2; have l3 := row_free HQ2.out 3; have l4 := row_free HQ2.out 4
  go_wp2
  refine bodyPost_ret (tab_results (w.heap.size + 1) _ (set5_row HQ2.out _ _ _ _ _) rfl rfl) rfl ⟨g0, g1, g2, g3, rfl, ?_, ?_⟩
  · have hk : Keeps (fun b => b ≠ w.heap.size + 1) w10 _ := (((((Keeps.refl _ w10).setCell (a := ⟨w.heap.size + 1, 0, none⟩) (by simp) (.slice (some ⟨g0, 0, none⟩) sh.length (sh.length + 64))).setCell (a := ⟨w.heap.size + 1, 1, none⟩) (by simp) (.slice (some ⟨g1, 0, none⟩) E.length (E.length + 64))).setCell (a := ⟨w.heap.size + 1, 2, none⟩) (by simp) (.slice (some ⟨g2, 0, none⟩) L.length (L.length + 64))).setCell (a := ⟨w.heap.size + 1, 3, none⟩) (by simp) (.slice (some ⟨g3, 0, none⟩) F.length (F.length + 64))).setCell (a := ⟨w.heap.size + 1, 4, none⟩) (by simp) (.int .i64 hi)
    exact ⟨HW03.out.keeps hk (by omega), HW13.out.keeps hk (by omega), HW23.out.keeps hk (by omega), HW3.out.keeps hk (by omega), by omega, by omega, by omega, by omega⟩
  · exact (((((HB10.out.setCell (p := ⟨w.heap.size + 1, 0, none⟩) (by simp) _).setCell (p := ⟨w.heap.size + 1, 1, none⟩) (by simp) _).setCell (p := ⟨w.heap.size + 1, 2, none⟩) (by simp) _).setCell (p := ⟨w.heap.size + 1, 3, none⟩) (by simp) _).setCell (p := ⟨w.heap.size + 1, 4, none⟩) (by simp) _)
end Go.Proofs.YtiaoonlhgjfdjaaDoor

namespace Go.Proofs.YtiaoonlhgjfdjaaDoor
open Go Go.RowKit

set_option maxRecDepth 100000 in
set_option maxHeartbeats 1600000 in
theorem spareTable (w : World) (lo g0 g1 g2 g3 : Nat) (t : TabD) (h : WTab lo w g0 g1 g2 g3 t) (ho : t.Ok) (ht : Tp w) :
    Calls Tryd.prog 23 #[.agg #[.slice (some ⟨g0, 0, none⟩) t.sh.length (t.sh.length + 64), .slice (some ⟨g1, 0, none⟩) t.e.length (t.e.length + 64), .slice (some ⟨g2, 0, none⟩) t.l.length (t.l.length + 64), .slice (some ⟨g3, 0, none⟩) t.f.length (t.f.length + 64), .int .i64 t.hi]] w fun e w' => e = .returned (.bool true) ∧ Below w.heap.size w w' := by
  obtain ⟨sh, E, L, F, hi⟩ := t
  have o0 : sh.length ≤ 8796093022144 := ho.sh; have o1 : E.length ≤ 17592186044352 := ho.e; have o2 : L.length ≤ 17592186044352 := ho.l; have o3 : F.length ≤ 17592186044352 := ho.f
  simp only at h ⊢
  have hb0 := below_alloc w (.cells #[.slice (some ⟨g0, 0, none⟩) sh.length (sh.length + 64), .slice (some ⟨g1, 0, none⟩) E.length (E.length + 64), .slice (some ⟨g2, 0, none⟩) L.length (L.length + 64), .slice (some ⟨g3, 0, none⟩) F.length (F.length + 64), .int .i64 hi] 26)
  have hr0 := heap_alloc_new w (.cells #[.slice (some ⟨g0, 0, none⟩) sh.length (sh.length + 64), .slice (some ⟨g1, 0, none⟩) E.length (E.length + 64), .slice (some ⟨g2, 0, none⟩) L.length (L.length + 64), .slice (some ⟨g3, 0, none⟩) F.length (F.length + 64), .int .i64 hi] 26)
  have HW := Lib.hid (h.bel hb0)
  have HT := Lib.hid (ht.bel hb0)
  have HB0 := Lib.hid hb0; have HR0 := Lib.hid hr0
  clear h ho ht hb0 hr0
  go_enter Tryd.func23, Tryd.ntmps23
  go_wp2_with fail
  refine (spareTexts _ g0 sh HW.out.sh (by omega) HT.out).mono ?_
  rintro e w1 ⟨rfl, hb⟩
  have HB1 := Lib.hid (below_next HB0.out hb)
  have HW1 := Lib.hid (HW.out.bel hb)
  have q := (hb.block _ (row_lt HR0.out)).trans HR0.out
  have x1 := row_cell q 1 rfl; have x2 := row_cell q 2 rfl; have x3 := row_cell q 3 rfl
  simp only [List.getElem_toArray, List.getElem_cons_zero, List.getElem_cons_succ] at x1 x2 x3
  clear hb q HR0 HT HW HB0
  go_wp2_with fail
  refine (spareInts w1 g1 E HW1.out.e (by omega)).mono ?_
  rintro e w' ⟨rfl, hw'⟩
  obtain rfl : w1 = w' := hw'.symm
  go_wp2_with fail
  refine (spareInts w1 g2 L HW1.out.l (by omega)).mono ?_
  rintro e w' ⟨rfl, hw'⟩
  obtain rfl : w1 = w' := hw'.symm
  go_wp2_with fail
  refine (spareInts w1 g3 F HW1.out.f (by omega)).mono ?_
  rintro e w' ⟨rfl, hw'⟩
  obtain rfl : w1 = w' := hw'.symm
  go_wp2
  go_ret
  exact ⟨rfl, HB1.out⟩
set_option maxRecDepth 100000 in
set_option maxHeartbeats 3200000 in
/-- Two tables that read alike. -/
theorem eqTable (w : World) (v0 v1 v2 v3 u0 u1 u2 u3 : Value) (t : TabD) (h1 : RTab (· < w.heap.size) w v0 v1 v2 v3 t) (h2 : RTab (· < w.heap.size) w u0 u1 u2 u3 t) :
    Calls Tryd.prog 22 #[.agg #[v0, v1, v2, v3, .int .i64 t.hi], .agg #[u0, u1, u2, u3, .int .i64 t.hi]] w fun e w' => e = .returned (.bool true) ∧ Below w.heap.size w w' := by
  obtain ⟨sh, E, L, F, hi⟩ := t
  simp only at h1 h2 ⊢
  have hb2 := below_alloc2 w (.cells #[v0, v1, v2, v3, .int .i64 hi] 26) (.cells #[u0, u1, u2, u3, .int .i64 hi] 26)
  have hc := boxes_cell (w := w) (a := #[v0, v1, v2, v3, .int .i64 hi]) (b := #[u0, u1, u2, u3, .int .i64 hi]) (ta := 26) (tb := 26) (Below.refl _ _)
  have H1 := Lib.hid (h1.bel hb2); have H2 := Lib.hid (h2.bel hb2)
  have HB2 := Lib.hid hb2; have HC := Lib.hid hc
  obtain ⟨a0, c0, rfl, _⟩ := h1.sh.lenc; obtain ⟨a1, c1, rfl, _⟩ := h1.e.lenc; obtain ⟨a2, c2, rfl, _⟩ := h1.l.lenc; obtain ⟨a3, c3, rfl, _⟩ := h1.f.lenc
  obtain ⟨b0, d0, rfl, _⟩ := h2.sh.lenc; obtain ⟨b1, d1, rfl, _⟩ := h2.e.lenc; obtain ⟨b2, d2, rfl, _⟩ := h2.l.lenc; obtain ⟨b3, d3, rfl, _⟩ := h2.f.lenc
  clear h1 h2 hb2 hc
  go_enter Tryd.func22, Tryd.ntmps22
  go_upto_region 1 with fail
  obtain ⟨W, hW⟩ : ∃ W, (w.alloc (.cells #[.slice a0 (texts sh).length c0, .slice a1 E.length c1, .slice a2 L.length c2, .slice a3 F.length c3, .int .i64 hi] 26)).alloc (.cells #[.slice b0 (texts sh).length d0, .slice b1 E.length d1, .slice b2 L.length d2, .slice b3 F.length d3, .int .i64 hi] 26) = W := ⟨_, rfl⟩
  rw [hW] at H1 H2 HB2 HC
  have hW2 : (w.alloc (.cells #[.slice a0 sh.length c0, .slice a1 E.length c1, .slice a2 L.length c2, .slice a3 F.length c3, .int .i64 hi] 26)).alloc (.cells #[.slice b0 sh.length d0, .slice b1 E.length d1, .slice b2 L.length d2, .slice b3 F.length d3, .int .i64 hi] 26) = W := by rw [← hW]; simp only [List.length_map]
  first | rw [hW2] | rw [hW]
  clear hW hW2
  simp only [List.length_map] at HC H1 H2
  have p0 := HC.out.1 0 _ rfl; have p1 := HC.out.1 1 _ rfl; have p2 := HC.out.1 2 _ rfl; have p3 := HC.out.1 3 _ rfl; have p4 := HC.out.1 4 _ rfl
  have q0 := HC.out.2 0 _ rfl; have q1 := HC.out.2 1 _ rfl; have q2 := HC.out.2 2 _ rfl; have q3 := HC.out.2 3 _ rfl; have q4 := HC.out.2 4 _ rfl
  clear HC
  go_wp2_with fail
  refine (eqTexts W _ _ _ _ sh sh (by simpa using H1.out.sh) (by simpa using H2.out.sh)).mono ?_
  rintro e w' ⟨rfl, n1, hw'⟩
  rw [decide_eq_true rfl]
  obtain rfl : w' = W.drewN n1 := hw'
  go_wp2_with fail
  refine (eqInts _ _ _ _ _ E E (H1.out.e.drewN n1) (H2.out.e.drewN n1)).mono ?_
  rintro e w' ⟨rfl, n2, hw'⟩
  rw [decide_eq_true rfl]
  obtain rfl : w' = (W.drewN n1).drewN n2 := hw'
  go_wp2_with fail
  refine (eqInts _ _ _ _ _ L L (H1.out.l.drewN _) (H2.out.l.drewN _)).mono ?_
  rintro e w' ⟨rfl, n3, hw'⟩
  rw [decide_eq_true rfl]
  subst hw'
  go_wp2_with fail
  refine (eqInts _ _ _ _ _ F F (H1.out.f.drewN _) (H2.out.f.drewN _)).mono ?_
  rintro e w' ⟨rfl, n4, hw'⟩
  rw [decide_eq_true rfl]
  have HB : Hid (Below w.heap.size w w') := Lib.hid (by rw [hw']; exact below_next HB2.out (drewN_below W _ |>.trans ((drewN_below _ _).mono (Nat.le_refl _))))
  clear hw'
  go_wp2
  go_ret
  exact ⟨rfl, HB.out⟩
set_option maxRecDepth 100000 in
set_option maxHeartbeats 1600000 in
/-- Two pairs that read alike. -/
theorem eqBlocks (w : World) (v1 v2 u1 u2 : Value) (S1 L1 : List Int) (h1 : RdI .i64 (· < w.heap.size) w v1 S1) (h2 : RdI .i64 (· < w.heap.size) w v2 L1) (k1 : RdI .i64 (· < w.heap.size) w u1 S1) (k2 : RdI .i64 (· < w.heap.size) w u2 L1) :
    Calls Tryd.prog 15 #[.agg #[v1, v2], .agg #[u1, u2]] w fun e w' => e = .returned (.bool true) ∧ Below w.heap.size w w' := by
  have hb2 := below_alloc2 w (.cells #[v1, v2] 33) (.cells #[u1, u2] 33)
  have hc := boxes_cell (w := w) (a := #[v1, v2]) (b := #[u1, u2]) (ta := 33) (tb := 33) (Below.refl _ _)
  have H1 := Lib.hid (h1.bel hb2); have H2 := Lib.hid (h2.bel hb2); have K1 := Lib.hid (k1.bel hb2); have K2 := Lib.hid (k2.bel hb2)
  have HB2 := Lib.hid hb2; have HC := Lib.hid hc
  obtain ⟨a1, c1, rfl, _⟩ := h1.lenc; obtain ⟨a2, c2, rfl, _⟩ := h2.lenc
  obtain ⟨b1, d1, rfl, _⟩ := k1.lenc; obtain ⟨b2, d2, rfl, _⟩ := k2.lenc
  clear h1 h2 k1 k2 hb2 hc
  go_enter Tryd.func15, Tryd.ntmps15
  go_upto_region 1 with fail
  obtain ⟨W, hW⟩ : ∃ W, (w.alloc (.cells #[.slice a1 S1.length c1, .slice a2 L1.length c2] 33)).alloc (.cells #[.slice b1 S1.length d1, .slice b2 L1.length d2] 33) = W := ⟨_, rfl⟩
  rw [hW] at H1 H2 K1 K2 HB2 HC ⊢
  clear hW
  have p0 := HC.out.1 0 _ rfl; have p1 := HC.out.1 1 _ rfl
  have q0 := HC.out.2 0 _ rfl; have q1 := HC.out.2 1 _ rfl
  clear HC
  go_wp2_with fail
  refine (eqInts W _ _ _ _ S1 S1 H1.out K1.out).mono ?_
  rintro e w' ⟨rfl, n1, hw'⟩
  rw [decide_eq_true rfl]
  obtain rfl : w' = W.drewN n1 := hw'
  go_wp2_with fail
  refine (eqInts _ _ _ _ _ L1 L1 (H2.out.drewN _) (K2.out.drewN _)).mono ?_
  rintro e w' ⟨rfl, n2, hw'⟩
  rw [decide_eq_true rfl]
  have HB : Hid (Below w.heap.size w w') := Lib.hid (by rw [hw']; exact below_next HB2.out (drewN_below W _ |>.trans ((drewN_below _ _).mono (Nat.le_refl _))))
  clear hw'
  go_wp2
  go_ret
  exact ⟨rfl, HB.out⟩
end Go.Proofs.YtiaoonlhgjfdjaaDoor
