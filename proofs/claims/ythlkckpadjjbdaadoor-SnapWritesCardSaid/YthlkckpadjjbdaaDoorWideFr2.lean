/- flagonref00.WideFrame. -/
import Derived.Test.YthlkckpadjjbdaaDoorWideFr
namespace Go.Proofs.YthlkckpadjjbdaaDoor
open Go Go.RowKit
set_option linter.unusedSimpArgs false
set_option maxRecDepth 100000 in
set_option maxHeartbeats 3200000 in
theorem wideFrame (w : World) (fn pc : Int) (v2 v3 : Value) (l1 l2 : List Int) (hr2 : RdI .u64 (fun _ => True) w v2 l1) (hr3 : RdI .u64 (fun _ => True) w v3 l2) (hl1 : l1.length ≤ 1073741824) (hl2 : l2.length ≤ 1073741824) :
    Calls Tryd.prog 68 #[.agg #[.int .i64 fn, .int .i64 pc, v2, v3]] w fun e w' => ∃ g0 g1, e = .returned (.agg #[.int .i64 fn, .int .i64 pc, .slice (some ⟨g0, 0, none⟩) l1.length (l1.length + 64), .slice (some ⟨g1, 0, none⟩) l2.length (l2.length + 64)]) ∧ Wd.WideL w' g0 l1 ∧ Wd.WideL w' g1 l2 ∧ w.heap.size ≤ g0 ∧ w.heap.size ≤ g1 ∧ Below w.heap.size w w' := by
  obtain ⟨a2, c2, rfl, _⟩ := hr2.lenc
  obtain ⟨a3, c3, rfl, _⟩ := hr3.lenc
  have HL0 := Lib.hid hr2; have HL1 := Lib.hid hr3
  clear hr2 hr3
  go_enter Tryd.func68, Tryd.ntmps68
  have hb2 := below_alloc2 w (.cells #[.int .i64 fn, .int .i64 pc, .slice a2 l1.length c2, .slice a3 l2.length c3] 66) (.cells #[.int .i64 0, .int .i64 0, .slice none 0 0, .slice none 0 0] 66)
  have hr1 := heap_alloc_new w (.cells #[.int .i64 fn, .int .i64 pc, .slice a2 l1.length c2, .slice a3 l2.length c3] 66)
  have hs1 : (w.alloc (.cells #[.int .i64 fn, .int .i64 pc, .slice a2 l1.length c2, .slice a3 l2.length c3] 66)).heap.size = w.heap.size + 1 := World.size_alloc _ _
  have hr2 := heap_alloc_new (w.alloc (.cells #[.int .i64 fn, .int .i64 pc, .slice a2 l1.length c2, .slice a3 l2.length c3] 66)) (.cells #[.int .i64 0, .int .i64 0, .slice none 0 0, .slice none 0 0] 66)
  rw [hs1] at hr2
  have hr1' := (Below.heap_alloc _ (.cells #[.int .i64 0, .int .i64 0, .slice none 0 0, .slice none 0 0] 66) _ (row_lt hr1)).trans hr1
  go_upto_region 1 with fail
  obtain ⟨w2, hw2⟩ : ∃ w2, (w.alloc (.cells #[.int .i64 fn, .int .i64 pc, .slice a2 l1.length c2, .slice a3 l2.length c3] 66)).alloc (.cells #[.int .i64 0, .int .i64 0, .slice none 0 0, .slice none 0 0] 66) = w2 := ⟨_, rfl⟩
  rw [hw2] at hb2 hr2 hr1' ⊢
  have HB2 := Lib.hid hb2; have HQ0 := Lib.hid hr1'; have HQZ := Lib.hid hr2
  clear hw2 hs1 hb2 hr1 hr2 hr1'
  have hlo : w.heap.size + 2 ≤ w2.heap.size := row_lt HQZ.out
  have x0 := row_cell HQ0.out 2 rfl
  simp only [List.getElem_toArray, List.getElem_cons_zero, List.getElem_cons_succ] at x0
  go_wp2_with fail
  refine (Wd.wideWords w2 _ _ l1 (HL0.out.keeps (Keeps.all _ HB2.out)) (by omega)).mono ?_
  rintro e w3 ⟨rfl, hw, hb⟩
  obtain ⟨g0, hg0⟩ : ∃ g0, w2.heap.size = g0 := ⟨_, rfl⟩
  rw [hg0] at hw ⊢
  have hlo0 : w.heap.size + 2 ≤ g0 := by omega
  have q := (hb.block _ (row_lt HQ0.out)).trans HQ0.out
  have q2 := (hb.block _ (row_lt HQZ.out)).trans HQZ.out
  have y : ∃ u, w3.cell? ⟨w.heap.size, 2, none⟩ = some u := ⟨_, row_cell q 2 rfl⟩
  obtain ⟨y0, y0'⟩ := y
  have f0 := row_free q 2
  have q3 := row_setCell q 2 (.slice (some ⟨g0, 0, none⟩) l1.length (l1.length + 64))
  simp only [List.setIfInBounds_toArray, List.set_cons_zero, List.set_cons_succ] at q3
  have hk : Keeps (fun b => b ≠ w.heap.size) w3 (w3.setCell ⟨w.heap.size, 2, none⟩ (.slice (some ⟨g0, 0, none⟩) l1.length (l1.length + 64))) := (Keeps.refl _ _).setCell (a := ⟨w.heap.size, 2, none⟩) (by simp) _
  have HB4 := Lib.hid ((below_next HB2.out hb).setCell (p := ⟨w.heap.size, 2, none⟩) (Nat.le_refl _) (.slice (some ⟨g0, 0, none⟩) l1.length (l1.length + 64)))
  have HW0 := Lib.hid (hw.keeps hk (by omega))
  have HQ1 := Lib.hid q3
  have HQZ' := Lib.hid ((hk.block _ (row_lt q2) (by omega)).trans q2)
  have hsz : w2.heap.size ≤ w3.heap.size := hb.size
  rw [hg0] at hsz
  clear q q2 q3 hk hw hb HQZ HQ0 hg0
  have HQZ := HQZ'
  clear HQZ'
  go_upto_region 2 with fail
  obtain ⟨w4, hw2⟩ : ∃ w4, w3.setCell ⟨w.heap.size, 2, none⟩ (.slice (some ⟨g0, 0, none⟩) l1.length (l1.length + 64)) = w4 := ⟨_, rfl⟩
  have hsz2 : g0 ≤ w4.heap.size := by rw [← hw2, World.size_setCell]; omega
  rw [hw2] at HB4 HQ1 HQZ HW0 ⊢
  clear hw2 x0 y0' f0
  have x1 := row_cell HQ1.out 3 rfl
  simp only [List.getElem_toArray, List.getElem_cons_zero, List.getElem_cons_succ] at x1
  go_wp2_with fail
  refine (Wd.wideWords w4 _ _ l2 (HL1.out.keeps (Keeps.all _ HB4.out)) (by omega)).mono ?_
  rintro e w5 ⟨rfl, hw, hb⟩
  obtain ⟨g1, hg1⟩ : ∃ g1, w4.heap.size = g1 := ⟨_, rfl⟩
  rw [hg1] at hw ⊢
  have hlo1 : w.heap.size + 2 ≤ g1 := by omega
  have q := (hb.block _ (row_lt HQ1.out)).trans HQ1.out
  have q2 := (hb.block _ (row_lt HQZ.out)).trans HQZ.out
  have y : ∃ u, w5.cell? ⟨w.heap.size, 3, none⟩ = some u := ⟨_, row_cell q 3 rfl⟩
  obtain ⟨y1, y1'⟩ := y
  have f1 := row_free q 3
  have q3 := row_setCell q 3 (.slice (some ⟨g1, 0, none⟩) l2.length (l2.length + 64))
  simp only [List.setIfInBounds_toArray, List.set_cons_zero, List.set_cons_succ] at q3
  have hk : Keeps (fun b => b ≠ w.heap.size) w5 (w5.setCell ⟨w.heap.size, 3, none⟩ (.slice (some ⟨g1, 0, none⟩) l2.length (l2.length + 64))) := (Keeps.refl _ _).setCell (a := ⟨w.heap.size, 3, none⟩) (by simp) _
  have HB6 := Lib.hid ((below_next HB4.out hb).setCell (p := ⟨w.heap.size, 3, none⟩) (Nat.le_refl _) (.slice (some ⟨g1, 0, none⟩) l2.length (l2.length + 64)))
  have HW1 := Lib.hid (hw.keeps hk (by omega))
  have HW0' := Lib.hid ((HW0.out.keeps (Keeps.all (fun _ => True) hb) trivial).keeps hk (by omega))
  clear HW0
  have HW0 := HW0'
  clear HW0'
  have HQ2 := Lib.hid q3
  have HQZ' := Lib.hid ((hk.block _ (row_lt q2) (by omega)).trans q2)
  have hsz : w4.heap.size ≤ w5.heap.size := hb.size
  rw [hg1] at hsz
  clear q q2 q3 hk hw hb HQZ HQ1 hg1
  have HQZ := HQZ'
  clear HQZ'
  go_upto_region 3 with fail
  obtain ⟨w6, hw2⟩ : ∃ w6, w5.setCell ⟨w.heap.size, 3, none⟩ (.slice (some ⟨g1, 0, none⟩) l2.length (l2.length + 64)) = w6 := ⟨_, rfl⟩
  have hsz2 : g1 ≤ w6.heap.size := by rw [← hw2, World.size_setCell]; omega
  rw [hw2] at HB6 HQ2 HQZ HW0 HW1 ⊢
  clear hw2 x1 y1' f1
  have z0 := row_cell HQ2.out 0 rfl; have z1 := row_cell HQ2.out 1 rfl; have z2 := row_cell HQ2.out 2 rfl; have z3 := row_cell HQ2.out 3 rfl
  have k0 := row_cell HQZ.out 0 rfl; have k1 := row_cell HQZ.out 1 rfl; have k2 := row_cell HQZ.out 2 rfl; have k3 := row_cell HQZ.out 3 rfl
  simp only [List.getElem_toArray, List.getElem_cons_zero, List.getElem_cons_succ] at z0 z1 z2 z3 k0 k1 k2 k3
  have m0 := row_free HQZ.out 0; have m1 := row_free HQZ.out 1; have m2 := row_free HQZ.out 2; have m3 := row_free HQZ.out 3
  go_wp2
  have hk : Keeps (fun b => b ≠ w.heap.size + 1) w6 _ := (((((Keeps.refl _ w6).setCell (a := ⟨w.heap.size + 1, 0, none⟩) (by simp) (.int .i64 fn)).setCell (a := ⟨w.heap.size + 1, 1, none⟩) (by simp) (.int .i64 pc)).setCell (a := ⟨w.heap.size + 1, 2, none⟩) (by simp) (.slice (some ⟨g0, 0, none⟩) l1.length (l1.length + 64))).setCell (a := ⟨w.heap.size + 1, 3, none⟩) (by simp) (.slice (some ⟨g1, 0, none⟩) l2.length (l2.length + 64)))
  refine bodyPost_ret (fr_results (w.heap.size + 1) _ (set4_row HQZ.out _ _ _ _) rfl rfl) rfl ⟨g0, g1, rfl, HW0.out.keeps hk (by omega), HW1.out.keeps hk (by omega), by omega, by omega, ?_⟩
  exact ((((HB6.out.setCell (p := ⟨w.heap.size + 1, 0, none⟩) (by simp) _).setCell (p := ⟨w.heap.size + 1, 1, none⟩) (by simp) _).setCell (p := ⟨w.heap.size + 1, 2, none⟩) (by simp) _).setCell (p := ⟨w.heap.size + 1, 3, none⟩) (by simp) _)
end Go.Proofs.YthlkckpadjjbdaaDoor
