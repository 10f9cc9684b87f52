/- ValidateAlone: the walk. -/
import Derived.Test.YtebegkgechadlaaDoorMEnd
import Derived.Test.YtebegkgechadlaaDoorMVaM
import Derived.Test.YtebegkgechadlaaDoorMAlone
import Derived.Test.YtebegkgechadlaaDoorSizeX
namespace Go.Proofs.YtebegkgechadlaaDoor
open Go Go.RowKit
set_option linter.unusedSimpArgs false

theorem MB_cells {w w1 : World} {n : Nat} {c : Array Value} (h : w.heap[n]? = some (.cells c 29 (0, 0))) (hb : Below w.heap.size w w1) : w1.heap[n]? = some (.cells c 29 (0, 0)) := (hb.block _ (row_lt h)).trans h
set_option maxRecDepth 100000 in
set_option maxHeartbeats 6400000 in
theorem law_validateAlone (w : World) (S : Nat → Prop) (hS : ∀ b, S b → b < w.heap.size) (m : ModD) (cs : List Value) (hm : RMod S w cs m) (sm : SmM m) (wf : WfM m) (htb : Tb w) (f g : Int) :
    Calls Tryd.prog 3 #[.agg cs.toArray, .int .i64 f, .int .i64 g] w fun r w' => r = .returned (.bool true) ∧ Below w.heap.size w w' := by
  have hm0 := hm
  obtain ⟨tv, hv, gv, fv, dv, ev, rfl, r1, r2, r3, r4, r5, r6⟩ := hm
  obtain ⟨ta, tc, rfl, tl⟩ := r1.len
  obtain ⟨ha, hc, rfl, hl⟩ := r2.len
  obtain ⟨ga, gc, rfl, gl⟩ := r3.len
  obtain ⟨fa, fc, rfl, fl⟩ := r4.len
  obtain ⟨da, dc, rfl, dl⟩ := r5.len
  obtain ⟨ea, ec, rfl, el⟩ := r6.len
  have hba := below_alloc w (.cells #[.slice ta m.types.length tc, .slice ha m.hosts.length hc, .slice ga m.globals.length gc, .int .i64 m.first, .int .i64 m.most, .slice fa m.funs.length fc, .slice da m.datas.length dc, .slice ea m.exps.length ec] 29)
  have hmb := heap_alloc_new w (.cells #[.slice ta m.types.length tc, .slice ha m.hosts.length hc, .slice ga m.globals.length gc, .int .i64 m.first, .int .i64 m.most, .slice fa m.funs.length fc, .slice da m.datas.length dc, .slice ea m.exps.length ec] 29)
  have HW := Lib.hid (law_works (w.alloc (.cells #[.slice ta m.types.length tc, .slice ha m.hosts.length hc, .slice ga m.globals.length gc, .int .i64 m.first, .int .i64 m.most, .slice fa m.funs.length fc, .slice da m.datas.length dc, .slice ea m.exps.length ec] 29)) (htb.bel hba))
  have HM := Lib.hid hm0; have HMB := Lib.hid hmb; have HB := Lib.hid hba; have HT := Lib.hid htb; have HS := Lib.hid hS; have HSM := Lib.hid sm; have HWF := Lib.hid wf
  clear hm0 r1 r2 r3 r4 r5 r6 hba hmb htb hS sm wf
  go_enter Tryd.func3, Tryd.ntmps3
  go_wp2_with fail
  refine HW.out.mono ?_
  rintro e w2 ⟨rfl, hb2⟩
  have HB2 := Lib.hid (below_next HB.out hb2)
  have HMB2 := Lib.hid (MB_cells HMB.out hb2)
  have g0 := row_cell HMB2.out 0 rfl; have g1 := row_cell HMB2.out 1 rfl; have g2 := row_cell HMB2.out 2 rfl; have g3 := row_cell HMB2.out 3 rfl; have g4 := row_cell HMB2.out 4 rfl; have g5 := row_cell HMB2.out 5 rfl; have g6 := row_cell HMB2.out 6 rfl; have g7 := row_cell HMB2.out 7 rfl
  simp only [List.getElem_toArray, List.getElem_cons_zero, List.getElem_cons_succ] at g0 g1 g2 g3 g4 g5 g6 g7
  have HSZ := Lib.hid (sizeModX w2 S _ m (HM.out.keeps (Keeps.all S HB2.out)) HSM.out)
  clear HW hb2 HB HMB
  go_wp2_with fail
  refine HSZ.out.mono ?_
  rintro e w3 ⟨z, rfl, hb3, hz⟩
  have HZ := Lib.hid hz
  have HB3 := Lib.hid (below_next HB2.out hb3)
  have HMB3 := Lib.hid (MB_cells HMB2.out hb3)
  have g0 := row_cell HMB3.out 0 rfl; have g1 := row_cell HMB3.out 1 rfl; have g2 := row_cell HMB3.out 2 rfl; have g3 := row_cell HMB3.out 3 rfl; have g4 := row_cell HMB3.out 4 rfl; have g5 := row_cell HMB3.out 5 rfl; have g6 := row_cell HMB3.out 6 rfl; have g7 := row_cell HMB3.out 7 rfl
  simp only [List.getElem_toArray, List.getElem_cons_zero, List.getElem_cons_succ] at g0 g1 g2 g3 g4 g5 g6 g7
  clear hz hb3 HSZ HB2 HMB2
  by_cases hbig : 4000 < z
  · have hd : decide ((z : Int) > 4000) = true := decide_eq_true (by omega)
    go_wp2
    go_ret
    exact ⟨rfl, HB3.out⟩
  · have hd : decide ((z : Int) > 4000) = false := decide_eq_false (by omega)
    have HTOT : Hid (totM m ≤ 4000) := Lib.hid (by have := HZ.out (by omega); omega)
    have HMD := Lib.hid (val_Module w3 S (fun b hb => by have := HS.out b hb; have := HB3.out.size; omega) m _ (HM.out.keeps (Keeps.all S HB3.out)) HSM.out HWF.out (HT.out.bel HB3.out))
    clear HZ hbig
    go_wp2_with fail
    refine HMD.out.mono ?_
    rintro e w4 ⟨lv, rfl, -, hb4⟩
    have HB4 := Lib.hid (below_next HB3.out hb4)
    have HMB4 := Lib.hid (MB_cells HMB3.out hb4)
    have g0 := row_cell HMB4.out 0 rfl; have g1 := row_cell HMB4.out 1 rfl; have g2 := row_cell HMB4.out 2 rfl; have g3 := row_cell HMB4.out 3 rfl; have g4 := row_cell HMB4.out 4 rfl; have g5 := row_cell HMB4.out 5 rfl; have g6 := row_cell HMB4.out 6 rfl; have g7 := row_cell HMB4.out 7 rfl
    simp only [List.getElem_toArray, List.getElem_cons_zero, List.getElem_cons_succ] at g0 g1 g2 g3 g4 g5 g6 g7
    obtain ⟨ve, hve⟩ : ∃ e, (valM m).2.1 = e := ⟨_, rfl⟩
    rw [hve]
    have HVE := Lib.hid hve
    clear hve hb4 HMD HB3 HMB3
    have done : ∀ x : Unit, True := fun _ => trivial
    by_cases hv0 : ve = 0
    rotate_left
    · have hvb : (ve != 0) = true := by simpa using hv0
      go_wp2
      go_ret
      exact ⟨rfl, HB4.out⟩
    have hvb : (ve != 0) = false := by simp [hv0]
    by_cases hf0 : f < 0
    · have d1 : decide (f < 0) = true := decide_eq_true hf0
      go_wp2
      go_ret
      exact ⟨rfl, HB4.out⟩
    have d1 : decide (f < 0) = false := decide_eq_false hf0
    by_cases hg0 : g < 0
    · have d2 : decide (g < 0) = true := decide_eq_true hg0
      go_wp2
      go_ret
      exact ⟨rfl, HB4.out⟩
    have d2 : decide (g < 0) = false := decide_eq_false hg0
    by_cases hf1 : f ≥ (m.funs.length : Int)
    · have d3 : decide (f ≥ (m.funs.length : Int)) = true := decide_eq_true hf1
      go_wp2
      go_ret
      exact ⟨rfl, HB4.out⟩
    have d3 : decide (f ≥ (m.funs.length : Int)) = false := decide_eq_false hf1
    by_cases hg1 : g ≥ (m.funs.length : Int)
    · have d4 : decide (g ≥ (m.funs.length : Int)) = true := decide_eq_true hg1
      go_wp2
      go_ret
      exact ⟨rfl, HB4.out⟩
    have d4 : decide (g ≥ (m.funs.length : Int)) = false := decide_eq_false hg1
    by_cases hfg : f = g
    · have d5 : (f == g) = true := by simp [hfg]
      go_wp2
      go_ret
      exact ⟨rfl, HB4.out⟩
    have d5 : (f == g) = false := by simp [hfg]
    subst hv0
    have HENC : Hid ((encM m).2 = 0) := Lib.hid (valM_ok.1 HVE.out).1
    have HLAW : Hid ((valF m f).2.1 = 0 ∧ (valF (aloneM m g.toNat) f).2.1 = 0 ∧ (valM (aloneM m g.toNat)).2.1 = 0 ∧ (valF m f).1 = (valF (aloneM m g.toNat) f).1) := Lib.hid (by
      have h1 := law_alone (m := m) (g := g.toNat) HWF.out HTOT.out HVE.out (f := f.toNat) (by omega) (by omega) (by omega)
      rw [show ((f.toNat : Nat) : Int) = f by omega] at h1
      exact h1)
    have HFU := Lib.hid (val_Function w4 S (fun b hb => by have := HS.out b hb; have := HB4.out.size; omega) m _ (HM.out.keeps (Keeps.all S HB4.out)) HSM.out HWF.out (HT.out.bel HB4.out) f)
    clear done
    go_wp2_with fail
    refine HFU.out.mono ?_
    rintro e w5 ⟨cs5, rfl, hrt5, hb5⟩
    obtain ⟨L1, L2, L3, L4⟩ := HLAW.out
    obtain ⟨⟨tb, xe, xp⟩, hX⟩ : ∃ X, valF m f = X := ⟨_, rfl⟩
    rw [hX] at hrt5 L1 L4 ⊢
    simp only at hrt5 L1 L4 ⊢
    subst L1
    have HL := Lib.hid (And.intro L2 (And.intro L3 L4))
    have HRT5 := Lib.hid hrt5
    obtain ⟨sv, ev5, lv5, fv5, hcs5, p1, p2, p3, p4⟩ := hrt5
    obtain ⟨sa, sc, hsv, -⟩ := p1.lenc
    rw [List.length_map] at hsv
    subst hsv
    obtain ⟨ea5, ec5, rfl, -⟩ := p2.lenc
    obtain ⟨la, lc, rfl, -⟩ := p3.lenc
    obtain ⟨fa5, fc5, rfl, -⟩ := p4.lenc
    subst hcs5
    have hb5' := below_alloc w5 (.cells #[.slice sa tb.shapes.length sc, .slice ea5 tb.ends.length ec5, .slice la tb.elses.length lc, .slice fa5 tb.floors.length fc5, .int .i64 tb.high] 38)
    have HB5 := Lib.hid (below_next HB4.out (below_next hb5 hb5'))
    have HMB5 := Lib.hid (MB_cells HMB4.out (below_next hb5 hb5'))
    have hr5 := heap_alloc_new w5 (.cells #[.slice sa tb.shapes.length sc, .slice ea5 tb.ends.length ec5, .slice la tb.elses.length lc, .slice fa5 tb.floors.length fc5, .int .i64 tb.high] 38)
    have HR5 := Lib.hid hr5
    have r0 := heap_alloc_new w5 (.cells #[.slice none 0 0, .slice none 0 0, .slice none 0 0, .slice none 0 0, .int .i64 0] 38)
    have fr0 := row_free r0 0; have fr1 := row_free r0 1; have fr2 := row_free r0 2; have fr3 := row_free r0 3; have fr4 := row_free r0 4
    have HQ5 := Lib.hid (HRT5.out.keeps (Keeps.all _ hb5'))
    have g0 := row_cell HMB5.out 0 rfl; have g1 := row_cell HMB5.out 1 rfl; have g2 := row_cell HMB5.out 2 rfl; have g3 := row_cell HMB5.out 3 rfl; have g4 := row_cell HMB5.out 4 rfl; have g5 := row_cell HMB5.out 5 rfl; have g6 := row_cell HMB5.out 6 rfl; have g7 := row_cell HMB5.out 7 rfl
    simp only [List.getElem_toArray, List.getElem_cons_zero, List.getElem_cons_succ] at g0 g1 g2 g3 g4 g5 g6 g7
    have hlens := lens_of HENC.out
    have HLN := Lib.hid hlens
    have HCP := Lib.hid (copyModule (w5.alloc (.cells #[.slice sa tb.shapes.length sc, .slice ea5 tb.ends.length ec5, .slice la tb.elses.length lc, .slice fa5 tb.floors.length fc5, .int .i64 tb.high] 38)) S (fun b hb => by have := HS.out b hb; have := HB5.out.size; omega) m _ (HM.out.keeps (Keeps.all S HB5.out)) hlens.t hlens.h hlens.g hlens.f hlens.d hlens.e hlens.fs (fun d hd => by
      obtain ⟨-, -, -, -, rd, -⟩ := RMod.parts HM.out
      obtain ⟨j, hj, rfl⟩ := List.getElem_of_mem hd
      obtain ⟨a, cc, -, -, -, hp⟩ := rd
      obtain ⟨b, off, cs, -, -, -, -, v, -, hr⟩ := hp j hj
      obtain ⟨_, _, _, _, h2, _⟩ := hr
      exact h2))
    clear r0 hr5 hb5 hb5' p1 p2 p3 p4 HFU HRT5 HB4 HMB4 L2 L3 L4 hX HLAW hlens
    obtain ⟨gn, rfl⟩ : ∃ gn : Nat, g = gn := ⟨g.toNat, by omega⟩
    rw [Int.toNat_natCast] at HL
    have hgn : gn < m.funs.length := by omega
    clear d1 d2 d3 d4 d5 hf0 hg0 hf1 hg1 hfg hvb
    go_wp2_with fail
    refine HCP.out.mono ?_
    rintro e w6 ⟨tv6, hv6, gv6, fv6, dv6, ev6, ps6, rfl, hb6, hps, hof, q1, q2, q3, q5, q6⟩
    obtain ⟨ta6, tc6, rfl, -⟩ := q1.len
    obtain ⟨ha6, hc6, rfl, -⟩ := q2.lenc
    obtain ⟨ga6, gc6, rfl, -⟩ := q3.len
    obtain ⟨da6, dc6, rfl, -⟩ := q5.len
    obtain ⟨ea6, ec6, rfl, -⟩ := q6.len
    obtain ⟨fa6, fc6, hfv⟩ := hof.max
    have hpl : ps6.length = m.funs.length := by rw [← hps, List.length_map]
    rw [hpl] at hfv
    subst hfv
    obtain ⟨gf, rfl⟩ : ∃ gf, fa6 = some ⟨gf, 0, none⟩ := by
      rcases hof.row.2 with ⟨h', h0⟩ | ⟨g', cap', cur, h', _⟩
      · omega
      · simp only [Value.slice.injEq] at h'
        exact ⟨g', h'.1⟩
    have hgl := (World.ownsRow.lt hof.row gf rfl)
    have hb7 : Below w6.heap.size w6 ((w6.alloc (.cells #[.slice ta6 m.types.length tc6, .slice ha6 m.hosts.length hc6, .slice ga6 m.globals.length gc6, .int .i64 m.first, .int .i64 m.most, .slice (some ⟨gf, 0, none⟩) m.funs.length fc6, .slice da6 m.datas.length dc6, .slice ea6 m.exps.length ec6] 29)).alloc (.cells #[.int .u8 0, .int .i64 0, .slice none 0 0, .int .u8 6, .int .i64 0, .slice none 0 0] 43)) := below_next (below_alloc _ _) (below_alloc _ _)
    have hst : ((w6.alloc (.cells #[.slice ta6 m.types.length tc6, .slice ha6 m.hosts.length hc6, .slice ga6 m.globals.length gc6, .int .i64 m.first, .int .i64 m.most, .slice (some ⟨gf, 0, none⟩) m.funs.length fc6, .slice da6 m.datas.length dc6, .slice ea6 m.exps.length ec6] 29)).alloc (.cells #[.int .u8 0, .int .i64 0, .slice none 0 0, .int .u8 6, .int .i64 0, .slice none 0 0] 43)).heap[w6.heap.size + 1]? = some (.cells #[.int .u8 0, .int .i64 0, .slice none 0 0, .int .u8 6, .int .i64 0, .slice none 0 0] 43) := by
      have := heap_alloc_new (w6.alloc (.cells #[.slice ta6 m.types.length tc6, .slice ha6 m.hosts.length hc6, .slice ga6 m.globals.length gc6, .int .i64 m.first, .int .i64 m.most, .slice (some ⟨gf, 0, none⟩) m.funs.length fc6, .slice da6 m.datas.length dc6, .slice ea6 m.exps.length ec6] 29)) (.cells #[.int .u8 0, .int .i64 0, .slice none 0 0, .int .u8 6, .int .i64 0, .slice none 0 0] 43)
      rw [World.size_alloc] at this
      exact this
    have hm7 := heap_alloc_new w6 (.cells #[.slice ta6 m.types.length tc6, .slice ha6 m.hosts.length hc6, .slice ga6 m.globals.length gc6, .int .i64 m.first, .int .i64 m.most, .slice (some ⟨gf, 0, none⟩) m.funs.length fc6, .slice da6 m.datas.length dc6, .slice ea6 m.exps.length ec6] 29)
    have hm8 : ((w6.alloc (.cells #[.slice ta6 m.types.length tc6, .slice ha6 m.hosts.length hc6, .slice ga6 m.globals.length gc6, .int .i64 m.first, .int .i64 m.most, .slice (some ⟨gf, 0, none⟩) m.funs.length fc6, .slice da6 m.datas.length dc6, .slice ea6 m.exps.length ec6] 29)).alloc (.cells #[.int .u8 0, .int .i64 0, .slice none 0 0, .int .u8 6, .int .i64 0, .slice none 0 0] 43)).heap[w6.heap.size]? = some (.cells #[.slice ta6 m.types.length tc6, .slice ha6 m.hosts.length hc6, .slice ga6 m.globals.length gc6, .int .i64 m.first, .int .i64 m.most, .slice (some ⟨gf, 0, none⟩) m.funs.length fc6, .slice da6 m.datas.length dc6, .slice ea6 m.exps.length ec6] 29) := ((below_alloc (w6.alloc (.cells #[.slice ta6 m.types.length tc6, .slice ha6 m.hosts.length hc6, .slice ga6 m.globals.length gc6, .int .i64 m.first, .int .i64 m.most, .slice (some ⟨gf, 0, none⟩) m.funs.length fc6, .slice da6 m.datas.length dc6, .slice ea6 m.exps.length ec6] 29)) (.cells #[.int .u8 0, .int .i64 0, .slice none 0 0, .int .u8 6, .int .i64 0, .slice none 0 0] 43)).block _ (row_lt hm7)).trans hm7
    have hof8 := OwnG.on deepF hof hb7
    obtain ⟨⟨za, zn, zc, k0, k1, k2⟩, kf, -, cur, fr, hrow⟩ := ownF_at hof8 hps (by omega) hgn
    obtain ⟨⟨ya, yn, yc, -, k1a, k2a⟩, kfa, -⟩ := ownF_at hof hps (by omega) hgn
    have kfa1 := kfa (gn * 3 + 1); have kfa2 := kfa (gn * 3 + 2)
    have ho8 := hof8.row
    rw [hpl] at ho8
    have r9 := row_setCell hrow (gn * 3 + 2) (.slice (some ⟨w6.heap.size + 1, 0, none⟩) 2 2)
    have kf2 := kf (gn * 3 + 2)
    have kf1 : (((w6.alloc (.cells #[.slice ta6 m.types.length tc6, .slice ha6 m.hosts.length hc6, .slice ga6 m.globals.length gc6, .int .i64 m.first, .int .i64 m.most, .slice (some ⟨gf, 0, none⟩) m.funs.length fc6, .slice da6 m.datas.length dc6, .slice ea6 m.exps.length ec6] 29)).alloc (.cells #[.int .u8 0, .int .i64 0, .slice none 0 0, .int .u8 6, .int .i64 0, .slice none 0 0] 43)).setCell ⟨gf, gn * 3 + 2, none⟩ (.slice (some ⟨w6.heap.size + 1, 0, none⟩) 2 2)).frozen? ⟨gf, gn * 3 + 1, none⟩ = false := World.ownsRow.frozenAt (World.ownsRow.stored ho8 (gn * 3 + 2) _).1 (gn * 3 + 1)
    have k1' : (((w6.alloc (.cells #[.slice ta6 m.types.length tc6, .slice ha6 m.hosts.length hc6, .slice ga6 m.globals.length gc6, .int .i64 m.first, .int .i64 m.most, .slice (some ⟨gf, 0, none⟩) m.funs.length fc6, .slice da6 m.datas.length dc6, .slice ea6 m.exps.length ec6] 29)).alloc (.cells #[.int .u8 0, .int .i64 0, .slice none 0 0, .int .u8 6, .int .i64 0, .slice none 0 0] 43)).setCell ⟨gf, gn * 3 + 2, none⟩ (.slice (some ⟨w6.heap.size + 1, 0, none⟩) 2 2)).cell? ⟨gf, gn * 3 + 1, none⟩ = some (.string m.funs[gn].locals) := by
      rw [cell_of_row _ gf _ _ _ fr r9, Array.getElem?_setIfInBounds_ne (by omega), ← cell_of_row _ gf _ cur _ fr hrow]
      exact k1
    have kk1 := (Keeps.refl (fun b => b ≠ gf) ((w6.alloc (.cells #[.slice ta6 m.types.length tc6, .slice ha6 m.hosts.length hc6, .slice ga6 m.globals.length gc6, .int .i64 m.first, .int .i64 m.most, .slice (some ⟨gf, 0, none⟩) m.funs.length fc6, .slice da6 m.datas.length dc6, .slice ea6 m.exps.length ec6] 29)).alloc (.cells #[.int .u8 0, .int .i64 0, .slice none 0 0, .int .u8 6, .int .i64 0, .slice none 0 0] 43))).setCell (a := ⟨gf, gn * 3 + 2, none⟩) (by simp) (.slice (some ⟨w6.heap.size + 1, 0, none⟩) 2 2)
    have kk2 := kk1.setCell (a := ⟨gf, gn * 3 + 1, none⟩) (by simp) (.string ⟨#[]⟩)
    have hm9 := (kk1.block _ (row_lt hm8) (by omega)).trans hm8
    have hm10 := (kk2.block _ (row_lt hm8) (by omega)).trans hm8
    have HM10 := Lib.hid hm10
    have y5 := row_cell hm7 5 rfl; have y5' := row_cell hm9 5 rfl
    have HRM10 := Lib.hid (alone_mem hb7 hof hps (by omega) hgn q1 q2 q3 q5 q6 hst (by omega))
    have r0 := heap_alloc_new w6 (.cells #[.slice none 0 0, .slice none 0 0, .slice none 0 0, .int .i64 0, .int .i64 0, .slice none 0 0, .slice none 0 0, .slice none 0 0] 29)
    have fr0 := row_free r0 0; have fr1 := row_free r0 1; have fr2 := row_free r0 2; have fr3 := row_free r0 3; have fr4 := row_free r0 4; have fr5 := row_free r0 5; have fr6 := row_free r0 6; have fr7 := row_free r0 7
    have HB10 : Hid (Below w.heap.size w ((((w6.alloc (.cells #[.slice ta6 m.types.length tc6, .slice ha6 m.hosts.length hc6, .slice ga6 m.globals.length gc6, .int .i64 m.first, .int .i64 m.most, .slice (some ⟨gf, 0, none⟩) m.funs.length fc6, .slice da6 m.datas.length dc6, .slice ea6 m.exps.length ec6] 29)).alloc (.cells #[.int .u8 0, .int .i64 0, .slice none 0 0, .int .u8 6, .int .i64 0, .slice none 0 0] 43)).setCell ⟨gf, gn * 3 + 2, none⟩ (.slice (some ⟨w6.heap.size + 1, 0, none⟩) 2 2)).setCell ⟨gf, gn * 3 + 1, none⟩ (.string ⟨#[]⟩))) := Lib.hid ((((below_next HB5.out hb6).trans (hb7.mono (by have := HB5.out.size; have := hb6.size; omega))).setCell (p := ⟨gf, gn * 3 + 2, none⟩) (by have := HB5.out.size; show w.heap.size ≤ gf; omega) _).setCell (p := ⟨gf, gn * 3 + 1, none⟩) (by have := HB5.out.size; show w.heap.size ≤ gf; omega) _)
    have HT5 := Lib.hid ((kk2.block _ (Nat.lt_of_lt_of_le (row_lt HR5.out) (Nat.le_trans hb6.size hb7.size)) (by have := row_lt HR5.out; omega)).trans ((hb7.block _ (Nat.lt_of_lt_of_le (row_lt HR5.out) hb6.size)).trans ((hb6.block _ (row_lt HR5.out)).trans HR5.out)))
    have HQ10 := Lib.hid ((HQ5.out.mono fun b hb _ => hb : RTab (· < _) _ _ _).keeps (S := (· < _)) (((Keeps.all _ hb6).trans (Keeps.all _ hb7)).trans (kk2.mono fun b _ hb => by omega)))
    have g0 := row_cell hm10 0 rfl; have g1 := row_cell hm10 1 rfl; have g2 := row_cell hm10 2 rfl; have g3 := row_cell hm10 3 rfl; have g4 := row_cell hm10 4 rfl; have g5 := row_cell hm10 5 rfl; have g6 := row_cell hm10 6 rfl; have g7 := row_cell hm10 7 rfl
    simp only [List.getElem_toArray, List.getElem_cons_zero, List.getElem_cons_succ] at g0 g1 g2 g3 g4 g5 g6 g7
    simp only [List.getElem_toArray, List.getElem_cons_zero, List.getElem_cons_succ] at y5 y5'
    have HFN := Lib.hid (val_Function ((((w6.alloc (.cells #[.slice ta6 m.types.length tc6, .slice ha6 m.hosts.length hc6, .slice ga6 m.globals.length gc6, .int .i64 m.first, .int .i64 m.most, .slice (some ⟨gf, 0, none⟩) m.funs.length fc6, .slice da6 m.datas.length dc6, .slice ea6 m.exps.length ec6] 29)).alloc (.cells #[.int .u8 0, .int .i64 0, .slice none 0 0, .int .u8 6, .int .i64 0, .slice none 0 0] 43)).setCell ⟨gf, gn * 3 + 2, none⟩ (.slice (some ⟨w6.heap.size + 1, 0, none⟩) 2 2)).setCell ⟨gf, gn * 3 + 1, none⟩ (.string ⟨#[]⟩)) _ (fun b h => h) (aloneM m gn) _ HRM10.out (sm_alone HSM.out hgn) (alone_wf HWF.out) (HT.out.bel HB10.out) f)
    clear r0 hm7 hm8 hm9 hm10 hof8 hrow ho8 r9 hst hof q1 q2 q3 q5 q6 kf kfa HCP hb6
    go_wp2_with fail
    have hWW : (((((w6.alloc (.cells #[.slice ta6 m.types.length tc6, .slice ha6 m.hosts.length hc6, .slice ga6 m.globals.length gc6, .int .i64 m.first, .int .i64 m.most, .slice (some ⟨gf, 0, none⟩) m.funs.length fc6, .slice da6 m.datas.length dc6, .slice ea6 m.exps.length ec6] 29)).alloc (.cells #[.int .u8 0, .int .i64 0, .slice none 0 0, .int .u8 6, .int .i64 0, .slice none 0 0] 43)).setCell ⟨gf, gn * 3 + 2, none⟩ (.slice (some ⟨w6.heap.size + 1, 0, none⟩) 2 2))).setCell ⟨gf, gn * 3 + 1, none⟩ (.string ⟨#[]⟩)) = ((((w6.setCell ⟨gf, gn * 3 + 2, none⟩ (.slice (some ⟨w6.heap.size + 1, 0, none⟩) 2 2)).setCell ⟨gf, gn * 3 + 1, none⟩ (.string ⟨#[]⟩)).alloc (.cells #[.slice ta6 m.types.length tc6, .slice ha6 m.hosts.length hc6, .slice ga6 m.globals.length gc6, .int .i64 m.first, .int .i64 m.most, .slice (some ⟨gf, 0, none⟩) m.funs.length fc6, .slice da6 m.datas.length dc6, .slice ea6 m.exps.length ec6] 29)).alloc (.cells #[.int .u8 0, .int .i64 0, .slice none 0 0, .int .u8 6, .int .i64 0, .slice none 0 0] 43)) := by
      rw [World.setCell_alloc_past _ _ _ _ (by (try simp only [World.size_alloc, World.size_setCell]); omega), World.setCell_alloc_past _ _ _ _ (by (try simp only [World.size_alloc, World.size_setCell]); omega), World.setCell_alloc_past _ _ _ _ (by (try simp only [World.size_alloc, World.size_setCell]); omega), World.setCell_alloc_past _ _ _ _ (by (try simp only [World.size_alloc, World.size_setCell]); omega)]
    rw [hWW] at HFN HB10 HT5 HQ10 HM10 HRM10
    obtain ⟨W, hW⟩ : ∃ W, ((((w6.setCell ⟨gf, gn * 3 + 2, none⟩ (.slice (some ⟨w6.heap.size + 1, 0, none⟩) 2 2)).setCell ⟨gf, gn * 3 + 1, none⟩ (.string ⟨#[]⟩)).alloc (.cells #[.slice ta6 m.types.length tc6, .slice ha6 m.hosts.length hc6, .slice ga6 m.globals.length gc6, .int .i64 m.first, .int .i64 m.most, .slice (some ⟨gf, 0, none⟩) m.funs.length fc6, .slice da6 m.datas.length dc6, .slice ea6 m.exps.length ec6] 29)).alloc (.cells #[.int .u8 0, .int .i64 0, .slice none 0 0, .int .u8 6, .int .i64 0, .slice none 0 0] 43)) = W := ⟨_, rfl⟩
    rw [hW] at HFN HB10 HT5 HQ10 HM10 HRM10 ⊢
    clear hW hWW
    refine HFN.out.mono ?_
    rintro e w11 ⟨cs11, rfl, hrt, hb11⟩
    obtain ⟨L2, L3, L4⟩ := HL.out
    obtain ⟨⟨tb2, xe2, xp2⟩, hX⟩ : ∃ X, valF (aloneM m gn) f = X := ⟨_, rfl⟩
    rw [hX] at hrt L2 L4 ⊢
    simp only at hrt L2 L4 ⊢
    subst L2
    subst L4
    have HRT := Lib.hid hrt
    obtain ⟨svb, evb, lvb, fvb, hcsb, p1, p2, p3, p4⟩ := hrt
    obtain ⟨sb, sd, hsv, -⟩ := p1.lenc
    rw [List.length_map] at hsv
    subst hsv
    obtain ⟨eb5, ed5, rfl, -⟩ := p2.lenc
    obtain ⟨lb, ld, rfl, -⟩ := p3.lenc
    obtain ⟨fb5, fd5, rfl, -⟩ := p4.lenc
    subst hcsb
    have hba := below_alloc w11 (.cells #[.slice sb tb.shapes.length sd, .slice eb5 tb.ends.length ed5, .slice lb tb.elses.length ld, .slice fb5 tb.floors.length fd5, .int .i64 tb.high] 38)
    have hr11 := heap_alloc_new w11 (.cells #[.slice sb tb.shapes.length sd, .slice eb5 tb.ends.length ed5, .slice lb tb.elses.length ld, .slice fb5 tb.floors.length fd5, .int .i64 tb.high] 38)
    have hbb := below_next hb11 hba
    have HB12 := Lib.hid (below_next HB10.out hbb)
    have HM12 := Lib.hid (MB_cells HM10.out hbb)
    have HT12 := Lib.hid ((hbb.block _ (row_lt HT5.out)).trans HT5.out)
    have HU12 := Lib.hid hr11
    have HQ12 := Lib.hid ((HQ10.out.keeps (Keeps.all _ hbb)).mono (T := (· < (w11.alloc (.cells #[.slice sb tb.shapes.length sd, .slice eb5 tb.ends.length ed5, .slice lb tb.elses.length ld, .slice fb5 tb.floors.length fd5, .int .i64 tb.high] 38)).heap.size)) fun b hb _ => hb)
    have HP12 := Lib.hid ((HRT.out.keeps (Keeps.all _ hba)).mono (T := (· < (w11.alloc (.cells #[.slice sb tb.shapes.length sd, .slice eb5 tb.ends.length ed5, .slice lb tb.elses.length ld, .slice fb5 tb.floors.length fd5, .int .i64 tb.high] 38)).heap.size)) fun b hb _ => hb)
    have HRM12 := Lib.hid ((HRM10.out.keeps (Keeps.all _ hbb)).mono (T := (· < (w11.alloc (.cells #[.slice sb tb.shapes.length sd, .slice eb5 tb.ends.length ed5, .slice lb tb.elses.length ld, .slice fb5 tb.floors.length fd5, .int .i64 tb.high] 38)).heap.size)) fun b hb _ => hb)
    have r0 := heap_alloc_new w11 (.cells #[.slice none 0 0, .slice none 0 0, .slice none 0 0, .slice none 0 0, .int .i64 0] 38)
    have fr0 := row_free r0 0; have fr1 := row_free r0 1; have fr2 := row_free r0 2; have fr3 := row_free r0 3; have fr4 := row_free r0 4
    clear g0 g1 g2 g3 g4 g5 g6 g7 fr5 fr6 fr7
    have g0 := row_cell HM12.out 0 rfl; have g1 := row_cell HM12.out 1 rfl; have g2 := row_cell HM12.out 2 rfl; have g3 := row_cell HM12.out 3 rfl; have g4 := row_cell HM12.out 4 rfl; have g5 := row_cell HM12.out 5 rfl; have g6 := row_cell HM12.out 6 rfl; have g7 := row_cell HM12.out 7 rfl
    simp only [List.getElem_toArray, List.getElem_cons_zero, List.getElem_cons_succ] at g0 g1 g2 g3 g4 g5 g6 g7
    have HMM := Lib.hid (val_Module (w11.alloc (.cells #[.slice sb tb.shapes.length sd, .slice eb5 tb.ends.length ed5, .slice lb tb.elses.length ld, .slice fb5 tb.floors.length fd5, .int .i64 tb.high] 38)) _ (fun b h => h) (aloneM m gn) _ HRM12.out (sm_alone HSM.out hgn) (alone_wf HWF.out) (HT.out.bel HB12.out))
    clear p1 p2 p3 p4 hba hbb hr11 r0 hb11 HFN HRT
    go_wp2_with fail
    obtain ⟨w12, hw12⟩ : ∃ W, w11.alloc (.cells #[.slice sb tb.shapes.length sd, .slice eb5 tb.ends.length ed5, .slice lb tb.elses.length ld, .slice fb5 tb.floors.length fd5, .int .i64 tb.high] 38) = W := ⟨_, rfl⟩
    rw [hw12] at HMM HB12 HT12 HU12 HQ12 HP12 HRM12 ⊢
    clear hw12
    refine HMM.out.mono ?_
    rintro e w13 ⟨lv13, rfl, -, hb13⟩
    rw [L3]
    have HT13 := Lib.hid ((hb13.block _ (row_lt HT12.out)).trans HT12.out)
    have HU13 := Lib.hid ((hb13.block _ (row_lt HU12.out)).trans HU12.out)
    have HE := Lib.hid (eqTable w13 _ _ tb ((HQ12.out.keeps (Keeps.all _ hb13)).mono (T := (· < w13.heap.size)) fun b hb _ => hb) ((HP12.out.keeps (Keeps.all _ hb13)).mono (T := (· < w13.heap.size)) fun b hb _ => hb))
    clear g0 g1 g2 g3 g4 g5 g6 g7
    have t0 := row_cell HT13.out 0 rfl; have t1 := row_cell HT13.out 1 rfl; have t2 := row_cell HT13.out 2 rfl; have t3 := row_cell HT13.out 3 rfl; have t4 := row_cell HT13.out 4 rfl
    simp only [List.getElem_toArray, List.getElem_cons_zero, List.getElem_cons_succ] at t0 t1 t2 t3 t4
    have u0 := row_cell HU13.out 0 rfl; have u1 := row_cell HU13.out 1 rfl; have u2 := row_cell HU13.out 2 rfl; have u3 := row_cell HU13.out 3 rfl; have u4 := row_cell HU13.out 4 rfl
    simp only [List.getElem_toArray, List.getElem_cons_zero, List.getElem_cons_succ] at u0 u1 u2 u3 u4
    have HB13 := Lib.hid (below_next HB12.out hb13)
    clear hb13 HMM
    go_wp2_with fail
    refine HE.out.mono ?_
    rintro e w14 ⟨rfl, hb14⟩
    have HB14 := Lib.hid (below_next HB13.out hb14)
    go_wp2
    go_ret
    exact ⟨rfl, HB14.out⟩
end Go.Proofs.YtebegkgechadlaaDoor
