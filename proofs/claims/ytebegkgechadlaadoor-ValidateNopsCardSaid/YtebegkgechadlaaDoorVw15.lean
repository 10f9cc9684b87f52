/- validate.Function. -/
import Derived.Test.YtebegkgechadlaaDoorVw14
import Derived.Test.YtebegkgechadlaaDoorChk5
namespace Go.Proofs.YtebegkgechadlaaDoor
open Go Go.RowKit

theorem fun2_results {a : Act} {w : World} (g : Nat) (cs : Array Value) (x y : Value) (hrow : w.heap[g]? = some (.cells cs 38 (0, 0))) (hsz : cs.size = 5) (h4 : a.tmps.getD 4 undef = .pointer (some ⟨g, 0, none⟩)) (h5 : a.tmps.getD 5 undef = x) (h6 : a.tmps.getD 6 undef = y) :
    (results Tryd.f8 a.tmps).run Tryd.prog w = .ok (.tuple #[.agg cs, x, y]) w := by
  have hl := run_loadVar_row (P := Tryd.prog) w g 38 38 cs (0, 0) _ hrow Tryd.underlying38 rfl (by rw [hsz]; kernel_rfl)
  have h4' : a.tmps[4]?.getD undef = .pointer (some ⟨g, 0, none⟩) := by simpa using h4
  have h5' : a.tmps[5]?.getD undef = x := by simpa using h5
  have h6' : a.tmps[6]?.getD undef = y := by simpa using h6
  simp [results, Tryd.results8, asAddr, h4', hl, h5', h6']
theorem RTab.mono {S T : Nat → Prop} {w : World} {cs : List Value} {t : TbD} (h : RTab S w cs t) (hS : ∀ b, b < w.heap.size → S b → T b) : RTab T w cs t := by
  obtain ⟨sv, ev, lv, fv, e, h1, h2, h3, h4⟩ := h
  exact ⟨sv, ev, lv, fv, e, h1.mono hS, h2.mono hS, h3.mono hS, h4.mono hS⟩
theorem RTab.keeps {S : Nat → Prop} {w w' : World} {cs : List Value} {t : TbD} (h : RTab S w cs t) (hk : Keeps S w w') : RTab S w' cs t := by
  obtain ⟨sv, ev, lv, fv, e, h1, h2, h3, h4⟩ := h
  exact ⟨sv, ev, lv, fv, e, h1.keeps hk, h2.keeps hk, h3.keeps hk, h4.keeps hk⟩
set_option maxRecDepth 100000 in
set_option maxHeartbeats 3200000 in
theorem val_Function (w : World) (S : Nat → Prop) (hS : ∀ b, S b → b < w.heap.size) (m : ModD) (cs : List Value) (hm : RMod S w cs m) (sm : SmM m) (wf : WfM m) (htb : Tb w) (n : Int) :
    Calls Tryd.prog 8 #[.agg cs.toArray, .int .i64 n] w (FunP w (valF m n)) := by
  have hm0 := hm
  obtain ⟨tv, hv, gv, fv, dv, ev, rfl, r1, r2, r3, r4, r5, r6⟩ := hm
  obtain ⟨ta, tc, rfl, tl⟩ := r1.len
  obtain ⟨ha, hc, rfl, hl⟩ := r2.len
  obtain ⟨ga, gc, rfl, gl⟩ := r3.len
  obtain ⟨fa, fc, rfl, fl⟩ := r4.len
  obtain ⟨da, dc, rfl, dl⟩ := r5.len
  obtain ⟨ea, ec, rfl, el⟩ := r6.len
  have hba : Below w.heap.size w ((w.alloc (.cells #[.slice ta m.types.length tc, .slice ha m.hosts.length hc, .slice ga m.globals.length gc, .int .i64 m.first, .int .i64 m.most, .slice fa m.funs.length fc, .slice da m.datas.length dc, .slice ea m.exps.length ec] 29)).alloc (.cells #[.slice none 0 0, .slice none 0 0, .slice none 0 0, .slice none 0 0, .int .i64 0] 38)) := below_next (below_alloc _ _) (below_alloc _ _)
  have hmb : ((w.alloc (.cells #[.slice ta m.types.length tc, .slice ha m.hosts.length hc, .slice ga m.globals.length gc, .int .i64 m.first, .int .i64 m.most, .slice fa m.funs.length fc, .slice da m.datas.length dc, .slice ea m.exps.length ec] 29)).alloc (.cells #[.slice none 0 0, .slice none 0 0, .slice none 0 0, .slice none 0 0, .int .i64 0] 38)).heap[w.heap.size]? = some (.cells #[.slice ta m.types.length tc, .slice ha m.hosts.length hc, .slice ga m.globals.length gc, .int .i64 m.first, .int .i64 m.most, .slice fa m.funs.length fc, .slice da m.datas.length dc, .slice ea m.exps.length ec] 29) := ((below_alloc (w.alloc (.cells #[.slice ta m.types.length tc, .slice ha m.hosts.length hc, .slice ga m.globals.length gc, .int .i64 m.first, .int .i64 m.most, .slice fa m.funs.length fc, .slice da m.datas.length dc, .slice ea m.exps.length ec] 29)) (.cells #[.slice none 0 0, .slice none 0 0, .slice none 0 0, .slice none 0 0, .int .i64 0] 38)).block _ (by rw [World.size_alloc]; omega)).trans (heap_alloc_new w (.cells #[.slice ta m.types.length tc, .slice ha m.hosts.length hc, .slice ga m.globals.length gc, .int .i64 m.first, .int .i64 m.most, .slice fa m.funs.length fc, .slice da m.datas.length dc, .slice ea m.exps.length ec] 29))
  have htbx : ((w.alloc (.cells #[.slice ta m.types.length tc, .slice ha m.hosts.length hc, .slice ga m.globals.length gc, .int .i64 m.first, .int .i64 m.most, .slice fa m.funs.length fc, .slice da m.datas.length dc, .slice ea m.exps.length ec] 29)).alloc (.cells #[.slice none 0 0, .slice none 0 0, .slice none 0 0, .slice none 0 0, .int .i64 0] 38)).heap[w.heap.size + 1]? = some (.cells #[.slice none 0 0, .slice none 0 0, .slice none 0 0, .slice none 0 0, .int .i64 0] 38) := by
    have := heap_alloc_new (w.alloc (.cells #[.slice ta m.types.length tc, .slice ha m.hosts.length hc, .slice ga m.globals.length gc, .int .i64 m.first, .int .i64 m.most, .slice fa m.funs.length fc, .slice da m.datas.length dc, .slice ea m.exps.length ec] 29)) (.cells #[.slice none 0 0, .slice none 0 0, .slice none 0 0, .slice none 0 0, .int .i64 0] 38)
    rw [World.size_alloc] at this
    exact this
  have rm := hm0.keeps (Keeps.all S hba)
  have HCH := Lib.hid (mod_Check ((w.alloc (.cells #[.slice ta m.types.length tc, .slice ha m.hosts.length hc, .slice ga m.globals.length gc, .int .i64 m.first, .int .i64 m.most, .slice fa m.funs.length fc, .slice da m.datas.length dc, .slice ea m.exps.length ec] 29)).alloc (.cells #[.slice none 0 0, .slice none 0 0, .slice none 0 0, .slice none 0 0, .int .i64 0] 38)) S (fun b hb => by have := hS b hb; have := hba.size; omega) m _ rm sm wf (htb.bel hba))
  have HMB := Lib.hid hmb; have HTB := Lib.hid htbx; have HB := Lib.hid hba; have HRM := Lib.hid rm
  have HS := Lib.hid hS; have HT := Lib.hid htb; have HWF := Lib.hid wf
  have g0 := row_cell hmb 0 rfl; have g1 := row_cell hmb 1 rfl; have g2 := row_cell hmb 2 rfl; have g3 := row_cell hmb 3 rfl; have g4 := row_cell hmb 4 rfl; have g5 := row_cell hmb 5 rfl; have g6 := row_cell hmb 6 rfl; have g7 := row_cell hmb 7 rfl
  simp only [List.getElem_toArray, List.getElem_cons_zero, List.getElem_cons_succ] at g0 g1 g2 g3 g4 g5 g6 g7
  clear hm0 r1 r2 r3 r4 r5 r6 hba hmb htbx rm hS htb sm wf
  go_enter Tryd.func8, Tryd.ntmps8
  go_wp2_with fail
  refine HCH.out.mono ?_
  rintro e w3 ⟨rfl, hb3⟩
  have HM3 := Lib.hid ((hb3.block _ (row_lt HMB.out)).trans HMB.out)
  have HT3 := Lib.hid ((hb3.block _ (row_lt HTB.out)).trans HTB.out)
  have HB3 := Lib.hid (below_next HB.out hb3)
  have HRM3 := Lib.hid (HRM.out.keeps (Keeps.all S hb3))
  obtain ⟨me, hme⟩ : ∃ e, (encM m).2 = e := ⟨_, rfl⟩
  rw [hme]
  clear g0 g1 g2 g3 g4 g5 g6 g7 HMB HTB HB HRM HCH hb3
  have t0 := row_free HT3.out 0; have t1 := row_free HT3.out 1; have t2 := row_free HT3.out 2; have t3 := row_free HT3.out 3; have t4 := row_free HT3.out 4
  have k0 := row_cell HT3.out 0 rfl; have k1 := row_cell HT3.out 1 rfl; have k2 := row_cell HT3.out 2 rfl; have k3 := row_cell HT3.out 3 rfl; have k4 := row_cell HT3.out 4 rfl
  simp only [List.getElem_toArray, List.getElem_cons_zero, List.getElem_cons_succ] at k0 k1 k2 k3 k4
  by_cases hz : me = 0
  · have hz1 : (me != 0) = false := by simp [hz]
    subst hz
    have g0 := row_cell HM3.out 0 rfl; have g1 := row_cell HM3.out 1 rfl; have g2 := row_cell HM3.out 2 rfl; have g3 := row_cell HM3.out 3 rfl; have g4 := row_cell HM3.out 4 rfl; have g5 := row_cell HM3.out 5 rfl; have g6 := row_cell HM3.out 6 rfl; have g7 := row_cell HM3.out 7 rfl
    simp only [List.getElem_toArray, List.getElem_cons_zero, List.getElem_cons_succ] at g0 g1 g2 g3 g4 g5 g6 g7
    by_cases hr : n < 0 ∨ (m.funs.length : Int) ≤ n
    · have HFV : Hid (valF m n = (tbZ, 1, -1)) := Lib.hid (by unfold valF; rw [if_neg (by rw [hme]; simp), if_pos hr])
      by_cases h0 : n < 0
      · have d0 : decide (n < 0) = true := decide_eq_true h0
        go_wp2
        exact bodyPost_ret (fun2_results (w.heap.size + 1) #[.slice none 0 0, .slice none 0 0, .slice none 0 0, .slice none 0 0, .int .i64 0] _ _ (set5_row HT3.out _ _ _ _ _) rfl rfl rfl rfl) rfl ⟨[.slice none 0 0, .slice none 0 0, .slice none 0 0, .slice none 0 0, .int .i64 0], by rw [HFV.out]; rfl, by rw [HFV.out]; exact RTab.zero _ _, ((((HB3.out.setCell (p := ⟨w.heap.size + 1, 0, none⟩) (by simp) _).setCell (p := ⟨w.heap.size + 1, 1, none⟩) (by simp) _).setCell (p := ⟨w.heap.size + 1, 2, none⟩) (by simp) _).setCell (p := ⟨w.heap.size + 1, 3, none⟩) (by simp) _).setCell (p := ⟨w.heap.size + 1, 4, none⟩) (by simp) _⟩
      · have d0 : decide (n < 0) = false := decide_eq_false h0
        have d1 : decide (n ≥ (m.funs.length : Int)) = true := decide_eq_true (by omega)
        go_wp2
        exact bodyPost_ret (fun2_results (w.heap.size + 1) #[.slice none 0 0, .slice none 0 0, .slice none 0 0, .slice none 0 0, .int .i64 0] _ _ (set5_row HT3.out _ _ _ _ _) rfl rfl rfl rfl) rfl ⟨[.slice none 0 0, .slice none 0 0, .slice none 0 0, .slice none 0 0, .int .i64 0], by rw [HFV.out]; rfl, by rw [HFV.out]; exact RTab.zero _ _, ((((HB3.out.setCell (p := ⟨w.heap.size + 1, 0, none⟩) (by simp) _).setCell (p := ⟨w.heap.size + 1, 1, none⟩) (by simp) _).setCell (p := ⟨w.heap.size + 1, 2, none⟩) (by simp) _).setCell (p := ⟨w.heap.size + 1, 3, none⟩) (by simp) _).setCell (p := ⟨w.heap.size + 1, 4, none⟩) (by simp) _⟩
    · have HFV : Hid (valF m n = funV m n.toNat) := Lib.hid (by unfold valF; rw [if_neg (by rw [hme]; simp), if_neg hr])
      have d0 : decide (n < 0) = false := decide_eq_false (by omega)
      have d1 : decide (n ≥ (m.funs.length : Int)) = false := decide_eq_false (by omega)
      obtain ⟨j, hj⟩ : ∃ j : Nat, n = j := ⟨n.toNat, by omega⟩
      have hjn : n.toNat = j := by omega
      have HFN := Lib.hid (val_function w3 S (fun b hb => by have := HS.out b hb; have := HB3.out.size; omega) m _ HRM3.out (gd_of hme HWF.out) (HT.out.bel HB3.out) j (by omega))
      rw [hjn] at HFV
      rw [← hj] at HFN
      clear hj hjn
      clear hr
      go_wp2_with fail
      refine HFN.out.mono ?_
      rintro r w4 ⟨cs4, rfl, hrt, hb4⟩
      obtain ⟨sv, ev4, lv, fv4, rfl, q1, q2, q3, q4⟩ := hrt
      obtain ⟨sa, sc, rfl, -⟩ := q1.lenc
      obtain ⟨ea4, ec4, rfl, -⟩ := q2.lenc
      obtain ⟨la, lc, rfl, -⟩ := q3.lenc
      obtain ⟨fa4, fc4, rfl, -⟩ := q4.lenc
      have HT4 := Lib.hid ((hb4.block _ (row_lt HT3.out)).trans HT3.out)
      have HB4 := Lib.hid (below_next HB3.out hb4)
      have HQ := Lib.hid (And.intro q1 (And.intro q2 (And.intro q3 q4)))
      have hlow : w.heap.size + 1 < w3.heap.size := row_lt HT3.out
      clear t0 t1 t2 t3 t4 k0 k1 k2 k3 k4 q1 q2 q3 q4 hb4
      have t0 := row_free HT4.out 0; have t1 := row_free HT4.out 1; have t2 := row_free HT4.out 2; have t3 := row_free HT4.out 3; have t4 := row_free HT4.out 4
      have k0 := row_cell HT4.out 0 rfl; have k1 := row_cell HT4.out 1 rfl; have k2 := row_cell HT4.out 2 rfl; have k3 := row_cell HT4.out 3 rfl; have k4 := row_cell HT4.out 4 rfl
      simp only [List.getElem_toArray, List.getElem_cons_zero, List.getElem_cons_succ] at k0 k1 k2 k3 k4
      go_wp2
      have hk5 : Keeps (fun b => b ≠ w.heap.size + 1) w4 _ := ((((((Keeps.refl _ w4).setCell (a := ⟨w.heap.size + 1, 0, none⟩) (by simp) (.slice sa (texts (funV m j).1.shapes).length sc)).setCell (a := ⟨w.heap.size + 1, 1, none⟩) (by simp) (.slice ea4 (funV m j).1.ends.length ec4)).setCell (a := ⟨w.heap.size + 1, 2, none⟩) (by simp) (.slice la (funV m j).1.elses.length lc)).setCell (a := ⟨w.heap.size + 1, 3, none⟩) (by simp) (.slice fa4 (funV m j).1.floors.length fc4)).setCell (a := ⟨w.heap.size + 1, 4, none⟩) (by simp) (.int .i64 (funV m j).1.high))
      obtain ⟨q1, q2, q3, q4⟩ := HQ.out
      refine bodyPost_ret (fun2_results (w.heap.size + 1) #[.slice sa (texts (funV m j).1.shapes).length sc, .slice ea4 (funV m j).1.ends.length ec4, .slice la (funV m j).1.elses.length lc, .slice fa4 (funV m j).1.floors.length fc4, .int .i64 (funV m j).1.high] _ _ (by simpa using set5_row HT4.out _ _ _ _ _) rfl rfl rfl rfl) rfl ⟨[.slice sa (texts (funV m j).1.shapes).length sc, .slice ea4 (funV m j).1.ends.length ec4, .slice la (funV m j).1.elses.length lc, .slice fa4 (funV m j).1.floors.length fc4, .int .i64 (funV m j).1.high], by rw [HFV.out]; rfl, ?_, ?_⟩
      · rw [HFV.out]
        have mo : ∀ b : Nat, w3.heap.size ≤ b → b ≠ w.heap.size + 1 := fun b hb => by omega
        exact RTab.mono (S := fun b => w3.heap.size ≤ b) ⟨_, _, _, _, rfl, q1.keeps (by simpa using hk5.mono fun b _ hb => mo b hb), q2.keeps (by simpa using hk5.mono fun b _ hb => mo b hb), q3.keeps (by simpa using hk5.mono fun b _ hb => mo b hb), q4.keeps (by simpa using hk5.mono fun b _ hb => mo b hb)⟩ fun b _ hb => by omega
      · exact ((((HB4.out.setCell (p := ⟨w.heap.size + 1, 0, none⟩) (by simp) _).setCell (p := ⟨w.heap.size + 1, 1, none⟩) (by simp) _).setCell (p := ⟨w.heap.size + 1, 2, none⟩) (by simp) _).setCell (p := ⟨w.heap.size + 1, 3, none⟩) (by simp) _).setCell (p := ⟨w.heap.size + 1, 4, none⟩) (by simp) _
  · have hz1 : (me != 0) = true := by simpa using hz
    have HFV : Hid (valF m n = (tbZ, me, -1)) := Lib.hid (by unfold valF; rw [hme, if_pos hz])
    go_wp2
    exact bodyPost_ret (fun2_results (w.heap.size + 1) #[.slice none 0 0, .slice none 0 0, .slice none 0 0, .slice none 0 0, .int .i64 0] _ _ (set5_row HT3.out _ _ _ _ _) rfl rfl rfl rfl) rfl ⟨[.slice none 0 0, .slice none 0 0, .slice none 0 0, .slice none 0 0, .int .i64 0], by rw [HFV.out]; rfl, by rw [HFV.out]; exact RTab.zero _ _, ((((HB3.out.setCell (p := ⟨w.heap.size + 1, 0, none⟩) (by simp) _).setCell (p := ⟨w.heap.size + 1, 1, none⟩) (by simp) _).setCell (p := ⟨w.heap.size + 1, 2, none⟩) (by simp) _).setCell (p := ⟨w.heap.size + 1, 3, none⟩) (by simp) _).setCell (p := ⟨w.heap.size + 1, 4, none⟩) (by simp) _⟩
end Go.Proofs.YtebegkgechadlaaDoor
