/- flagonlaw05.ModuleBack. -/
import Derived.Test.YteaolgldkfjdkaaDoorLaw50
namespace Go.Proofs.YteaolgldkfjdkaaDoor
open Go Go.RowKit

set_option maxRecDepth 100000 in
set_option maxHeartbeats 6400000 in
theorem law_back5 (w : World) (cs : List Value) (v : Value) (m : ModD) (b : List Int) (h1 : RMod (· < w.heap.size) w cs m) (h2 : RdI .u8 (· < w.heap.size) w v b) (wm : WfM m ∧ SmM m) (hb : Bytes b) (ht : Tb w) :
    Calls Tryd.prog 3 #[.agg cs.toArray, v] w fun e w' => e = .returned (.bool true) ∧ Below w.heap.size w w' := by
  have HT := Lib.hid ht; have WM := Lib.hid wm; have HBY := Lib.hid hb
  clear ht wm hb
  obtain ⟨v1, v2, v3, v4, v5, v6, rfl, r1, r2, r3, r4, r5, r6⟩ := h1
  obtain ⟨at0, at1, rfl, -⟩ := r1.len
  obtain ⟨ah0, ah1, rfl, -⟩ := r2.len
  obtain ⟨ag0, ag1, rfl, -⟩ := r3.len
  obtain ⟨af0, af1, rfl, -⟩ := r4.len
  obtain ⟨ad0, ad1, rfl, -⟩ := r5.len
  obtain ⟨ae0, ae1, rfl, -⟩ := r6.len
  have h1 : RMod (· < w.heap.size) w [.slice at0 m.types.length at1, .slice ah0 m.hosts.length ah1, .slice ag0 m.globals.length ag1, .int .i64 m.first, .int .i64 m.most, .slice af0 m.funs.length af1, .slice ad0 m.datas.length ad1, .slice ae0 m.exps.length ae1] m := ⟨_, _, _, _, _, _, rfl, r1, r2, r3, r4, r5, r6⟩
  clear r1 r2 r3 r4 r5 r6
  obtain ⟨ia, ic, rfl, -⟩ := h2.len
  have HM := Lib.hid (MdB.new h1)
  have HB := Lib.hid (below_alloc w (.cells #[.slice at0 m.types.length at1, .slice ah0 m.hosts.length ah1, .slice ag0 m.globals.length ag1, .int .i64 m.first, .int .i64 m.most, .slice af0 m.funs.length af1, .slice ad0 m.datas.length ad1, .slice ae0 m.exps.length ae1] 29))
  have HI := Lib.hid (h2.bel5 (below_alloc w (.cells #[.slice at0 m.types.length at1, .slice ah0 m.hosts.length ah1, .slice ag0 m.globals.length ag1, .int .i64 m.first, .int .i64 m.most, .slice af0 m.funs.length af1, .slice ad0 m.datas.length ad1, .slice ae0 m.exps.length ae1] 29)))
  clear h1 h2
  go_enter Tryd.func3, Tryd.ntmps3
  go_wp2_with fail
  generalize w.alloc (.cells #[.slice at0 m.types.length at1, .slice ah0 m.hosts.length ah1, .slice ag0 m.globals.length ag1, .int .i64 m.first, .int .i64 m.most, .slice af0 m.funs.length af1, .slice ad0 m.datas.length ad1, .slice ae0 m.exps.length ae1] 29) = w3 at *
  refine (law_works5 w3 (HT.out.bel HB.out)).mono ?_
  rintro e w4 ⟨rfl, hb⟩
  have HM := Lib.hid (HM.out.bel hb)
  have HI := Lib.hid (HI.out.bel5 hb)
  have HB : Hid (Below w.heap.size w w4) := Lib.hid (below_next HB.out hb)
  clear hb
  have y0 := row_cell HM.out.row 0 rfl; have y1 := row_cell HM.out.row 1 rfl; have y2 := row_cell HM.out.row 2 rfl; have y3 := row_cell HM.out.row 3 rfl; have y4 := row_cell HM.out.row 4 rfl; have y5 := row_cell HM.out.row 5 rfl; have y6 := row_cell HM.out.row 6 rfl; have y7 := row_cell HM.out.row 7 rfl
  simp only [List.getElem_toArray, List.getElem_cons_zero, List.getElem_cons_succ] at y0 y1 y2 y3 y4 y5 y6 y7
  go_wp2_with fail
  refine (sizeMod5 w4 _ [.slice at0 m.types.length at1, .slice ah0 m.hosts.length ah1, .slice ag0 m.globals.length ag1, .int .i64 m.first, .int .i64 m.most, .slice af0 m.funs.length af1, .slice ad0 m.datas.length ad1, .slice ae0 m.exps.length ae1] m HM.out.rd).mono ?_
  rintro e w5 ⟨sz, rfl, hb⟩
  have HM := Lib.hid (HM.out.bel hb)
  have HI := Lib.hid (HI.out.bel5 hb)
  have HB : Hid (Below w.heap.size w w5) := Lib.hid (below_next HB.out hb)
  clear y0 y1 y2 y3 y4 y5 y6 y7
  have y0 := row_cell HM.out.row 0 rfl; have y1 := row_cell HM.out.row 1 rfl; have y2 := row_cell HM.out.row 2 rfl; have y3 := row_cell HM.out.row 3 rfl; have y4 := row_cell HM.out.row 4 rfl; have y5 := row_cell HM.out.row 5 rfl; have y6 := row_cell HM.out.row 6 rfl; have y7 := row_cell HM.out.row 7 rfl
  simp only [List.getElem_toArray, List.getElem_cons_zero, List.getElem_cons_succ] at y0 y1 y2 y3 y4 y5 y6 y7
  clear hb
  by_cases hbig : 262144 < sz
  · have hd : decide (262144 < sz) = true := decide_eq_true hbig
    go_wp2_with fail
    go_ret
    exact ⟨rfl, HB.out⟩
  have hd : decide (262144 < sz) = false := decide_eq_false hbig
  clear hbig
  by_cases hbl : 262144 < b.length
  · have hd2 : decide (262144 < (b.length : Int)) = true := decide_eq_true (by omega)
    go_wp2_with fail
    all_goals go_ret
    all_goals exact ⟨rfl, HB.out⟩
  have hd2 : decide (262144 < (b.length : Int)) = false := decide_eq_false (by omega)
  go_wp2_with fail
  clear hd hd2 hbl
  refine (mod_Encode w5 _ (fun _ h => h) m [.slice at0 m.types.length at1, .slice ah0 m.hosts.length ah1, .slice ag0 m.globals.length ag1, .int .i64 m.first, .int .i64 m.most, .slice af0 m.funs.length af1, .slice ad0 m.datas.length ad1, .slice ae0 m.exps.length ae1] HM.out.rd WM.out.2 WM.out.1 (HT.out.bel HB.out)).mono ?_
  rintro e w6 ⟨u1, rfl, hb, ho1, -⟩
  obtain ⟨ua, uc, rfl, -⟩ := own_slice ho1
  have HV1 := Lib.hid (enc_rd5 ho1)
  have HM := Lib.hid (HM.out.bel hb)
  have HI := Lib.hid (HI.out.bel5 hb)
  have HB : Hid (Below w.heap.size w w6) := Lib.hid (below_next HB.out hb)
  clear y0 y1 y2 y3 y4 y5 y6 y7
  have y0 := row_cell HM.out.row 0 rfl; have y1 := row_cell HM.out.row 1 rfl; have y2 := row_cell HM.out.row 2 rfl; have y3 := row_cell HM.out.row 3 rfl; have y4 := row_cell HM.out.row 4 rfl; have y5 := row_cell HM.out.row 5 rfl; have y6 := row_cell HM.out.row 6 rfl; have y7 := row_cell HM.out.row 7 rfl
  simp only [List.getElem_toArray, List.getElem_cons_zero, List.getElem_cons_succ] at y0 y1 y2 y3 y4 y5 y6 y7
  clear hb ho1
  obtain ⟨E1, hE1⟩ : ∃ E, (encM m).2 = E := ⟨_, rfl⟩
  obtain ⟨N1, hN1⟩ : ∃ N, (encM m).1.length = N := ⟨_, rfl⟩
  rw [hE1, hN1]
  rw [hN1] at HV1
  have HE1 := Lib.hid hE1
  have HN1 := Lib.hid hN1
  have hNl : N1 ≤ 65536 := by rw [← hN1]; exact enc_len5 m
  clear hE1 hN1
  by_cases q1 : E1 = 0
  rotate_left
  · as_aux_lemma =>
      have d1 : (E1 == 0) = false := by simp [q1]
      have d1' : (E1 != 0) = true := by simp [q1]
      clear q1 HV1
      go_wp2_with fail
      obtain ⟨DM, DF, DP, hD⟩ : ∃ xa xb xc, decM b = (xa, xb, xc) := ⟨_, _, _, rfl⟩
      have hdc := mod_Dec w6 _ (fun _ h => h) (.slice ia b.length ic) b HBY.out HI.out (HT.out.bel HB.out)
      rw [hD] at hdc
      simp only at hdc
      have HDC := Lib.hid hdc
      have hwf := dec_wf5 HBY.out
      rw [hD] at hwf
      have HWF := Lib.hid hwf
      have HD := Lib.hid hD
      clear hdc hD hwf
      refine HDC.out.mono ?_
      clear HDC
      rintro e wq ⟨xt0, xt1, xh0, xh1, xg0, xg1, xf0, xf1, xd0, xd1, xe0, xe1, rfl, hb, hmd⟩
      have hba := below_alloc wq (.cells #[.slice xt0 DM.types.length xt1, .slice xh0 DM.hosts.length xh1, .slice xg0 DM.globals.length xg1, .int .i64 DM.first, .int .i64 DM.most, .slice xf0 DM.funs.length xf1, .slice xd0 DM.datas.length xd1, .slice xe0 DM.exps.length xe1] 29)
      have HX := Lib.hid (MdB.new hmd.any5)
      have hb := below_next hb hba
      have HM := Lib.hid (HM.out.bel hb)
      have HI := Lib.hid (HI.out.bel5 hb)
      have HB : Hid (Below w.heap.size w (wq.alloc (.cells #[.slice xt0 DM.types.length xt1, .slice xh0 DM.hosts.length xh1, .slice xg0 DM.globals.length xg1, .int .i64 DM.first, .int .i64 DM.most, .slice xf0 DM.funs.length xf1, .slice xd0 DM.datas.length xd1, .slice xe0 DM.exps.length xe1] 29))) := Lib.hid (below_next HB.out hb)
      clear y0 y1 y2 y3 y4 y5 y6 y7
      have y0 := row_cell HM.out.row 0 rfl; have y1 := row_cell HM.out.row 1 rfl; have y2 := row_cell HM.out.row 2 rfl; have y3 := row_cell HM.out.row 3 rfl; have y4 := row_cell HM.out.row 4 rfl; have y5 := row_cell HM.out.row 5 rfl; have y6 := row_cell HM.out.row 6 rfl; have y7 := row_cell HM.out.row 7 rfl
      simp only [List.getElem_toArray, List.getElem_cons_zero, List.getElem_cons_succ] at y0 y1 y2 y3 y4 y5 y6 y7
      clear hb hba hmd
      by_cases q2 : DF = 0
      rotate_left
      · have d2 : (DF == 0) = false := by simp [q2]
        have d2' : (DF != 0) = true := by simp [q2]
        have hz : DM = modZ := by have := dec_none (b := b) (by rw [HD.out]; exact q2); rw [HD.out] at this; exact this
        have HZ : Hid (decide (DM = modZ) = true) := Lib.hid (decide_eq_true hz)
        clear q2 hz
        go_wp2_with fail
        generalize wq.alloc (.cells #[.slice xt0 DM.types.length xt1, .slice xh0 DM.hosts.length xh1, .slice xg0 DM.globals.length xg1, .int .i64 DM.first, .int .i64 DM.most, .slice xf0 DM.funs.length xf1, .slice xd0 DM.datas.length xd1, .slice xe0 DM.exps.length xe1] 29) = wr at *
        have z0 := row_cell HX.out.row 0 rfl; have z1 := row_cell HX.out.row 1 rfl; have z2 := row_cell HX.out.row 2 rfl; have z3 := row_cell HX.out.row 3 rfl; have z4 := row_cell HX.out.row 4 rfl; have z5 := row_cell HX.out.row 5 rfl; have z6 := row_cell HX.out.row 6 rfl; have z7 := row_cell HX.out.row 7 rfl
        simp only [List.getElem_toArray, List.getElem_cons_zero, List.getElem_cons_succ] at z0 z1 z2 z3 z4 z5 z6 z7
        go_wp2_with fail
        refine (eqMod5 wr _ _ [.slice xt0 DM.types.length xt1, .slice xh0 DM.hosts.length xh1, .slice xg0 DM.globals.length xg1, .int .i64 DM.first, .int .i64 DM.most, .slice xf0 DM.funs.length xf1, .slice xd0 DM.datas.length xd1, .slice xe0 DM.exps.length xe1] [.slice none 0 0, .slice none 0 0, .slice none 0 0, .int .i64 0, .int .i64 0, .slice none 0 0, .slice none 0 0, .slice none 0 0] DM modZ HX.out.rd (RMod.zero (fun _ => True) wr)).mono ?_
        rintro e ws ⟨rfl, hb⟩
        rw [HZ.out]
        have HB : Hid (Below w.heap.size w ws) := Lib.hid (below_next HB.out hb)
        clear hb y0 z0 y1 z1 y2 z2 y3 z3 y4 z4 y5 z5 y6 z6 y7 z7 HX HM HI
        go_wp2_with fail
        go_ret
        exact ⟨rfl, HB.out⟩
      subst q2
      have hfo := law_forth HBY.out (by rw [HD.out])
      rw [HD.out] at hfo
      have HFO := Lib.hid hfo.1
      clear hfo
      go_wp2_with fail
      generalize wq.alloc (.cells #[.slice xt0 DM.types.length xt1, .slice xh0 DM.hosts.length xh1, .slice xg0 DM.globals.length xg1, .int .i64 DM.first, .int .i64 DM.most, .slice xf0 DM.funs.length xf1, .slice xd0 DM.datas.length xd1, .slice xe0 DM.exps.length xe1] 29) = wr at *
      have z0 := row_cell HX.out.row 0 rfl; have z1 := row_cell HX.out.row 1 rfl; have z2 := row_cell HX.out.row 2 rfl; have z3 := row_cell HX.out.row 3 rfl; have z4 := row_cell HX.out.row 4 rfl; have z5 := row_cell HX.out.row 5 rfl; have z6 := row_cell HX.out.row 6 rfl; have z7 := row_cell HX.out.row 7 rfl
      simp only [List.getElem_toArray, List.getElem_cons_zero, List.getElem_cons_succ] at z0 z1 z2 z3 z4 z5 z6 z7
      go_wp2_with fail
      refine (mod_Encode wr _ (fun _ h => h) DM [.slice xt0 DM.types.length xt1, .slice xh0 DM.hosts.length xh1, .slice xg0 DM.globals.length xg1, .int .i64 DM.first, .int .i64 DM.most, .slice xf0 DM.funs.length xf1, .slice xd0 DM.datas.length xd1, .slice xe0 DM.exps.length xe1] HX.out.rd (parts_sm HWF.out.2) HWF.out.1 (HT.out.bel HB.out)).mono ?_
      rintro e ws ⟨u7, rfl, hb, ho7, -⟩
      rw [HFO.out] at ho7 ⊢
      have hbl : b.length ≤ 140737488355328 := by obtain ⟨_, _, _, _, h, _⟩ := HI.out; exact h
      have HV7 := Lib.hid ((RdI.of_own ho7 hbl).mono (T := (· < ws.heap.size)) fun _ h _ => h)
      have HX := Lib.hid (HX.out.bel hb)
      clear z0 z1 z2 z3 z4 z5 z6 z7
      have z0 := row_cell HX.out.row 0 rfl; have z1 := row_cell HX.out.row 1 rfl; have z2 := row_cell HX.out.row 2 rfl; have z3 := row_cell HX.out.row 3 rfl; have z4 := row_cell HX.out.row 4 rfl; have z5 := row_cell HX.out.row 5 rfl; have z6 := row_cell HX.out.row 6 rfl; have z7 := row_cell HX.out.row 7 rfl
      simp only [List.getElem_toArray, List.getElem_cons_zero, List.getElem_cons_succ] at z0 z1 z2 z3 z4 z5 z6 z7
      have HM := Lib.hid (HM.out.bel hb)
      have HI := Lib.hid (HI.out.bel5 hb)
      have HB : Hid (Below w.heap.size w ws) := Lib.hid (below_next HB.out hb)
      clear y0 y1 y2 y3 y4 y5 y6 y7
      have y0 := row_cell HM.out.row 0 rfl; have y1 := row_cell HM.out.row 1 rfl; have y2 := row_cell HM.out.row 2 rfl; have y3 := row_cell HM.out.row 3 rfl; have y4 := row_cell HM.out.row 4 rfl; have y5 := row_cell HM.out.row 5 rfl; have y6 := row_cell HM.out.row 6 rfl; have y7 := row_cell HM.out.row 7 rfl
      simp only [List.getElem_toArray, List.getElem_cons_zero, List.getElem_cons_succ] at y0 y1 y2 y3 y4 y5 y6 y7
      clear hb ho7
      go_wp2_with fail
      refine (mod_Check ws _ (fun _ h => h) DM [.slice xt0 DM.types.length xt1, .slice xh0 DM.hosts.length xh1, .slice xg0 DM.globals.length xg1, .int .i64 DM.first, .int .i64 DM.most, .slice xf0 DM.funs.length xf1, .slice xd0 DM.datas.length xd1, .slice xe0 DM.exps.length xe1] HX.out.rd (parts_sm HWF.out.2) HWF.out.1 (HT.out.bel HB.out)).mono ?_
      rintro e wt ⟨rfl, hb⟩
      rw [HFO.out]
      have HV7 := Lib.hid (HV7.out.bel5 hb)
      have HI := Lib.hid (HI.out.bel5 hb)
      have HB : Hid (Below w.heap.size w wt) := Lib.hid (below_next HB.out hb)
      clear hb y0 z0 y1 z1 y2 z2 y3 z3 y4 z4 y5 z5 y6 z6 y7 z7 HX HM
      go_wp2_with fail
      refine (eqBytes wt _ _ _ _ b b HV7.out HI.out).mono ?_
      rintro e wu ⟨rfl, nn, hw⟩
      have hb : Below wt.heap.size wt wu := by rw [hw]; exact drewN_below _ _
      have HB : Hid (Below w.heap.size w wu) := Lib.hid (below_next HB.out hb)
      rw [show decide (b = b) = true from decide_eq_true rfl]
      clear hb hw HI HV7
      go_wp2_with fail
      go_ret
      exact ⟨rfl, HB.out⟩
  subst q1
  as_aux_lemma =>
    have hlb := law_back henc5 WM.out.1 HE1.out
    have hbe : Bytes (encM m).1 := by obtain ⟨e1, p1, l1⟩ := enc_good HE1.out; rw [e1]; exact bytes_laid henc5 WM.out.1 p1
    have hdc := mod_Dec w6 _ (fun _ h => h) _ (encM m).1 hbe HV1.out (HT.out.bel HB.out)
    rw [hlb.1] at hdc
    simp only at hdc
    have HDC := Lib.hid hdc
    clear hdc hlb hbe
    go_wp2_with fail
    refine HDC.out.mono ?_
    clear HDC HV1
    rintro e w7 ⟨tt0, tt1, th0, th1, tg0, tg1, tf0, tf1, td0, td1, te0, te1, rfl, hb, hmd⟩
    have hba := below_alloc w7 (.cells #[.slice tt0 m.types.length tt1, .slice th0 m.hosts.length th1, .slice tg0 m.globals.length tg1, .int .i64 m.first, .int .i64 m.most, .slice tf0 m.funs.length tf1, .slice td0 m.datas.length td1, .slice te0 m.exps.length te1] 29)
    have HX := Lib.hid (MdB.new hmd.any5)
    have hb := below_next hb hba
    have HM := Lib.hid (HM.out.bel hb)
    have HI := Lib.hid (HI.out.bel5 hb)
    have HB : Hid (Below w.heap.size w (w7.alloc (.cells #[.slice tt0 m.types.length tt1, .slice th0 m.hosts.length th1, .slice tg0 m.globals.length tg1, .int .i64 m.first, .int .i64 m.most, .slice tf0 m.funs.length tf1, .slice td0 m.datas.length td1, .slice te0 m.exps.length te1] 29))) := Lib.hid (below_next HB.out hb)
    clear y0 y1 y2 y3 y4 y5 y6 y7
    have y0 := row_cell HM.out.row 0 rfl; have y1 := row_cell HM.out.row 1 rfl; have y2 := row_cell HM.out.row 2 rfl; have y3 := row_cell HM.out.row 3 rfl; have y4 := row_cell HM.out.row 4 rfl; have y5 := row_cell HM.out.row 5 rfl; have y6 := row_cell HM.out.row 6 rfl; have y7 := row_cell HM.out.row 7 rfl
    simp only [List.getElem_toArray, List.getElem_cons_zero, List.getElem_cons_succ] at y0 y1 y2 y3 y4 y5 y6 y7
    clear hb hba hmd
    have hnl : decide (65536 < (N1 : Int)) = false := decide_eq_false (by omega)
    go_wp2_with fail
    generalize w7.alloc (.cells #[.slice tt0 m.types.length tt1, .slice th0 m.hosts.length th1, .slice tg0 m.globals.length tg1, .int .i64 m.first, .int .i64 m.most, .slice tf0 m.funs.length tf1, .slice td0 m.datas.length td1, .slice te0 m.exps.length te1] 29) = wy at *
    refine (eqMod5 wy _ _ [.slice tt0 m.types.length tt1, .slice th0 m.hosts.length th1, .slice tg0 m.globals.length tg1, .int .i64 m.first, .int .i64 m.most, .slice tf0 m.funs.length tf1, .slice td0 m.datas.length td1, .slice te0 m.exps.length te1] [.slice at0 m.types.length at1, .slice ah0 m.hosts.length ah1, .slice ag0 m.globals.length ag1, .int .i64 m.first, .int .i64 m.most, .slice af0 m.funs.length af1, .slice ad0 m.datas.length ad1, .slice ae0 m.exps.length ae1] m m HX.out.rd HM.out.rd).mono ?_
    rintro e w9 ⟨rfl, hb⟩
    rw [show decide (m = m) = true from decide_eq_true rfl]
    have HM := Lib.hid (HM.out.bel hb)
    have HI := Lib.hid (HI.out.bel5 hb)
    have HB : Hid (Below w.heap.size w w9) := Lib.hid (below_next HB.out hb)
    clear y0 y1 y2 y3 y4 y5 y6 y7
    have y0 := row_cell HM.out.row 0 rfl; have y1 := row_cell HM.out.row 1 rfl; have y2 := row_cell HM.out.row 2 rfl; have y3 := row_cell HM.out.row 3 rfl; have y4 := row_cell HM.out.row 4 rfl; have y5 := row_cell HM.out.row 5 rfl; have y6 := row_cell HM.out.row 6 rfl; have y7 := row_cell HM.out.row 7 rfl
    simp only [List.getElem_toArray, List.getElem_cons_zero, List.getElem_cons_succ] at y0 y1 y2 y3 y4 y5 y6 y7
    clear hb HX
    go_wp2_with fail
    obtain ⟨DM, DF, DP, hD⟩ : ∃ xa xb xc, decM b = (xa, xb, xc) := ⟨_, _, _, rfl⟩
    have hdc := mod_Dec w9 _ (fun _ h => h) (.slice ia b.length ic) b HBY.out HI.out (HT.out.bel HB.out)
    rw [hD] at hdc
    simp only at hdc
    have HDC := Lib.hid hdc
    have hwf := dec_wf5 HBY.out
    rw [hD] at hwf
    have HWF := Lib.hid hwf
    have HD := Lib.hid hD
    clear hdc hD hwf
    refine HDC.out.mono ?_
    clear HDC
    rintro e wq ⟨xt0, xt1, xh0, xh1, xg0, xg1, xf0, xf1, xd0, xd1, xe0, xe1, rfl, hb, hmd⟩
    have hba := below_alloc wq (.cells #[.slice xt0 DM.types.length xt1, .slice xh0 DM.hosts.length xh1, .slice xg0 DM.globals.length xg1, .int .i64 DM.first, .int .i64 DM.most, .slice xf0 DM.funs.length xf1, .slice xd0 DM.datas.length xd1, .slice xe0 DM.exps.length xe1] 29)
    have HX := Lib.hid (MdB.new hmd.any5)
    have hb := below_next hb hba
    have HM := Lib.hid (HM.out.bel hb)
    have HI := Lib.hid (HI.out.bel5 hb)
    have HB : Hid (Below w.heap.size w (wq.alloc (.cells #[.slice xt0 DM.types.length xt1, .slice xh0 DM.hosts.length xh1, .slice xg0 DM.globals.length xg1, .int .i64 DM.first, .int .i64 DM.most, .slice xf0 DM.funs.length xf1, .slice xd0 DM.datas.length xd1, .slice xe0 DM.exps.length xe1] 29))) := Lib.hid (below_next HB.out hb)
    clear y0 y1 y2 y3 y4 y5 y6 y7
    have y0 := row_cell HM.out.row 0 rfl; have y1 := row_cell HM.out.row 1 rfl; have y2 := row_cell HM.out.row 2 rfl; have y3 := row_cell HM.out.row 3 rfl; have y4 := row_cell HM.out.row 4 rfl; have y5 := row_cell HM.out.row 5 rfl; have y6 := row_cell HM.out.row 6 rfl; have y7 := row_cell HM.out.row 7 rfl
    simp only [List.getElem_toArray, List.getElem_cons_zero, List.getElem_cons_succ] at y0 y1 y2 y3 y4 y5 y6 y7
    clear hb hba hmd
    by_cases q2 : DF = 0
    rotate_left
    · have d2 : (DF == 0) = false := by simp [q2]
      have d2' : (DF != 0) = true := by simp [q2]
      have hz : DM = modZ := by have := dec_none (b := b) (by rw [HD.out]; exact q2); rw [HD.out] at this; exact this
      have HZ : Hid (decide (DM = modZ) = true) := Lib.hid (decide_eq_true hz)
      clear q2 hz
      go_wp2_with fail
      generalize wq.alloc (.cells #[.slice xt0 DM.types.length xt1, .slice xh0 DM.hosts.length xh1, .slice xg0 DM.globals.length xg1, .int .i64 DM.first, .int .i64 DM.most, .slice xf0 DM.funs.length xf1, .slice xd0 DM.datas.length xd1, .slice xe0 DM.exps.length xe1] 29) = wr at *
      have z0 := row_cell HX.out.row 0 rfl; have z1 := row_cell HX.out.row 1 rfl; have z2 := row_cell HX.out.row 2 rfl; have z3 := row_cell HX.out.row 3 rfl; have z4 := row_cell HX.out.row 4 rfl; have z5 := row_cell HX.out.row 5 rfl; have z6 := row_cell HX.out.row 6 rfl; have z7 := row_cell HX.out.row 7 rfl
      simp only [List.getElem_toArray, List.getElem_cons_zero, List.getElem_cons_succ] at z0 z1 z2 z3 z4 z5 z6 z7
      go_wp2_with fail
      refine (eqMod5 wr _ _ [.slice xt0 DM.types.length xt1, .slice xh0 DM.hosts.length xh1, .slice xg0 DM.globals.length xg1, .int .i64 DM.first, .int .i64 DM.most, .slice xf0 DM.funs.length xf1, .slice xd0 DM.datas.length xd1, .slice xe0 DM.exps.length xe1] [.slice none 0 0, .slice none 0 0, .slice none 0 0, .int .i64 0, .int .i64 0, .slice none 0 0, .slice none 0 0, .slice none 0 0] DM modZ HX.out.rd (RMod.zero (fun _ => True) wr)).mono ?_
      rintro e ws ⟨rfl, hb⟩
      rw [HZ.out]
      have HB : Hid (Below w.heap.size w ws) := Lib.hid (below_next HB.out hb)
      clear hb y0 z0 y1 z1 y2 z2 y3 z3 y4 z4 y5 z5 y6 z6 y7 z7 HX HM HI
      go_wp2_with fail
      go_ret
      exact ⟨rfl, HB.out⟩
    subst q2
    have hfo := law_forth HBY.out (by rw [HD.out])
    rw [HD.out] at hfo
    have HFO := Lib.hid hfo.1
    clear hfo
    go_wp2_with fail
    generalize wq.alloc (.cells #[.slice xt0 DM.types.length xt1, .slice xh0 DM.hosts.length xh1, .slice xg0 DM.globals.length xg1, .int .i64 DM.first, .int .i64 DM.most, .slice xf0 DM.funs.length xf1, .slice xd0 DM.datas.length xd1, .slice xe0 DM.exps.length xe1] 29) = wr at *
    have z0 := row_cell HX.out.row 0 rfl; have z1 := row_cell HX.out.row 1 rfl; have z2 := row_cell HX.out.row 2 rfl; have z3 := row_cell HX.out.row 3 rfl; have z4 := row_cell HX.out.row 4 rfl; have z5 := row_cell HX.out.row 5 rfl; have z6 := row_cell HX.out.row 6 rfl; have z7 := row_cell HX.out.row 7 rfl
    simp only [List.getElem_toArray, List.getElem_cons_zero, List.getElem_cons_succ] at z0 z1 z2 z3 z4 z5 z6 z7
    go_wp2_with fail
    refine (mod_Encode wr _ (fun _ h => h) DM [.slice xt0 DM.types.length xt1, .slice xh0 DM.hosts.length xh1, .slice xg0 DM.globals.length xg1, .int .i64 DM.first, .int .i64 DM.most, .slice xf0 DM.funs.length xf1, .slice xd0 DM.datas.length xd1, .slice xe0 DM.exps.length xe1] HX.out.rd (parts_sm HWF.out.2) HWF.out.1 (HT.out.bel HB.out)).mono ?_
    rintro e ws ⟨u7, rfl, hb, ho7, -⟩
    rw [HFO.out] at ho7 ⊢
    have hbl : b.length ≤ 140737488355328 := by obtain ⟨_, _, _, _, h, _⟩ := HI.out; exact h
    have HV7 := Lib.hid ((RdI.of_own ho7 hbl).mono (T := (· < ws.heap.size)) fun _ h _ => h)
    have HX := Lib.hid (HX.out.bel hb)
    clear z0 z1 z2 z3 z4 z5 z6 z7
    have z0 := row_cell HX.out.row 0 rfl; have z1 := row_cell HX.out.row 1 rfl; have z2 := row_cell HX.out.row 2 rfl; have z3 := row_cell HX.out.row 3 rfl; have z4 := row_cell HX.out.row 4 rfl; have z5 := row_cell HX.out.row 5 rfl; have z6 := row_cell HX.out.row 6 rfl; have z7 := row_cell HX.out.row 7 rfl
    simp only [List.getElem_toArray, List.getElem_cons_zero, List.getElem_cons_succ] at z0 z1 z2 z3 z4 z5 z6 z7
    have HM := Lib.hid (HM.out.bel hb)
    have HI := Lib.hid (HI.out.bel5 hb)
    have HB : Hid (Below w.heap.size w ws) := Lib.hid (below_next HB.out hb)
    clear y0 y1 y2 y3 y4 y5 y6 y7
    have y0 := row_cell HM.out.row 0 rfl; have y1 := row_cell HM.out.row 1 rfl; have y2 := row_cell HM.out.row 2 rfl; have y3 := row_cell HM.out.row 3 rfl; have y4 := row_cell HM.out.row 4 rfl; have y5 := row_cell HM.out.row 5 rfl; have y6 := row_cell HM.out.row 6 rfl; have y7 := row_cell HM.out.row 7 rfl
    simp only [List.getElem_toArray, List.getElem_cons_zero, List.getElem_cons_succ] at y0 y1 y2 y3 y4 y5 y6 y7
    clear hb ho7
    go_wp2_with fail
    refine (mod_Check ws _ (fun _ h => h) DM [.slice xt0 DM.types.length xt1, .slice xh0 DM.hosts.length xh1, .slice xg0 DM.globals.length xg1, .int .i64 DM.first, .int .i64 DM.most, .slice xf0 DM.funs.length xf1, .slice xd0 DM.datas.length xd1, .slice xe0 DM.exps.length xe1] HX.out.rd (parts_sm HWF.out.2) HWF.out.1 (HT.out.bel HB.out)).mono ?_
    rintro e wt ⟨rfl, hb⟩
    rw [HFO.out]
    have HV7 := Lib.hid (HV7.out.bel5 hb)
    have HI := Lib.hid (HI.out.bel5 hb)
    have HB : Hid (Below w.heap.size w wt) := Lib.hid (below_next HB.out hb)
    clear hb y0 z0 y1 z1 y2 z2 y3 z3 y4 z4 y5 z5 y6 z6 y7 z7 HX HM
    go_wp2_with fail
    refine (eqBytes wt _ _ _ _ b b HV7.out HI.out).mono ?_
    rintro e wu ⟨rfl, nn, hw⟩
    have hb : Below wt.heap.size wt wu := by rw [hw]; exact drewN_below _ _
    have HB : Hid (Below w.heap.size w wu) := Lib.hid (below_next HB.out hb)
    rw [show decide (b = b) = true from decide_eq_true rfl]
    clear hb hw HI HV7
    go_wp2_with fail
    go_ret
    exact ⟨rfl, HB.out⟩
end Go.Proofs.YteaolgldkfjdkaaDoor
