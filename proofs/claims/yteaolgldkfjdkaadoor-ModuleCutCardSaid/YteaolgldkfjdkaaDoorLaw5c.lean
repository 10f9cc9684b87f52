/- flagonlaw05.ModuleCut. -/
import Derived.Test.YteaolgldkfjdkaaDoorLaw50
import Derived.Maps.AppendAt
namespace Go.Proofs.YteaolgldkfjdkaaDoor
open Go Go.RowKit

set_option maxRecDepth 100000 in
set_option maxHeartbeats 6400000 in
theorem law_cut5 (w : World) (cs : List Value) (m : ModD) (N : Int) (c : Nat) (h1 : RMod (· < w.heap.size) w cs m) (wm : WfM m ∧ SmM m) (hc : c ≤ 255) (ht : Tb w) :
    Calls Tryd.prog 4 #[.agg cs.toArray, .int .i64 N, .int .u8 c] w fun e w' => e = .returned (.bool true) ∧ Below w.heap.size w w' := by
  obtain ⟨i0, hi, hz0, hz1, hz2⟩ := info_parts Tryd.infoU8
  have HT := Lib.hid ht; have WM := Lib.hid wm
  clear ht wm
  obtain ⟨v1, v2, v3, v4, v5, v6, rfl, r1, r2, r3, r4, r5, r6⟩ := h1
  obtain ⟨at0, at1, rfl, -⟩ := r1.len
  obtain ⟨ah0, ah1, rfl, -⟩ := r2.len
  obtain ⟨ag0, ag1, rfl, -⟩ := r3.len
  obtain ⟨af0, af1, rfl, -⟩ := r4.len
  obtain ⟨ad0, ad1, rfl, -⟩ := r5.len
  obtain ⟨ae0, ae1, rfl, -⟩ := r6.len
  have h1 : RMod (· < w.heap.size) w [.slice at0 m.types.length at1, .slice ah0 m.hosts.length ah1, .slice ag0 m.globals.length ag1, .int .i64 m.first, .int .i64 m.most, .slice af0 m.funs.length af1, .slice ad0 m.datas.length ad1, .slice ae0 m.exps.length ae1] m := ⟨_, _, _, _, _, _, rfl, r1, r2, r3, r4, r5, r6⟩
  clear r1 r2 r3 r4 r5 r6
  have HM := Lib.hid (MdB.new h1)
  have HB := Lib.hid (below_alloc w (.cells #[.slice at0 m.types.length at1, .slice ah0 m.hosts.length ah1, .slice ag0 m.globals.length ag1, .int .i64 m.first, .int .i64 m.most, .slice af0 m.funs.length af1, .slice ad0 m.datas.length ad1, .slice ae0 m.exps.length ae1] 29))
  clear h1
  go_enter Tryd.func4, Tryd.ntmps4
  go_wp2_with fail
  generalize w.alloc (.cells #[.slice at0 m.types.length at1, .slice ah0 m.hosts.length ah1, .slice ag0 m.globals.length ag1, .int .i64 m.first, .int .i64 m.most, .slice af0 m.funs.length af1, .slice ad0 m.datas.length ad1, .slice ae0 m.exps.length ae1] 29) = w3 at *
  refine (law_works5 w3 (HT.out.bel HB.out)).mono ?_
  rintro e w4 ⟨rfl, hb⟩
  have HM := Lib.hid (HM.out.bel hb)
  have HB : Hid (Below w.heap.size w w4) := Lib.hid (below_next HB.out hb)
  clear hb
  have y0 := row_cell HM.out.row 0 rfl; have y1 := row_cell HM.out.row 1 rfl; have y2 := row_cell HM.out.row 2 rfl; have y3 := row_cell HM.out.row 3 rfl; have y4 := row_cell HM.out.row 4 rfl; have y5 := row_cell HM.out.row 5 rfl; have y6 := row_cell HM.out.row 6 rfl; have y7 := row_cell HM.out.row 7 rfl
  simp only [List.getElem_toArray, List.getElem_cons_zero, List.getElem_cons_succ] at y0 y1 y2 y3 y4 y5 y6 y7
  go_wp2_with fail
  refine (sizeMod5 w4 _ [.slice at0 m.types.length at1, .slice ah0 m.hosts.length ah1, .slice ag0 m.globals.length ag1, .int .i64 m.first, .int .i64 m.most, .slice af0 m.funs.length af1, .slice ad0 m.datas.length ad1, .slice ae0 m.exps.length ae1] m HM.out.rd).mono ?_
  rintro e w5 ⟨sz, rfl, hb⟩
  have HM := Lib.hid (HM.out.bel hb)
  have HB : Hid (Below w.heap.size w w5) := Lib.hid (below_next HB.out hb)
  clear y0 y1 y2 y3 y4 y5 y6 y7
  have y0 := row_cell HM.out.row 0 rfl; have y1 := row_cell HM.out.row 1 rfl; have y2 := row_cell HM.out.row 2 rfl; have y3 := row_cell HM.out.row 3 rfl; have y4 := row_cell HM.out.row 4 rfl; have y5 := row_cell HM.out.row 5 rfl; have y6 := row_cell HM.out.row 6 rfl; have y7 := row_cell HM.out.row 7 rfl
  simp only [List.getElem_toArray, List.getElem_cons_zero, List.getElem_cons_succ] at y0 y1 y2 y3 y4 y5 y6 y7
  clear hb
  by_cases hbig : 262144 < sz
  · have hd : decide (262144 < sz) = true := decide_eq_true hbig
    go_wp2_with fail
    go_ret
    exact ⟨rfl, HB.out⟩
  have hd : decide (262144 < sz) = false := decide_eq_false hbig
  clear hbig
  go_wp2_with fail
  refine (mod_Encode w5 _ (fun _ h => h) m [.slice at0 m.types.length at1, .slice ah0 m.hosts.length ah1, .slice ag0 m.globals.length ag1, .int .i64 m.first, .int .i64 m.most, .slice af0 m.funs.length af1, .slice ad0 m.datas.length ad1, .slice ae0 m.exps.length ae1] HM.out.rd WM.out.2 WM.out.1 (HT.out.bel HB.out)).mono ?_
  rintro e w6 ⟨u1, rfl, hb, ho1, hz1⟩
  obtain ⟨ua, uc, rfl, -⟩ := own_slice ho1
  have HV1 := Lib.hid (enc_rd5 ho1)
  have HM := Lib.hid (HM.out.bel hb)
  have HB : Hid (Below w.heap.size w w6) := Lib.hid (below_next HB.out hb)
  clear y0 y1 y2 y3 y4 y5 y6 y7
  have y0 := row_cell HM.out.row 0 rfl; have y1 := row_cell HM.out.row 1 rfl; have y2 := row_cell HM.out.row 2 rfl; have y3 := row_cell HM.out.row 3 rfl; have y4 := row_cell HM.out.row 4 rfl; have y5 := row_cell HM.out.row 5 rfl; have y6 := row_cell HM.out.row 6 rfl; have y7 := row_cell HM.out.row 7 rfl
  simp only [List.getElem_toArray, List.getElem_cons_zero, List.getElem_cons_succ] at y0 y1 y2 y3 y4 y5 y6 y7
  clear hb ho1 hz1 hd
  obtain ⟨E1, hE1⟩ : ∃ E, (encM m).2 = E := ⟨_, rfl⟩
  obtain ⟨N1, hN1⟩ : ∃ N, (encM m).1.length = N := ⟨_, rfl⟩
  rw [hE1, hN1]
  rw [hN1] at HV1
  have HE1 := Lib.hid hE1
  have HN1 := Lib.hid hN1
  have hNl : N1 ≤ 65536 := by rw [← hN1]; exact enc_len5 m
  clear hE1 hN1
  by_cases q1 : E1 = 0
  rotate_left
  · have d1 : (E1 == 0) = false := by simp [q1]
    have d1' : (E1 != 0) = true := by simp [q1]
    clear q1
    go_wp2_with fail
    go_ret
    exact ⟨rfl, HB.out⟩
  subst q1
  have hN5 : 5 ≤ N1 := by rw [← HN1.out, (enc_good HE1.out).1]; exact laid_pos m
  have HBY : Hid (Bytes (encM m).1) := Lib.hid (by obtain ⟨e1, p1, l1⟩ := enc_good HE1.out; rw [e1]; exact bytes_laid henc5 WM.out.1 p1)
  have d0 : ((N1 : Int) == 0) = false := by simp; omega
  have hcap : N1 ≤ uc := by obtain ⟨_, _, e, h, _⟩ := HV1.out; simp only [Value.slice.injEq] at e; obtain ⟨_, _, rfl⟩ := e; rw [← HN1.out]; exact h
  by_cases hneg : N < 0
  · as_aux_lemma =>
      have dn : decide (N < 0) = true := decide_eq_true hneg
      clear hneg
      obtain ⟨K, hKe⟩ : ∃ K, N1 - 1 = K := ⟨_, rfl⟩
      have hsub : (N1 : Int) - 1 = (K : Int) := by omega
      have hwr : IntKind.i64.wrap (K : Int) = K := IntWalk.i64_in _ ⟨by omega, by omega⟩
      have hK : K < N1 := by omega
      have HTK := Lib.hid (HV1.out.take K (by rw [HN1.out]; omega))
      have HKL : Hid (((encM m).1.take K).length = K) := Lib.hid (by rw [List.length_take, HN1.out]; omega)
      have hk0 : (0 : Int) ≤ K := by omega
      have hkc : (K : Int) ≤ uc := by omega
      go_wp2_with fail
      refine (copyBytes w6 _ _ ((encM m).1.take K) HTK.out).mono ?_
      rintro e w8 ⟨u8, rfl, ho8, hb⟩
      have HV8 := Lib.hid ((RdI.of_own ho8 (by rw [HKL.out]; omega)).mono (T := (· < w8.heap.size)) fun _ h _ => h)
      have HV1 := Lib.hid (HV1.out.bel5 hb)
      have HM := Lib.hid (HM.out.bel hb)
      have HB : Hid (Below w.heap.size w w8) := Lib.hid (below_next HB.out hb)
      clear y0 y1 y2 y3 y4 y5 y6 y7
      have y0 := row_cell HM.out.row 0 rfl; have y1 := row_cell HM.out.row 1 rfl; have y2 := row_cell HM.out.row 2 rfl; have y3 := row_cell HM.out.row 3 rfl; have y4 := row_cell HM.out.row 4 rfl; have y5 := row_cell HM.out.row 5 rfl; have y6 := row_cell HM.out.row 6 rfl; have y7 := row_cell HM.out.row 7 rfl
      simp only [List.getElem_toArray, List.getElem_cons_zero, List.getElem_cons_succ] at y0 y1 y2 y3 y4 y5 y6 y7
      clear hb ho8
      go_wp2_with fail
      obtain ⟨DM9, DF9, DP9, hD9⟩ : ∃ xa xb xc, decM ((encM m).1.take K) = (xa, xb, xc) := ⟨_, _, _, rfl⟩
      have hdc := mod_Dec w8 _ (fun _ h => h) u8 ((encM m).1.take K) (fun x hx => HBY.out x (List.mem_of_mem_take hx)) HV8.out (HT.out.bel HB.out)
      rw [hD9] at hdc
      simp only at hdc
      have HDC := Lib.hid hdc
      have HD9 := Lib.hid hD9
      clear hdc hD9
      refine HDC.out.mono ?_
      clear HDC
      rintro e w9 ⟨xt0, xt1, xh0, xh1, xg0, xg1, xf0, xf1, xd0, xd1, xe0, xe1, rfl, hb, hmd9⟩
      have hba := below_alloc w9 (.cells #[.slice xt0 DM9.types.length xt1, .slice xh0 DM9.hosts.length xh1, .slice xg0 DM9.globals.length xg1, .int .i64 DM9.first, .int .i64 DM9.most, .slice xf0 DM9.funs.length xf1, .slice xd0 DM9.datas.length xd1, .slice xe0 DM9.exps.length xe1] 29)
      have HMD9 := Lib.hid (MdB.new hmd9.any5)
      have hb := below_next hb hba
      have HM := Lib.hid (HM.out.bel hb)
      have HV1 := Lib.hid (HV1.out.bel5 hb)
      have HB : Hid (Below w.heap.size w (w9.alloc (.cells #[.slice xt0 DM9.types.length xt1, .slice xh0 DM9.hosts.length xh1, .slice xg0 DM9.globals.length xg1, .int .i64 DM9.first, .int .i64 DM9.most, .slice xf0 DM9.funs.length xf1, .slice xd0 DM9.datas.length xd1, .slice xe0 DM9.exps.length xe1] 29))) := Lib.hid (below_next HB.out hb)
      clear hb hba hmd9
      clear y0 y1 y2 y3 y4 y5 y6 y7
      go_wp2_with fail
      generalize w9.alloc (.cells #[.slice xt0 DM9.types.length xt1, .slice xh0 DM9.hosts.length xh1, .slice xg0 DM9.globals.length xg1, .int .i64 DM9.first, .int .i64 DM9.most, .slice xf0 DM9.funs.length xf1, .slice xd0 DM9.datas.length xd1, .slice xe0 DM9.exps.length xe1] 29) = w10 at *
      have y0 := row_cell HM.out.row 0 rfl; have y1 := row_cell HM.out.row 1 rfl; have y2 := row_cell HM.out.row 2 rfl; have y3 := row_cell HM.out.row 3 rfl; have y4 := row_cell HM.out.row 4 rfl; have y5 := row_cell HM.out.row 5 rfl; have y6 := row_cell HM.out.row 6 rfl; have y7 := row_cell HM.out.row 7 rfl
      simp only [List.getElem_toArray, List.getElem_cons_zero, List.getElem_cons_succ] at y0 y1 y2 y3 y4 y5 y6 y7
      have hf : DF9 ≠ 0 := by have := law_cut henc5 WM.out.1 HE1.out (n := K) (by rw [HN1.out]; exact hK); rw [HD9.out] at this; exact this
      have hf1 : (DF9 != 0) = true := by simp [hf]
      clear HV8 HTK HKL hf
      refine (copyBytes w10 _ _ (encM m).1 HV1.out).mono ?_
      rintro e w11 ⟨u11, rfl, ho11, hb⟩
      have HO11 : Hid (w11.ownsRow w10.heap.size 5 1 u11 N1 ((encM m).1.map (Value.int .u8))) := Lib.hid (by rw [← HN1.out]; exact ho11)
      have HB11 := Lib.hid hb
      have hsz := hb.size
      clear hb ho11 HV1
      have HOA := Lib.hid (HO11.out.alloc (.cells #[.int .u8 c] 5))
      go_wp2_with (at_builtin; refine wpList_append_own_at _ rfl _ _ 30 rfl w10.heap.size 5 i0 (.int .u8 0) 1 1 Tryd.underlying30 hi hz0 hz1 hz2 rfl (by decide) _ _ _ rfl HOA.out ⟨w11.heap.size, 0, none⟩ 1 1 [.int .u8 c] rfl rfl (cell_one_new _ _ _) (by simp [Value.oneCell']) (by unfold maxLen; omega) (by omega) (by rw [World.size_alloc]; omega) ?_)
      intro u12 w12 hown12 hgrow12 _ _
      have hb : Below w10.heap.size w10 w12 := (HB11.out.alloc hsz _).grown hgrow12 (by rw [World.size_alloc]; omega) fun k hk => (HOA.out.lt k hk).1
      have hmp : (encM m).1.map (Value.int .u8) ++ [.int .u8 (c : Int)] = ((encM m).1 ++ [(c : Int)]).map (Value.int .u8) := by simp
      have hln : N1 + 1 = ((encM m).1 ++ [(c : Int)]).length := by rw [List.length_append, HN1.out]; rfl
      rw [hmp, hln] at hown12
      have HV12 := Lib.hid ((RdI.of_own hown12 (by rw [← hln]; omega)).mono (T := (· < w12.heap.size)) fun _ h _ => h)
      have HM := Lib.hid (HM.out.bel hb)
      have HB : Hid (Below w.heap.size w w12) := Lib.hid (below_next HB.out hb)
      clear y0 y1 y2 y3 y4 y5 y6 y7
      have y0 := row_cell HM.out.row 0 rfl; have y1 := row_cell HM.out.row 1 rfl; have y2 := row_cell HM.out.row 2 rfl; have y3 := row_cell HM.out.row 3 rfl; have y4 := row_cell HM.out.row 4 rfl; have y5 := row_cell HM.out.row 5 rfl; have y6 := row_cell HM.out.row 6 rfl; have y7 := row_cell HM.out.row 7 rfl
      simp only [List.getElem_toArray, List.getElem_cons_zero, List.getElem_cons_succ] at y0 y1 y2 y3 y4 y5 y6 y7
      clear hb hown12 hgrow12 hmp hln HOA HO11 HB11 hsz
      go_wp2_with fail
      by_cases hlong : N1 = 65536
      · have HLG := Lib.hid hlong
        have hl1 : ((N1 : Int) == 65536) = true := by simp; omega
        clear hlong
        obtain ⟨DM13, DF13, DP13, hD13⟩ : ∃ xa xb xc, decM ((encM m).1 ++ [(c : Int)]) = (xa, xb, xc) := ⟨_, _, _, rfl⟩
        have hdc := mod_Dec w12 _ (fun _ h => h) u12 ((encM m).1 ++ [(c : Int)]) (bytes_app_iff.2 ⟨HBY.out, fun x hx => by obtain rfl := List.mem_singleton.1 hx; exact ⟨by omega, by omega⟩⟩) HV12.out (HT.out.bel HB.out)
        rw [hD13] at hdc
        simp only at hdc
        have HDC := Lib.hid hdc
        have HD13 := Lib.hid hD13
        clear hdc hD13
        have hmore := HD13.out.symm.trans (law_more henc5 WM.out.1 HE1.out (c := (c : Int)) ⟨by omega, by omega⟩)
        rw [HN1.out, if_pos HLG.out] at hmore
        simp only [Prod.mk.injEq] at hmore
        obtain ⟨-, rfl, rfl⟩ := hmore
        clear HD13
        refine HDC.out.mono ?_
        clear HDC
        rintro e w13 ⟨tt0, tt1, th0, th1, tg0, tg1, tf0, tf1, td0, td1, te0, te1, rfl, hb, hmd13⟩
        have hba := below_alloc w13 (.cells #[.slice tt0 DM13.types.length tt1, .slice th0 DM13.hosts.length th1, .slice tg0 DM13.globals.length tg1, .int .i64 DM13.first, .int .i64 DM13.most, .slice tf0 DM13.funs.length tf1, .slice td0 DM13.datas.length td1, .slice te0 DM13.exps.length te1] 29)
        have HMD13 := Lib.hid (MdB.new hmd13.any5)
        have hb := below_next hb hba
        have HM := Lib.hid (HM.out.bel hb)
        have HB : Hid (Below w.heap.size w (w13.alloc (.cells #[.slice tt0 DM13.types.length tt1, .slice th0 DM13.hosts.length th1, .slice tg0 DM13.globals.length tg1, .int .i64 DM13.first, .int .i64 DM13.most, .slice tf0 DM13.funs.length tf1, .slice td0 DM13.datas.length td1, .slice te0 DM13.exps.length te1] 29))) := Lib.hid (below_next HB.out hb)
        clear hb hba hmd13
        clear y0 y1 y2 y3 y4 y5 y6 y7
        go_wp2_with fail
        go_ret
        exact ⟨rfl, HB.out⟩
      · have HLG := Lib.hid hlong
        have hl1 : ((N1 : Int) == 65536) = false := by simp; omega
        clear hlong
        obtain ⟨DM13, DF13, DP13, hD13⟩ : ∃ xa xb xc, decM ((encM m).1 ++ [(c : Int)]) = (xa, xb, xc) := ⟨_, _, _, rfl⟩
        have hdc := mod_Dec w12 _ (fun _ h => h) u12 ((encM m).1 ++ [(c : Int)]) (bytes_app_iff.2 ⟨HBY.out, fun x hx => by obtain rfl := List.mem_singleton.1 hx; exact ⟨by omega, by omega⟩⟩) HV12.out (HT.out.bel HB.out)
        rw [hD13] at hdc
        simp only at hdc
        have HDC := Lib.hid hdc
        have HD13 := Lib.hid hD13
        clear hdc hD13
        have hmore := HD13.out.symm.trans (law_more henc5 WM.out.1 HE1.out (c := (c : Int)) ⟨by omega, by omega⟩)
        rw [HN1.out, if_neg HLG.out] at hmore
        simp only [Prod.mk.injEq] at hmore
        obtain ⟨-, rfl, rfl⟩ := hmore
        clear HD13
        refine HDC.out.mono ?_
        clear HDC
        rintro e w13 ⟨tt0, tt1, th0, th1, tg0, tg1, tf0, tf1, td0, td1, te0, te1, rfl, hb, hmd13⟩
        have hba := below_alloc w13 (.cells #[.slice tt0 DM13.types.length tt1, .slice th0 DM13.hosts.length th1, .slice tg0 DM13.globals.length tg1, .int .i64 DM13.first, .int .i64 DM13.most, .slice tf0 DM13.funs.length tf1, .slice td0 DM13.datas.length td1, .slice te0 DM13.exps.length te1] 29)
        have HMD13 := Lib.hid (MdB.new hmd13.any5)
        have hb := below_next hb hba
        have HM := Lib.hid (HM.out.bel hb)
        have HB : Hid (Below w.heap.size w (w13.alloc (.cells #[.slice tt0 DM13.types.length tt1, .slice th0 DM13.hosts.length th1, .slice tg0 DM13.globals.length tg1, .int .i64 DM13.first, .int .i64 DM13.most, .slice tf0 DM13.funs.length tf1, .slice td0 DM13.datas.length td1, .slice te0 DM13.exps.length te1] 29))) := Lib.hid (below_next HB.out hb)
        clear hb hba hmd13
        clear y0 y1 y2 y3 y4 y5 y6 y7
        go_wp2_with fail
        go_ret
        exact ⟨rfl, HB.out⟩
  obtain ⟨N0, rfl⟩ := Int.eq_ofNat_of_zero_le (show 0 ≤ N by omega)
  have dn : decide (((N0 : Nat) : Int) < 0) = false := decide_eq_false hneg
  clear hneg
  by_cases hbeh : N1 ≤ N0
  · as_aux_lemma =>
      have dm : decide ((N1 : Int) ≤ ((N0 : Nat) : Int)) = true := decide_eq_true (by omega)
      obtain ⟨K, hKe⟩ : ∃ K, N1 - 1 = K := ⟨_, rfl⟩
      have hsub : (N1 : Int) - 1 = (K : Int) := by omega
      have hwr : IntKind.i64.wrap (K : Int) = K := IntWalk.i64_in _ ⟨by omega, by omega⟩
      have hK : K < N1 := by omega
      have HTK := Lib.hid (HV1.out.take K (by rw [HN1.out]; omega))
      have HKL : Hid (((encM m).1.take K).length = K) := Lib.hid (by rw [List.length_take, HN1.out]; omega)
      have hk0 : (0 : Int) ≤ K := by omega
      have hkc : (K : Int) ≤ uc := by omega
      go_wp2_with fail
      refine (copyBytes w6 _ _ ((encM m).1.take K) HTK.out).mono ?_
      rintro e w8 ⟨u8, rfl, ho8, hb⟩
      have HV8 := Lib.hid ((RdI.of_own ho8 (by rw [HKL.out]; omega)).mono (T := (· < w8.heap.size)) fun _ h _ => h)
      have HV1 := Lib.hid (HV1.out.bel5 hb)
      have HM := Lib.hid (HM.out.bel hb)
      have HB : Hid (Below w.heap.size w w8) := Lib.hid (below_next HB.out hb)
      clear y0 y1 y2 y3 y4 y5 y6 y7
      have y0 := row_cell HM.out.row 0 rfl; have y1 := row_cell HM.out.row 1 rfl; have y2 := row_cell HM.out.row 2 rfl; have y3 := row_cell HM.out.row 3 rfl; have y4 := row_cell HM.out.row 4 rfl; have y5 := row_cell HM.out.row 5 rfl; have y6 := row_cell HM.out.row 6 rfl; have y7 := row_cell HM.out.row 7 rfl
      simp only [List.getElem_toArray, List.getElem_cons_zero, List.getElem_cons_succ] at y0 y1 y2 y3 y4 y5 y6 y7
      clear hb ho8
      go_wp2_with fail
      obtain ⟨DM9, DF9, DP9, hD9⟩ : ∃ xa xb xc, decM ((encM m).1.take K) = (xa, xb, xc) := ⟨_, _, _, rfl⟩
      have hdc := mod_Dec w8 _ (fun _ h => h) u8 ((encM m).1.take K) (fun x hx => HBY.out x (List.mem_of_mem_take hx)) HV8.out (HT.out.bel HB.out)
      rw [hD9] at hdc
      simp only at hdc
      have HDC := Lib.hid hdc
      have HD9 := Lib.hid hD9
      clear hdc hD9
      refine HDC.out.mono ?_
      clear HDC
      rintro e w9 ⟨xt0, xt1, xh0, xh1, xg0, xg1, xf0, xf1, xd0, xd1, xe0, xe1, rfl, hb, hmd9⟩
      have hba := below_alloc w9 (.cells #[.slice xt0 DM9.types.length xt1, .slice xh0 DM9.hosts.length xh1, .slice xg0 DM9.globals.length xg1, .int .i64 DM9.first, .int .i64 DM9.most, .slice xf0 DM9.funs.length xf1, .slice xd0 DM9.datas.length xd1, .slice xe0 DM9.exps.length xe1] 29)
      have HMD9 := Lib.hid (MdB.new hmd9.any5)
      have hb := below_next hb hba
      have HM := Lib.hid (HM.out.bel hb)
      have HV1 := Lib.hid (HV1.out.bel5 hb)
      have HB : Hid (Below w.heap.size w (w9.alloc (.cells #[.slice xt0 DM9.types.length xt1, .slice xh0 DM9.hosts.length xh1, .slice xg0 DM9.globals.length xg1, .int .i64 DM9.first, .int .i64 DM9.most, .slice xf0 DM9.funs.length xf1, .slice xd0 DM9.datas.length xd1, .slice xe0 DM9.exps.length xe1] 29))) := Lib.hid (below_next HB.out hb)
      clear hb hba hmd9
      clear y0 y1 y2 y3 y4 y5 y6 y7
      go_wp2_with fail
      generalize w9.alloc (.cells #[.slice xt0 DM9.types.length xt1, .slice xh0 DM9.hosts.length xh1, .slice xg0 DM9.globals.length xg1, .int .i64 DM9.first, .int .i64 DM9.most, .slice xf0 DM9.funs.length xf1, .slice xd0 DM9.datas.length xd1, .slice xe0 DM9.exps.length xe1] 29) = w10 at *
      have y0 := row_cell HM.out.row 0 rfl; have y1 := row_cell HM.out.row 1 rfl; have y2 := row_cell HM.out.row 2 rfl; have y3 := row_cell HM.out.row 3 rfl; have y4 := row_cell HM.out.row 4 rfl; have y5 := row_cell HM.out.row 5 rfl; have y6 := row_cell HM.out.row 6 rfl; have y7 := row_cell HM.out.row 7 rfl
      simp only [List.getElem_toArray, List.getElem_cons_zero, List.getElem_cons_succ] at y0 y1 y2 y3 y4 y5 y6 y7
      have hf : DF9 ≠ 0 := by have := law_cut henc5 WM.out.1 HE1.out (n := K) (by rw [HN1.out]; exact hK); rw [HD9.out] at this; exact this
      have hf1 : (DF9 != 0) = true := by simp [hf]
      clear HV8 HTK HKL hf
      refine (copyBytes w10 _ _ (encM m).1 HV1.out).mono ?_
      rintro e w11 ⟨u11, rfl, ho11, hb⟩
      have HO11 : Hid (w11.ownsRow w10.heap.size 5 1 u11 N1 ((encM m).1.map (Value.int .u8))) := Lib.hid (by rw [← HN1.out]; exact ho11)
      have HB11 := Lib.hid hb
      have hsz := hb.size
      clear hb ho11 HV1
      have HOA := Lib.hid (HO11.out.alloc (.cells #[.int .u8 c] 5))
      go_wp2_with (at_builtin; refine wpList_append_own_at _ rfl _ _ 30 rfl w10.heap.size 5 i0 (.int .u8 0) 1 1 Tryd.underlying30 hi hz0 hz1 hz2 rfl (by decide) _ _ _ rfl HOA.out ⟨w11.heap.size, 0, none⟩ 1 1 [.int .u8 c] rfl rfl (cell_one_new _ _ _) (by simp [Value.oneCell']) (by unfold maxLen; omega) (by omega) (by rw [World.size_alloc]; omega) ?_)
      intro u12 w12 hown12 hgrow12 _ _
      have hb : Below w10.heap.size w10 w12 := (HB11.out.alloc hsz _).grown hgrow12 (by rw [World.size_alloc]; omega) fun k hk => (HOA.out.lt k hk).1
      have hmp : (encM m).1.map (Value.int .u8) ++ [.int .u8 (c : Int)] = ((encM m).1 ++ [(c : Int)]).map (Value.int .u8) := by simp
      have hln : N1 + 1 = ((encM m).1 ++ [(c : Int)]).length := by rw [List.length_append, HN1.out]; rfl
      rw [hmp, hln] at hown12
      have HV12 := Lib.hid ((RdI.of_own hown12 (by rw [← hln]; omega)).mono (T := (· < w12.heap.size)) fun _ h _ => h)
      have HM := Lib.hid (HM.out.bel hb)
      have HB : Hid (Below w.heap.size w w12) := Lib.hid (below_next HB.out hb)
      clear y0 y1 y2 y3 y4 y5 y6 y7
      have y0 := row_cell HM.out.row 0 rfl; have y1 := row_cell HM.out.row 1 rfl; have y2 := row_cell HM.out.row 2 rfl; have y3 := row_cell HM.out.row 3 rfl; have y4 := row_cell HM.out.row 4 rfl; have y5 := row_cell HM.out.row 5 rfl; have y6 := row_cell HM.out.row 6 rfl; have y7 := row_cell HM.out.row 7 rfl
      simp only [List.getElem_toArray, List.getElem_cons_zero, List.getElem_cons_succ] at y0 y1 y2 y3 y4 y5 y6 y7
      clear hb hown12 hgrow12 hmp hln HOA HO11 HB11 hsz
      go_wp2_with fail
      by_cases hlong : N1 = 65536
      · have HLG := Lib.hid hlong
        have hl1 : ((N1 : Int) == 65536) = true := by simp; omega
        clear hlong
        obtain ⟨DM13, DF13, DP13, hD13⟩ : ∃ xa xb xc, decM ((encM m).1 ++ [(c : Int)]) = (xa, xb, xc) := ⟨_, _, _, rfl⟩
        have hdc := mod_Dec w12 _ (fun _ h => h) u12 ((encM m).1 ++ [(c : Int)]) (bytes_app_iff.2 ⟨HBY.out, fun x hx => by obtain rfl := List.mem_singleton.1 hx; exact ⟨by omega, by omega⟩⟩) HV12.out (HT.out.bel HB.out)
        rw [hD13] at hdc
        simp only at hdc
        have HDC := Lib.hid hdc
        have HD13 := Lib.hid hD13
        clear hdc hD13
        have hmore := HD13.out.symm.trans (law_more henc5 WM.out.1 HE1.out (c := (c : Int)) ⟨by omega, by omega⟩)
        rw [HN1.out, if_pos HLG.out] at hmore
        simp only [Prod.mk.injEq] at hmore
        obtain ⟨-, rfl, rfl⟩ := hmore
        clear HD13
        refine HDC.out.mono ?_
        clear HDC
        rintro e w13 ⟨tt0, tt1, th0, th1, tg0, tg1, tf0, tf1, td0, td1, te0, te1, rfl, hb, hmd13⟩
        have hba := below_alloc w13 (.cells #[.slice tt0 DM13.types.length tt1, .slice th0 DM13.hosts.length th1, .slice tg0 DM13.globals.length tg1, .int .i64 DM13.first, .int .i64 DM13.most, .slice tf0 DM13.funs.length tf1, .slice td0 DM13.datas.length td1, .slice te0 DM13.exps.length te1] 29)
        have HMD13 := Lib.hid (MdB.new hmd13.any5)
        have hb := below_next hb hba
        have HM := Lib.hid (HM.out.bel hb)
        have HB : Hid (Below w.heap.size w (w13.alloc (.cells #[.slice tt0 DM13.types.length tt1, .slice th0 DM13.hosts.length th1, .slice tg0 DM13.globals.length tg1, .int .i64 DM13.first, .int .i64 DM13.most, .slice tf0 DM13.funs.length tf1, .slice td0 DM13.datas.length td1, .slice te0 DM13.exps.length te1] 29))) := Lib.hid (below_next HB.out hb)
        clear hb hba hmd13
        clear y0 y1 y2 y3 y4 y5 y6 y7
        go_wp2_with fail
        go_ret
        exact ⟨rfl, HB.out⟩
      · have HLG := Lib.hid hlong
        have hl1 : ((N1 : Int) == 65536) = false := by simp; omega
        clear hlong
        obtain ⟨DM13, DF13, DP13, hD13⟩ : ∃ xa xb xc, decM ((encM m).1 ++ [(c : Int)]) = (xa, xb, xc) := ⟨_, _, _, rfl⟩
        have hdc := mod_Dec w12 _ (fun _ h => h) u12 ((encM m).1 ++ [(c : Int)]) (bytes_app_iff.2 ⟨HBY.out, fun x hx => by obtain rfl := List.mem_singleton.1 hx; exact ⟨by omega, by omega⟩⟩) HV12.out (HT.out.bel HB.out)
        rw [hD13] at hdc
        simp only at hdc
        have HDC := Lib.hid hdc
        have HD13 := Lib.hid hD13
        clear hdc hD13
        have hmore := HD13.out.symm.trans (law_more henc5 WM.out.1 HE1.out (c := (c : Int)) ⟨by omega, by omega⟩)
        rw [HN1.out, if_neg HLG.out] at hmore
        simp only [Prod.mk.injEq] at hmore
        obtain ⟨-, rfl, rfl⟩ := hmore
        clear HD13
        refine HDC.out.mono ?_
        clear HDC
        rintro e w13 ⟨tt0, tt1, th0, th1, tg0, tg1, tf0, tf1, td0, td1, te0, te1, rfl, hb, hmd13⟩
        have hba := below_alloc w13 (.cells #[.slice tt0 DM13.types.length tt1, .slice th0 DM13.hosts.length th1, .slice tg0 DM13.globals.length tg1, .int .i64 DM13.first, .int .i64 DM13.most, .slice tf0 DM13.funs.length tf1, .slice td0 DM13.datas.length td1, .slice te0 DM13.exps.length te1] 29)
        have HMD13 := Lib.hid (MdB.new hmd13.any5)
        have hb := below_next hb hba
        have HM := Lib.hid (HM.out.bel hb)
        have HB : Hid (Below w.heap.size w (w13.alloc (.cells #[.slice tt0 DM13.types.length tt1, .slice th0 DM13.hosts.length th1, .slice tg0 DM13.globals.length tg1, .int .i64 DM13.first, .int .i64 DM13.most, .slice tf0 DM13.funs.length tf1, .slice td0 DM13.datas.length td1, .slice te0 DM13.exps.length te1] 29))) := Lib.hid (below_next HB.out hb)
        clear hb hba hmd13
        clear y0 y1 y2 y3 y4 y5 y6 y7
        go_wp2_with fail
        go_ret
        exact ⟨rfl, HB.out⟩
  · as_aux_lemma =>
      have dm : decide ((N1 : Int) ≤ ((N0 : Nat) : Int)) = false := decide_eq_false (by omega)
      obtain ⟨K, hKe⟩ : ∃ K, K = N0 := ⟨_, rfl⟩
      subst hKe
      have hK : K < N1 := by omega
      have HTK := Lib.hid (HV1.out.take K (by rw [HN1.out]; omega))
      have HKL : Hid (((encM m).1.take K).length = K) := Lib.hid (by rw [List.length_take, HN1.out]; omega)
      have hk0 : (0 : Int) ≤ K := by omega
      have hkc : (K : Int) ≤ uc := by omega
      go_wp2_with fail
      refine (copyBytes w6 _ _ ((encM m).1.take K) HTK.out).mono ?_
      rintro e w8 ⟨u8, rfl, ho8, hb⟩
      have HV8 := Lib.hid ((RdI.of_own ho8 (by rw [HKL.out]; omega)).mono (T := (· < w8.heap.size)) fun _ h _ => h)
      have HV1 := Lib.hid (HV1.out.bel5 hb)
      have HM := Lib.hid (HM.out.bel hb)
      have HB : Hid (Below w.heap.size w w8) := Lib.hid (below_next HB.out hb)
      clear y0 y1 y2 y3 y4 y5 y6 y7
      have y0 := row_cell HM.out.row 0 rfl; have y1 := row_cell HM.out.row 1 rfl; have y2 := row_cell HM.out.row 2 rfl; have y3 := row_cell HM.out.row 3 rfl; have y4 := row_cell HM.out.row 4 rfl; have y5 := row_cell HM.out.row 5 rfl; have y6 := row_cell HM.out.row 6 rfl; have y7 := row_cell HM.out.row 7 rfl
      simp only [List.getElem_toArray, List.getElem_cons_zero, List.getElem_cons_succ] at y0 y1 y2 y3 y4 y5 y6 y7
      clear hb ho8
      go_wp2_with fail
      obtain ⟨DM9, DF9, DP9, hD9⟩ : ∃ xa xb xc, decM ((encM m).1.take K) = (xa, xb, xc) := ⟨_, _, _, rfl⟩
      have hdc := mod_Dec w8 _ (fun _ h => h) u8 ((encM m).1.take K) (fun x hx => HBY.out x (List.mem_of_mem_take hx)) HV8.out (HT.out.bel HB.out)
      rw [hD9] at hdc
      simp only at hdc
      have HDC := Lib.hid hdc
      have HD9 := Lib.hid hD9
      clear hdc hD9
      refine HDC.out.mono ?_
      clear HDC
      rintro e w9 ⟨xt0, xt1, xh0, xh1, xg0, xg1, xf0, xf1, xd0, xd1, xe0, xe1, rfl, hb, hmd9⟩
      have hba := below_alloc w9 (.cells #[.slice xt0 DM9.types.length xt1, .slice xh0 DM9.hosts.length xh1, .slice xg0 DM9.globals.length xg1, .int .i64 DM9.first, .int .i64 DM9.most, .slice xf0 DM9.funs.length xf1, .slice xd0 DM9.datas.length xd1, .slice xe0 DM9.exps.length xe1] 29)
      have HMD9 := Lib.hid (MdB.new hmd9.any5)
      have hb := below_next hb hba
      have HM := Lib.hid (HM.out.bel hb)
      have HV1 := Lib.hid (HV1.out.bel5 hb)
      have HB : Hid (Below w.heap.size w (w9.alloc (.cells #[.slice xt0 DM9.types.length xt1, .slice xh0 DM9.hosts.length xh1, .slice xg0 DM9.globals.length xg1, .int .i64 DM9.first, .int .i64 DM9.most, .slice xf0 DM9.funs.length xf1, .slice xd0 DM9.datas.length xd1, .slice xe0 DM9.exps.length xe1] 29))) := Lib.hid (below_next HB.out hb)
      clear hb hba hmd9
      clear y0 y1 y2 y3 y4 y5 y6 y7
      go_wp2_with fail
      generalize w9.alloc (.cells #[.slice xt0 DM9.types.length xt1, .slice xh0 DM9.hosts.length xh1, .slice xg0 DM9.globals.length xg1, .int .i64 DM9.first, .int .i64 DM9.most, .slice xf0 DM9.funs.length xf1, .slice xd0 DM9.datas.length xd1, .slice xe0 DM9.exps.length xe1] 29) = w10 at *
      have y0 := row_cell HM.out.row 0 rfl; have y1 := row_cell HM.out.row 1 rfl; have y2 := row_cell HM.out.row 2 rfl; have y3 := row_cell HM.out.row 3 rfl; have y4 := row_cell HM.out.row 4 rfl; have y5 := row_cell HM.out.row 5 rfl; have y6 := row_cell HM.out.row 6 rfl; have y7 := row_cell HM.out.row 7 rfl
      simp only [List.getElem_toArray, List.getElem_cons_zero, List.getElem_cons_succ] at y0 y1 y2 y3 y4 y5 y6 y7
      have hf : DF9 ≠ 0 := by have := law_cut henc5 WM.out.1 HE1.out (n := K) (by rw [HN1.out]; exact hK); rw [HD9.out] at this; exact this
      have hf1 : (DF9 != 0) = true := by simp [hf]
      clear HV8 HTK HKL hf
      refine (copyBytes w10 _ _ (encM m).1 HV1.out).mono ?_
      rintro e w11 ⟨u11, rfl, ho11, hb⟩
      have HO11 : Hid (w11.ownsRow w10.heap.size 5 1 u11 N1 ((encM m).1.map (Value.int .u8))) := Lib.hid (by rw [← HN1.out]; exact ho11)
      have HB11 := Lib.hid hb
      have hsz := hb.size
      clear hb ho11 HV1
      have HOA := Lib.hid (HO11.out.alloc (.cells #[.int .u8 c] 5))
      go_wp2_with (at_builtin; refine wpList_append_own_at _ rfl _ _ 30 rfl w10.heap.size 5 i0 (.int .u8 0) 1 1 Tryd.underlying30 hi hz0 hz1 hz2 rfl (by decide) _ _ _ rfl HOA.out ⟨w11.heap.size, 0, none⟩ 1 1 [.int .u8 c] rfl rfl (cell_one_new _ _ _) (by simp [Value.oneCell']) (by unfold maxLen; omega) (by omega) (by rw [World.size_alloc]; omega) ?_)
      intro u12 w12 hown12 hgrow12 _ _
      have hb : Below w10.heap.size w10 w12 := (HB11.out.alloc hsz _).grown hgrow12 (by rw [World.size_alloc]; omega) fun k hk => (HOA.out.lt k hk).1
      have hmp : (encM m).1.map (Value.int .u8) ++ [.int .u8 (c : Int)] = ((encM m).1 ++ [(c : Int)]).map (Value.int .u8) := by simp
      have hln : N1 + 1 = ((encM m).1 ++ [(c : Int)]).length := by rw [List.length_append, HN1.out]; rfl
      rw [hmp, hln] at hown12
      have HV12 := Lib.hid ((RdI.of_own hown12 (by rw [← hln]; omega)).mono (T := (· < w12.heap.size)) fun _ h _ => h)
      have HM := Lib.hid (HM.out.bel hb)
      have HB : Hid (Below w.heap.size w w12) := Lib.hid (below_next HB.out hb)
      clear y0 y1 y2 y3 y4 y5 y6 y7
      have y0 := row_cell HM.out.row 0 rfl; have y1 := row_cell HM.out.row 1 rfl; have y2 := row_cell HM.out.row 2 rfl; have y3 := row_cell HM.out.row 3 rfl; have y4 := row_cell HM.out.row 4 rfl; have y5 := row_cell HM.out.row 5 rfl; have y6 := row_cell HM.out.row 6 rfl; have y7 := row_cell HM.out.row 7 rfl
      simp only [List.getElem_toArray, List.getElem_cons_zero, List.getElem_cons_succ] at y0 y1 y2 y3 y4 y5 y6 y7
      clear hb hown12 hgrow12 hmp hln HOA HO11 HB11 hsz
      go_wp2_with fail
      by_cases hlong : N1 = 65536
      · have HLG := Lib.hid hlong
        have hl1 : ((N1 : Int) == 65536) = true := by simp; omega
        clear hlong
        obtain ⟨DM13, DF13, DP13, hD13⟩ : ∃ xa xb xc, decM ((encM m).1 ++ [(c : Int)]) = (xa, xb, xc) := ⟨_, _, _, rfl⟩
        have hdc := mod_Dec w12 _ (fun _ h => h) u12 ((encM m).1 ++ [(c : Int)]) (bytes_app_iff.2 ⟨HBY.out, fun x hx => by obtain rfl := List.mem_singleton.1 hx; exact ⟨by omega, by omega⟩⟩) HV12.out (HT.out.bel HB.out)
        rw [hD13] at hdc
        simp only at hdc
        have HDC := Lib.hid hdc
        have HD13 := Lib.hid hD13
        clear hdc hD13
        have hmore := HD13.out.symm.trans (law_more henc5 WM.out.1 HE1.out (c := (c : Int)) ⟨by omega, by omega⟩)
        rw [HN1.out, if_pos HLG.out] at hmore
        simp only [Prod.mk.injEq] at hmore
        obtain ⟨-, rfl, rfl⟩ := hmore
        clear HD13
        refine HDC.out.mono ?_
        clear HDC
        rintro e w13 ⟨tt0, tt1, th0, th1, tg0, tg1, tf0, tf1, td0, td1, te0, te1, rfl, hb, hmd13⟩
        have hba := below_alloc w13 (.cells #[.slice tt0 DM13.types.length tt1, .slice th0 DM13.hosts.length th1, .slice tg0 DM13.globals.length tg1, .int .i64 DM13.first, .int .i64 DM13.most, .slice tf0 DM13.funs.length tf1, .slice td0 DM13.datas.length td1, .slice te0 DM13.exps.length te1] 29)
        have HMD13 := Lib.hid (MdB.new hmd13.any5)
        have hb := below_next hb hba
        have HM := Lib.hid (HM.out.bel hb)
        have HB : Hid (Below w.heap.size w (w13.alloc (.cells #[.slice tt0 DM13.types.length tt1, .slice th0 DM13.hosts.length th1, .slice tg0 DM13.globals.length tg1, .int .i64 DM13.first, .int .i64 DM13.most, .slice tf0 DM13.funs.length tf1, .slice td0 DM13.datas.length td1, .slice te0 DM13.exps.length te1] 29))) := Lib.hid (below_next HB.out hb)
        clear hb hba hmd13
        clear y0 y1 y2 y3 y4 y5 y6 y7
        go_wp2_with fail
        go_ret
        exact ⟨rfl, HB.out⟩
      · have HLG := Lib.hid hlong
        have hl1 : ((N1 : Int) == 65536) = false := by simp; omega
        clear hlong
        obtain ⟨DM13, DF13, DP13, hD13⟩ : ∃ xa xb xc, decM ((encM m).1 ++ [(c : Int)]) = (xa, xb, xc) := ⟨_, _, _, rfl⟩
        have hdc := mod_Dec w12 _ (fun _ h => h) u12 ((encM m).1 ++ [(c : Int)]) (bytes_app_iff.2 ⟨HBY.out, fun x hx => by obtain rfl := List.mem_singleton.1 hx; exact ⟨by omega, by omega⟩⟩) HV12.out (HT.out.bel HB.out)
        rw [hD13] at hdc
        simp only at hdc
        have HDC := Lib.hid hdc
        have HD13 := Lib.hid hD13
        clear hdc hD13
        have hmore := HD13.out.symm.trans (law_more henc5 WM.out.1 HE1.out (c := (c : Int)) ⟨by omega, by omega⟩)
        rw [HN1.out, if_neg HLG.out] at hmore
        simp only [Prod.mk.injEq] at hmore
        obtain ⟨-, rfl, rfl⟩ := hmore
        clear HD13
        refine HDC.out.mono ?_
        clear HDC
        rintro e w13 ⟨tt0, tt1, th0, th1, tg0, tg1, tf0, tf1, td0, td1, te0, te1, rfl, hb, hmd13⟩
        have hba := below_alloc w13 (.cells #[.slice tt0 DM13.types.length tt1, .slice th0 DM13.hosts.length th1, .slice tg0 DM13.globals.length tg1, .int .i64 DM13.first, .int .i64 DM13.most, .slice tf0 DM13.funs.length tf1, .slice td0 DM13.datas.length td1, .slice te0 DM13.exps.length te1] 29)
        have HMD13 := Lib.hid (MdB.new hmd13.any5)
        have hb := below_next hb hba
        have HM := Lib.hid (HM.out.bel hb)
        have HB : Hid (Below w.heap.size w (w13.alloc (.cells #[.slice tt0 DM13.types.length tt1, .slice th0 DM13.hosts.length th1, .slice tg0 DM13.globals.length tg1, .int .i64 DM13.first, .int .i64 DM13.most, .slice tf0 DM13.funs.length tf1, .slice td0 DM13.datas.length td1, .slice te0 DM13.exps.length te1] 29))) := Lib.hid (below_next HB.out hb)
        clear hb hba hmd13
        clear y0 y1 y2 y3 y4 y5 y6 y7
        go_wp2_with fail
        go_ret
        exact ⟨rfl, HB.out⟩
end Go.Proofs.YteaolgldkfjdkaaDoor
