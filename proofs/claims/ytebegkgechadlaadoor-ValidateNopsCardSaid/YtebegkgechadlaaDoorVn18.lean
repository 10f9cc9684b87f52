/- ValidateNops: the walk. -/
import Derived.Test.YtebegkgechadlaaDoorMEnd
import Derived.Test.YtebegkgechadlaaDoorVnM
import Derived.Test.YtebegkgechadlaaDoorMAlone
import Derived.Test.YtebegkgechadlaaDoorSizeX
import Derived.Test.YtebegkgechadlaaDoorChk5
namespace Go.Proofs.YtebegkgechadlaaDoor
open Go Go.RowKit
set_option linter.unusedSimpArgs false

theorem MB_cells {w w1 : World} {n : Nat} {c : Array Value} (h : w.heap[n]? = some (.cells c 29 (0, 0))) (hb : Below w.heap.size w w1) : w1.heap[n]? = some (.cells c 29 (0, 0)) := (hb.block _ (row_lt h)).trans h
/-- What a function that is well tells. -/
theorem valF_ok {m : ModD} {f : Int} {tb : TbD} {xp : Int} (h : valF m f = (tb, 0, xp)) : (encM m).2 = 0 ∧ 0 ≤ f ∧ f < m.funs.length ∧ (funV m f.toNat).2.1 = 0 ∧ (funV m f.toNat).1 = tb := by
  unfold valF at h
  split at h
  · rename_i h1
    simp only [Prod.mk.injEq] at h
    exact absurd h.2.1 h1
  rename_i h1
  split at h
  · simp at h
  · rename_i h2
    rw [h]
    exact ⟨Classical.not_not.1 h1, by omega, by omega, rfl, rfl⟩
theorem valF_good {m : ModD} {n : Nat} (h : (encM m).2 = 0) (hn : n < m.funs.length) : valF m n = funV m n := by
  unfold valF
  rw [if_neg (by simp [h]), if_neg (by omega)]
  rfl
theorem funV_len {m : ModD} {n : Nat} (ok : MOk m) (h : (funV m n).2.1 = 0) : (funV m n).1.shapes.length = (m.funs.getD n funZ).code.length := by
  obtain ⟨hm, v, hv, ht⟩ := funV_good h
  rw [ht]
  have hz : SzC (ctxV m (m.funs.getD n funZ) (mapP (opsOf (m.funs.getD n funZ).code)).2.1) := ok.szc rfl
  exact (goV_len hz _ 0 _ v rfl (Nat.zero_le _) (VL.start (hz _).2 hm) rfl rfl hv).1
theorem sm_nop {m : ModD} {g k : Nat} (sm : SmM m) (hg : g < m.funs.length) : SmM (nopM m g k) := by
  have hmem : ∀ f ∈ (nopM m g k).funs, f ∈ m.funs ∨ f = nopF (m.funs.getD g funZ) k := fun f hf => List.mem_or_eq_of_mem_set hf
  have hgd : m.funs.getD g funZ ∈ m.funs := by rw [List.getD_eq_getElem?_getD, List.getElem?_eq_getElem hg]; exact List.getElem_mem hg
  refine ⟨sm.types, fun f hf => ?_, sm.exps, sm.hosts, fun f hf => ?_, sm.ats, sm.exf, sm.first, sm.most, sm.glet⟩
  · rcases hmem f hf with h | rfl
    · exact sm.funs f h
    · exact sm.funs (m.funs.getD g funZ) hgd
  · rcases hmem f hf with h | rfl
    · exact sm.fts f h
    · exact sm.fts (m.funs.getD g funZ) hgd
theorem wf_nop {m : ModD} {g k : Nat} (h : WfM m) (hg : g < m.funs.length) : WfM (nopM m g k) := by
  have hgd : m.funs.getD g funZ ∈ m.funs := by rw [List.getD_eq_getElem?_getD, List.getElem?_eq_getElem hg]; exact List.getElem_mem hg
  refine ⟨h.globals, fun f hf i hi => ?_, h.datas⟩
  rcases List.mem_or_eq_of_mem_set hf with hf | rfl
  · exact h.code f hf i hi
  · have hi' : i ∈ nopL (m.funs.getD g funZ).code k := hi
    unfold nopL at hi'
    rcases List.mem_append.1 hi' with h1 | h1
    · exact h.code _ hgd i (List.mem_of_mem_take h1)
    · rcases List.mem_cons.1 h1 with rfl | h1
      · exact ⟨by decide, by unfold i64P; decide, fun n hn => by simp [nopI] at hn⟩
      · exact h.code _ hgd i (List.mem_of_mem_drop h1)
set_option maxRecDepth 100000 in
set_option maxHeartbeats 6400000 in
theorem law_validateNops (w : World) (S : Nat → Prop) (hS : ∀ b, S b → b < w.heap.size) (m : ModD) (cs : List Value) (hm : RMod S w cs m) (sm : SmM m) (wf : WfM m) (htb : Tb w) (f pc : Int) :
    Calls Tryd.prog 4 #[.agg cs.toArray, .int .i64 f, .int .i64 pc] w fun r w' => r = .returned (.bool true) ∧ Below w.heap.size w w' := by
  obtain ⟨i0, hi, hz0, hz1, hz2⟩ := info_parts Tryd.infoInsC
  obtain ⟨i1, hj, hy0, hy1, hy2⟩ := info_parts Tryd.infoStrW
  have hm0 := hm
  obtain ⟨tv, hv, gv, fv, dv, ev, rfl, r1, r2, r3, r4, r5, r6⟩ := hm
  obtain ⟨ta, tc, rfl, tl⟩ := r1.len
  obtain ⟨ha, hc, rfl, hl⟩ := r2.len
  obtain ⟨ga, gc, rfl, gl⟩ := r3.len
  obtain ⟨fa, fc, rfl, fl⟩ := r4.len
  obtain ⟨da, dc, rfl, dl⟩ := r5.len
  obtain ⟨ea, ec, rfl, el⟩ := r6.len
  have hba := below_alloc w (.cells #[.slice ta m.types.length tc, .slice ha m.hosts.length hc, .slice ga m.globals.length gc, .int .i64 m.first, .int .i64 m.most, .slice fa m.funs.length fc, .slice da m.datas.length dc, .slice ea m.exps.length ec] 29)
  have hmb := heap_alloc_new w (.cells #[.slice ta m.types.length tc, .slice ha m.hosts.length hc, .slice ga m.globals.length gc, .int .i64 m.first, .int .i64 m.most, .slice fa m.funs.length fc, .slice da m.datas.length dc, .slice ea m.exps.length ec] 29)
  have HW := Lib.hid (law_works (w.alloc (.cells #[.slice ta m.types.length tc, .slice ha m.hosts.length hc, .slice ga m.globals.length gc, .int .i64 m.first, .int .i64 m.most, .slice fa m.funs.length fc, .slice da m.datas.length dc, .slice ea m.exps.length ec] 29)) (htb.bel hba))
  have HM := Lib.hid hm0; have HMB := Lib.hid hmb; have HB := Lib.hid hba; have HT := Lib.hid htb; have HS := Lib.hid hS; have HSM := Lib.hid sm; have HWF := Lib.hid wf
  clear hm0 r1 r2 r3 r4 r5 r6 hba hmb htb hS sm wf
  go_enter Tryd.func4, Tryd.ntmps4
  go_wp2_with fail
  refine HW.out.mono ?_
  rintro e w2 ⟨rfl, hb2⟩
  have HB2 := Lib.hid (below_next HB.out hb2)
  have HMB2 := Lib.hid (MB_cells HMB.out hb2)
  have g0 := row_cell HMB2.out 0 rfl; have g1 := row_cell HMB2.out 1 rfl; have g2 := row_cell HMB2.out 2 rfl; have g3 := row_cell HMB2.out 3 rfl; have g4 := row_cell HMB2.out 4 rfl; have g5 := row_cell HMB2.out 5 rfl; have g6 := row_cell HMB2.out 6 rfl; have g7 := row_cell HMB2.out 7 rfl
  simp only [List.getElem_toArray, List.getElem_cons_zero, List.getElem_cons_succ] at g0 g1 g2 g3 g4 g5 g6 g7
  have HSZ := Lib.hid (sizeModX w2 S _ m (HM.out.keeps (Keeps.all S HB2.out)) HSM.out)
  clear HW hb2 HB HMB
  go_wp2_with fail
  refine HSZ.out.mono ?_
  rintro e w3 ⟨z, rfl, hb3, -⟩
  have HB3 := Lib.hid (below_next HB2.out hb3)
  have HMB3 := Lib.hid (MB_cells HMB2.out hb3)
  have g0 := row_cell HMB3.out 0 rfl; have g1 := row_cell HMB3.out 1 rfl; have g2 := row_cell HMB3.out 2 rfl; have g3 := row_cell HMB3.out 3 rfl; have g4 := row_cell HMB3.out 4 rfl; have g5 := row_cell HMB3.out 5 rfl; have g6 := row_cell HMB3.out 6 rfl; have g7 := row_cell HMB3.out 7 rfl
  simp only [List.getElem_toArray, List.getElem_cons_zero, List.getElem_cons_succ] at g0 g1 g2 g3 g4 g5 g6 g7
  clear hb3 HSZ HB2 HMB2
  by_cases hbig : 4000 < z
  · have hd : decide ((z : Int) > 4000) = true := decide_eq_true (by omega)
    go_wp2
    go_ret
    exact ⟨rfl, HB3.out⟩
  · have hd : decide ((z : Int) > 4000) = false := decide_eq_false (by omega)
    have HFU := Lib.hid (val_Function w3 S (fun b hb => by have := HS.out b hb; have := HB3.out.size; omega) m _ (HM.out.keeps (Keeps.all S HB3.out)) HSM.out HWF.out (HT.out.bel HB3.out) f)
    clear hbig
    go_wp2_with fail
    refine HFU.out.mono ?_
    rintro e w5 ⟨cs5, rfl, hrt5, hb5⟩
    obtain ⟨⟨tb, xe, xp⟩, hX⟩ : ∃ X, valF m f = X := ⟨_, rfl⟩
    rw [hX] at hrt5 ⊢
    simp only at hrt5 ⊢
    have HX := Lib.hid hX
    obtain ⟨sv, ev5, lv5, fv5, hcs5, p1, p2, p3, p4⟩ := hrt5
    have HP1 := Lib.hid p1
    obtain ⟨sa, sc, hsv, -⟩ := p1.lenc
    rw [List.length_map] at hsv
    subst hsv
    obtain ⟨ea5, ec5, rfl, -⟩ := p2.lenc
    obtain ⟨la, lc, rfl, -⟩ := p3.lenc
    obtain ⟨fa5, fc5, rfl, -⟩ := p4.lenc
    subst hcs5
    have hb5' := below_alloc w5 (.cells #[.slice sa tb.shapes.length sc, .slice ea5 tb.ends.length ec5, .slice la tb.elses.length lc, .slice fa5 tb.floors.length fc5, .int .i64 tb.high] 38)
    have HB5 := Lib.hid (below_next HB3.out (below_next hb5 hb5'))
    have HMB5 := Lib.hid (MB_cells HMB3.out (below_next hb5 hb5'))
    have HR5 := Lib.hid (heap_alloc_new w5 (.cells #[.slice sa tb.shapes.length sc, .slice ea5 tb.ends.length ec5, .slice la tb.elses.length lc, .slice fa5 tb.floors.length fc5, .int .i64 tb.high] 38))
    have HQ5 := Lib.hid ((HP1.out.keeps (Keeps.all _ hb5')).mono (T := fun b => w3.heap.size ≤ b ∧ b < (w5.alloc (.cells #[.slice sa tb.shapes.length sc, .slice ea5 tb.ends.length ec5, .slice la tb.elses.length lc, .slice fa5 tb.floors.length fc5, .int .i64 tb.high] 38)).heap.size) fun b hb h => ⟨h, hb⟩)
    have r0 := heap_alloc_new w5 (.cells #[.slice none 0 0, .slice none 0 0, .slice none 0 0, .slice none 0 0, .int .i64 0] 38)
    have fr0 := row_free r0 0; have fr1 := row_free r0 1; have fr2 := row_free r0 2; have fr3 := row_free r0 3; have fr4 := row_free r0 4
    clear g0 g1 g2 g3 g4 g5 g6 g7
    have g0 := row_cell HMB5.out 0 rfl; have g1 := row_cell HMB5.out 1 rfl; have g2 := row_cell HMB5.out 2 rfl; have g3 := row_cell HMB5.out 3 rfl; have g4 := row_cell HMB5.out 4 rfl; have g5 := row_cell HMB5.out 5 rfl; have g6 := row_cell HMB5.out 6 rfl; have g7 := row_cell HMB5.out 7 rfl
    simp only [List.getElem_toArray, List.getElem_cons_zero, List.getElem_cons_succ] at g0 g1 g2 g3 g4 g5 g6 g7
    have t0 := row_cell HR5.out 0 rfl; have t1 := row_cell HR5.out 1 rfl; have t2 := row_cell HR5.out 2 rfl; have t3 := row_cell HR5.out 3 rfl; have t4 := row_cell HR5.out 4 rfl
    simp only [List.getElem_toArray, List.getElem_cons_zero, List.getElem_cons_succ] at t0 t1 t2 t3 t4
    clear r0 hb5 hb5' p1 p2 p3 p4 HFU HB3 HMB3 hX HP1
    by_cases he0 : xe = 0
    rotate_left
    · have hvb : (xe != 0) = true := by simpa using he0
      go_wp2
      go_quiet (fail)
      go_wp2
      go_ret
      exact ⟨rfl, below_next HB5.out (drewN_below _ _)⟩
    have hvb : (xe != 0) = false := by simp [he0]
    subst he0
    have HOK := Lib.hid (valF_ok HX.out)
    obtain ⟨fn, rfl⟩ : ∃ fn : Nat, f = fn := ⟨f.toNat, by have := HOK.out.2.1; omega⟩
    have hfn : fn < m.funs.length := by have := HOK.out.2.2.1; omega
    by_cases hp0 : pc < 0
    · have d2 : decide (pc < 0) = true := decide_eq_true hp0
      go_wp2
      go_quiet (fail)
      go_wp2
      go_ret
      exact ⟨rfl, below_next HB5.out (drewN_below _ _)⟩
    have d2 : decide (pc < 0) = false := decide_eq_false hp0
    by_cases hp1 : pc ≥ (tb.shapes.length : Int)
    · have d3 : decide (pc ≥ (tb.shapes.length : Int)) = true := decide_eq_true hp1
      go_wp2
      go_quiet (fail)
      go_wp2
      go_ret
      exact ⟨rfl, below_next HB5.out (drewN_below _ _)⟩
    have d3 : decide (pc ≥ (tb.shapes.length : Int)) = false := decide_eq_false hp1
    have HM5 := Lib.hid (HM.out.keeps (Keeps.all S HB5.out))
    obtain ⟨-, -, -, rf, -, -⟩ := RMod.parts HM5.out
    obtain ⟨fb, foff, cv, rfl, c0, c1, c2, hcv⟩ := RdFuns.at_ rf hfn
    obtain ⟨ca, cc, rfl, hcl⟩ := hcv.len
    have hfd : m.funs.getD fn funZ = m.funs[fn] := by rw [List.getD_eq_getElem?_getD, List.getElem?_eq_getElem hfn]; rfl
    obtain ⟨code, hcode⟩ : ∃ c, m.funs[fn].code = c := ⟨_, rfl⟩
    have HCODE : Hid ((m.funs.getD fn funZ).code = code) := Lib.hid (by rw [hfd, hcode])
    have HLEN : Hid (tb.shapes.length = code.length) := Lib.hid (by
      have h := HOK.out.2.2.2
      rw [Int.toNat_natCast] at h
      rw [← h.2, funV_len (gd_of HOK.out.1 HWF.out).ok h.1, HCODE.out])
    rw [hcode] at c2 hcv hcl
    have HCV := Lib.hid hcv
    have d4 : ((tb.shapes.length : Int) != (code.length : Int)) = false := by simp [HLEN.out]
    obtain ⟨pn, rfl⟩ : ∃ pn : Nat, pc = pn := ⟨pc.toNat, by omega⟩
    have hpn : pn < tb.shapes.length := by omega
    have hpn2 : pn < code.length := by have := HLEN.out; omega
    have hkc : code.length ≤ 2048 := by
      have := (gd_of HOK.out.1 HWF.out).fun_ (m.funs.getD fn funZ) (by rw [hfd]; exact List.getElem_mem _)
      rw [HCODE.out] at this
      exact this.1
    clear hcode hfd hcv rf c0 c1 hp0 hp1
    obtain ⟨sb0, so0, rfl, -⟩ : ∃ b o, sa = some ⟨b, o, none⟩ ∧ True := by
      obtain ⟨a, cap, e, -, -, h3⟩ := HQ5.out
      simp only [Value.slice.injEq] at e
      obtain ⟨b, off, ha, -⟩ := h3 0 (by rw [List.length_map]; omega)
      exact ⟨b, off, e.1.trans ha, trivial⟩
    obtain ⟨cb0, co0, rfl⟩ : ∃ b o, ca = some ⟨b, o, none⟩ := by
      obtain ⟨b, off, vl, e, -⟩ := Cd.at_ HCV.out (k := 0) (by omega)
      exact ⟨b, off, e⟩
    by_cases hz : pn = 0
    rotate_left
    have d5 : decide ((pn : Int) > 0) = true := decide_eq_true (by omega)
    have e1 : (1 : Int) ≤ pn := by omega
    obtain ⟨b, off, vl, e, x0, -⟩ := Cd.at_ HCV.out (k := pn - 1) (by omega)
    simp only [Option.some.injEq, Addr.mk.injEq, and_true] at e
    obtain ⟨rfl, rfl⟩ := e
    obtain ⟨op, hop⟩ : ∃ o, (code[pn - 1]'(by omega)).op = o := ⟨_, rfl⟩
    rw [hop] at x0
    have HOP := Lib.hid hop
    clear hop hz
    go_wp2_with fail
    go_quiet (fail)
    go_wp2_with fail
    refine (away _ op).mono ?_
    rintro e w6 ⟨rfl, rfl⟩
    by_cases haw : awayP op
    · rw [decide_eq_true haw]
      go_wp2
      go_ret
      exact ⟨rfl, below_next HB5.out (drewN_below _ _)⟩
    rw [decide_eq_false haw]
    have HAW : Hid (∀ x, 0 < pn → code[pn - 1]? = some x → ¬ awayP x.op) := Lib.hid (by
      intro x _ hx
      rw [List.getElem?_eq_getElem (by omega)] at hx
      simp only [Option.some.injEq] at hx
      rw [← hx, HOP.out]; exact haw)
    go_wp2_with fail
    clear x0 HOP haw d5 e1
    rotate_left
    have d5 : decide ((pn : Int) > 0) = false := decide_eq_false (by omega)
    have d5b : decide (0 < (pn : Int)) = false := decide_eq_false (by omega)
    have d5c : decide (0 < pn) = false := decide_eq_false (by omega)
    have HAW : Hid (∀ x, 0 < pn → code[pn - 1]? = some x → ¬ awayP x.op) := Lib.hid (by intro x h; omega)
    clear hz
    go_wp2_with fail
    go_quiet (fail)
    go_wp2_with fail
    all_goals
      have hbq := drewN_below (w5.alloc (.cells #[.slice (some ⟨sb0, so0, none⟩) tb.shapes.length sc, .slice ea5 tb.ends.length ec5, .slice la tb.elses.length lc, .slice fa5 tb.floors.length fc5, .int .i64 tb.high] 38)) nq
      have HBq := Lib.hid (below_next HB5.out hbq)
      have HMBq := Lib.hid (MB_cells HMB5.out hbq)
      have HRq := Lib.hid ((hbq.block _ (row_lt HR5.out)).trans HR5.out)
      have HQq := Lib.hid (HQ5.out.keeps (Keeps.all _ hbq))
      have HCVq := Lib.hid (CdS.keeps HCV.out (Keeps.all _ hbq) (fun _ h => h))
      clear g0 g1 g2 g3 g4 g5 g6 g7 t0 t1 t2 t3 t4 c2 hbq HMB5 HR5 HQ5 HCV HM5 HB5 fr0 fr1 fr2 fr3 fr4
      generalize (w5.alloc (.cells #[.slice (some ⟨sb0, so0, none⟩) tb.shapes.length sc, .slice ea5 tb.ends.length ec5, .slice la tb.elses.length lc, .slice fa5 tb.floors.length fc5, .int .i64 tb.high] 38)).drewN nq = wq at *
      have g0 := row_cell HMBq.out 0 rfl; have g1 := row_cell HMBq.out 1 rfl; have g2 := row_cell HMBq.out 2 rfl; have g3 := row_cell HMBq.out 3 rfl; have g4 := row_cell HMBq.out 4 rfl; have g5 := row_cell HMBq.out 5 rfl; have g6 := row_cell HMBq.out 6 rfl; have g7 := row_cell HMBq.out 7 rfl
      simp only [List.getElem_toArray, List.getElem_cons_zero, List.getElem_cons_succ] at g0 g1 g2 g3 g4 g5 g6 g7
      have hlens := lens_of HOK.out.1
      have HCP := Lib.hid (copyModule wq S (fun b hb => by have := HS.out b hb; have := HBq.out.size; omega) m _ (HM.out.keeps (Keeps.all S HBq.out)) hlens.t hlens.h hlens.g hlens.f hlens.d hlens.e hlens.fs (fun d hd => by
        obtain ⟨-, -, -, -, rd, -⟩ := RMod.parts HM.out
        obtain ⟨j, hj, rfl⟩ := List.getElem_of_mem hd
        obtain ⟨a, cc, -, -, -, hp⟩ := rd
        obtain ⟨b, off, cs, -, -, -, -, v, -, hr⟩ := hp j hj
        obtain ⟨_, _, _, _, h2, _⟩ := hr
        exact h2))
      clear hlens
      refine HCP.out.mono ?_
      rintro e w6 ⟨tv6, hv6, gv6, fv6, dv6, ev6, ps6, rfl, hb6, hps, hof, q1, q2, q3, q5, q6⟩
      obtain ⟨ta6, tc6, rfl, -⟩ := q1.len
      obtain ⟨ha6, hc6, rfl, -⟩ := q2.lenc
      obtain ⟨ga6, gc6, rfl, -⟩ := q3.len
      obtain ⟨da6, dc6, rfl, -⟩ := q5.len
      obtain ⟨ea6, ec6, rfl, -⟩ := q6.len
      obtain ⟨fa6, fc6, hfv⟩ := hof.max
      have hpl : ps6.length = m.funs.length := by rw [← hps, List.length_map]
      rw [hpl] at hfv
      subst hfv
      obtain ⟨gf, rfl⟩ : ∃ gf, fa6 = some ⟨gf, 0, none⟩ := by
        rcases hof.row.2 with ⟨h', h0⟩ | ⟨g', cap', cur, h', _⟩
        · omega
        · simp only [Value.slice.injEq] at h'
          exact ⟨g', h'.1⟩
      have hgl := (World.ownsRow.lt hof.row gf rfl)
      have hb7 := below_alloc w6 (.cells #[.slice ta6 m.types.length tc6, .slice ha6 m.hosts.length hc6, .slice ga6 m.globals.length gc6, .int .i64 m.first, .int .i64 m.most, .slice (some ⟨gf, 0, none⟩) m.funs.length fc6, .slice da6 m.datas.length dc6, .slice ea6 m.exps.length ec6] 29)
      have HM7 := Lib.hid (heap_alloc_new w6 (.cells #[.slice ta6 m.types.length tc6, .slice ha6 m.hosts.length hc6, .slice ga6 m.globals.length gc6, .int .i64 m.first, .int .i64 m.most, .slice (some ⟨gf, 0, none⟩) m.funs.length fc6, .slice da6 m.datas.length dc6, .slice ea6 m.exps.length ec6] 29))
      have HB67 := Lib.hid hb7
      have HB7 := Lib.hid (below_next (below_next HBq.out hb6) hb7)
      have HT7 := Lib.hid ((hb7.block _ (Nat.lt_of_lt_of_le (row_lt HRq.out) hb6.size)).trans ((hb6.block _ (row_lt HRq.out)).trans HRq.out))
      have HQ7 := Lib.hid ((HQq.out.keeps (Keeps.all _ hb6)).keeps (Keeps.all _ hb7))
      have HCV7 := Lib.hid (CdS.keeps (CdS.keeps HCVq.out (Keeps.all _ hb6) (fun _ h => h)) (Keeps.all _ hb7) (fun _ h => h))
      have HMC := Lib.hid (And.intro hps (And.intro hof (And.intro q1 (And.intro q2 (And.intro q3 (And.intro q5 q6))))))
      have HTB := Lib.hid (And.intro (row_lt HRq.out) hb6.size)
      have hgq : wq.heap.size ≤ gf ∧ gf < w6.heap.size := hgl
      have hwq : w.heap.size ≤ wq.heap.size := HBq.out.size
      have r0 := heap_alloc_new w6 (.cells #[.slice none 0 0, .slice none 0 0, .slice none 0 0, .int .i64 0, .int .i64 0, .slice none 0 0, .slice none 0 0, .slice none 0 0] 29)
      have fr0 := row_free r0 0; have fr1 := row_free r0 1; have fr2 := row_free r0 2; have fr3 := row_free r0 3; have fr4 := row_free r0 4; have fr5 := row_free r0 5; have fr6 := row_free r0 6; have fr7 := row_free r0 7
      clear r0 hps hof q1 q2 q3 q5 q6 hpl hgl hb7 hb6 HCP HCVq HQq HRq HMBq g0 g1 g2 g3 g4 g5 g6 g7
      go_wp2
      clear fr0 fr1 fr2 fr3 fr4 fr5 fr6 fr7
      generalize hw7 : w6.alloc (.cells #[.slice ta6 m.types.length tc6, .slice ha6 m.hosts.length hc6, .slice ga6 m.globals.length gc6, .int .i64 m.first, .int .i64 m.most, .slice (some ⟨gf, 0, none⟩) m.funs.length fc6, .slice da6 m.datas.length dc6, .slice ea6 m.exps.length ec6] 29) = w7 at *
      clear hw7
      go_loopw [13, 14, 15] (fun v13 v14 i wr => ∃ (k : Nat) (ps : List (InsD × Value)) (ss : List ByteArray), k ≤ code.length ∧ i = .int .i64 k ∧ Hid (ps.map Prod.fst = partA nopI pn k code) ∧ Hid (ss = partA (tb.shapes.getD pn tE) pn k tb.shapes) ∧ Hid (Nst S w7 wr v13 v14 ps ss)) (fun _ _ i _ => code.length - (intOf i).toNat)
      case atStart => exact ⟨0, [], [], by omega, rfl, Lib.hid (by simp [partA]), Lib.hid (by simp [partA]), Lib.hid (Nst.start (fun b hb => by have := HS.out b hb; have := HB7.out.size; omega))⟩
      case round =>
        obtain ⟨k, ps, ss, hk, rfl, HP, HSS, HN⟩ := hrel
        have hpl : ps.length ≤ k + 1 := by
          rw [← List.length_map (f := Prod.fst), HP.out]; exact part_len hk
        have hsl : ss.length ≤ k + 1 := by
          rw [HSS.out]; exact part_len (by rw [HLEN.out]; exact hk)
        obtain ⟨oa, oc, rfl, -⟩ := own_slice HN.out.row
        obtain ⟨ob, od, rfl, -⟩ := own_slice HN.out.txt
        by_cases hlt : k < code.length
        · have HLT2 : Hid (k < tb.shapes.length) := Lib.hid (by rw [HLEN.out]; exact hlt)
          have hlt2 := HLT2.out
          obtain ⟨x, hx⟩ : ∃ x, code[k] = x := ⟨_, rfl⟩
          obtain ⟨s, hs⟩ : ∃ s, tb.shapes[k] = s := ⟨_, rfl⟩
          have HXE := Lib.hid hx; have HSE := Lib.hid hs
          obtain ⟨b, off, vl, e, y0, y1, y2, hrl⟩ := Cd.at_ HCV7.out hlt
          simp only [Option.some.injEq, Addr.mk.injEq, and_true] at e
          obtain ⟨rfl, rfl⟩ := e
          rw [hx] at hrl y0 y1
          obtain ⟨al, cl, rfl, _⟩ := hrl.lenc
          obtain ⟨op, xa, xl⟩ := x
          simp only at hrl y0 y1 y2
          have HXC : Hid (∀ wx, Below w7.heap.size w7 wx → wx.cell? ⟨cb0, co0 + k * 3, none⟩ = some (.int .u8 op) ∧ wx.cell? ⟨cb0, co0 + k * 3 + 1, none⟩ = some (.int .i64 xa) ∧ wx.cell? ⟨cb0, co0 + k * 3 + 2, none⟩ = some (.slice al xl.length cl) ∧ Hid (RdI .i64 S wx (.slice al xl.length cl) xl)) := Lib.hid (fun wx hb =>
            ⟨(Keeps.all (fun _ => True) hb).cell y0 trivial, (Keeps.all (fun _ => True) hb).cell y1 trivial, (Keeps.all (fun _ => True) hb).cell y2 trivial, Lib.hid (hrl.keeps (Keeps.all _ hb))⟩)
          have HSC : Hid (∀ wx, Below w7.heap.size w7 wx → wx.cell? ⟨sb0, so0 + k, none⟩ = some (.string s)) := Lib.hid (fun wx hb => by
            obtain ⟨a, cap, e, -, -, h3⟩ := HQ7.out
            simp only [Value.slice.injEq] at e
            obtain ⟨b, off, ha, -, hc⟩ := h3 k (by rw [List.length_map]; exact hlt2)
            have ha' := e.1.trans ha
            simp only [Option.some.injEq, Addr.mk.injEq, and_true] at ha'
            obtain ⟨rfl, rfl⟩ := ha'
            simp only [List.getElem_map] at hc
            rw [hs] at hc
            exact (Keeps.all (fun _ => True) hb).cell hc trivial)
          clear hx hs hrl y0 y1 y2
          by_cases hkp : k = pn
          · have HKP := Lib.hid hkp
            have e6 : ((k : Int) == (pn : Int)) = true := by simp [hkp]
            clear hkp
            have hB17 : w7.heap.size ≤ (wr.alloc (.cells #[.int .u8 1, .int .i64 0, .slice none 0 0] 43)).heap.size := by have := HN.out.bel.size; rw [World.size_alloc]; omega
            have HA17 := Lib.hid (HN.out.on (below_alloc wr (.cells #[.int .u8 1, .int .i64 0, .slice none 0 0] 43)))
            have HX17 : Hid (RdI .i64 S (wr.alloc (.cells #[.int .u8 1, .int .i64 0, .slice none 0 0] 43)) (.slice none 0 0) (nopI : InsD).l) := Lib.hid (RdI.nil ..)
            go_wp2_with (at_builtin; refine wpList_append_kept _ rfl _ _ 44 rfl w7.heap.size 43 i0 (.agg #[.int .u8 0, .int .i64 0, .slice none 0 0]) 3 40 Tryd.underlying44 hi hz0 hz1 hz2 rfl (by decide) _ ps.length (insC ps) rfl HA17.out.row ⟨wr.heap.size, 0, none⟩ 1 1 [.int .u8 1, .int .i64 0, .slice none 0 0] rfl rfl (cells3_new _ _ _ _ _) (by simp [Value.oneCell']) (by unfold maxLen; omega) (by omega) hB17 ?_)
            intro v17 w17 ho17 hk17 hf17
            have HN17 := Lib.hid (HA17.out.addI (x := nopI) ho17 hk17 (fun g hg => by have := hf17 g hg; rw [World.size_alloc]; exact this) HX17.out)
            obtain ⟨ps17, hps17⟩ : ∃ q, ps ++ [((nopI : InsD), (.slice none 0 0 : Value))] = q := ⟨_, rfl⟩
            rw [hps17] at HN17
            have hpl17 : ps17.length ≤ ps.length + 1 := by rw [← hps17]; simp
            have HPS17 := Lib.hid hps17
            obtain ⟨oa17, oc17, rfl, -⟩ := own_slice HN17.out.row
            clear ho17 hk17 hf17 HA17 hB17 HX17 hps17
            have ht := (HN17.out.bel.block _ (row_lt HT7.out)).trans HT7.out
            have t0 := row_cell ht 0 rfl
            simp only [List.getElem_toArray, List.getElem_cons_zero, List.getElem_cons_succ] at t0
            have s0 := HSC.out w17 HN17.out.bel
            obtain ⟨x0, x1, x2, HRL⟩ := HXC.out w17 HN17.out.bel
            clear ht
            have hB18 : w7.heap.size ≤ (w17.alloc (.cells #[.string s] 9)).heap.size := by have := HN17.out.bel.size; rw [World.size_alloc]; omega
            have HA18 := Lib.hid (HN17.out.on (below_alloc w17 (.cells #[.string s] 9)))
            go_wp2_with (at_builtin; refine wpList_append_kept _ rfl _ _ 36 rfl w7.heap.size 9 i1 (.string ⟨#[]⟩) 1 16 Tryd.underlying36 hj hy0 hy1 hy2 rfl (by decide) _ ss.length (texts ss) rfl HA18.out.txt ⟨w17.heap.size, 0, none⟩ 1 1 [.string s] rfl rfl (cells1_new _ _ _) (by simp [Value.oneCell']) (by unfold maxLen; omega) (by omega) hB18 ?_)
            intro v18 w18 ho18 hk18 hf18
            have HN18 := Lib.hid (HA18.out.addS (s := s) ho18 hk18 (fun g hg => by have := hf18 g hg; rw [World.size_alloc]; exact this))
            obtain ⟨ss18, hss18⟩ : ∃ q, ss ++ [(s : ByteArray)] = q := ⟨_, rfl⟩
            rw [hss18] at HN18
            have hsl18 : ss18.length ≤ ss.length + 1 := by rw [← hss18]; simp
            have HSS18 := Lib.hid hss18
            obtain ⟨ob18, od18, rfl, -⟩ := own_slice HN18.out.txt
            clear ho18 hk18 hf18 HA18 hB18 hss18
            clear t0 s0 x0 x1 x2 HRL
            have ht := (HN18.out.bel.block _ (row_lt HT7.out)).trans HT7.out
            have t0 := row_cell ht 0 rfl
            simp only [List.getElem_toArray, List.getElem_cons_zero, List.getElem_cons_succ] at t0
            have s0 := HSC.out w18 HN18.out.bel
            obtain ⟨x0, x1, x2, HRL⟩ := HXC.out w18 HN18.out.bel
            clear ht
            have hB19 : w7.heap.size ≤ (w18.alloc (.cells #[.int .u8 op, .int .i64 xa, .slice al xl.length cl] 43)).heap.size := by have := HN18.out.bel.size; rw [World.size_alloc]; omega
            have HA19 := Lib.hid (HN18.out.on (below_alloc w18 (.cells #[.int .u8 op, .int .i64 xa, .slice al xl.length cl] 43)))
            have HX19 : Hid (RdI .i64 S (w18.alloc (.cells #[.int .u8 op, .int .i64 xa, .slice al xl.length cl] 43)) (.slice al xl.length cl) (⟨op, xa, xl⟩ : InsD).l) := Lib.hid (HRL.out.keeps (Keeps.all _ (below_alloc _ _)))
            go_wp2_with (at_builtin; refine wpList_append_kept _ rfl _ _ 44 rfl w7.heap.size 43 i0 (.agg #[.int .u8 0, .int .i64 0, .slice none 0 0]) 3 40 Tryd.underlying44 hi hz0 hz1 hz2 rfl (by decide) _ ps17.length (insC ps17) rfl HA19.out.row ⟨w18.heap.size, 0, none⟩ 1 1 [.int .u8 op, .int .i64 xa, .slice al xl.length cl] rfl rfl (cells3_new _ _ _ _ _) (by simp [Value.oneCell']) (by unfold maxLen; omega) (by omega) hB19 ?_)
            intro v19 w19 ho19 hk19 hf19
            have HN19 := Lib.hid (HA19.out.addI (x := ⟨op, xa, xl⟩) ho19 hk19 (fun g hg => by have := hf19 g hg; rw [World.size_alloc]; exact this) HX19.out)
            obtain ⟨ps19, hps19⟩ : ∃ q, ps17 ++ [((⟨op, xa, xl⟩ : InsD), (.slice al xl.length cl : Value))] = q := ⟨_, rfl⟩
            rw [hps19] at HN19
            have hpl19 : ps19.length ≤ ps17.length + 1 := by rw [← hps19]; simp
            have HPS19 := Lib.hid hps19
            obtain ⟨oa19, oc19, rfl, -⟩ := own_slice HN19.out.row
            clear ho19 hk19 hf19 HA19 hB19 HX19 hps19
            clear t0 s0 x0 x1 x2 HRL
            have ht := (HN19.out.bel.block _ (row_lt HT7.out)).trans HT7.out
            have t0 := row_cell ht 0 rfl
            simp only [List.getElem_toArray, List.getElem_cons_zero, List.getElem_cons_succ] at t0
            have s0 := HSC.out w19 HN19.out.bel
            obtain ⟨x0, x1, x2, HRL⟩ := HXC.out w19 HN19.out.bel
            clear ht
            have hB20 : w7.heap.size ≤ (w19.alloc (.cells #[.string s] 9)).heap.size := by have := HN19.out.bel.size; rw [World.size_alloc]; omega
            have HA20 := Lib.hid (HN19.out.on (below_alloc w19 (.cells #[.string s] 9)))
            go_wp2_with (at_builtin; refine wpList_append_kept _ rfl _ _ 36 rfl w7.heap.size 9 i1 (.string ⟨#[]⟩) 1 16 Tryd.underlying36 hj hy0 hy1 hy2 rfl (by decide) _ ss18.length (texts ss18) rfl HA20.out.txt ⟨w19.heap.size, 0, none⟩ 1 1 [.string s] rfl rfl (cells1_new _ _ _) (by simp [Value.oneCell']) (by unfold maxLen; omega) (by omega) hB20 ?_)
            intro v20 w20 ho20 hk20 hf20
            have HN20 := Lib.hid (HA20.out.addS (s := s) ho20 hk20 (fun g hg => by have := hf20 g hg; rw [World.size_alloc]; exact this))
            obtain ⟨ss20, hss20⟩ : ∃ q, ss18 ++ [(s : ByteArray)] = q := ⟨_, rfl⟩
            rw [hss20] at HN20
            have hsl20 : ss20.length ≤ ss18.length + 1 := by rw [← hss20]; simp
            have HSS20 := Lib.hid hss20
            obtain ⟨ob20, od20, rfl, -⟩ := own_slice HN20.out.txt
            clear ho20 hk20 hf20 HA20 hB20 hss20
            have HPN : Hid (ps19.map Prod.fst = partA nopI pn (k + 1) code) := Lib.hid (by
              obtain rfl := HKP.out
              rw [part_at hlt, ← HP.out, ← HPS19.out, ← HPS17.out, HXE.out]; simp)
            have HSN : Hid (ss20 = partA (tb.shapes.getD pn tE) pn (k + 1) tb.shapes) := Lib.hid (by
              obtain rfl := HKP.out
              rw [part_at hlt2, ← HSS.out, ← HSS20.out, ← HSS18.out, List.getD_eq_getElem?_getD, List.getElem?_eq_getElem hlt2, HSE.out]; rfl)
            clear t0 s0 x0 x1 x2
            go_wp2
            go_roundw
            case rel => exact ⟨k + 1, ps19, ss20, by omega, by go_num, HPN, HSN, HN20⟩
            case measure => simp [intOf]; omega
          · have HKP := Lib.hid hkp
            have e6 : ((k : Int) == (pn : Int)) = false := by simp; omega
            clear hkp
            have ht := (HN.out.bel.block _ (row_lt HT7.out)).trans HT7.out
            have t0 := row_cell ht 0 rfl
            simp only [List.getElem_toArray, List.getElem_cons_zero, List.getElem_cons_succ] at t0
            have s0 := HSC.out wr HN.out.bel
            obtain ⟨x0, x1, x2, HRL⟩ := HXC.out wr HN.out.bel
            clear ht
            have hB19 : w7.heap.size ≤ (wr.alloc (.cells #[.int .u8 op, .int .i64 xa, .slice al xl.length cl] 43)).heap.size := by have := HN.out.bel.size; rw [World.size_alloc]; omega
            have HA19 := Lib.hid (HN.out.on (below_alloc wr (.cells #[.int .u8 op, .int .i64 xa, .slice al xl.length cl] 43)))
            have HX19 : Hid (RdI .i64 S (wr.alloc (.cells #[.int .u8 op, .int .i64 xa, .slice al xl.length cl] 43)) (.slice al xl.length cl) (⟨op, xa, xl⟩ : InsD).l) := Lib.hid (HRL.out.keeps (Keeps.all _ (below_alloc _ _)))
            go_wp2_with (at_builtin; refine wpList_append_kept _ rfl _ _ 44 rfl w7.heap.size 43 i0 (.agg #[.int .u8 0, .int .i64 0, .slice none 0 0]) 3 40 Tryd.underlying44 hi hz0 hz1 hz2 rfl (by decide) _ ps.length (insC ps) rfl HA19.out.row ⟨wr.heap.size, 0, none⟩ 1 1 [.int .u8 op, .int .i64 xa, .slice al xl.length cl] rfl rfl (cells3_new _ _ _ _ _) (by simp [Value.oneCell']) (by unfold maxLen; omega) (by omega) hB19 ?_)
            intro v19 w19 ho19 hk19 hf19
            have HN19 := Lib.hid (HA19.out.addI (x := ⟨op, xa, xl⟩) ho19 hk19 (fun g hg => by have := hf19 g hg; rw [World.size_alloc]; exact this) HX19.out)
            obtain ⟨ps19, hps19⟩ : ∃ q, ps ++ [((⟨op, xa, xl⟩ : InsD), (.slice al xl.length cl : Value))] = q := ⟨_, rfl⟩
            rw [hps19] at HN19
            have hpl19 : ps19.length ≤ ps.length + 1 := by rw [← hps19]; simp
            have HPS19 := Lib.hid hps19
            obtain ⟨oa19, oc19, rfl, -⟩ := own_slice HN19.out.row
            clear ho19 hk19 hf19 HA19 hB19 HX19 hps19
            clear t0 s0 x0 x1 x2 HRL
            have ht := (HN19.out.bel.block _ (row_lt HT7.out)).trans HT7.out
            have t0 := row_cell ht 0 rfl
            simp only [List.getElem_toArray, List.getElem_cons_zero, List.getElem_cons_succ] at t0
            have s0 := HSC.out w19 HN19.out.bel
            obtain ⟨x0, x1, x2, HRL⟩ := HXC.out w19 HN19.out.bel
            clear ht
            have hB20 : w7.heap.size ≤ (w19.alloc (.cells #[.string s] 9)).heap.size := by have := HN19.out.bel.size; rw [World.size_alloc]; omega
            have HA20 := Lib.hid (HN19.out.on (below_alloc w19 (.cells #[.string s] 9)))
            go_wp2_with (at_builtin; refine wpList_append_kept _ rfl _ _ 36 rfl w7.heap.size 9 i1 (.string ⟨#[]⟩) 1 16 Tryd.underlying36 hj hy0 hy1 hy2 rfl (by decide) _ ss.length (texts ss) rfl HA20.out.txt ⟨w19.heap.size, 0, none⟩ 1 1 [.string s] rfl rfl (cells1_new _ _ _) (by simp [Value.oneCell']) (by unfold maxLen; omega) (by omega) hB20 ?_)
            intro v20 w20 ho20 hk20 hf20
            have HN20 := Lib.hid (HA20.out.addS (s := s) ho20 hk20 (fun g hg => by have := hf20 g hg; rw [World.size_alloc]; exact this))
            obtain ⟨ss20, hss20⟩ : ∃ q, ss ++ [(s : ByteArray)] = q := ⟨_, rfl⟩
            rw [hss20] at HN20
            have hsl20 : ss20.length ≤ ss.length + 1 := by rw [← hss20]; simp
            have HSS20 := Lib.hid hss20
            obtain ⟨ob20, od20, rfl, -⟩ := own_slice HN20.out.txt
            clear ho20 hk20 hf20 HA20 hB20 hss20
            have HPN : Hid (ps19.map Prod.fst = partA nopI pn (k + 1) code) := Lib.hid (by
              rw [part_next hlt HKP.out, ← HP.out, ← HPS19.out, HXE.out]; simp)
            have HSN : Hid (ss20 = partA (tb.shapes.getD pn tE) pn (k + 1) tb.shapes) := Lib.hid (by
              rw [part_next hlt2 HKP.out, ← HSS.out, ← HSS20.out, HSE.out])
            clear t0 s0 x0 x1 x2
            go_wp2
            go_roundw
            case rel => exact ⟨k + 1, ps19, ss20, by omega, by go_num, HPN, HSN, HN20⟩
            case measure => simp [intOf]; omega
        · obtain rfl : k = code.length := by omega
          obtain ⟨hps, hof, q1, q2, q3, q5, q6⟩ := HMC.out
          have hbr := HN.out.bel
          have hmr := (hbr.block _ (row_lt HM7.out)).trans HM7.out
          have hszr := hbr.size
          have hsz7 := HB67.out.size
          have hofr := OwnG.on deepF (OwnG.on deepF hof HB67.out) hbr
          obtain ⟨⟨za, zn, zc, k0, k1, k2⟩, kf, -, cur, fr, hrow⟩ := ownF_at hofr hps (by omega) hfn
          have kf2 := kf (fn * 3 + 2)
          have kk1 := (Keeps.refl (fun b => b ≠ gf) wr).setCell (a := ⟨gf, fn * 3 + 2, none⟩) (by simp) (.slice oa ps.length oc)
          have hmx := row_lt HM7.out
          have hm9 := (kk1.block _ (row_lt hmr) (by omega)).trans hmr
          have ht9 := (kk1.block _ (Nat.lt_of_lt_of_le (row_lt HT7.out) hszr) (by have := row_lt HT7.out; have := HTB.out; omega)).trans ((hbr.block _ (row_lt HT7.out)).trans HT7.out)
          have HMS := Lib.hid hm9; have HTS := Lib.hid ht9
          have HCE : Hid (ps.map Prod.fst = nopL (m.funs.getD fn funZ).code pn) := Lib.hid (by rw [HP.out, part_end hpn2, HCODE.out]; rfl)
          have hrm := nop_mem (gn := fn) (L := fun b => w7.heap.size ≤ b ∨ S b) (below_next HB67.out hbr) hof hps (by omega) hfn q1 q2 q3 q5 q6 (HN.out.cd (by omega)) (fun b hb => hb.elim (fun h => by omega) (fun h => by have := HS.out b h; omega))
          rw [HCE.out] at hrm
          have HRM : Hid (RMod (· < (wr.setCell ⟨gf, fn * 3 + 2, none⟩ (.slice oa ps.length oc)).heap.size) (wr.setCell ⟨gf, fn * 3 + 2, none⟩ (.slice oa ps.length oc)) _ (nopM m fn pn)) := Lib.hid hrm
          have HBS := Lib.hid ((below_next HB7.out hbr).setCell (p := ⟨gf, fn * 3 + 2, none⟩) (by show w.heap.size ≤ gf; omega) (.slice oa ps.length oc))
          have HWS := Lib.hid (own_keeps HN.out.txt kk1 (fun b hb e => by have := (HN.out.txt.lt b hb).1; omega))
          have y5 := row_cell hmr 5 rfl
          have g0 := row_cell hm9 0 rfl; have g1 := row_cell hm9 1 rfl; have g2 := row_cell hm9 2 rfl; have g3 := row_cell hm9 3 rfl; have g4 := row_cell hm9 4 rfl; have g5 := row_cell hm9 5 rfl; have g6 := row_cell hm9 6 rfl; have g7 := row_cell hm9 7 rfl
          simp only [List.getElem_toArray, List.getElem_cons_zero, List.getElem_cons_succ] at g0 g1 g2 g3 g4 g5 g6 g7 y5
          have HCK := Lib.hid (mod_Check (wr.setCell ⟨gf, fn * 3 + 2, none⟩ (.slice oa ps.length oc)) (· < (wr.setCell ⟨gf, fn * 3 + 2, none⟩ (.slice oa ps.length oc)).heap.size) (fun b h => h) (nopM m fn pn) _ HRM.out (sm_nop HSM.out hfn) (wf_nop HWF.out hfn) (HT.out.bel HBS.out))
          have hsl2 : ss.length ≤ 2049 := by omega
          clear hps hof q1 q2 q3 q5 q6 hbr hmr hofr kk1 hm9 ht9 hrm hrow kf k0 k1 hszr hsz7 hmx hpl hsl
          go_wp2_with fail
          generalize wr.setCell ⟨gf, fn * 3 + 2, none⟩ (.slice oa ps.length oc) = wS at *
          refine HCK.out.mono ?_
          obtain ⟨ce, hce⟩ : ∃ e, (encM (nopM m fn pn)).2 = e := ⟨_, rfl⟩
          rw [hce]
          have HNE := Lib.hid hce
          rintro e w11 ⟨rfl, hb11⟩
          have HB11 := Lib.hid (below_next HBS.out hb11)
          by_cases hce0 : ce = 0
          rotate_left
          · have e7 : (ce != 0) = true := by simpa using hce0
            clear hce
            go_wp2
            go_ret
            exact ⟨rfl, HB11.out⟩
          have e7 : (ce != 0) = false := by simp [hce0]
          subst hce0
          have HM11 := Lib.hid (MB_cells HMS.out hb11)
          have HT11 := Lib.hid ((hb11.block _ (row_lt HTS.out)).trans HTS.out)
          have HW11 := Lib.hid (own_below HWS.out hb11)
          have HRM11 := Lib.hid (HRM.out.keeps (Keeps.all _ hb11))
          have HFN := Lib.hid (val_Function w11 (· < wS.heap.size) (fun b hb => Nat.lt_of_lt_of_le hb hb11.size) (nopM m fn pn) _ HRM11.out (sm_nop HSM.out hfn) (wf_nop HWF.out hfn) (HT.out.bel HB11.out) fn)
          have hln := law_nop (m := m) (g := fn) (k := pn) (gd_of HOK.out.1 HWF.out).ok hfn (by have h := HOK.out.2.2.2.1; rw [Int.toNat_natCast] at h; exact h) (by rw [HCODE.out]; exact hpn2) (by rw [HCODE.out]; exact HAW.out)
          have htb : (funV m fn).1 = tb := by have h := HOK.out.2.2.2.2; rw [Int.toNat_natCast] at h; exact h
          rw [htb] at hln
          have HLN := Lib.hid hln
          have hvg : valF (nopM m fn pn) fn = funV (nopM m fn pn) fn := valF_good hce (by rw [nop_mlen]; exact hfn)
          have HVG := Lib.hid hvg
          clear g0 g1 g2 g3 g4 g5 g6 g7 hb11 hce hln htb hvg k2 kf2 y5
          have g0 := row_cell HM11.out 0 rfl; have g1 := row_cell HM11.out 1 rfl; have g2 := row_cell HM11.out 2 rfl; have g3 := row_cell HM11.out 3 rfl; have g4 := row_cell HM11.out 4 rfl; have g5 := row_cell HM11.out 5 rfl; have g6 := row_cell HM11.out 6 rfl; have g7 := row_cell HM11.out 7 rfl
          simp only [List.getElem_toArray, List.getElem_cons_zero, List.getElem_cons_succ] at g0 g1 g2 g3 g4 g5 g6 g7
          go_wp2_with fail
          refine HFN.out.mono ?_
          rintro e w12 ⟨cs12, rfl, hrt, hb12⟩
          rw [HVG.out] at hrt ⊢
          obtain ⟨L1, L2, L3⟩ := HLN.out
          obtain ⟨⟨ub, ue, up⟩, hU⟩ : ∃ X, funV (nopM m fn pn) fn = X := ⟨_, rfl⟩
          rw [hU] at hrt L1 L2 L3 ⊢
          simp only at hrt L1 L2 L3 ⊢
          subst L1
          have HL := Lib.hid (And.intro L2 L3)
          obtain ⟨svb, evb, lvb, fvb, hcsb, p1, p2, p3, p4⟩ := hrt
          have HP1 := Lib.hid p1
          obtain ⟨sb, sd, hsv, -⟩ := p1.lenc
          rw [List.length_map] at hsv
          subst hsv
          obtain ⟨eb5, ed5, rfl, -⟩ := p2.lenc
          obtain ⟨lb, ld, rfl, -⟩ := p3.lenc
          obtain ⟨fb5, fd5, rfl, -⟩ := p4.lenc
          subst hcsb
          have hba := below_alloc w12 (.cells #[.slice sb ub.shapes.length sd, .slice eb5 ub.ends.length ed5, .slice lb ub.elses.length ld, .slice fb5 ub.floors.length fd5, .int .i64 ub.high] 38)
          have hbb := below_next hb12 hba
          have HB13 := Lib.hid (below_next HB11.out hbb)
          have hu13 := heap_alloc_new w12 (.cells #[.slice sb ub.shapes.length sd, .slice eb5 ub.ends.length ed5, .slice lb ub.elses.length ld, .slice fb5 ub.floors.length fd5, .int .i64 ub.high] 38)
          have ht13 := (hbb.block _ (row_lt HT11.out)).trans HT11.out
          have HW13 := Lib.hid (RdV.of_own (own_below HW11.out hbb) (by simp) (by omega))
          have HP13 := Lib.hid (HP1.out.keeps (Keeps.all _ hba))
          have u0 := row_cell hu13 0 rfl; have u4 := row_cell hu13 4 rfl; have t4 := row_cell ht13 4 rfl
          simp only [List.getElem_toArray, List.getElem_cons_zero, List.getElem_cons_succ] at u0 u4 t4
          have e8 : (ub.high == tb.high) = true := by simp [L3]
          have r0 := heap_alloc_new w12 (.cells #[.slice none 0 0, .slice none 0 0, .slice none 0 0, .slice none 0 0, .int .i64 0] 38)
          have fr0 := row_free r0 0; have fr1 := row_free r0 1; have fr2 := row_free r0 2; have fr3 := row_free r0 3; have fr4 := row_free r0 4
          have HEQ := Lib.hid (eqTexts (w12.alloc (.cells #[.slice sb ub.shapes.length sd, .slice eb5 ub.ends.length ed5, .slice lb ub.elses.length ld, .slice fb5 ub.floors.length fd5, .int .i64 ub.high] 38)) _ _ _ _ ub.shapes ss HP13.out HW13.out)
          have HSQ : Hid (decide (ub.shapes = ss) = true) := Lib.hid (decide_eq_true (by rw [L2, HSS.out, ← HLEN.out, part_end hpn]; rfl))
          clear p1 p2 p3 p4 hba hbb hb12 hu13 ht13 r0 L2 L3 hU HFN g0 g1 g2 g3 g4 g5 g6 g7
          go_wp2_with fail
          refine HEQ.out.mono ?_
          rw [HSQ.out]
          rintro e w14 ⟨rfl, n14, rfl⟩
          go_wp2
          go_ret
          exact ⟨rfl, below_next HB13.out (drewN_below _ _)⟩
end Go.Proofs.YtebegkgechadlaaDoor
