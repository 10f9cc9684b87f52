/- InstanceBytes: the walk. -/
import Derived.Test.YtfhkjahjenpbgaaDoorMWo
import Derived.Test.YtfhkjahjenpbgaaDoorSizeX
namespace Go.Proofs.YtfhkjahjenpbgaaDoor
open Go Go.RowKit
set_option linter.unusedSimpArgs false

set_option maxRecDepth 100000 in
set_option maxHeartbeats 6400000 in
theorem law_instanceBytes (w : World) (S : Nat → Prop) (hS : ∀ b, S b → b < w.heap.size) (m : ModD) (cs : List Value) (hm : RMod S w cs m) (sm : SmM m) (wf : WfM m) (htb : Tb w) (name : ByteArray) (T : Nat → Prop) (vv : Value) (vs : List Int) (hr : RdI .u64 T w vv vs) (h0 : ∀ x ∈ vs, 0 ≤ x) :
    Calls Tryd.prog 3 #[.agg cs.toArray, .string name, vv] w fun r w' => r = .returned (.bool true) ∧ Below w.heap.size w w' := by
  have hm0 := hm
  obtain ⟨tv, hv, gv, fv, dv, ev, rfl, r1, r2, r3, r4, r5, r6⟩ := hm
  obtain ⟨ta, tc, rfl, tl⟩ := r1.len
  obtain ⟨ha, hc, rfl, hl⟩ := r2.len
  obtain ⟨ga, gc, rfl, gl⟩ := r3.len
  obtain ⟨fa, fc, rfl, fl⟩ := r4.len
  obtain ⟨da, dc, rfl, dl⟩ := r5.len
  obtain ⟨ea, ec, rfl, el⟩ := r6.len
  obtain ⟨va, vc, rfl, -⟩ := hr.lenc
  have hba := below_alloc w (.cells #[.slice ta m.types.length tc, .slice ha m.hosts.length hc, .slice ga m.globals.length gc, .int .i64 m.first, .int .i64 m.most, .slice fa m.funs.length fc, .slice da m.datas.length dc, .slice ea m.exps.length ec] 29)
  have hmb := heap_alloc_new w (.cells #[.slice ta m.types.length tc, .slice ha m.hosts.length hc, .slice ga m.globals.length gc, .int .i64 m.first, .int .i64 m.most, .slice fa m.funs.length fc, .slice da m.datas.length dc, .slice ea m.exps.length ec] 29)
  have HW := Lib.hid (law_works21 (w.alloc (.cells #[.slice ta m.types.length tc, .slice ha m.hosts.length hc, .slice ga m.globals.length gc, .int .i64 m.first, .int .i64 m.most, .slice fa m.funs.length fc, .slice da m.datas.length dc, .slice ea m.exps.length ec] 29)) (htb.bel hba))
  have HM := Lib.hid hm0; have HMB := Lib.hid hmb; have HB := Lib.hid hba; have HT := Lib.hid htb; have HS := Lib.hid hS; have HSM := Lib.hid sm; have HWF := Lib.hid wf; have HR := Lib.hid hr; have HN0 := Lib.hid h0
  clear hm0 r1 r2 r3 r4 r5 r6 hba hmb htb hS sm wf hr h0
  go_enter Tryd.func3, Tryd.ntmps3
  go_wp2_with fail
  refine HW.out.mono ?_
  rintro e w2 ⟨rfl, hb2⟩
  have HB2 := Lib.hid (below_next HB.out hb2)
  have HMB2 := Lib.hid (MB_cells HMB.out hb2)
  have g0 := row_cell HMB2.out 0 rfl; have g1 := row_cell HMB2.out 1 rfl; have g2 := row_cell HMB2.out 2 rfl; have g3 := row_cell HMB2.out 3 rfl; have g4 := row_cell HMB2.out 4 rfl; have g5 := row_cell HMB2.out 5 rfl; have g6 := row_cell HMB2.out 6 rfl; have g7 := row_cell HMB2.out 7 rfl
  simp only [List.getElem_toArray, List.getElem_cons_zero, List.getElem_cons_succ] at g0 g1 g2 g3 g4 g5 g6 g7
  have HSZ := Lib.hid (sizeModX w2 S _ m (HM.out.keeps (Keeps.all S HB2.out)) HSM.out)
  clear HW hb2 HB HMB
  go_wp2_with fail
  refine HSZ.out.mono ?_
  rintro e w3 ⟨z, rfl, hb3, -⟩
  have HB3 := Lib.hid (below_next HB2.out hb3)
  have HMB3 := Lib.hid (MB_cells HMB2.out hb3)
  clear g0 g1 g2 g3 g4 g5 g6 g7 hb3 HSZ HB2 HMB2
  have g0 := row_cell HMB3.out 0 rfl; have g1 := row_cell HMB3.out 1 rfl; have g2 := row_cell HMB3.out 2 rfl; have g3 := row_cell HMB3.out 3 rfl; have g4 := row_cell HMB3.out 4 rfl; have g5 := row_cell HMB3.out 5 rfl; have g6 := row_cell HMB3.out 6 rfl; have g7 := row_cell HMB3.out 7 rfl
  simp only [List.getElem_toArray, List.getElem_cons_zero, List.getElem_cons_succ] at g0 g1 g2 g3 g4 g5 g6 g7
  by_cases hz : 20000 < z
  · have d1 : decide ((z : Int) > 20000) = true := decide_eq_true (by omega)
    go_wp2
    go_ret
    exact ⟨rfl, HB3.out⟩
  have d1 : decide ((z : Int) > 20000) = false := decide_eq_false (by omega)
  by_cases hvl : 20000 < vs.length
  · have d2 : decide ((vs.length : Int) > 20000) = true := decide_eq_true (by omega)
    go_wp2
    go_ret
    exact ⟨rfl, HB3.out⟩
  have d2 : decide ((vs.length : Int) > 20000) = false := decide_eq_false (by omega)
  by_cases hnl : 20000 < name.size
  · have d3 : decide ((name.size : Int) > 20000) = true := decide_eq_true (by omega)
    go_wp2
    go_ret
    exact ⟨rfl, HB3.out⟩
  have d3 : decide ((name.size : Int) > 20000) = false := decide_eq_false (by omega)
  have HBG := Lib.hid (inst_Begin w3 S (fun b hb => by have := HS.out b hb; have := HB3.out.size; omega) m _ (HM.out.keeps (Keeps.all S HB3.out)) HSM.out HWF.out (HT.out.bel HB3.out) name T _ vs (HR.out.keeps (Keeps.all T HB3.out)) HN0.out (by omega))
  clear hz hvl hnl
  go_wp2_with fail
  refine HBG.out.mono ?_
  rintro e w4 ⟨hb4, ⟨he, rfl⟩ | ⟨-, hf0, henc, fb, sgv, pv, lv, ab, rfl, hfb, hab, -, -, hgv, hmem, hpg⟩⟩
  · obtain ⟨be, hbe⟩ : ∃ e, begE m name vs = e := ⟨_, rfl⟩
    rw [hbe] at he ⊢
    have e1 : (be != 0) = true := by simpa using he
    have HB4 := Lib.hid (below_next HB3.out (below_next hb4 (below_alloc w4 (.cells #[.slice none 0 0, .slice none 0 0, .slice none 0 0, .int .i64 0, .int .i8 0, .slice none 0 0, .int .i8 0, .int .i64 0] 37))))
    have r0 := heap_alloc_new w4 (.cells #[.slice none 0 0, .slice none 0 0, .slice none 0 0, .int .i64 0, .int .i8 0, .slice none 0 0, .int .i8 0, .int .i64 0] 37)
    have fr0 := row_free r0 0; have fr1 := row_free r0 1; have fr2 := row_free r0 2; have fr3 := row_free r0 3; have fr4 := row_free r0 4; have fr5 := row_free r0 5; have fr6 := row_free r0 6; have fr7 := row_free r0 7
    clear hbe he hb4 r0 HBG
    go_wp2
    go_ret
    exact ⟨rfl, HB4.out⟩
  obtain ⟨sga, sgc, hsg, -⟩ := hgv.lenc
  rw [List.length_map] at hsg
  subst hsg
  obtain ⟨f0, f64⟩ := first_le henc
  obtain ⟨n, hn⟩ : ∃ n : Nat, m.first.toNat = n := ⟨_, rfl⟩
  obtain ⟨pa, pc, hpv, -⟩ := hpg.lenc
  rw [pgV_len, hn] at hpv
  subst hpv
  rw [hn] at hpg
  have hn64 : n ≤ 64 := by omega
  have hfi : m.first = n := by omega
  have d4 : ((n : Int) != m.first) = false := by simp [hfi]
  have HENC := Lib.hid henc
  have HNF := Lib.hid hn
  have hbs := below_alloc w4 (.cells #[.slice (some ⟨fb, 0, none⟩) 1 1, .slice sga m.globals.length sgc, .slice pa n pc, .int .i64 0, .int .i8 1, .slice none 0 0, .int .i8 0, .int .i64 0] 37)
  have HST := Lib.hid (heap_alloc_new w4 (.cells #[.slice (some ⟨fb, 0, none⟩) 1 1, .slice sga m.globals.length sgc, .slice pa n pc, .int .i64 0, .int .i8 1, .slice none 0 0, .int .i8 0, .int .i64 0] 37))
  have HB4 := Lib.hid (below_next HB3.out (below_next hb4 hbs))
  have HMB4 := Lib.hid (MB_cells HMB3.out (below_next hb4 hbs))
  have HMEM := Lib.hid ((hbs.block _ (row_lt hmem)).trans hmem)
  have HPG := Lib.hid (hpg.keeps (Keeps.all _ hbs))
  have r0 := heap_alloc_new w4 (.cells #[.slice none 0 0, .slice none 0 0, .slice none 0 0, .int .i64 0, .int .i8 0, .slice none 0 0, .int .i8 0, .int .i64 0] 37)
  have fr0 := row_free r0 0; have fr1 := row_free r0 1; have fr2 := row_free r0 2; have fr3 := row_free r0 3; have fr4 := row_free r0 4; have fr5 := row_free r0 5; have fr6 := row_free r0 6; have fr7 := row_free r0 7
  clear g0 g1 g2 g3 g4 g5 g6 g7
  have g0 := row_cell HMB4.out 0 rfl; have g1 := row_cell HMB4.out 1 rfl; have g2 := row_cell HMB4.out 2 rfl; have g3 := row_cell HMB4.out 3 rfl; have g4 := row_cell HMB4.out 4 rfl; have g5 := row_cell HMB4.out 5 rfl; have g6 := row_cell HMB4.out 6 rfl; have g7 := row_cell HMB4.out 7 rfl
  simp only [List.getElem_toArray, List.getElem_cons_zero, List.getElem_cons_succ] at g0 g1 g2 g3 g4 g5 g6 g7
  have t0 := row_cell HST.out 0 rfl; have t1 := row_cell HST.out 1 rfl; have t2 := row_cell HST.out 2 rfl; have t3 := row_cell HST.out 3 rfl; have t4 := row_cell HST.out 4 rfl; have t5 := row_cell HST.out 5 rfl; have t6 := row_cell HST.out 6 rfl; have t7 := row_cell HST.out 7 rfl
  simp only [List.getElem_toArray, List.getElem_cons_zero, List.getElem_cons_succ] at t0 t1 t2 t3 t4 t5 t6 t7
  have d5 : ((m.globals.length : Int) != m.globals.length) = false := by simp
  clear hb4 hbs hmem hpg r0 hf0 henc hfb hab hgv f0 f64 hn hfi HBG HMB3 HB3
  go_wp2
  generalize hws : w4.alloc (.cells #[.slice (some ⟨fb, 0, none⟩) 1 1, .slice sga m.globals.length sgc, .slice pa n pc, .int .i64 0, .int .i8 1, .slice none 0 0, .int .i8 0, .int .i64 0] 37) = ws at *
  clear hws g0 g1 g2 g3 g4 g5 g6 g7 t0 t1 t2 t3 t4 t5 t6 t7 fr0 fr1 fr2 fr3 fr4 fr5 fr6 fr7 d1 d2 d3 d4 d5
  have HGD := Lib.hid (gdD_of HENC.out)
  have hdl : m.datas.length ≤ 64 := by
    have hp := (enc_good HENC.out).2.1
    unfold partsM at hp
    simp only [thenE_0, errMany_0] at hp
    exact hp.2.2.2.2.2.2.1.1
  have HRM : Hid ((m.first * 4096).toNat = n * 4096) := Lib.hid (by have h1 := HNF.out; have h2 := first_le HENC.out; omega)
  have hnsb := row_lt HST.out
  have HTX : Hid (∀ wx, Below ws.heap.size ws wx → wx.cell? ⟨w4.heap.size, 2, none⟩ = some (.slice pa n pc)) := Lib.hid (fun wx hb => row_cell ((hb.block _ (row_lt HST.out)).trans HST.out) 2 rfl)
  have HGX : Hid (∀ wx, Below ws.heap.size ws wx → wx.cell? ⟨w.heap.size, 6, none⟩ = some (.slice da m.datas.length dc)) := Lib.hid (fun wx hb => row_cell (MB_cells HMB4.out hb) 6 rfl)
  have HMX : Hid (∀ wx, Below ws.heap.size ws wx → ∀ q, q < n → ∃ b o, pa = some ⟨b, o, none⟩ ∧ wx.cell? ⟨b, o + q, none⟩ = some (.slice (some ⟨ab, q * 4096, none⟩) 4096 4096)) := Lib.hid (fun wx hb q hq => by
    obtain ⟨a, cap, e, -, -, h3⟩ := HPG.out
    simp only [Value.slice.injEq] at e
    obtain ⟨b, o, h1, -, h2⟩ := h3 q (by rw [pgV_len]; exact hq)
    refine ⟨b, o, e.1.trans h1, (Keeps.all (fun _ => True) hb).cell ?_ trivial⟩
    simpa [pgV] using h2)
  have HBX : Hid (∀ wx, Below ws.heap.size ws wx → ∀ t x, (memM m)[t]? = some x → wx.cell? ⟨ab, t, none⟩ = some (.int .u8 x)) := Lib.hid (fun wx hb t x ht => by
    have hrow := (hb.block _ (row_lt HMEM.out)).trans HMEM.out
    rw [cell_of_row wx ab t _ _ _ hrow]
    simp [ht])
  clear hnsb
  go_loopw [10, 11] (fun v10 v11 wr => ∃ i laid : Nat, i ≤ m.datas.length ∧ v11 = .int .i64 i ∧ v10 = .int .i64 laid ∧ Hid (laid = laidP m i 0) ∧ Hid (Below ws.heap.size ws wr)) (fun _ v11 _ => m.datas.length - (intOf v11).toNat)
  case atStart => exact ⟨0, 0, by omega, rfl, rfl, Lib.hid (laid_zero m).symm, Lib.hid (Below.refl _ _)⟩
  case round =>
    obtain ⟨i, laid, hi, rfl, rfl, HL, HBi⟩ := hrel
    have g6 := HGX.out wr HBi.out
    by_cases hlt : i < m.datas.length
    · obtain ⟨-, -, -, -, rd, -⟩ := RMod.parts (HM.out.keeps (Keeps.all S (HB4.out : Below w.heap.size w ws)))
      obtain ⟨db, doff, ba, bc, rfl, c0, c1, hrb⟩ := da_at rd hlt
      obtain ⟨p1, p2⟩ := HGD.out.pos i hlt
      have HBY := Lib.hid (fun k hk => mem_byte (i := i) (k := k) HENC.out hlt hk)
      have HSTEP := Lib.hid (fun k hk => laid_step (i := i) (k := k) hlt hk)
      have HNEXT := Lib.hid (laid_next hlt)
      obtain ⟨⟨at_, bs⟩, hd⟩ : ∃ d, m.datas[i] = d := ⟨_, rfl⟩
      rw [hd] at c0 c1 hrb p1 p2 HBY HSTEP HNEXT
      simp only at c0 c1 hrb p1 p2 HBY HSTEP HNEXT
      obtain ⟨a, rfl⟩ : ∃ a : Nat, at_ = a := ⟨at_.toNat, by omega⟩
      rw [Int.toNat_natCast] at p2 HBY
      rw [HRM.out] at p2
      have HCX : Hid (∀ wx, Below ws.heap.size ws wx → wx.cell? ⟨db, doff + i * 2, none⟩ = some (.int .i64 a) ∧ wx.cell? ⟨db, doff + i * 2 + 1, none⟩ = some (.slice ba bs.length bc) ∧ Hid (RdI .u8 S wx (.slice ba bs.length bc) bs)) := Lib.hid (fun wx hb => ⟨(Keeps.all (fun _ => True) hb).cell c0 trivial, (Keeps.all (fun _ => True) hb).cell c1 trivial, Lib.hid (hrb.keeps (Keeps.all _ hb))⟩)
      have HLL : Hid (∀ k, laidP m i k ≤ 262144) := Lib.hid (fun k => laidP_le (m := m) (i := i) HENC.out (Nat.le_of_lt hlt))
      have hbl : bs.length ≤ n * 4096 := by omega
      clear rd hd c0 c1 hrb p1
      go_wp2
      clear g6
      generalize wr = wo at *
      go_loopw [10, 12] (fun v10 v12 wr => ∃ k laid2 : Nat, k ≤ bs.length ∧ v12 = .int .i64 k ∧ v10 = .int .i64 laid2 ∧ Hid (laid2 = laidP m i k) ∧ Hid (Below ws.heap.size ws wr)) (fun _ v12 _ => bs.length - (intOf v12).toNat)
      case atStart => exact ⟨0, laid, by omega, rfl, rfl, HL, HBi⟩
      case round =>
        obtain ⟨k, laid2, hk, rfl, rfl, HL2, HBk⟩ := hrel
        have g6 := HGX.out wr HBk.out
        obtain ⟨c0, c1, HRB⟩ := HCX.out wr HBk.out
        have t2 := HTX.out wr HBk.out
        by_cases hkt : k < bs.length
        · obtain ⟨bb, bo, hbe, -, hbc⟩ : ∃ b off, ba = some (⟨b, off, none⟩ : Addr) ∧ True ∧ wr.cell? ⟨b, off + k, none⟩ = some (.int .u8 bs[k]) := by
            obtain ⟨a', cap', e', h1, h2, h3⟩ := HRB.out
            simp only [Value.slice.injEq] at e'
            obtain ⟨b, off, ha, -, hc⟩ := h3 k hkt
            exact ⟨b, off, e'.1.trans ha, trivial, hc⟩
          have HMB := Lib.hid (HBY.out k hkt)
          have HST2 := Lib.hid (HSTEP.out k hkt)
          obtain ⟨x, hx⟩ : ∃ x, bs[k] = x := ⟨_, rfl⟩
          rw [hx] at hbc HMB HST2
          obtain ⟨p, hp⟩ : ∃ p : Nat, a + k = p := ⟨_, rfl⟩
          have HP := Lib.hid hp
          have hp' : (a : Int) + (k : Int) = (p : Int) := by omega
          have hpb : p < n * 4096 := by omega
          obtain ⟨q, hq⟩ : ∃ q, p / 4096 = q := ⟨_, rfl⟩
          obtain ⟨r, hr⟩ : ∃ r, p % 4096 = r := ⟨_, rfl⟩
          have hqr : q * 4096 + r = p := by omega
          have hqn : q < n := by omega
          have hr4 : r < 4096 := by omega
          obtain ⟨pb, po, hpe, hpc⟩ := HMX.out wr HBk.out q hqn
          have hmc := HBX.out wr HBk.out (q * 4096 + r) x (by rw [hqr, ← hp]; exact HMB.out)
          have hquo : (p : Int).tdiv 4096 = (q : Int) := by rw [Int.tdiv_eq_ediv_of_nonneg (by omega)]; omega
          have hrem : (p : Int).tmod 4096 = (r : Int) := by rw [Int.tmod_eq_emod_of_nonneg (by omega)]; omega
          have hwq : IntKind.i64.wrap (q : Int) = q := IntWalk.i64_in _ ⟨by omega, by omega⟩
          have hge : decide ((q : Int) ≥ (n : Int)) = false := decide_eq_false (by omega)
          have hxx : (x != x) = false := by simp
          have hl2 : laid2 ≤ 262144 := by rw [HL2.out]; exact HLL.out k
          subst hbe hpe
          have hwr : IntKind.i64.wrap (r : Int) = r := IntWalk.i64_in _ ⟨by omega, by omega⟩
          have hr0 : (0 : Int) ≤ r := by omega
          have hr1 : (r : Int) < 4096 := by omega
          have hre : (p : Int) % 4096 = (r : Int) := by omega
          have hqe : (p : Int) / 4096 = (q : Int) := by omega
          clear hx hp hqr
          by_cases hx0 : x = 0
          · have e9 : (x != 0) = false := by simp [hx0]
            have HLN : Hid (laid2 = laidP m i (k + 1)) := Lib.hid (by rw [HST2.out, hx0, HL2.out]; simp)
            clear hx0
            go_wp2_with fail
            go_quiet (fail)
            go_wp2_with fail
            go_roundw
            case rel => exact ⟨k + 1, laid2, by omega, by go_num, rfl, HLN, Lib.hid (below_next HBk.out (drewN_below _ _))⟩
            case measure => simp [intOf]; omega
          · have e9 : (x != 0) = true := by simpa using hx0
            have HLN : Hid (laid2 + 1 = laidP m i (k + 1)) := Lib.hid (by rw [HST2.out, if_pos hx0, HL2.out])
            clear hx0
            go_wp2_with fail
            go_quiet (fail)
            go_wp2_with fail
            go_roundw
            case rel => exact ⟨k + 1, laid2 + 1, by omega, by go_num, by go_num, HLN, Lib.hid (below_next HBk.out (drewN_below _ _))⟩
            case measure => simp [intOf]; omega
        · obtain rfl : k = bs.length := by omega
          go_wp2
          go_roundw
          case rel => exact ⟨i + 1, laid2, by omega, by go_num, rfl, Lib.hid (by rw [HL2.out, HNEXT.out]), HBk⟩
          case measure => simp [intOf]; omega
    · obtain rfl : i = m.datas.length := by omega
      have HLA : Hid (laid = nzL (memM m)) := Lib.hid (by rw [HL.out, laid_all HENC.out])
      have HML : Hid ((memM m).length = n * 4096) := Lib.hid (by have h := (mem_good HENC.out).len; rw [← HRM.out]; exact h)
      clear HL
      go_wp2
      clear g6
      generalize wr = wo at *
      go_loopw [14, 15] (fun v14 v15 wr => ∃ j fd : Nat, j ≤ n ∧ v15 = .int .i64 j ∧ v14 = .int .i64 fd ∧ Hid (fd = foundP m (j * 4096)) ∧ Hid (Below ws.heap.size ws wr)) (fun _ v15 _ => n - (intOf v15).toNat)
      case atStart => exact ⟨0, 0, by omega, rfl, rfl, Lib.hid (by rw [Nat.zero_mul]; exact (found_zero (m := m)).symm), HBi⟩
      case round =>
        obtain ⟨j, fd, hj, rfl, rfl, HFD, HBj⟩ := hrel
        have t2 := HTX.out wr HBj.out
        by_cases hjn : j < n
        · obtain ⟨pb, po, hpe, -⟩ := HMX.out wr HBj.out j hjn
          subst hpe
          have HPX : Hid (∀ wx, Below ws.heap.size ws wx → wx.cell? ⟨pb, po + j, none⟩ = some (.slice (some ⟨ab, j * 4096, none⟩) 4096 4096)) := Lib.hid (fun wx hb => by
            obtain ⟨b, o, e, h⟩ := HMX.out wx hb j hjn
            simp only [Option.some.injEq, Addr.mk.injEq, and_true] at e
            obtain ⟨rfl, rfl⟩ := e
            exact h)
          have hpc := HPX.out wr HBj.out
          go_wp2
          clear t2 hpc
          generalize wr = wj at *
          go_loopw [14, 16] (fun v14 v16 wr => ∃ k fd2 : Nat, k ≤ 4096 ∧ v16 = .int .i64 k ∧ v14 = .int .i64 fd2 ∧ Hid (fd2 = foundP m (j * 4096 + k)) ∧ Hid (Below ws.heap.size ws wr)) (fun _ v16 _ => 4096 - (intOf v16).toNat)
          case atStart => exact ⟨0, fd, by omega, rfl, rfl, Lib.hid (by rw [Nat.add_zero]; exact HFD.out), HBj⟩
          case round =>
            obtain ⟨k, fd2, hk, rfl, rfl, HF2, HBk⟩ := hrel
            have t2 := HTX.out wr HBk.out
            have hpc := HPX.out wr HBk.out
            by_cases hkt : k < 4096
            · have hml : j * 4096 + k < (memM m).length := by rw [HML.out]; omega
              have HSF := Lib.hid (found_step hml)
              obtain ⟨x, hx⟩ : ∃ x, (memM m)[j * 4096 + k] = x := ⟨_, rfl⟩
              have hmc := HBX.out wr HBk.out (j * 4096 + k) x (by rw [List.getElem?_eq_getElem hml, hx])
              rw [hx] at HSF
              have hf2 : fd2 ≤ 262144 := by rw [HF2.out]; exact found_le HENC.out _
              clear hml hx
              by_cases hx0 : x = 0
              · have e9 : (x != 0) = false := by simp [hx0]
                have HLN : Hid (fd2 = foundP m (j * 4096 + (k + 1))) := Lib.hid (by rw [← Nat.add_assoc, HSF.out, hx0, HF2.out]; simp)
                clear hx0
                go_wp2
                go_roundw
                case rel => exact ⟨k + 1, fd2, by omega, by go_num, rfl, HLN, HBk⟩
                case measure => simp [intOf]; omega
              · have e9 : (x != 0) = true := by simpa using hx0
                have HLN : Hid (fd2 + 1 = foundP m (j * 4096 + (k + 1))) := Lib.hid (by rw [← Nat.add_assoc, HSF.out, if_pos hx0, HF2.out])
                clear hx0
                go_wp2
                go_roundw
                case rel => exact ⟨k + 1, fd2 + 1, by omega, by go_num, by go_num, HLN, HBk⟩
                case measure => simp [intOf]; omega
            · obtain rfl : k = 4096 := by omega
              go_wp2
              go_roundw
              case rel => exact ⟨j + 1, fd2, by omega, by go_num, rfl, Lib.hid (by rw [HF2.out]; congr 1; omega), HBk⟩
              case measure => simp [intOf]; omega
        · obtain rfl : j = n := by omega
          have HEQ : Hid (fd = laid) := Lib.hid (by rw [HFD.out, HLA.out, ← found_all HENC.out, HNF.out])
          have e9 : ((fd : Int) == (laid : Int)) = true := by simp [HEQ.out]
          go_wp2
          go_ret
          exact ⟨rfl, below_next HB4.out HBj.out⟩
end Go.Proofs.YtfhkjahjenpbgaaDoor
