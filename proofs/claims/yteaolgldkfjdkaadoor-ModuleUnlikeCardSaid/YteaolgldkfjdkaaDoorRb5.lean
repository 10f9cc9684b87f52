/- module's reader: body. -/
import Derived.Test.YteaolgldkfjdkaaDoorRf5
import Derived.Test.YteaolgldkfjdkaaDoorMRb
import Derived.Test.YteaolgldkfjdkaaDoorMRf0
namespace Go.Proofs.YteaolgldkfjdkaaDoor
open Go Go.RowKit

/-- The same types, hosts, globals, pages. -/
structure SaA (x x2 : Mq) : Prop where
  ts : x2.ts = x.ts
  hs : x2.hs = x.hs
  gs : x2.gs = x.gs
  first : x2.first = x.first
  most : x2.most = x.most
/-- The ends of body. -/
def RbE (S : Nat → Prop) (B : Nat) (w : World) (p mb : Nat) (bv : Value) (b : List Int) (at_ : Nat) (x : Mq) (r : Ending) (w' : World) : Prop :=
  (∃ z, rbd x.ts x.first b at_ = .ok (z, b.length) ∧ r = .returned (.tuple #[]) ∧ (∃ x' al', Md S B w' p mb bv b al' b.length x' [] ∧ x'.m = ⟨x.ts, x.hs, x.gs, x.first, x.most, z.1, z.2.1, z.2.2⟩) ∧ Kp B p mb w w') ∨
  (∃ z q, rbd x.ts x.first b at_ = .ok (z, q) ∧ q ≠ b.length ∧ r = .panicked (thrown 19 (q : Nat)) ∧ Kp B p mb w w') ∨
  (∃ e k, rbd x.ts x.first b at_ = .error (e, k) ∧ r = .panicked (thrown e (k : Nat)) ∧ Kp B p mb w w')
set_option maxRecDepth 100000 in
set_option maxHeartbeats 12800000 in
theorem rm_body (S : Nat → Prop) (B : Nat) (w0 w : World) (p mb : Nat) (bv : Value) (b : List Int) (at_ : Nat) (x : Mq) (h : Md S B w p mb bv b 0 at_ x []) (hb : Bytes b) (hbl : b.length ≤ 1000000) (htl : x.ts.length ≤ 64)
    (hts : ∀ s ∈ x.ts, s.1.size ≤ 64) (F : Nat) (hF : x.first = F) (hF64 : F ≤ 64) (hfs : x.fs = []) (hde : x.ds = [] ∧ x.es = []) (hbz : Bz w0 w B p mb) :
    Calls Tryd.prog 23 #[.pointer (some ⟨p, 0, none⟩)] w (RbE S B w p mb bv b at_ x) := by
  have hmf : ∀ (fn : Fn) (first cap : Array Value) (w : World), (Instr.makeFunc fn first cap).run Tryd.prog w = .ok (.func fn first cap) w := fun _ _ _ _ => rfl
  obtain ⟨i0, hi, hz0, hz1, hz2⟩ := info_parts Tryd.infoDatF
  obtain ⟨i1, hj, hy0, hy1, hy2⟩ := info_parts Tryd.infoExpF
  have HB := Lib.hid hb
  have hSp := fun y hy => (h.sS y hy).2.1
  have HSP := Lib.hid hSp
  have HTS := Lib.hid hts
  have HZ := Lib.hid hbz
  have HF := Lib.hid hF
  have HFS := Lib.hid hfs
  have HDE := Lib.hid hde
  have HBL := Lib.hid hbl
  have hb1 := below_alloc w (.cells #[.pointer (some ⟨p, 0, none⟩)] 66)
  have hr1 := heap_alloc_new w (.cells #[.pointer (some ⟨p, 0, none⟩)] 66)
  have HM1 := Lib.hid (h.on hb1)
  have HK1 : Hid (Kp B p mb w (w.alloc (.cells #[.pointer (some ⟨p, 0, none⟩)] 66))) := Lib.hid (Kp.on hb1)
  have HR1 := Lib.hid hr1
  have q0 := row_cell hr1 0 rfl
  simp only [List.getElem_toArray, List.getElem_cons_zero] at q0
  clear h hb hSp hb1 hr1 hts hbz hF hfs hde hbl
  go_enter Tryd.func23, Tryd.ntmps23
  go_wp2_with fail
  generalize w.alloc (.cells #[.pointer (some ⟨p, 0, none⟩)] 66) = w1 at *
  obtain ⟨rb, hrb⟩ : ∃ rb, w.heap.size = rb := ⟨_, rfl⟩
  rw [hrb] at q0 HR1 ⊢
  clear hrb
  have HU1 := Lib.hid (fun wx (hx : Rm S wx p mb bv b 0 at_) f (hf : Up wx f 128 20 p) => rm_upTo hx HB.out HSP.out 128 128 rfl 20 (by decide) (by omega) f hf)
  go_cut [10, 11] (fun c11 c12 wx => c12 = .int .i64 0 ∧ ∃ n q, c11 = .int .i64 (n : Nat) ∧ Hid (rnum 128 20 b at_ = .ok (n, q)) ∧ Hid (Md S B wx p mb bv b 0 q x []) ∧ Hid (Kp B p mb w wx) ∧ Hid (wx.heap[rb]? = some (.cells #[.pointer (some ⟨p, 0, none⟩)] 66 (0, 0))))
  case first =>
    as_aux_lemma =>
      go_region_law (first
        | (go_simp; go_at_call 45; (with_reducible refine (mod_upTo _ 128 20).mono ?_); rintro e w2 ⟨f, rfl, hb2, hup⟩; have q0 := cell_below hb2 q0; have HM2 := Lib.hid (HM1.out.on (below_next (drew_bel w1) hb2)); have HK2 := Lib.hid (HK1.out.trans (Kp.on (below_next (drew_bel w1) hb2))); have HR2 := Lib.hid (((below_next (drew_bel w1) hb2).block _ (row_lt HR1.out)).trans HR1.out))
        | (go_simp; go_at_call 44; (with_reducible refine (HU1.out _ HM2.out.rm f (hup p)).mono ?_); rintro e w3 (⟨n, q, h1, rfl, h2, h3⟩ | ⟨z, k, h1, rfl, h3⟩); rotate_left 1; exact ⟨rfl, .inr (.inr ⟨_, _, bind_bad1 (many_bad1 h1), rfl, HK2.out.trans (Kp.read h3)⟩)⟩))
      all_goals
        have HM3 := Lib.hid (HM2.out.read h2 h3)
        have HK3 : Hid (Kp B p mb w w3) := Lib.hid (HK2.out.trans (Kp.read h3))
        have HR3 := Lib.hid ((h3.block _ (row_lt HR2.out) (row_ne HR2.out HM2.out.rm.row (by decide))).trans HR2.out)
        have H1 := Lib.hid h1
        clear h1 h2 h3
        go_wp2_with fail
        go_meet
        exact ⟨rfl, n, q, rfl, H1, HM3, HK3, HR3⟩
  case rest =>
    obtain ⟨rfl, n, q, rfl, HN, HM, HK, HR⟩ := hcut
    clear HM1 HK1 HR1 HU1 q0
    have q0 := row_cell HR.out 0 rfl
    have hn := (rnum_le5 HN.out).1
    simp only [List.getElem_toArray, List.getElem_cons_zero] at q0
    go_wp2_with fail
    go_loopw [11] (fun i wr => ∃ (k q' : Nat) (x2 : Mq), k ≤ n ∧ i = .int .i64 k ∧ Hid (Md S B wr p mb bv b ((allOf (x2.fs.map Fq5.f) : Nat) : Int) q' x2 []) ∧ Hid (Kp B p mb w wr) ∧ Hid (wr.heap[rb]? = some (.cells #[.pointer (some ⟨p, 0, none⟩)] 66 (0, 0))) ∧ Hid (RepAt (rfun x.ts) n b q (x2.fs.map Fq5.f) q') ∧ Hid (x2.fs.length = k) ∧ Hid (SaA x x2) ∧ Hid (x2.ds = [] ∧ x2.es = []) ∧ Hid (allOf (x2.fs.map Fq5.f) ≤ 16384)) (fun i _ => n - (intOf i).toNat)
    case atStart => exact ⟨0, q, x, by omega, rfl, Lib.hid (by rw [HFS.out]; exact HM.out), HK, HR, Lib.hid (by rw [HFS.out]; exact RepAt.zero _ _ _ _), Lib.hid (by rw [HFS.out]; rfl), Lib.hid ⟨rfl, rfl, rfl, rfl, rfl⟩, HDE, Lib.hid (by rw [HFS.out]; decide)⟩
    case round =>
      clear HM HK HR q0
      obtain ⟨k, q', x2, hk, rfl, HM, HK, HR, HP, HL, HS, HE, HA⟩ := hrel
      have q0 := row_cell HR.out 0 rfl
      simp only [List.getElem_toArray, List.getElem_cons_zero] at q0
      by_cases hlt : k < n
      · --@DONE{
        have hfl : x2.fs.length ≤ 128 := by have := HL.out; omega
        have htl2 : x2.ts.length ≤ 64 := by rw [HS.out.ts]; exact htl
        go_wp2_with fail
        refine (rm_function S B w0 wr p mb bv b (allOf (x2.fs.map Fq5.f)) q' x2 HM.out HB.out rfl HA.out htl2 hfl (by rw [HS.out.ts]; exact HTS.out) (HZ.out.kp HK.out)).mono ?_
        rintro e w5 (⟨f, q2, h1, rfl, ⟨y, fv', hy, hM⟩, hK⟩ | ⟨z, kk, h1, rfl, hK⟩)
        rotate_left
        · exact ⟨rfl, .inr (.inr ⟨_, _, bind_bad1 (many_bad2 HN.out (HP.out.bad (by rw [List.length_map, HL.out]; exact hlt) (by rw [← HS.out.ts]; exact h1))), rfl, HK.out.trans (hK.kp HM.out)⟩)⟩
        subst hy
        have hof : wr.ownsRow B 49 3 x2.fv x2.fs.length (x2.fs.flatMap fqC) := HM.out.fam.own (fuE x2.fv x2.fs) (by simp [Mq.ents])
        have HM9 := Lib.hid hM
        have HK9 := Lib.hid (HK.out.trans (hK.kp HM.out))
        have HR9 := Lib.hid ((hK.block _ (row_lt HR.out) ⟨row_ne HR.out HM.out.rm.row (by decide), row_ne HR.out HM.out.mrow (by decide), own_ne hof HR.out (by decide)⟩).trans HR.out)
        have HP9 : Hid (RepAt (rfun x.ts) n b q ((x2.fs ++ [y]).map Fq5.f) q2) := Lib.hid (by rw [List.map_append]; exact HP.out.good (by rw [List.length_map, HL.out]; exact hlt) (by rw [← HS.out.ts]; exact h1))
        have HL9 : Hid ((x2.fs ++ [y]).length = k + 1) := Lib.hid (by rw [List.length_append, HL.out]; rfl)
        have HA9 : Hid (allOf ((x2.fs ++ [y]).map Fq5.f) ≤ 16384) := Lib.hid (by rw [List.map_append]; exact rfun_all h1 htl2 HB.out HM.out.rm.le)
        have HS9 : Hid (SaA x { x2 with fv := fv', fs := x2.fs ++ [y] }) := Lib.hid ⟨HS.out.ts, HS.out.hs, HS.out.gs, HS.out.first, HS.out.most⟩
        clear hof hM hK h1 HM HK HR HP HL HA HS q0
        go_wp2_with fail
        go_roundw
        case rel => exact ⟨k + 1, q2, { x2 with fv := fv', fs := x2.fs ++ [y] }, by omega, by go_num, HM9, HK9, HR9, HP9, HL9, HS9, HE, HA9⟩
        case measure => simp [intOf]; omega
      · obtain rfl : k = n := by omega
        have HFA : Hid (rmany 128 (rfun x.ts) b at_ = .ok (x2.fs.map Fq5.f, q')) := Lib.hid (many_good HN.out (HP.out.done (by rw [List.length_map]; exact HL.out)))
        have hfl : x2.fs.length ≤ 128 := by have := HL.out; omega
        obtain ⟨al, hal⟩ : ∃ al : Int, ((allOf (x2.fs.map Fq5.f) : Nat) : Int) = al := ⟨_, rfl⟩
        rw [hal] at HM
        clear hal HN HP HL HA hk hn hlt
        obtain ⟨p0, -, -, -⟩ := HM.out.pc
        have m3 : wr.cell? ⟨mb, 3, none⟩ = some (.int .i64 F) := by have := (HM.out.mc (i := 3) (u := .int .i64 x2.first) rfl).1; rw [HS.out.first, HF.out] at this; exact this
        obtain ⟨R, hR⟩ : ∃ R : Nat, F * 4096 = R := ⟨_, rfl⟩
        have hfe : (F : Int) * 4096 = R := by omega
        have hRl : R ≤ 262144 := by omega
        have hwR : IntKind.i64.wrap (R : Int) = R := IntWalk.i64_in _ ⟨by omega, by omega⟩
        clear hR
        have hwR2 := hwR
        go_wp2_with fail
        have hb4 := below_alloc wr (.cells #[.int .i64 R] 3)
        have HM4 := Lib.hid (HM.out.on hb4)
        have HK4 := Lib.hid (HK.out.trans (Kp.on (B := B) (p := p) (mb := mb) hb4))
        have HR4 := Lib.hid ((hb4.block _ (row_lt HR.out)).trans HR.out)
        have HO := Lib.hid (heap_alloc_new wr (.cells #[.int .i64 R] 3))
        have q0 := cell_below hb4 q0
        clear hb4 HM HK HR p0 m3 hwR2
        generalize wr.alloc (.cells #[.int .i64 R] 3) = w4 at *
        generalize wr.heap.size = ob at *
        obtain ⟨fs, hfs⟩ : ∃ l, x2.fs = l := ⟨_, rfl⟩
        rw [hfs] at HFA hfl
        have HFQ := Lib.hid hfs
        clear hfs
        have HRBD : Hid (rbd x.ts x.first = (rmany 128 (rfun x.ts)).bind fun fs => (rmany 64 (rdat R)).bind fun _ => rmany 64 (rexp fs.length)) := Lib.hid (by unfold rbd; rw [show (x.first * 4096).toNat = R by rw [HF.out]; omega])
        obtain ⟨qf, hqf⟩ : ∃ q, q' = q := ⟨_, rfl⟩
        rw [hqf] at HFA HM4
        clear hqf q'
        have HU1 := Lib.hid (fun wx (hx : Rm S wx p mb bv b al qf) f (hf : Up wx f 64 20 p) => rm_upTo hx HB.out HSP.out 64 64 rfl 20 (by decide) (by omega) f hf)
        go_cut [27, 28] (fun c11 c12 wx => c12 = .int .i64 0 ∧ ∃ n q, c11 = .int .i64 (n : Nat) ∧ Hid (rnum 64 20 b qf = .ok (n, q)) ∧ Hid (Md S B wx p mb bv b al q x2 []) ∧ Hid (Kp B p mb w wx) ∧ Hid (wx.heap[rb]? = some (.cells #[.pointer (some ⟨p, 0, none⟩)] 66 (0, 0))) ∧ Hid (wx.heap[ob]? = some (.cells #[.int .i64 R] 3 (0, 0))))
        case first =>
          as_aux_lemma =>
          go_region_law (first
            | (go_simp; go_at_call 45; (with_reducible refine (mod_upTo _ 64 20).mono ?_); rintro e w2 ⟨f, rfl, hb2, hup⟩; have q0 := cell_below hb2 q0; have HM2 := Lib.hid (HM4.out.on (below_next (drew_bel w4) hb2)); have HK2 := Lib.hid (HK4.out.trans (Kp.on (below_next (drew_bel w4) hb2))); have HR2 := Lib.hid (((below_next (drew_bel w4) hb2).block _ (row_lt HR4.out)).trans HR4.out); have HO2 := Lib.hid (((below_next (drew_bel w4) hb2).block _ (row_lt HO.out)).trans HO.out))
            | (go_simp; go_at_call 44; (with_reducible refine (HU1.out _ HM2.out.rm f (hup p)).mono ?_); rintro e w3 (⟨n, q, h1, rfl, h2, h3⟩ | ⟨z, k, h1, rfl, h3⟩); rotate_left 1; exact ⟨rfl, .inr (.inr ⟨_, _, (by rw [HRBD.out]; exact bind_bad2 HFA.out (bind_bad1 (many_bad1 h1))), rfl, HK2.out.trans (Kp.read h3)⟩)⟩))
          all_goals
            have HM3 := Lib.hid (HM2.out.read h2 h3)
            have HK3 : Hid (Kp B p mb w w3) := Lib.hid (HK2.out.trans (Kp.read h3))
            have HR3 := Lib.hid ((h3.block _ (row_lt HR2.out) (row_ne HR2.out HM2.out.rm.row (by decide))).trans HR2.out)
            have HO3 := Lib.hid ((h3.block _ (row_lt HO2.out) (row_ne HO2.out HM2.out.rm.row (by decide))).trans HO2.out)
            have H1 := Lib.hid h1
            clear h1 h2 h3
            go_wp2_with fail
            go_meet
            exact ⟨rfl, n, q, rfl, H1, HM3, HK3, HR3, HO3⟩
        case rest =>
          obtain ⟨rfl, n, q, rfl, HN, HM, HK, HR, HO⟩ := hcut
          clear HM4 HK4 HR4 HU1 q0
          have q0 := row_cell HR.out 0 rfl
          have hn := (rnum_le5 HN.out).1
          simp only [List.getElem_toArray, List.getElem_cons_zero] at q0
          go_wp2_with fail
          go_loopw [28] (fun i wr => ∃ (k q' : Nat) (x3 : Mq), k ≤ n ∧ i = .int .i64 k ∧ Hid (Md S B wr p mb bv b al q' x3 []) ∧ Hid (Kp B p mb w wr) ∧ Hid (wr.heap[rb]? = some (.cells #[.pointer (some ⟨p, 0, none⟩)] 66 (0, 0))) ∧ Hid (wr.heap[ob]? = some (.cells #[.int .i64 R] 3 (0, 0))) ∧ Hid (RepAt (rdat R) n b q (x3.ds.map (·.1)) q') ∧ Hid (x3.ds.length = k) ∧ Hid (SaA x x3) ∧ Hid (x3.fs = fs ∧ x3.es = []) ∧ Hid (errL (errD R) [] (x3.ds.map (·.1)) = 0)) (fun i _ => n - (intOf i).toNat)
          case atStart => exact ⟨0, q, x2, by omega, rfl, HM, HK, HR, HO, Lib.hid (by rw [HE.out.1]; exact RepAt.zero _ _ _ _), Lib.hid (by rw [HE.out.1]; rfl), HS, Lib.hid ⟨HFQ.out, HE.out.2⟩, Lib.hid (by rw [HE.out.1]; rfl)⟩
          case round =>
            clear HM HK HR HO HS HE HFQ q0
            obtain ⟨k, q', x3, hk, rfl, HM, HK, HR, HO, HP, HL, HS, HE, HQ⟩ := hrel
            have q0 := row_cell HR.out 0 rfl; have o0 := row_cell HO.out 0 rfl
            simp only [List.getElem_toArray, List.getElem_cons_zero] at q0 o0
            by_cases hlt : k < n
            · --@DONE{
              have hdl : x3.ds.length ≤ 64 := by have := HL.out; omega
              have hda := dat_all HQ.out
              have hdb : ∀ d ∈ x3.ds, d.1.b.length ≤ 140737488355328 := fun d hd => by have := (hda.2 d.1 (List.mem_map_of_mem hd)).2; omega
              have HD := Lib.hid (HM.out.dats (by omega) hdb)
              have HDA := Lib.hid hda
              have HLE := Lib.hid HM.out.rm.le
              have HBAD := Lib.hid (fun (z : Int × Nat) (hz : rdat R (x3.ds.map (·.1)) b q' = .error z) => (show rbd x.ts x.first b at_ = .error z from by rw [HRBD.out]; exact bind_bad2 HFA.out (bind_bad1 (many_bad2 HN.out (HP.out.bad (by rw [List.length_map, HL.out]; exact hlt) hz)))))
              clear hda hdb
              go_wp2_with fail
              refine (rm_from HM.out.rm HB.out HSP.out ob rb x3.cells (fun b => B ≤ b) F R o0 q0 hF64 hfe HM.out.mrow (by show some (Value.int .i64 x3.first) = _; rw [HS.out.first, HF.out]) x3.dv (x3.ds.map (·.1)) rfl HD.out (by rw [List.length_map]; omega) (by have := HDA.out.1; omega) (fun d hd => by have := (HDA.out.2 d hd).1; omega)).mono ?_
              rintro e w5 (⟨N, q1, h1, rfl, h2, h3⟩ | ⟨z, kk, h1, rfl, h3⟩)
              rotate_left
              · exact ⟨rfl, .inr (.inr ⟨_, _, HBAD.out _ (rdat_1 h1), rfl, HK.out.trans (Kp.read h3)⟩)⟩
              have S1 := Lib.hid h1
              have hNR := rfrom_ok h1
              have HM5 := Lib.hid (HM.out.read h2 h3)
              have HK5 : Hid (Kp B p mb w w5) := Lib.hid (HK.out.trans (Kp.read h3))
              have HR5 := Lib.hid ((h3.block _ (row_lt HR.out) (row_ne HR.out HM.out.rm.row (by decide))).trans HR.out)
              have HO5 := Lib.hid ((h3.block _ (row_lt HO.out) (row_ne HO.out HM.out.rm.row (by decide))).trans HO.out)
              clear h1 h2 h3 HM HK HR HO HD HDA q0 o0
              have q0 := row_cell HR5.out 0 rfl; have o0 := row_cell HO5.out 0 rfl
              simp only [List.getElem_toArray, List.getElem_cons_zero] at q0 o0
              obtain ⟨M, hM⟩ : ∃ M, R - N = M := ⟨_, rfl⟩
              have hRM : (R : Int) - (N : Int) = M := by omega
              have hwM : IntKind.i64.wrap (M : Int) = M := IntWalk.i64_in _ ⟨by omega, by omega⟩
              have HMM := Lib.hid hM
              have hMl : M ≤ 262144 := by omega
              clear hM
              go_wp2_with fail
              refine (rm_text HM5.out.rm HB.out HSP.out M (by omega)).mono ?_
              rintro e w6 (⟨s, q2, h1, rfl, h2, h3⟩ | ⟨z, kk, h1, rfl, h3⟩)
              rotate_left
              · exact ⟨rfl, .inr (.inr ⟨_, _, HBAD.out _ (rdat_2 S1.out (by rw [HMM.out]; exact h1)), rfl, HK5.out.trans (Kp.read h3)⟩)⟩
              have S2 : Hid (rtext (R - N) b q1 = .ok (s, q2)) := Lib.hid (by rw [HMM.out]; exact h1)
              have hss := (rtext_ok h1).1
              have HM6 := Lib.hid (HM5.out.read h2 h3)
              have HK6 : Hid (Kp B p mb w w6) := Lib.hid (HK5.out.trans (Kp.read h3))
              have HR6 := Lib.hid ((h3.block _ (row_lt HR5.out) (row_ne HR5.out HM5.out.rm.row (by decide))).trans HR5.out)
              have HO6 := Lib.hid ((h3.block _ (row_lt HO5.out) (row_ne HO5.out HM5.out.rm.row (by decide))).trans HO5.out)
              clear h1 h2 h3 HM5 HK5 HR5 HO5 q0 o0 hRM hwM
              by_cases hs0 : s.size = 0
              · obtain rfl : s = ⟨#[]⟩ := by obtain ⟨⟨l⟩⟩ := s; have : l = [] := List.eq_nil_of_length_eq_zero (by simpa [ByteArray.size] using hs0); rw [this]
                go_wp2_with (go_at_call 20; refine (mod_ask _ _ _ _).mono ?_; rintro r wq ⟨rfl, hwq⟩; obtain rfl := hwq.symm)
                exact ⟨rfl, .inr (.inr ⟨_, _, HBAD.out _ (rdat_3 S1.out S2.out hs0), rfl, HK6.out⟩)⟩
              have e1 : s.toList ≠ [] := fun e => hs0 (by rw [ByteArray.toList_eq] at e; have := congrArg List.length e; simpa using this)
              have e2 : (!s.toList.isEmpty) = true := by cases h : s.toList with
                | nil => exact absurd h e1
                | cons x l => rfl
              go_wp2_with (go_at_call 20; refine (mod_ask _ _ _ _).mono ?_; rintro r wq ⟨rfl, hwq⟩; obtain rfl := hwq.symm)
              clear e1 e2
              obtain ⟨p0, -, -, -⟩ := HM6.out.pc
              obtain ⟨a2, c2, hvd, _⟩ := own_slice (HM6.out.fam.own (daE x3.dv x3.ds) (by simp [Mq.ents]))
              have hvd : x3.dv = .slice a2 x3.ds.length c2 := hvd
              have HVD := Lib.hid hvd
              clear hvd
              have m6 : w6.cell? ⟨mb, 6, none⟩ = some (.slice a2 x3.ds.length c2) := by rw [← HVD.out]; exact (HM6.out.mc (i := 6) rfl).1
              have q6 := row_cell HR6.out 0 rfl
              simp only [List.getElem_toArray, List.getElem_cons_zero] at q6
              have hbw := drew_bel w6
              have kc := cnv_run w6.drew s
              have hbv : Below w6.heap.size w6 (Lib.bytesWorld w6.drew 5 s) := below_next hbw (cnv_below w6.drew s)
              have hmc := (HM6.out.on hbw).conv N s
              obtain ⟨cap, hcap⟩ : ∃ c, grownCap w6.drew s.size 0 5 = c := ⟨_, rfl⟩
              rw [hcap] at kc hmc
              generalize Lib.bytesWorld w6.drew 5 s = wv at *
              have kc : (convert 9 30 (.string s)).run Tryd.prog w6.drew = .ok (.slice (some ⟨w6.heap.size, 0, none⟩) s.size cap) wv := kc
              have hmc : Md S B wv p mb bv b al q2 x3 [dqE ((⟨N, bys s⟩, .slice (some ⟨w6.heap.size, 0, none⟩) s.size cap) : Dq)] := hmc
              have v0 := cell_below hbv q6; have v1 := cell_below hbv p0; have v6 := cell_below hbv m6
              have hba := below_alloc wv (.cells #[.int .i64 N, .slice (some ⟨w6.heap.size, 0, none⟩) s.size cap] 52)
              have hbva := below_next hbv hba
              have z0 := cell_below hba v0; have z1 := cell_below hba v1; have z6 := cell_below hba v6
              have HMA := Lib.hid (hmc.on hba)
              have HKA := Lib.hid (HK6.out.trans (Kp.on (B := B) (p := p) (mb := mb) hbva))
              have HRA := Lib.hid ((hbva.block _ (row_lt HR6.out)).trans HR6.out)
              have HBA := Lib.hid ((hbva.block _ (row_lt HO6.out)).trans HO6.out)
              have HOA : Hid ((wv.alloc (.cells #[.int .i64 N, .slice (some ⟨w6.heap.size, 0, none⟩) s.size cap] 52)).ownsRow B 52 2 (.slice a2 x3.ds.length c2) x3.ds.length (x3.ds.flatMap dqC)) := Lib.hid (by have := HMA.out.fam.own (daE x3.dv x3.ds) (by simp [Mq.ents]); rw [HVD.out] at this; exact this)
              have HNP : Hid ((Value.slice a2 x3.ds.length c2).ownBlock ≠ some p) := Lib.hid (fun e => by have := (World.ownsRow.lt HOA.out p e).1; have := HMA.out.lo; omega)
              have HNM : Hid ((Value.slice a2 x3.ds.length c2).ownBlock ≠ some mb) := Lib.hid (fun e => by have := (World.ownsRow.lt HOA.out mb e).1; have := HMA.out.lo; omega)
              have HNR : Hid ((Value.slice a2 x3.ds.length c2).ownBlock ≠ some rb) := Lib.hid (own_ne HOA.out HRA.out (by decide))
              have HNO : Hid ((Value.slice a2 x3.ds.length c2).ownBlock ≠ some ob) := Lib.hid (own_ne HOA.out HBA.out (by decide))
              obtain ⟨A, hpA, hpB⟩ := Mq.pDat x3 ((⟨N, bys s⟩, .slice (some ⟨w6.heap.size, 0, none⟩) s.size cap) : Dq)
              have HPA := Lib.hid hpA
              have HPB := Lib.hid hpB
              have hBv := hmc.hi
              have n1 : rb ≠ mb := row_ne HR6.out HM6.out.mrow (by decide)
              have n2 : p ≠ mb := HM6.out.ne
              have n3 : ob ≠ mb := row_ne HO6.out HM6.out.mrow (by decide)
              have HP9 : Hid (RepAt (rdat R) n b q ((x3.ds ++ [((⟨N, bys s⟩, .slice (some ⟨w6.heap.size, 0, none⟩) s.size cap) : Dq)]).map (·.1)) q2) := Lib.hid (by rw [List.map_append]; exact HP.out.good (by rw [List.length_map, HL.out]; exact hlt) (rdat_4 S1.out S2.out hs0))
              have HL9 : Hid ((x3.ds ++ [((⟨N, bys s⟩, .slice (some ⟨w6.heap.size, 0, none⟩) s.size cap) : Dq)]).length = k + 1) := Lib.hid (by rw [List.length_append, HL.out]; rfl)
              have HQ9 : Hid (errL (errD R) [] ((x3.ds ++ [((⟨N, bys s⟩, .slice (some ⟨w6.heap.size, 0, none⟩) s.size cap) : Dq)]).map (·.1)) = 0) := Lib.hid (by rw [List.map_append]; exact errL_snoc HQ.out ((codec_rdat R (by omega) _).inv b q' _ q2 HB.out HLE.out (rdat_4 S1.out S2.out hs0)).1.2)
              clear hpA hpB hmc hbw hbv hba hbva hcap
              refine wp_region_held_drew (S := (fun wx => wx.cell? ⟨rb, 0, none⟩ = some (.pointer (some ⟨p, 0, none⟩)) ∧ wx.cell? ⟨p, 0, none⟩ = some (.pointer (some ⟨mb, 0, none⟩)))) (by kernel_rfl) ⟨q6, p0⟩ (fun hHeld => ?_)
              refine takeAt (i := 0) (d := 45) (v := ?_) rfl (by kernel_rfl) (by kernel_rfl) (by kernel_rfl) (by kernel_rfl) (fun _ _ _ h => h) (Or.inl ⟨by kernel_rfl, ?_⟩) (by assumption) ?_
              rotate_left
              · (intro w hSw; (try dsimp only at hSw); go_simp; all_goals (with_reducible rfl))
              (try simp only [Act.put, List.setIfInBounds_toArray, List.set_cons_zero, List.set_cons_succ])
              refine takeAt (i := 1) (d := 46) (v := ?_) rfl (by kernel_rfl) (by kernel_rfl) (by kernel_rfl) (by kernel_rfl) (fun _ _ _ h => h) (Or.inl ⟨by kernel_rfl, ?_⟩) (by assumption) ?_
              rotate_left
              · (intro w hSw; (try dsimp only at hSw); go_simp; all_goals (with_reducible rfl))
              (try simp only [Act.put, List.setIfInBounds_toArray, List.set_cons_zero, List.set_cons_succ])
              refine takeAt (i := 2) (d := 47) (v := ?_) rfl (by kernel_rfl) (by kernel_rfl) (by kernel_rfl) (by kernel_rfl) (fun _ _ _ h => h) (Or.inl ⟨by kernel_rfl, ?_⟩) (by assumption) ?_
              rotate_left
              · (intro w hSw; (try dsimp only at hSw); go_simp; all_goals (with_reducible rfl))
              (try simp only [Act.put, List.setIfInBounds_toArray, List.set_cons_zero, List.set_cons_succ])
              refine takeAt (i := 3) (d := 48) (v := ?_) rfl (by kernel_rfl) (by kernel_rfl) (by kernel_rfl) (by kernel_rfl) (fun _ _ _ h => h) (Or.inl ⟨by kernel_rfl, ?_⟩) (by assumption) ?_
              rotate_left
              · (intro w hSw; (try dsimp only at hSw); go_simp; all_goals (with_reducible rfl))
              (try simp only [Act.put, List.setIfInBounds_toArray, List.set_cons_zero, List.set_cons_succ])
              refine takeAt (i := 4) (d := 49) (v := ?_) rfl (by kernel_rfl) (by kernel_rfl) (by kernel_rfl) (by kernel_rfl) (fun _ _ _ h => h) (Or.inl ⟨by kernel_rfl, ?_⟩) (by assumption) ?_
              rotate_left
              · (intro w hSw; (try dsimp only at hSw); go_simp; all_goals (with_reducible rfl))
              (try simp only [Act.put, List.setIfInBounds_toArray, List.set_cons_zero, List.set_cons_succ])
              refine takeAt (i := 5) (d := 50) (v := ?_) rfl (by kernel_rfl) (by kernel_rfl) (by kernel_rfl) (by kernel_rfl) (fun _ _ _ h => h) (Or.inl ⟨by kernel_rfl, ?_⟩) (by assumption) ?_
              rotate_left
              · (intro w hSw; (try dsimp only at hSw); go_simp; all_goals (with_reducible rfl))
              (try simp only [Act.put, List.setIfInBounds_toArray, List.set_cons_zero, List.set_cons_succ])
              refine takeAt (i := 6) (d := 51) (v := ?_) rfl (by kernel_rfl) (by kernel_rfl) (by kernel_rfl) (by kernel_rfl) (fun _ _ _ h => h) (Or.inl ⟨by kernel_rfl, ?_⟩) (by assumption) ?_
              rotate_left
              · (intro w hSw; (try dsimp only at hSw); go_simp; all_goals (with_reducible rfl))
              (try simp only [Act.put, List.setIfInBounds_toArray, List.set_cons_zero, List.set_cons_succ])
              refine takeAt (i := 7) (d := 52) (v := ?_) rfl (by kernel_rfl) (by kernel_rfl) (by kernel_rfl) (by kernel_rfl) (fun _ _ _ h => h) (Or.inl ⟨by kernel_rfl, ?_⟩) (by assumption) ?_
              rotate_left
              · (intro w hSw; (try dsimp only at hSw); go_simp; all_goals (with_reducible rfl))
              (try simp only [Act.put, List.setIfInBounds_toArray, List.set_cons_zero, List.set_cons_succ])
              refine takeAt (i := 8) (d := 53) (v := ?_) rfl (by kernel_rfl) (by kernel_rfl) (by kernel_rfl) (by kernel_rfl) (fun _ _ _ h => h) (Or.inl ⟨by kernel_rfl, ?_⟩) (by assumption) ?_
              rotate_left
              · (intro w hSw; (try dsimp only at hSw); go_simp; all_goals (with_reducible rfl))
              (try simp only [Act.put, List.setIfInBounds_toArray, List.set_cons_zero, List.set_cons_succ])
              refine takeAt (i := 9) (d := 54) (v := ?_) rfl (by kernel_rfl) (by kernel_rfl) (by kernel_rfl) (by kernel_rfl) (fun _ _ _ h => h) (Or.inl ⟨by kernel_rfl, ?_⟩) (by assumption) ?_
              rotate_left
              · (intro w hSw; (try dsimp only at hSw); go_simp; all_goals (with_reducible rfl))
              (try simp only [Act.put, List.setIfInBounds_toArray, List.set_cons_zero, List.set_cons_succ])
              refine takeAt (i := 10) (d := 55) (v := ?_) rfl (by kernel_rfl) (by kernel_rfl) (by kernel_rfl) (by kernel_rfl) (fun _ _ _ h => h) (Or.inl ⟨by kernel_rfl, ?_⟩) (by assumption) ?_
              rotate_left
              · (intro w hSw; (try dsimp only at hSw); go_simp; all_goals (with_reducible rfl))
              (try simp only [Act.put, List.setIfInBounds_toArray, List.set_cons_zero, List.set_cons_succ])
              refine takeAt (i := 11) (d := 56) (v := ?_) rfl (by kernel_rfl) (by kernel_rfl) (by kernel_rfl) (by kernel_rfl) (fun _ _ _ h => h) (Or.inl ⟨by kernel_rfl, ?_⟩) (by assumption) ?_
              rotate_left
              · (intro w hSw; (try dsimp only at hSw); go_simp; all_goals (with_reducible rfl))
              (try simp only [Act.put, List.setIfInBounds_toArray, List.set_cons_zero, List.set_cons_succ])
              refine takeAt (i := 13) (d := 58) (v := ?_) rfl (by kernel_rfl) (by kernel_rfl) (by kernel_rfl) (by kernel_rfl) (fun _ _ _ h => h) (Or.inl ⟨by kernel_rfl, ?_⟩) (by assumption) ?_
              rotate_left
              · (intro w hSw; (try dsimp only at hSw); go_simp; all_goals (with_reducible rfl))
              (try simp only [Act.put, List.setIfInBounds_toArray, List.set_cons_zero, List.set_cons_succ])
              refine takeAt (i := 14) (d := 59) (v := ?_) rfl (by kernel_rfl) (by kernel_rfl) (by kernel_rfl) (by kernel_rfl) (fun _ _ _ h => h) (Or.inl ⟨by kernel_rfl, ?_⟩) (by assumption) ?_
              rotate_left
              · (intro w hSw; (try dsimp only at hSw); go_simp; all_goals (with_reducible rfl))
              (try simp only [Act.put, List.setIfInBounds_toArray, List.set_cons_zero, List.set_cons_succ])
              refine wpAnyH_ready (rs := [12, 15]) (by kernel_rfl) (by simp) ?_
              refine AllReadyH.cons rfl (fun K hK => ?_) (AllReadyH.cons rfl (fun K hK => ?_) AllReadyH.nil)
              · go_simp
                refine hK.out _ _ hHeld (fun hHeld => ?_)
                clear hK K
                (try refine stateAt (d := 57) (by kernel_rfl) ?_)
                (try simp only [Act.put, List.setIfInBounds_toArray, List.set_cons_zero, List.set_cons_succ])
                refine wpAnyH_ready (rs := [15]) (by kernel_rfl) (by simp) ?_
                refine AllReadyH.cons rfl (fun K hK => ?_) AllReadyH.nil
                go_simp
                refine hK.out _ _ ⟨v0, v1⟩ (fun hHeld => ?_)
                clear hK K
                (try refine stateAt (d := 60) (by kernel_rfl) ?_)
                (try simp only [Act.put, List.setIfInBounds_toArray, List.set_cons_zero, List.set_cons_succ])
                refine takeAt (i := 16) (d := 61) (v := ?_) rfl (by kernel_rfl) (by kernel_rfl) (by kernel_rfl) (by kernel_rfl) (fun _ _ _ h => h) (Or.inl ⟨by kernel_rfl, ?_⟩) (by assumption) ?_
                rotate_left
                · (intro w hSw; (try dsimp only at hSw); go_simp; all_goals (with_reducible rfl))
                (try simp only [Act.put, List.setIfInBounds_toArray, List.set_cons_zero, List.set_cons_succ])
                refine wpAnyH_ready (rs := [17]) (by kernel_rfl) (by simp) ?_
                refine AllReadyH.cons rfl (fun K hK => ?_) AllReadyH.nil
                go_simp
                refine hK.out _ _ ⟨z0, z1⟩ (fun hHeld => ?_)
                clear hK K
                (try refine stateAt (d := 62) (by kernel_rfl) ?_)
                (try simp only [Act.put, List.setIfInBounds_toArray, List.set_cons_zero, List.set_cons_succ])
                refine wpAnyH_ready (rs := [18]) (by kernel_rfl) (by simp) ?_
                refine AllReadyH.cons rfl (fun K hK => ?_) AllReadyH.nil
                clear hHeld
                refine step_append_lies _ (by rfl) _ _ 26 (by rfl) B 52 i0 _ 2 32 Tryd.underlying26 hi hz0 hz1 hz2 rfl (by omega) (.slice a2 x3.ds.length c2) x3.ds.length (x3.ds.flatMap dqC) (by rfl) HOA.out ⟨wv.heap.size, 0, none⟩ 1 1 [.int .i64 N, .slice (some ⟨w6.heap.size, 0, none⟩) s.size cap] (by rfl) (by rfl) (news2 wv _ _ _) (by simp [Value.oneCell']) (by omega) (by unfold maxLen; omega) (by omega) (by rw [World.size_alloc]; omega) (wv.heap.size + 1) (by rw [World.size_alloc]) ?_
                intro g9 cap9 w9 hown9 hgrow9 hat9 hlt9
                have hm9 := grown_block hgrow9 HMA.out.mrow HNM.out
                have c9 := row_cell hm9 6 rfl
                have f9 := row_free hm9 6
                have hp9 := grown_block hgrow9 HMA.out.rm.row HNP.out
                have hr9 := grown_block hgrow9 HRA.out HNR.out
                have ho9 := grown_block hgrow9 HBA.out HNO.out
                have d9 := row_cell hp9 0 rfl
                have e9 := row_cell hr9 0 rfl
                refine hK.out _ _ ⟨e9, d9⟩ (fun hHeld => ?_)
                clear hK K
                (try refine stateAt (d := 63) (by kernel_rfl) ?_)
                (try simp only [Act.put, List.setIfInBounds_toArray, List.set_cons_zero, List.set_cons_succ])
                refine takeAt (i := 19) (d := 64) (v := ?_) rfl (by kernel_rfl) (by kernel_rfl) (by kernel_rfl) (by kernel_rfl) (fun _ _ _ h => h) (Or.inl ⟨by kernel_rfl, ?_⟩) (by assumption) ?_
                rotate_left
                · (intro w hSw; (try dsimp only at hSw); go_simp; all_goals (with_reducible rfl))
                (try simp only [Act.put, List.setIfInBounds_toArray, List.set_cons_zero, List.set_cons_succ])
                refine takeAt (i := 20) (d := 65) (v := ?_) rfl (by kernel_rfl) (by kernel_rfl) (by kernel_rfl) (by kernel_rfl) (fun _ _ _ h => h) (Or.inl ⟨by kernel_rfl, ?_⟩) (by assumption) ?_
                rotate_left
                · (intro w hSw; (try dsimp only at hSw); go_simp; all_goals (with_reducible rfl))
                (try simp only [Act.put, List.setIfInBounds_toArray, List.set_cons_zero, List.set_cons_succ])
                refine wpAnyH_ready (rs := [21]) (by kernel_rfl) (by simp) ?_
                refine AllReadyH.cons rfl (fun K hK => ?_) AllReadyH.nil
                have n9 := (Keeps.refl (fun b => b ≠ mb) w9).setCell (a := ⟨mb, 6, none⟩) (by simp) (.slice (some ⟨g9, 0, none⟩) (x3.ds.length + 1) cap9)
                have hpc := row_cell ((n9.block _ (row_lt hp9) n2).trans hp9) 0 rfl
                have hrx := (n9.block _ (row_lt hr9) n1).trans hr9
                have hrc := row_cell hrx 0 rfl
                have PP := HMA.out.grow (e := daE (.slice a2 x3.ds.length c2) x3.ds) (e' := daE (.slice (some ⟨g9, 0, none⟩) (x3.ds.length + 1) cap9) (x3.ds ++ [((⟨N, bys s⟩, .slice (some ⟨w6.heap.size, 0, none⟩) s.size cap) : Dq)])) (i := 6) (x' := { x3 with dv := (.slice (some ⟨g9, 0, none⟩) (x3.ds.length + 1) cap9), ds := x3.ds ++ [((⟨N, bys s⟩, .slice (some ⟨w6.heap.size, 0, none⟩) s.size cap) : Dq)] }) (X' := []) (by rw [← HVD.out]; exact HPA.out) (HPB.out _) rfl rfl hgrow9 (by simpa [daE, dqC] using hown9) (at_of5 hat9 (by rw [World.size_alloc]; exact Nat.le_refl _))
                have HM9 := Lib.hid PP.1
                have HK9 := Lib.hid (HKA.out.trans PP.2)
                have HR9 := Lib.hid hrx
                have HO9 := Lib.hid ((n9.block _ (row_lt ho9) n3).trans ho9)
                have HS9 : Hid (SaA x { x3 with dv := (.slice (some ⟨g9, 0, none⟩) (x3.ds.length + 1) cap9), ds := x3.ds ++ [((⟨N, bys s⟩, .slice (some ⟨w6.heap.size, 0, none⟩) s.size cap) : Dq)] }) := Lib.hid ⟨HS.out.ts, HS.out.hs, HS.out.gs, HS.out.first, HS.out.most⟩
                go_simp
                refine hK.out _ _ ⟨hrc, hpc⟩ (fun hHeld => ?_)
                clear hK K
                (try simp only [Act.put, List.setIfInBounds_toArray, List.set_cons_zero, List.set_cons_succ])
                refine wpAnyH_done (by kernel_rfl) ?_ _
                clear HP HL S1 S2 PP HMA HKA HRA HOA HBA HM6 HK6 HR6 HO6 HS HQ HBAD
                go_wp2_with fail
                go_roundw
                case rel => exact ⟨k + 1, q2, { x3 with dv := (.slice (some ⟨g9, 0, none⟩) (x3.ds.length + 1) cap9), ds := x3.ds ++ [((⟨N, bys s⟩, .slice (some ⟨w6.heap.size, 0, none⟩) s.size cap) : Dq)] }, by omega, by go_num, HM9, HK9, HR9, HO9, HP9, HL9, HS9, HE, HQ9⟩
                case measure => simp [intOf]; omega
              · go_simp
                refine hK.out _ _ ⟨v0, v1⟩ (fun hHeld => ?_)
                clear hK K
                (try refine stateAt (d := 60) (by kernel_rfl) ?_)
                (try simp only [Act.put, List.setIfInBounds_toArray, List.set_cons_zero, List.set_cons_succ])
                refine takeAt (i := 16) (d := 61) (v := ?_) rfl (by kernel_rfl) (by kernel_rfl) (by kernel_rfl) (by kernel_rfl) (fun _ _ _ h => h) (Or.inl ⟨by kernel_rfl, ?_⟩) (by assumption) ?_
                rotate_left
                · (intro w hSw; (try dsimp only at hSw); go_simp; all_goals (with_reducible rfl))
                (try simp only [Act.put, List.setIfInBounds_toArray, List.set_cons_zero, List.set_cons_succ])
                refine wpAnyH_ready (rs := [12, 17]) (by kernel_rfl) (by simp) ?_
                refine AllReadyH.cons rfl (fun K hK => ?_) (AllReadyH.cons rfl (fun K hK => ?_) AllReadyH.nil)
                · go_simp
                  refine hK.out _ _ ⟨v0, v1⟩ (fun hHeld => ?_)
                  clear hK K
                  (try refine stateAt (d := 57) (by kernel_rfl) ?_)
                  (try simp only [Act.put, List.setIfInBounds_toArray, List.set_cons_zero, List.set_cons_succ])
                  refine wpAnyH_ready (rs := [17]) (by kernel_rfl) (by simp) ?_
                  refine AllReadyH.cons rfl (fun K hK => ?_) AllReadyH.nil
                  go_simp
                  refine hK.out _ _ ⟨z0, z1⟩ (fun hHeld => ?_)
                  clear hK K
                  (try refine stateAt (d := 62) (by kernel_rfl) ?_)
                  (try simp only [Act.put, List.setIfInBounds_toArray, List.set_cons_zero, List.set_cons_succ])
                  refine wpAnyH_ready (rs := [18]) (by kernel_rfl) (by simp) ?_
                  refine AllReadyH.cons rfl (fun K hK => ?_) AllReadyH.nil
                  clear hHeld
                  refine step_append_lies _ (by rfl) _ _ 26 (by rfl) B 52 i0 _ 2 32 Tryd.underlying26 hi hz0 hz1 hz2 rfl (by omega) (.slice a2 x3.ds.length c2) x3.ds.length (x3.ds.flatMap dqC) (by rfl) HOA.out ⟨wv.heap.size, 0, none⟩ 1 1 [.int .i64 N, .slice (some ⟨w6.heap.size, 0, none⟩) s.size cap] (by rfl) (by rfl) (news2 wv _ _ _) (by simp [Value.oneCell']) (by omega) (by unfold maxLen; omega) (by omega) (by rw [World.size_alloc]; omega) (wv.heap.size + 1) (by rw [World.size_alloc]) ?_
                  intro g9 cap9 w9 hown9 hgrow9 hat9 hlt9
                  have hm9 := grown_block hgrow9 HMA.out.mrow HNM.out
                  have c9 := row_cell hm9 6 rfl
                  have f9 := row_free hm9 6
                  have hp9 := grown_block hgrow9 HMA.out.rm.row HNP.out
                  have hr9 := grown_block hgrow9 HRA.out HNR.out
                  have ho9 := grown_block hgrow9 HBA.out HNO.out
                  have d9 := row_cell hp9 0 rfl
                  have e9 := row_cell hr9 0 rfl
                  refine hK.out _ _ ⟨e9, d9⟩ (fun hHeld => ?_)
                  clear hK K
                  (try refine stateAt (d := 63) (by kernel_rfl) ?_)
                  (try simp only [Act.put, List.setIfInBounds_toArray, List.set_cons_zero, List.set_cons_succ])
                  refine takeAt (i := 19) (d := 64) (v := ?_) rfl (by kernel_rfl) (by kernel_rfl) (by kernel_rfl) (by kernel_rfl) (fun _ _ _ h => h) (Or.inl ⟨by kernel_rfl, ?_⟩) (by assumption) ?_
                  rotate_left
                  · (intro w hSw; (try dsimp only at hSw); go_simp; all_goals (with_reducible rfl))
                  (try simp only [Act.put, List.setIfInBounds_toArray, List.set_cons_zero, List.set_cons_succ])
                  refine takeAt (i := 20) (d := 65) (v := ?_) rfl (by kernel_rfl) (by kernel_rfl) (by kernel_rfl) (by kernel_rfl) (fun _ _ _ h => h) (Or.inl ⟨by kernel_rfl, ?_⟩) (by assumption) ?_
                  rotate_left
                  · (intro w hSw; (try dsimp only at hSw); go_simp; all_goals (with_reducible rfl))
                  (try simp only [Act.put, List.setIfInBounds_toArray, List.set_cons_zero, List.set_cons_succ])
                  refine wpAnyH_ready (rs := [21]) (by kernel_rfl) (by simp) ?_
                  refine AllReadyH.cons rfl (fun K hK => ?_) AllReadyH.nil
                  have n9 := (Keeps.refl (fun b => b ≠ mb) w9).setCell (a := ⟨mb, 6, none⟩) (by simp) (.slice (some ⟨g9, 0, none⟩) (x3.ds.length + 1) cap9)
                  have hpc := row_cell ((n9.block _ (row_lt hp9) n2).trans hp9) 0 rfl
                  have hrx := (n9.block _ (row_lt hr9) n1).trans hr9
                  have hrc := row_cell hrx 0 rfl
                  have PP := HMA.out.grow (e := daE (.slice a2 x3.ds.length c2) x3.ds) (e' := daE (.slice (some ⟨g9, 0, none⟩) (x3.ds.length + 1) cap9) (x3.ds ++ [((⟨N, bys s⟩, .slice (some ⟨w6.heap.size, 0, none⟩) s.size cap) : Dq)])) (i := 6) (x' := { x3 with dv := (.slice (some ⟨g9, 0, none⟩) (x3.ds.length + 1) cap9), ds := x3.ds ++ [((⟨N, bys s⟩, .slice (some ⟨w6.heap.size, 0, none⟩) s.size cap) : Dq)] }) (X' := []) (by rw [← HVD.out]; exact HPA.out) (HPB.out _) rfl rfl hgrow9 (by simpa [daE, dqC] using hown9) (at_of5 hat9 (by rw [World.size_alloc]; exact Nat.le_refl _))
                  have HM9 := Lib.hid PP.1
                  have HK9 := Lib.hid (HKA.out.trans PP.2)
                  have HR9 := Lib.hid hrx
                  have HO9 := Lib.hid ((n9.block _ (row_lt ho9) n3).trans ho9)
                  have HS9 : Hid (SaA x { x3 with dv := (.slice (some ⟨g9, 0, none⟩) (x3.ds.length + 1) cap9), ds := x3.ds ++ [((⟨N, bys s⟩, .slice (some ⟨w6.heap.size, 0, none⟩) s.size cap) : Dq)] }) := Lib.hid ⟨HS.out.ts, HS.out.hs, HS.out.gs, HS.out.first, HS.out.most⟩
                  go_simp
                  refine hK.out _ _ ⟨hrc, hpc⟩ (fun hHeld => ?_)
                  clear hK K
                  (try simp only [Act.put, List.setIfInBounds_toArray, List.set_cons_zero, List.set_cons_succ])
                  refine wpAnyH_done (by kernel_rfl) ?_ _
                  clear HP HL S1 S2 PP HMA HKA HRA HOA HBA HM6 HK6 HR6 HO6 HS HQ HBAD
                  go_wp2_with fail
                  go_roundw
                  case rel => exact ⟨k + 1, q2, { x3 with dv := (.slice (some ⟨g9, 0, none⟩) (x3.ds.length + 1) cap9), ds := x3.ds ++ [((⟨N, bys s⟩, .slice (some ⟨w6.heap.size, 0, none⟩) s.size cap) : Dq)] }, by omega, by go_num, HM9, HK9, HR9, HO9, HP9, HL9, HS9, HE, HQ9⟩
                  case measure => simp [intOf]; omega
                · go_simp
                  refine hK.out _ _ ⟨z0, z1⟩ (fun hHeld => ?_)
                  clear hK K
                  (try refine stateAt (d := 62) (by kernel_rfl) ?_)
                  (try simp only [Act.put, List.setIfInBounds_toArray, List.set_cons_zero, List.set_cons_succ])
                  refine wpAnyH_ready (rs := [12]) (by kernel_rfl) (by simp) ?_
                  refine AllReadyH.cons rfl (fun K hK => ?_) AllReadyH.nil
                  go_simp
                  refine hK.out _ _ ⟨z0, z1⟩ (fun hHeld => ?_)
                  clear hK K
                  (try refine stateAt (d := 57) (by kernel_rfl) ?_)
                  (try simp only [Act.put, List.setIfInBounds_toArray, List.set_cons_zero, List.set_cons_succ])
                  refine wpAnyH_ready (rs := [18]) (by kernel_rfl) (by simp) ?_
                  refine AllReadyH.cons rfl (fun K hK => ?_) AllReadyH.nil
                  clear hHeld
                  refine step_append_lies _ (by rfl) _ _ 26 (by rfl) B 52 i0 _ 2 32 Tryd.underlying26 hi hz0 hz1 hz2 rfl (by omega) (.slice a2 x3.ds.length c2) x3.ds.length (x3.ds.flatMap dqC) (by rfl) HOA.out ⟨wv.heap.size, 0, none⟩ 1 1 [.int .i64 N, .slice (some ⟨w6.heap.size, 0, none⟩) s.size cap] (by rfl) (by rfl) (news2 wv _ _ _) (by simp [Value.oneCell']) (by omega) (by unfold maxLen; omega) (by omega) (by rw [World.size_alloc]; omega) (wv.heap.size + 1) (by rw [World.size_alloc]) ?_
                  intro g9 cap9 w9 hown9 hgrow9 hat9 hlt9
                  have hm9 := grown_block hgrow9 HMA.out.mrow HNM.out
                  have c9 := row_cell hm9 6 rfl
                  have f9 := row_free hm9 6
                  have hp9 := grown_block hgrow9 HMA.out.rm.row HNP.out
                  have hr9 := grown_block hgrow9 HRA.out HNR.out
                  have ho9 := grown_block hgrow9 HBA.out HNO.out
                  have d9 := row_cell hp9 0 rfl
                  have e9 := row_cell hr9 0 rfl
                  refine hK.out _ _ ⟨e9, d9⟩ (fun hHeld => ?_)
                  clear hK K
                  (try refine stateAt (d := 63) (by kernel_rfl) ?_)
                  (try simp only [Act.put, List.setIfInBounds_toArray, List.set_cons_zero, List.set_cons_succ])
                  refine takeAt (i := 19) (d := 64) (v := ?_) rfl (by kernel_rfl) (by kernel_rfl) (by kernel_rfl) (by kernel_rfl) (fun _ _ _ h => h) (Or.inl ⟨by kernel_rfl, ?_⟩) (by assumption) ?_
                  rotate_left
                  · (intro w hSw; (try dsimp only at hSw); go_simp; all_goals (with_reducible rfl))
                  (try simp only [Act.put, List.setIfInBounds_toArray, List.set_cons_zero, List.set_cons_succ])
                  refine takeAt (i := 20) (d := 65) (v := ?_) rfl (by kernel_rfl) (by kernel_rfl) (by kernel_rfl) (by kernel_rfl) (fun _ _ _ h => h) (Or.inl ⟨by kernel_rfl, ?_⟩) (by assumption) ?_
                  rotate_left
                  · (intro w hSw; (try dsimp only at hSw); go_simp; all_goals (with_reducible rfl))
                  (try simp only [Act.put, List.setIfInBounds_toArray, List.set_cons_zero, List.set_cons_succ])
                  refine wpAnyH_ready (rs := [21]) (by kernel_rfl) (by simp) ?_
                  refine AllReadyH.cons rfl (fun K hK => ?_) AllReadyH.nil
                  have n9 := (Keeps.refl (fun b => b ≠ mb) w9).setCell (a := ⟨mb, 6, none⟩) (by simp) (.slice (some ⟨g9, 0, none⟩) (x3.ds.length + 1) cap9)
                  have hpc := row_cell ((n9.block _ (row_lt hp9) n2).trans hp9) 0 rfl
                  have hrx := (n9.block _ (row_lt hr9) n1).trans hr9
                  have hrc := row_cell hrx 0 rfl
                  have PP := HMA.out.grow (e := daE (.slice a2 x3.ds.length c2) x3.ds) (e' := daE (.slice (some ⟨g9, 0, none⟩) (x3.ds.length + 1) cap9) (x3.ds ++ [((⟨N, bys s⟩, .slice (some ⟨w6.heap.size, 0, none⟩) s.size cap) : Dq)])) (i := 6) (x' := { x3 with dv := (.slice (some ⟨g9, 0, none⟩) (x3.ds.length + 1) cap9), ds := x3.ds ++ [((⟨N, bys s⟩, .slice (some ⟨w6.heap.size, 0, none⟩) s.size cap) : Dq)] }) (X' := []) (by rw [← HVD.out]; exact HPA.out) (HPB.out _) rfl rfl hgrow9 (by simpa [daE, dqC] using hown9) (at_of5 hat9 (by rw [World.size_alloc]; exact Nat.le_refl _))
                  have HM9 := Lib.hid PP.1
                  have HK9 := Lib.hid (HKA.out.trans PP.2)
                  have HR9 := Lib.hid hrx
                  have HO9 := Lib.hid ((n9.block _ (row_lt ho9) n3).trans ho9)
                  have HS9 : Hid (SaA x { x3 with dv := (.slice (some ⟨g9, 0, none⟩) (x3.ds.length + 1) cap9), ds := x3.ds ++ [((⟨N, bys s⟩, .slice (some ⟨w6.heap.size, 0, none⟩) s.size cap) : Dq)] }) := Lib.hid ⟨HS.out.ts, HS.out.hs, HS.out.gs, HS.out.first, HS.out.most⟩
                  go_simp
                  refine hK.out _ _ ⟨hrc, hpc⟩ (fun hHeld => ?_)
                  clear hK K
                  (try simp only [Act.put, List.setIfInBounds_toArray, List.set_cons_zero, List.set_cons_succ])
                  refine wpAnyH_done (by kernel_rfl) ?_ _
                  clear HP HL S1 S2 PP HMA HKA HRA HOA HBA HM6 HK6 HR6 HO6 HS HQ HBAD
                  go_wp2_with fail
                  go_roundw
                  case rel => exact ⟨k + 1, q2, { x3 with dv := (.slice (some ⟨g9, 0, none⟩) (x3.ds.length + 1) cap9), ds := x3.ds ++ [((⟨N, bys s⟩, .slice (some ⟨w6.heap.size, 0, none⟩) s.size cap) : Dq)] }, by omega, by go_num, HM9, HK9, HR9, HO9, HP9, HL9, HS9, HE, HQ9⟩
                  case measure => simp [intOf]; omega
            · obtain rfl : k = n := by omega
              have HDS : Hid (rmany 64 (rdat R) b qf = .ok (x3.ds.map (·.1), q')) := Lib.hid (many_good HN.out (HP.out.done (by rw [List.length_map]; exact HL.out)))
              clear HN HP HL HQ hk hn hlt HO o0
              obtain ⟨ds, hds⟩ : ∃ l, x3.ds = l := ⟨_, rfl⟩
              rw [hds] at HDS
              have HDQ := Lib.hid hds
              clear hds
              obtain ⟨qd, hqd⟩ : ∃ q, q' = q := ⟨_, rfl⟩
              rw [hqd] at HDS HM
              clear hqd q'
              go_wp2_with fail
              have HU1 := Lib.hid (fun wx (hx : Rm S wx p mb bv b al qd) f (hf : Up wx f 64 20 p) => rm_upTo hx HB.out HSP.out 64 64 rfl 20 (by decide) (by omega) f hf)
              go_cut [69, 70] (fun c11 c12 wx => c12 = .int .i64 0 ∧ ∃ n q, c11 = .int .i64 (n : Nat) ∧ Hid (rnum 64 20 b qd = .ok (n, q)) ∧ Hid (Md S B wx p mb bv b al q x3 []) ∧ Hid (Kp B p mb w wx) ∧ Hid (wx.heap[rb]? = some (.cells #[.pointer (some ⟨p, 0, none⟩)] 66 (0, 0))))
              case first =>
                as_aux_lemma =>
                go_region_law (first
                  | (go_simp; go_at_call 45; (with_reducible refine (mod_upTo _ 64 20).mono ?_); rintro e w2 ⟨f, rfl, hb2, hup⟩; have q0 := cell_below hb2 q0; have HM2 := Lib.hid (HM.out.on (below_next (drew_bel wr) hb2)); have HK2 := Lib.hid (HK.out.trans (Kp.on (below_next (drew_bel wr) hb2))); have HR2 := Lib.hid (((below_next (drew_bel wr) hb2).block _ (row_lt HR.out)).trans HR.out))
                  | (go_simp; go_at_call 44; (with_reducible refine (HU1.out _ HM2.out.rm f (hup p)).mono ?_); rintro e w3 (⟨n, q, h1, rfl, h2, h3⟩ | ⟨z, k, h1, rfl, h3⟩); rotate_left 1; exact ⟨rfl, .inr (.inr ⟨_, _, (by rw [HRBD.out]; exact bind_bad2 HFA.out (bind_bad2 HDS.out (many_bad1 h1))), rfl, HK2.out.trans (Kp.read h3)⟩)⟩))
                all_goals
                  have HM3 := Lib.hid (HM2.out.read h2 h3)
                  have HK3 : Hid (Kp B p mb w w3) := Lib.hid (HK2.out.trans (Kp.read h3))
                  have HR3 := Lib.hid ((h3.block _ (row_lt HR2.out) (row_ne HR2.out HM2.out.rm.row (by decide))).trans HR2.out)
                  have H1 := Lib.hid h1
                  clear h1 h2 h3
                  go_wp2_with fail
                  go_meet
                  exact ⟨rfl, n, q, rfl, H1, HM3, HK3, HR3⟩
              case rest =>
                obtain ⟨rfl, n, q, rfl, HN, HM, HK, HR⟩ := hcut
                clear HU1 q0
                have q0 := row_cell HR.out 0 rfl
                have hn := (rnum_le5 HN.out).1
                simp only [List.getElem_toArray, List.getElem_cons_zero] at q0
                obtain ⟨nf, hnf⟩ : ∃ n, fs.length = n := ⟨_, rfl⟩
                have HNF : Hid ((fs.map Fq5.f).length = nf) := Lib.hid (by rw [List.length_map, hnf])
                have HFL := Lib.hid hnf
                have hnl : nf ≤ 128 := by omega
                clear hnf hfl
                go_wp2_with fail
                go_loopw [70] (fun i wr => ∃ (k q' : Nat) (x4 : Mq), k ≤ n ∧ i = .int .i64 k ∧ Hid (Md S B wr p mb bv b al q' x4 []) ∧ Hid (Kp B p mb w wr) ∧ Hid (wr.heap[rb]? = some (.cells #[.pointer (some ⟨p, 0, none⟩)] 66 (0, 0))) ∧ Hid (RepAt (rexp nf) n b q x4.es q') ∧ Hid (x4.es.length = k) ∧ Hid (SaA x x4) ∧ Hid (x4.fs = fs ∧ x4.ds = ds)) (fun i _ => n - (intOf i).toNat)
                case atStart => exact ⟨0, q, x3, by omega, rfl, HM, HK, HR, Lib.hid (by rw [HE.out.2]; exact RepAt.zero _ _ _ _), Lib.hid (by rw [HE.out.2]; rfl), HS, Lib.hid ⟨HE.out.1, HDQ.out⟩⟩
                case round =>
                  clear HM HK HR HS HE HDQ q0
                  obtain ⟨k, q', x4, hk, rfl, HM, HK, HR, HP, HL, HS, HE⟩ := hrel
                  have q0 := row_cell HR.out 0 rfl
                  simp only [List.getElem_toArray, List.getElem_cons_zero] at q0
                  by_cases hlt : k < n
                  · --@DONE{
                    have hel : x4.es.length ≤ 64 := by have := HL.out; omega
                    have HBAD := Lib.hid (fun (z : Int × Nat) (hz : rexp nf x4.es b q' = .error z) => (show rbd x.ts x.first b at_ = .error z from by rw [HRBD.out]; exact bind_bad2 HFA.out (bind_bad2 HDS.out (by rw [HNF.out]; exact many_bad2 HN.out (HP.out.bad (by rw [HL.out]; exact hlt) hz)))))
                    go_wp2_with fail
                    refine (rm_text HM.out.rm HB.out HSP.out 32 (by omega)).mono ?_
                    rintro e w5 (⟨s, q1, h1, rfl, h2, h3⟩ | ⟨z, kk, h1, rfl, h3⟩)
                    rotate_left
                    · exact ⟨rfl, .inr (.inr ⟨_, _, HBAD.out _ (rexp_1 h1), rfl, HK.out.trans (Kp.read h3)⟩)⟩
                    have S1 := Lib.hid h1
                    have HM5 := Lib.hid (HM.out.read h2 h3)
                    have HK5 : Hid (Kp B p mb w w5) := Lib.hid (HK.out.trans (Kp.read h3))
                    have HR5 := Lib.hid ((h3.block _ (row_lt HR.out) (row_ne HR.out HM.out.rm.row (by decide))).trans HR.out)
                    clear h1 h2 h3 HM HK HR q0
                    have q0 := row_cell HR5.out 0 rfl
                    obtain ⟨p0, -, -, -⟩ := HM5.out.pc
                    obtain ⟨a2, c2, hve, _⟩ := own_slice (HM5.out.fam.own (exE x4.ev x4.es) (by simp [Mq.ents]))
                    have hve : x4.ev = .slice a2 x4.es.length c2 := hve
                    have HVE := Lib.hid hve
                    obtain ⟨a5, c5, hvf, _⟩ := own_slice (HM5.out.fam.own (fuE x4.fv x4.fs) (by simp [Mq.ents]))
                    have hvf : x4.fv = .slice a5 nf c5 := by rw [← HFL.out, ← HE.out.1]; exact hvf
                    have HVF := Lib.hid hvf
                    clear hve hvf
                    have m7 : w5.cell? ⟨mb, 7, none⟩ = some (.slice a2 x4.es.length c2) := by rw [← HVE.out]; exact (HM5.out.mc (i := 7) rfl).1
                    have hex : RdExps (fun b => B ≤ b) w5 (.slice a2 x4.es.length c2) x4.es := by rw [← HVE.out]; exact HM5.out.exps (by omega)
                    have HEX := Lib.hid hex
                    clear hex
                    simp only [List.getElem_toArray, List.getElem_cons_zero] at q0
                    go_wp2_with fail
                    refine (mod_named w5 (fun b => B ≤ b) s _ x4.es HEX.out q').mono ?_
                    rintro e w6 (⟨e1, rfl, hb6⟩ | ⟨e1, rfl, hb6⟩)
                    rotate_left
                    · exact ⟨rfl, .inr (.inr ⟨_, _, HBAD.out _ (rexp_2 S1.out e1), rfl, HK5.out.trans (Kp.on hb6)⟩)⟩
                    have E1 := Lib.hid e1
                    have HM6 := Lib.hid (HM5.out.on hb6)
                    have HK6 : Hid (Kp B p mb w w6) := Lib.hid (HK5.out.trans (Kp.on hb6))
                    have HR6 := Lib.hid ((hb6.block _ (row_lt HR5.out)).trans HR5.out)
                    clear e1 hb6 HM5 HK5 HR5 HEX q0 p0 m7
                    go_wp2_with fail
                    obtain ⟨p0, -, -, -⟩ := HM6.out.pc
                    have m5 : w6.cell? ⟨mb, 5, none⟩ = some (.slice a5 nf c5) := by rw [← HVF.out]; exact (HM6.out.mc (i := 5) rfl).1
                    have m7 : w6.cell? ⟨mb, 7, none⟩ = some (.slice a2 x4.es.length c2) := by rw [← HVE.out]; exact (HM6.out.mc (i := 7) rfl).1
                    have q6 := row_cell HR6.out 0 rfl
                    simp only [List.getElem_toArray, List.getElem_cons_zero] at q6
                    have hbw := drew_bel w6
                    have HMD := Lib.hid (HM6.out.on hbw)
                    have n1 : rb ≠ mb := row_ne HR6.out HM6.out.mrow (by decide)
                    have n2 : p ≠ mb := HM6.out.ne
                    obtain ⟨A, hpA, hpB⟩ := Mq.pExp x4 (⟨s, 0⟩ : ExpD)
                    clear hpA hpB A
                    have HX := Lib.hid (fun (w' : World) (q3 : Nat) (h2 : Rm S w' p mb bv b al q3) (h3 : Keeps (fun b => b ≠ p) w6.drew w') => (show Md S B w' p mb bv b al q3 x4 [] ∧ Kp B p mb w w' ∧ w'.heap[rb]? = some (.cells #[.pointer (some ⟨p, 0, none⟩)] 66 (0, 0)) from
                      ⟨HMD.out.read h2 h3, HK6.out.trans ((Kp.on hbw).trans (Kp.read h3)), (h3.block _ (row_lt ((hbw.block _ (row_lt HR6.out)).trans HR6.out)) (row_ne HR6.out HM6.out.rm.row (by decide))).trans ((hbw.block _ (row_lt HR6.out)).trans HR6.out)⟩))
                    refine wp_region_held_drew (S := (fun wx => wx.cell? ⟨rb, 0, none⟩ = some (.pointer (some ⟨p, 0, none⟩)) ∧ wx.cell? ⟨p, 0, none⟩ = some (.pointer (some ⟨mb, 0, none⟩)) ∧ wx.cell? ⟨mb, 5, none⟩ = some (.slice a5 nf c5))) (by kernel_rfl) ⟨q6, p0, m5⟩ (fun hHeld => ?_)
                    refine takeAt (i := 0) (d := 88) (v := ?_) rfl (by kernel_rfl) (by kernel_rfl) (by kernel_rfl) (by kernel_rfl) (fun _ _ _ h => h) (Or.inl ⟨by kernel_rfl, ?_⟩) (by assumption) ?_
                    rotate_left
                    · (intro w hSw; (try dsimp only at hSw); go_simp; all_goals (with_reducible rfl))
                    (try simp only [Act.put, List.setIfInBounds_toArray, List.set_cons_zero, List.set_cons_succ])
                    refine takeAt (i := 1) (d := 89) (v := ?_) rfl (by kernel_rfl) (by kernel_rfl) (by kernel_rfl) (by kernel_rfl) (fun _ _ _ h => h) (Or.inl ⟨by kernel_rfl, ?_⟩) (by assumption) ?_
                    rotate_left
                    · (intro w hSw; (try dsimp only at hSw); go_simp; all_goals (with_reducible rfl))
                    (try simp only [Act.put, List.setIfInBounds_toArray, List.set_cons_zero, List.set_cons_succ])
                    refine takeAt (i := 2) (d := 90) (v := ?_) rfl (by kernel_rfl) (by kernel_rfl) (by kernel_rfl) (by kernel_rfl) (fun _ _ _ h => h) (Or.inl ⟨by kernel_rfl, ?_⟩) (by assumption) ?_
                    rotate_left
                    · (intro w hSw; (try dsimp only at hSw); go_simp; all_goals (with_reducible rfl))
                    (try simp only [Act.put, List.setIfInBounds_toArray, List.set_cons_zero, List.set_cons_succ])
                    refine takeAt (i := 3) (d := 91) (v := ?_) rfl (by kernel_rfl) (by kernel_rfl) (by kernel_rfl) (by kernel_rfl) (fun _ _ _ h => h) (Or.inl ⟨by kernel_rfl, ?_⟩) (by assumption) ?_
                    rotate_left
                    · (intro w hSw; (try dsimp only at hSw); go_simp; all_goals (with_reducible rfl))
                    (try simp only [Act.put, List.setIfInBounds_toArray, List.set_cons_zero, List.set_cons_succ])
                    refine takeAt (i := 4) (d := 92) (v := ?_) rfl (by kernel_rfl) (by kernel_rfl) (by kernel_rfl) (by kernel_rfl) (fun _ _ _ h => h) (Or.inl ⟨by kernel_rfl, ?_⟩) (by assumption) ?_
                    rotate_left
                    · (intro w hSw; (try dsimp only at hSw); go_simp; all_goals (with_reducible rfl))
                    (try simp only [Act.put, List.setIfInBounds_toArray, List.set_cons_zero, List.set_cons_succ])
                    refine takeAt (i := 5) (d := 93) (v := ?_) rfl (by kernel_rfl) (by kernel_rfl) (by kernel_rfl) (by kernel_rfl) (fun _ _ _ h => h) (Or.inl ⟨by kernel_rfl, ?_⟩) (by assumption) ?_
                    rotate_left
                    · (intro w hSw; (try dsimp only at hSw); go_simp; all_goals (with_reducible rfl))
                    (try simp only [Act.put, List.setIfInBounds_toArray, List.set_cons_zero, List.set_cons_succ])
                    refine takeAt (i := 6) (d := 94) (v := ?_) rfl (by kernel_rfl) (by kernel_rfl) (by kernel_rfl) (by kernel_rfl) (fun _ _ _ h => h) (Or.inl ⟨by kernel_rfl, ?_⟩) (by assumption) ?_
                    rotate_left
                    · (intro w hSw; (try dsimp only at hSw); go_simp; all_goals (with_reducible rfl))
                    (try simp only [Act.put, List.setIfInBounds_toArray, List.set_cons_zero, List.set_cons_succ])
                    refine takeAt (i := 7) (d := 95) (v := ?_) rfl (by kernel_rfl) (by kernel_rfl) (by kernel_rfl) (by kernel_rfl) (fun _ _ _ h => h) (Or.inl ⟨by kernel_rfl, ?_⟩) (by assumption) ?_
                    rotate_left
                    · (intro w hSw; (try dsimp only at hSw); go_simp; all_goals (with_reducible rfl))
                    (try simp only [Act.put, List.setIfInBounds_toArray, List.set_cons_zero, List.set_cons_succ])
                    refine takeAt (i := 8) (d := 96) (v := ?_) rfl (by kernel_rfl) (by kernel_rfl) (by kernel_rfl) (by kernel_rfl) (fun _ _ _ h => h) (Or.inl ⟨by kernel_rfl, ?_⟩) (by assumption) ?_
                    rotate_left
                    · (intro w hSw; (try dsimp only at hSw); go_simp; all_goals (with_reducible rfl))
                    (try simp only [Act.put, List.setIfInBounds_toArray, List.set_cons_zero, List.set_cons_succ])
                    refine takeAt (i := 9) (d := 97) (v := ?_) rfl (by kernel_rfl) (by kernel_rfl) (by kernel_rfl) (by kernel_rfl) (fun _ _ _ h => h) (Or.inl ⟨by kernel_rfl, ?_⟩) (by assumption) ?_
                    rotate_left
                    · (intro w hSw; (try dsimp only at hSw); go_simp; all_goals (with_reducible rfl))
                    (try simp only [Act.put, List.setIfInBounds_toArray, List.set_cons_zero, List.set_cons_succ])
                    refine takeAt (i := 10) (d := 98) (v := ?_) rfl (by kernel_rfl) (by kernel_rfl) (by kernel_rfl) (by kernel_rfl) (fun _ _ _ h => h) (Or.inl ⟨by kernel_rfl, ?_⟩) (by assumption) ?_
                    rotate_left
                    · (intro w hSw; (try dsimp only at hSw); go_simp; all_goals (with_reducible rfl))
                    (try simp only [Act.put, List.setIfInBounds_toArray, List.set_cons_zero, List.set_cons_succ])
                    refine takeAt (i := 11) (d := 99) (v := ?_) rfl (by kernel_rfl) (by kernel_rfl) (by kernel_rfl) (by kernel_rfl) (fun _ _ _ h => h) (Or.inl ⟨by kernel_rfl, ?_⟩) (by assumption) ?_
                    rotate_left
                    · (intro w hSw; (try dsimp only at hSw); go_simp; all_goals (with_reducible rfl))
                    (try simp only [Act.put, List.setIfInBounds_toArray, List.set_cons_zero, List.set_cons_succ])
                    refine takeAt (i := 13) (d := 101) (v := ?_) rfl (by kernel_rfl) (by kernel_rfl) (by kernel_rfl) (by kernel_rfl) (fun _ _ _ h => h) (Or.inl ⟨by kernel_rfl, ?_⟩) (by assumption) ?_
                    rotate_left
                    · (intro w hSw; (try dsimp only at hSw); go_simp; all_goals (with_reducible rfl))
                    (try simp only [Act.put, List.setIfInBounds_toArray, List.set_cons_zero, List.set_cons_succ])
                    refine takeAt (i := 14) (d := 102) (v := ?_) rfl (by kernel_rfl) (by kernel_rfl) (by kernel_rfl) (by kernel_rfl) (fun _ _ _ h => h) (Or.inl ⟨by kernel_rfl, ?_⟩) (by assumption) ?_
                    rotate_left
                    · (intro w hSw; (try dsimp only at hSw); go_simp; all_goals (with_reducible rfl))
                    (try simp only [Act.put, List.setIfInBounds_toArray, List.set_cons_zero, List.set_cons_succ])
                    refine takeAt (i := 15) (d := 103) (v := ?_) rfl (by kernel_rfl) (by kernel_rfl) (by kernel_rfl) (by kernel_rfl) (fun _ _ _ h => h) (Or.inl ⟨by kernel_rfl, ?_⟩) (by assumption) ?_
                    rotate_left
                    · (intro w hSw; (try dsimp only at hSw); go_simp; all_goals (with_reducible rfl))
                    (try simp only [Act.put, List.setIfInBounds_toArray, List.set_cons_zero, List.set_cons_succ])
                    refine takeAt (i := 16) (d := 104) (v := ?_) rfl (by kernel_rfl) (by kernel_rfl) (by kernel_rfl) (by kernel_rfl) (fun _ _ _ h => h) (Or.inl ⟨by kernel_rfl, ?_⟩) (by assumption) ?_
                    rotate_left
                    · (intro w hSw; (try dsimp only at hSw); go_simp; all_goals (with_reducible rfl))
                    (try simp only [Act.put, List.setIfInBounds_toArray, List.set_cons_zero, List.set_cons_succ])
                    refine takeAt (i := 17) (d := 105) (v := ?_) rfl (by kernel_rfl) (by kernel_rfl) (by kernel_rfl) (by kernel_rfl) (fun _ _ _ h => h) (Or.inl ⟨by kernel_rfl, ?_⟩) (by assumption) ?_
                    rotate_left
                    · (intro w hSw; (try dsimp only at hSw); go_simp; all_goals (with_reducible rfl))
                    (try simp only [Act.put, List.setIfInBounds_toArray, List.set_cons_zero, List.set_cons_succ])
                    refine takeAt (i := 18) (d := 106) (v := ?_) rfl (by kernel_rfl) (by kernel_rfl) (by kernel_rfl) (by kernel_rfl) (fun _ _ _ h => h) (Or.inl ⟨by kernel_rfl, ?_⟩) (by assumption) ?_
                    rotate_left
                    · (intro w hSw; (try dsimp only at hSw); go_simp; all_goals (with_reducible rfl))
                    (try simp only [Act.put, List.setIfInBounds_toArray, List.set_cons_zero, List.set_cons_succ])
                    refine takeAt (i := 19) (d := 107) (v := ?_) rfl (by kernel_rfl) (by kernel_rfl) (by kernel_rfl) (by kernel_rfl) (fun _ _ _ h => h) (Or.inl ⟨by kernel_rfl, ?_⟩) (by assumption) ?_
                    rotate_left
                    · (intro w hSw; (try dsimp only at hSw); go_simp; all_goals (with_reducible rfl))
                    (try simp only [Act.put, List.setIfInBounds_toArray, List.set_cons_zero, List.set_cons_succ])
                    refine takeAt (i := 20) (d := 108) (v := ?_) rfl (by kernel_rfl) (by kernel_rfl) (by kernel_rfl) (by kernel_rfl) (fun _ _ _ h => h) (Or.inl ⟨by kernel_rfl, ?_⟩) (by assumption) ?_
                    rotate_left
                    · (intro w hSw; (try dsimp only at hSw); go_simp; all_goals (with_reducible rfl))
                    (try simp only [Act.put, List.setIfInBounds_toArray, List.set_cons_zero, List.set_cons_succ])
                    refine takeAt (i := 21) (d := 109) (v := ?_) rfl (by kernel_rfl) (by kernel_rfl) (by kernel_rfl) (by kernel_rfl) (fun _ _ _ h => h) (Or.inl ⟨by kernel_rfl, ?_⟩) (by assumption) ?_
                    rotate_left
                    · (intro w hSw; (try dsimp only at hSw); go_simp; all_goals (with_reducible rfl))
                    (try simp only [Act.put, List.setIfInBounds_toArray, List.set_cons_zero, List.set_cons_succ])
                    refine takeAt (i := 22) (d := 110) (v := ?_) rfl (by kernel_rfl) (by kernel_rfl) (by kernel_rfl) (by kernel_rfl) (fun _ _ _ h => h) (Or.inl ⟨by kernel_rfl, ?_⟩) (by assumption) ?_
                    rotate_left
                    · (intro w hSw; (try dsimp only at hSw); go_simp; all_goals (with_reducible rfl))
                    (try simp only [Act.put, List.setIfInBounds_toArray, List.set_cons_zero, List.set_cons_succ])
                    refine takeAt (i := 23) (d := 111) (v := ?_) rfl (by kernel_rfl) (by kernel_rfl) (by kernel_rfl) (by kernel_rfl) (fun _ _ _ h => h) (Or.inl ⟨by kernel_rfl, ?_⟩) (by assumption) ?_
                    rotate_left
                    · (intro w hSw; (try dsimp only at hSw); go_simp; all_goals (with_reducible rfl))
                    (try simp only [Act.put, List.setIfInBounds_toArray, List.set_cons_zero, List.set_cons_succ])
                    refine wpAnyH_ready (rs := [12, 24]) (by kernel_rfl) (by simp) ?_
                    refine AllReadyH.cons rfl (fun K hK => ?_) (AllReadyH.cons rfl (fun K hK => ?_) AllReadyH.nil)
                    · go_simp
                      refine hK.out _ _ hHeld (fun hHeld => ?_)
                      clear hK K
                      (try refine stateAt (d := 100) (by kernel_rfl) ?_)
                      (try simp only [Act.put, List.setIfInBounds_toArray, List.set_cons_zero, List.set_cons_succ])
                      refine wpAnyH_ready (rs := [24]) (by kernel_rfl) (by simp) ?_
                      refine AllReadyH.cons rfl (fun K hK => ?_) AllReadyH.nil
                      clear hHeld
                      go_simp
                      refine (rm_index HMD.out.rm HB.out HSP.out nf (by omega)).mono ?_
                      rintro e w7 (⟨t, q3, h1, rfl, h2, h3⟩ | ⟨z, kk, h1, rfl, h3⟩)
                      rotate_left
                      · exact ⟨rfl, .inr (.inr ⟨_, _, HBAD.out _ (rexp_3 S1.out E1.out h1), rfl, HK6.out.trans ((Kp.on hbw).trans (Kp.read h3))⟩)⟩
                      have S2 := Lib.hid h1
                      have HX7 := Lib.hid (HX.out w7 q3 h2 h3)
                      clear h1 h2 h3
                      have r7 := row_cell HX7.out.2.2 0 rfl
                      have p7 := HX7.out.1.pc.1
                      have m57 : w7.cell? ⟨mb, 5, none⟩ = some (.slice a5 nf c5) := by rw [← HVF.out]; exact (HX7.out.1.mc (i := 5) rfl).1
                      have m77 : w7.cell? ⟨mb, 7, none⟩ = some (.slice a2 x4.es.length c2) := by rw [← HVE.out]; exact (HX7.out.1.mc (i := 7) rfl).1
                      simp only [List.getElem_toArray, List.getElem_cons_zero] at r7
                      have hb8 := below_alloc w7 (.cells #[.string s, .int .i64 t] 54)
                      have z0 := cell_below hb8 r7; have z1 := cell_below hb8 p7; have z2 := cell_below hb8 m57; have z3 := cell_below hb8 m77
                      have HMA := Lib.hid (HX7.out.1.on hb8)
                      have HKA := Lib.hid (HX7.out.2.1.trans (Kp.on (B := B) (p := p) (mb := mb) hb8))
                      have HRA := Lib.hid ((hb8.block _ (row_lt HX7.out.2.2)).trans HX7.out.2.2)
                      have HOA : Hid ((w7.alloc (.cells #[.string s, .int .i64 t] 54)).ownsRow B 54 2 (.slice a2 x4.es.length c2) x4.es.length (x4.es.flatMap exC)) := Lib.hid (by have := HMA.out.fam.own (exE x4.ev x4.es) (by simp [Mq.ents]); rw [HVE.out] at this; exact this)
                      have hB7 := HX7.out.1.hi
                      have HNM : Hid ((Value.slice a2 x4.es.length c2).ownBlock ≠ some mb) := Lib.hid (fun e => by have := (World.ownsRow.lt HOA.out mb e).1; have := HMA.out.lo; omega)
                      have HNP : Hid ((Value.slice a2 x4.es.length c2).ownBlock ≠ some p) := Lib.hid (fun e => by have := (World.ownsRow.lt HOA.out p e).1; have := HMA.out.lo; omega)
                      have HNR : Hid ((Value.slice a2 x4.es.length c2).ownBlock ≠ some rb) := Lib.hid (own_ne HOA.out HRA.out (by decide))
                      obtain ⟨A, hpA, hpB⟩ := Mq.pExp x4 (⟨s, t⟩ : ExpD)
                      have HPA := Lib.hid hpA
                      have HPB := Lib.hid hpB
                      clear hb8 hpA hpB
                      go_wp2_with fail
                      refine hK.out _ _ ⟨r7, p7, m57⟩ (fun hHeld => ?_)
                      clear hK K
                      (try refine stateAt (d := 112) (by kernel_rfl) ?_)
                      (try simp only [Act.put, List.setIfInBounds_toArray, List.set_cons_zero, List.set_cons_succ])
                      refine takeAt (i := 25) (d := 113) (v := ?_) rfl (by kernel_rfl) (by kernel_rfl) (by kernel_rfl) (by kernel_rfl) (fun _ _ _ h => h) (Or.inl ⟨by kernel_rfl, ?_⟩) (by assumption) ?_
                      rotate_left
                      · (intro w hSw; (try dsimp only at hSw); go_simp; all_goals (with_reducible rfl))
                      (try simp only [Act.put, List.setIfInBounds_toArray, List.set_cons_zero, List.set_cons_succ])
                      refine wpAnyH_ready (rs := [26]) (by kernel_rfl) (by simp) ?_
                      refine AllReadyH.cons rfl (fun K hK => ?_) AllReadyH.nil
                      go_simp
                      refine hK.out _ _ ⟨z0, z1, z2⟩ (fun hHeld => ?_)
                      clear hK K
                      (try refine stateAt (d := 114) (by kernel_rfl) ?_)
                      (try simp only [Act.put, List.setIfInBounds_toArray, List.set_cons_zero, List.set_cons_succ])
                      refine wpAnyH_ready (rs := [27]) (by kernel_rfl) (by simp) ?_
                      refine AllReadyH.cons rfl (fun K hK => ?_) AllReadyH.nil
                      clear hHeld
                      refine step_append_lies _ (by rfl) _ _ 27 (by rfl) B 54 i1 _ 2 24 Tryd.underlying27 hj hy0 hy1 hy2 rfl (by omega) (.slice a2 x4.es.length c2) x4.es.length (x4.es.flatMap exC) (by rfl) HOA.out ⟨w7.heap.size, 0, none⟩ 1 1 [.string s, .int .i64 t] (by rfl) (by rfl) (news2 w7 _ _ _) (by simp [Value.oneCell']) (by omega) (by unfold maxLen; omega) (by omega) (by rw [World.size_alloc]; omega) (w7.heap.size + 1) (by rw [World.size_alloc]) ?_
                      intro g9 cap9 w9 hown9 hgrow9 hat9 hlt9
                      have hm9 := grown_block hgrow9 HMA.out.mrow HNM.out
                      have c9 := row_cell hm9 7 rfl
                      have f9 := row_free hm9 7
                      have mm9 : w9.cell? ⟨mb, 5, none⟩ = some (.slice a5 nf c5) := by rw [← HVF.out]; exact row_cell hm9 5 rfl
                      have hp9 := grown_block hgrow9 HMA.out.rm.row HNP.out
                      have hr9 := grown_block hgrow9 HRA.out HNR.out
                      have d9 := row_cell hp9 0 rfl
                      have e9 := row_cell hr9 0 rfl
                      refine hK.out _ _ ⟨e9, d9, mm9⟩ (fun hHeld => ?_)
                      clear hK K
                      (try refine stateAt (d := 115) (by kernel_rfl) ?_)
                      (try simp only [Act.put, List.setIfInBounds_toArray, List.set_cons_zero, List.set_cons_succ])
                      refine takeAt (i := 28) (d := 116) (v := ?_) rfl (by kernel_rfl) (by kernel_rfl) (by kernel_rfl) (by kernel_rfl) (fun _ _ _ h => h) (Or.inl ⟨by kernel_rfl, ?_⟩) (by assumption) ?_
                      rotate_left
                      · (intro w hSw; (try dsimp only at hSw); go_simp; all_goals (with_reducible rfl))
                      (try simp only [Act.put, List.setIfInBounds_toArray, List.set_cons_zero, List.set_cons_succ])
                      refine takeAt (i := 29) (d := 117) (v := ?_) rfl (by kernel_rfl) (by kernel_rfl) (by kernel_rfl) (by kernel_rfl) (fun _ _ _ h => h) (Or.inl ⟨by kernel_rfl, ?_⟩) (by assumption) ?_
                      rotate_left
                      · (intro w hSw; (try dsimp only at hSw); go_simp; all_goals (with_reducible rfl))
                      (try simp only [Act.put, List.setIfInBounds_toArray, List.set_cons_zero, List.set_cons_succ])
                      refine wpAnyH_ready (rs := [30]) (by kernel_rfl) (by simp) ?_
                      refine AllReadyH.cons rfl (fun K hK => ?_) AllReadyH.nil
                      have n9 := (Keeps.refl (fun b => b ≠ mb) w9).setCell (a := ⟨mb, 7, none⟩) (by simp) (.slice (some ⟨g9, 0, none⟩) (x4.es.length + 1) cap9)
                      have hpc := row_cell ((n9.block _ (row_lt hp9) n2).trans hp9) 0 rfl
                      have hrx := (n9.block _ (row_lt hr9) n1).trans hr9
                      have hrc := row_cell hrx 0 rfl
                      have hmx := row_cell (row_setCell hm9 7 (.slice (some ⟨g9, 0, none⟩) (x4.es.length + 1) cap9)) 5 rfl
                      have hmx : (w9.setCell ⟨mb, 7, none⟩ (.slice (some ⟨g9, 0, none⟩) (x4.es.length + 1) cap9)).cell? ⟨mb, 5, none⟩ = some (.slice a5 nf c5) := by rw [← HVF.out]; exact hmx
                      have PP := HMA.out.grow (e := exE (.slice a2 x4.es.length c2) x4.es) (e' := exE (.slice (some ⟨g9, 0, none⟩) (x4.es.length + 1) cap9) (x4.es ++ [(⟨s, t⟩ : ExpD)])) (i := 7) (x' := { x4 with ev := (.slice (some ⟨g9, 0, none⟩) (x4.es.length + 1) cap9), es := x4.es ++ [(⟨s, t⟩ : ExpD)] }) (X' := []) (by rw [← HVE.out]; exact HPA.out) (HPB.out _) rfl rfl hgrow9 (by simpa [exE, exC] using hown9) (at_of5 hat9 (by rw [World.size_alloc]; exact Nat.le_refl _))
                      have HM9 := Lib.hid PP.1
                      have HK9 := Lib.hid (HKA.out.trans PP.2)
                      have HR9 := Lib.hid hrx
                      have HS9 : Hid (SaA x { x4 with ev := (.slice (some ⟨g9, 0, none⟩) (x4.es.length + 1) cap9), es := x4.es ++ [(⟨s, t⟩ : ExpD)] }) := Lib.hid ⟨HS.out.ts, HS.out.hs, HS.out.gs, HS.out.first, HS.out.most⟩
                      have HP9 : Hid (RepAt (rexp nf) n b q (x4.es ++ [(⟨s, t⟩ : ExpD)]) q3) := Lib.hid (HP.out.good (by rw [HL.out]; exact hlt) (rexp_4 S1.out E1.out S2.out))
                      have HL9 : Hid ((x4.es ++ [(⟨s, t⟩ : ExpD)]).length = k + 1) := Lib.hid (by rw [List.length_append, HL.out]; rfl)
                      go_simp
                      refine hK.out _ _ ⟨hrc, hpc, hmx⟩ (fun hHeld => ?_)
                      clear hK K
                      (try simp only [Act.put, List.setIfInBounds_toArray, List.set_cons_zero, List.set_cons_succ])
                      refine wpAnyH_done (by kernel_rfl) ?_ _
                      clear HP HL S1 S2 E1 PP HMA HKA HRA HOA HX7 HX HMD HM6 HK6 HR6 HS HBAD
                      go_wp2_with fail
                      go_roundw
                      case rel => exact ⟨k + 1, q3, { x4 with ev := (.slice (some ⟨g9, 0, none⟩) (x4.es.length + 1) cap9), es := x4.es ++ [(⟨s, t⟩ : ExpD)] }, by omega, by go_num, HM9, HK9, HR9, HP9, HL9, HS9, HE⟩
                      case measure => simp [intOf]; omega
                    · clear hHeld
                      go_simp
                      refine (rm_index HMD.out.rm HB.out HSP.out nf (by omega)).mono ?_
                      rintro e w7 (⟨t, q3, h1, rfl, h2, h3⟩ | ⟨z, kk, h1, rfl, h3⟩)
                      rotate_left
                      · exact ⟨rfl, .inr (.inr ⟨_, _, HBAD.out _ (rexp_3 S1.out E1.out h1), rfl, HK6.out.trans ((Kp.on hbw).trans (Kp.read h3))⟩)⟩
                      have S2 := Lib.hid h1
                      have HX7 := Lib.hid (HX.out w7 q3 h2 h3)
                      clear h1 h2 h3
                      have r7 := row_cell HX7.out.2.2 0 rfl
                      have p7 := HX7.out.1.pc.1
                      have m57 : w7.cell? ⟨mb, 5, none⟩ = some (.slice a5 nf c5) := by rw [← HVF.out]; exact (HX7.out.1.mc (i := 5) rfl).1
                      have m77 : w7.cell? ⟨mb, 7, none⟩ = some (.slice a2 x4.es.length c2) := by rw [← HVE.out]; exact (HX7.out.1.mc (i := 7) rfl).1
                      simp only [List.getElem_toArray, List.getElem_cons_zero] at r7
                      have hb8 := below_alloc w7 (.cells #[.string s, .int .i64 t] 54)
                      have z0 := cell_below hb8 r7; have z1 := cell_below hb8 p7; have z2 := cell_below hb8 m57; have z3 := cell_below hb8 m77
                      have HMA := Lib.hid (HX7.out.1.on hb8)
                      have HKA := Lib.hid (HX7.out.2.1.trans (Kp.on (B := B) (p := p) (mb := mb) hb8))
                      have HRA := Lib.hid ((hb8.block _ (row_lt HX7.out.2.2)).trans HX7.out.2.2)
                      have HOA : Hid ((w7.alloc (.cells #[.string s, .int .i64 t] 54)).ownsRow B 54 2 (.slice a2 x4.es.length c2) x4.es.length (x4.es.flatMap exC)) := Lib.hid (by have := HMA.out.fam.own (exE x4.ev x4.es) (by simp [Mq.ents]); rw [HVE.out] at this; exact this)
                      have hB7 := HX7.out.1.hi
                      have HNM : Hid ((Value.slice a2 x4.es.length c2).ownBlock ≠ some mb) := Lib.hid (fun e => by have := (World.ownsRow.lt HOA.out mb e).1; have := HMA.out.lo; omega)
                      have HNP : Hid ((Value.slice a2 x4.es.length c2).ownBlock ≠ some p) := Lib.hid (fun e => by have := (World.ownsRow.lt HOA.out p e).1; have := HMA.out.lo; omega)
                      have HNR : Hid ((Value.slice a2 x4.es.length c2).ownBlock ≠ some rb) := Lib.hid (own_ne HOA.out HRA.out (by decide))
                      obtain ⟨A, hpA, hpB⟩ := Mq.pExp x4 (⟨s, t⟩ : ExpD)
                      have HPA := Lib.hid hpA
                      have HPB := Lib.hid hpB
                      clear hb8 hpA hpB
                      go_wp2_with fail
                      refine hK.out _ _ ⟨r7, p7, m57⟩ (fun hHeld => ?_)
                      clear hK K
                      (try refine stateAt (d := 112) (by kernel_rfl) ?_)
                      (try simp only [Act.put, List.setIfInBounds_toArray, List.set_cons_zero, List.set_cons_succ])
                      refine takeAt (i := 25) (d := 113) (v := ?_) rfl (by kernel_rfl) (by kernel_rfl) (by kernel_rfl) (by kernel_rfl) (fun _ _ _ h => h) (Or.inl ⟨by kernel_rfl, ?_⟩) (by assumption) ?_
                      rotate_left
                      · (intro w hSw; (try dsimp only at hSw); go_simp; all_goals (with_reducible rfl))
                      (try simp only [Act.put, List.setIfInBounds_toArray, List.set_cons_zero, List.set_cons_succ])
                      refine wpAnyH_ready (rs := [12, 26]) (by kernel_rfl) (by simp) ?_
                      refine AllReadyH.cons rfl (fun K hK => ?_) (AllReadyH.cons rfl (fun K hK => ?_) AllReadyH.nil)
                      · go_simp
                        refine hK.out _ _ ⟨r7, p7, m57⟩ (fun hHeld => ?_)
                        clear hK K
                        (try refine stateAt (d := 100) (by kernel_rfl) ?_)
                        (try simp only [Act.put, List.setIfInBounds_toArray, List.set_cons_zero, List.set_cons_succ])
                        refine wpAnyH_ready (rs := [26]) (by kernel_rfl) (by simp) ?_
                        refine AllReadyH.cons rfl (fun K hK => ?_) AllReadyH.nil
                        go_simp
                        refine hK.out _ _ ⟨z0, z1, z2⟩ (fun hHeld => ?_)
                        clear hK K
                        (try refine stateAt (d := 114) (by kernel_rfl) ?_)
                        (try simp only [Act.put, List.setIfInBounds_toArray, List.set_cons_zero, List.set_cons_succ])
                        refine wpAnyH_ready (rs := [27]) (by kernel_rfl) (by simp) ?_
                        refine AllReadyH.cons rfl (fun K hK => ?_) AllReadyH.nil
                        clear hHeld
                        refine step_append_lies _ (by rfl) _ _ 27 (by rfl) B 54 i1 _ 2 24 Tryd.underlying27 hj hy0 hy1 hy2 rfl (by omega) (.slice a2 x4.es.length c2) x4.es.length (x4.es.flatMap exC) (by rfl) HOA.out ⟨w7.heap.size, 0, none⟩ 1 1 [.string s, .int .i64 t] (by rfl) (by rfl) (news2 w7 _ _ _) (by simp [Value.oneCell']) (by omega) (by unfold maxLen; omega) (by omega) (by rw [World.size_alloc]; omega) (w7.heap.size + 1) (by rw [World.size_alloc]) ?_
                        intro g9 cap9 w9 hown9 hgrow9 hat9 hlt9
                        have hm9 := grown_block hgrow9 HMA.out.mrow HNM.out
                        have c9 := row_cell hm9 7 rfl
                        have f9 := row_free hm9 7
                        have mm9 : w9.cell? ⟨mb, 5, none⟩ = some (.slice a5 nf c5) := by rw [← HVF.out]; exact row_cell hm9 5 rfl
                        have hp9 := grown_block hgrow9 HMA.out.rm.row HNP.out
                        have hr9 := grown_block hgrow9 HRA.out HNR.out
                        have d9 := row_cell hp9 0 rfl
                        have e9 := row_cell hr9 0 rfl
                        refine hK.out _ _ ⟨e9, d9, mm9⟩ (fun hHeld => ?_)
                        clear hK K
                        (try refine stateAt (d := 115) (by kernel_rfl) ?_)
                        (try simp only [Act.put, List.setIfInBounds_toArray, List.set_cons_zero, List.set_cons_succ])
                        refine takeAt (i := 28) (d := 116) (v := ?_) rfl (by kernel_rfl) (by kernel_rfl) (by kernel_rfl) (by kernel_rfl) (fun _ _ _ h => h) (Or.inl ⟨by kernel_rfl, ?_⟩) (by assumption) ?_
                        rotate_left
                        · (intro w hSw; (try dsimp only at hSw); go_simp; all_goals (with_reducible rfl))
                        (try simp only [Act.put, List.setIfInBounds_toArray, List.set_cons_zero, List.set_cons_succ])
                        refine takeAt (i := 29) (d := 117) (v := ?_) rfl (by kernel_rfl) (by kernel_rfl) (by kernel_rfl) (by kernel_rfl) (fun _ _ _ h => h) (Or.inl ⟨by kernel_rfl, ?_⟩) (by assumption) ?_
                        rotate_left
                        · (intro w hSw; (try dsimp only at hSw); go_simp; all_goals (with_reducible rfl))
                        (try simp only [Act.put, List.setIfInBounds_toArray, List.set_cons_zero, List.set_cons_succ])
                        refine wpAnyH_ready (rs := [30]) (by kernel_rfl) (by simp) ?_
                        refine AllReadyH.cons rfl (fun K hK => ?_) AllReadyH.nil
                        have n9 := (Keeps.refl (fun b => b ≠ mb) w9).setCell (a := ⟨mb, 7, none⟩) (by simp) (.slice (some ⟨g9, 0, none⟩) (x4.es.length + 1) cap9)
                        have hpc := row_cell ((n9.block _ (row_lt hp9) n2).trans hp9) 0 rfl
                        have hrx := (n9.block _ (row_lt hr9) n1).trans hr9
                        have hrc := row_cell hrx 0 rfl
                        have hmx := row_cell (row_setCell hm9 7 (.slice (some ⟨g9, 0, none⟩) (x4.es.length + 1) cap9)) 5 rfl
                        have hmx : (w9.setCell ⟨mb, 7, none⟩ (.slice (some ⟨g9, 0, none⟩) (x4.es.length + 1) cap9)).cell? ⟨mb, 5, none⟩ = some (.slice a5 nf c5) := by rw [← HVF.out]; exact hmx
                        have PP := HMA.out.grow (e := exE (.slice a2 x4.es.length c2) x4.es) (e' := exE (.slice (some ⟨g9, 0, none⟩) (x4.es.length + 1) cap9) (x4.es ++ [(⟨s, t⟩ : ExpD)])) (i := 7) (x' := { x4 with ev := (.slice (some ⟨g9, 0, none⟩) (x4.es.length + 1) cap9), es := x4.es ++ [(⟨s, t⟩ : ExpD)] }) (X' := []) (by rw [← HVE.out]; exact HPA.out) (HPB.out _) rfl rfl hgrow9 (by simpa [exE, exC] using hown9) (at_of5 hat9 (by rw [World.size_alloc]; exact Nat.le_refl _))
                        have HM9 := Lib.hid PP.1
                        have HK9 := Lib.hid (HKA.out.trans PP.2)
                        have HR9 := Lib.hid hrx
                        have HS9 : Hid (SaA x { x4 with ev := (.slice (some ⟨g9, 0, none⟩) (x4.es.length + 1) cap9), es := x4.es ++ [(⟨s, t⟩ : ExpD)] }) := Lib.hid ⟨HS.out.ts, HS.out.hs, HS.out.gs, HS.out.first, HS.out.most⟩
                        have HP9 : Hid (RepAt (rexp nf) n b q (x4.es ++ [(⟨s, t⟩ : ExpD)]) q3) := Lib.hid (HP.out.good (by rw [HL.out]; exact hlt) (rexp_4 S1.out E1.out S2.out))
                        have HL9 : Hid ((x4.es ++ [(⟨s, t⟩ : ExpD)]).length = k + 1) := Lib.hid (by rw [List.length_append, HL.out]; rfl)
                        go_simp
                        refine hK.out _ _ ⟨hrc, hpc, hmx⟩ (fun hHeld => ?_)
                        clear hK K
                        (try simp only [Act.put, List.setIfInBounds_toArray, List.set_cons_zero, List.set_cons_succ])
                        refine wpAnyH_done (by kernel_rfl) ?_ _
                        clear HP HL S1 S2 E1 PP HMA HKA HRA HOA HX7 HX HMD HM6 HK6 HR6 HS HBAD
                        go_wp2_with fail
                        go_roundw
                        case rel => exact ⟨k + 1, q3, { x4 with ev := (.slice (some ⟨g9, 0, none⟩) (x4.es.length + 1) cap9), es := x4.es ++ [(⟨s, t⟩ : ExpD)] }, by omega, by go_num, HM9, HK9, HR9, HP9, HL9, HS9, HE⟩
                        case measure => simp [intOf]; omega
                      · go_simp
                        refine hK.out _ _ ⟨z0, z1, z2⟩ (fun hHeld => ?_)
                        clear hK K
                        (try refine stateAt (d := 114) (by kernel_rfl) ?_)
                        (try simp only [Act.put, List.setIfInBounds_toArray, List.set_cons_zero, List.set_cons_succ])
                        refine wpAnyH_ready (rs := [12]) (by kernel_rfl) (by simp) ?_
                        refine AllReadyH.cons rfl (fun K hK => ?_) AllReadyH.nil
                        go_simp
                        refine hK.out _ _ ⟨z0, z1, z2⟩ (fun hHeld => ?_)
                        clear hK K
                        (try refine stateAt (d := 100) (by kernel_rfl) ?_)
                        (try simp only [Act.put, List.setIfInBounds_toArray, List.set_cons_zero, List.set_cons_succ])
                        refine wpAnyH_ready (rs := [27]) (by kernel_rfl) (by simp) ?_
                        refine AllReadyH.cons rfl (fun K hK => ?_) AllReadyH.nil
                        clear hHeld
                        refine step_append_lies _ (by rfl) _ _ 27 (by rfl) B 54 i1 _ 2 24 Tryd.underlying27 hj hy0 hy1 hy2 rfl (by omega) (.slice a2 x4.es.length c2) x4.es.length (x4.es.flatMap exC) (by rfl) HOA.out ⟨w7.heap.size, 0, none⟩ 1 1 [.string s, .int .i64 t] (by rfl) (by rfl) (news2 w7 _ _ _) (by simp [Value.oneCell']) (by omega) (by unfold maxLen; omega) (by omega) (by rw [World.size_alloc]; omega) (w7.heap.size + 1) (by rw [World.size_alloc]) ?_
                        intro g9 cap9 w9 hown9 hgrow9 hat9 hlt9
                        have hm9 := grown_block hgrow9 HMA.out.mrow HNM.out
                        have c9 := row_cell hm9 7 rfl
                        have f9 := row_free hm9 7
                        have mm9 : w9.cell? ⟨mb, 5, none⟩ = some (.slice a5 nf c5) := by rw [← HVF.out]; exact row_cell hm9 5 rfl
                        have hp9 := grown_block hgrow9 HMA.out.rm.row HNP.out
                        have hr9 := grown_block hgrow9 HRA.out HNR.out
                        have d9 := row_cell hp9 0 rfl
                        have e9 := row_cell hr9 0 rfl
                        refine hK.out _ _ ⟨e9, d9, mm9⟩ (fun hHeld => ?_)
                        clear hK K
                        (try refine stateAt (d := 115) (by kernel_rfl) ?_)
                        (try simp only [Act.put, List.setIfInBounds_toArray, List.set_cons_zero, List.set_cons_succ])
                        refine takeAt (i := 28) (d := 116) (v := ?_) rfl (by kernel_rfl) (by kernel_rfl) (by kernel_rfl) (by kernel_rfl) (fun _ _ _ h => h) (Or.inl ⟨by kernel_rfl, ?_⟩) (by assumption) ?_
                        rotate_left
                        · (intro w hSw; (try dsimp only at hSw); go_simp; all_goals (with_reducible rfl))
                        (try simp only [Act.put, List.setIfInBounds_toArray, List.set_cons_zero, List.set_cons_succ])
                        refine takeAt (i := 29) (d := 117) (v := ?_) rfl (by kernel_rfl) (by kernel_rfl) (by kernel_rfl) (by kernel_rfl) (fun _ _ _ h => h) (Or.inl ⟨by kernel_rfl, ?_⟩) (by assumption) ?_
                        rotate_left
                        · (intro w hSw; (try dsimp only at hSw); go_simp; all_goals (with_reducible rfl))
                        (try simp only [Act.put, List.setIfInBounds_toArray, List.set_cons_zero, List.set_cons_succ])
                        refine wpAnyH_ready (rs := [30]) (by kernel_rfl) (by simp) ?_
                        refine AllReadyH.cons rfl (fun K hK => ?_) AllReadyH.nil
                        have n9 := (Keeps.refl (fun b => b ≠ mb) w9).setCell (a := ⟨mb, 7, none⟩) (by simp) (.slice (some ⟨g9, 0, none⟩) (x4.es.length + 1) cap9)
                        have hpc := row_cell ((n9.block _ (row_lt hp9) n2).trans hp9) 0 rfl
                        have hrx := (n9.block _ (row_lt hr9) n1).trans hr9
                        have hrc := row_cell hrx 0 rfl
                        have hmx := row_cell (row_setCell hm9 7 (.slice (some ⟨g9, 0, none⟩) (x4.es.length + 1) cap9)) 5 rfl
                        have hmx : (w9.setCell ⟨mb, 7, none⟩ (.slice (some ⟨g9, 0, none⟩) (x4.es.length + 1) cap9)).cell? ⟨mb, 5, none⟩ = some (.slice a5 nf c5) := by rw [← HVF.out]; exact hmx
                        have PP := HMA.out.grow (e := exE (.slice a2 x4.es.length c2) x4.es) (e' := exE (.slice (some ⟨g9, 0, none⟩) (x4.es.length + 1) cap9) (x4.es ++ [(⟨s, t⟩ : ExpD)])) (i := 7) (x' := { x4 with ev := (.slice (some ⟨g9, 0, none⟩) (x4.es.length + 1) cap9), es := x4.es ++ [(⟨s, t⟩ : ExpD)] }) (X' := []) (by rw [← HVE.out]; exact HPA.out) (HPB.out _) rfl rfl hgrow9 (by simpa [exE, exC] using hown9) (at_of5 hat9 (by rw [World.size_alloc]; exact Nat.le_refl _))
                        have HM9 := Lib.hid PP.1
                        have HK9 := Lib.hid (HKA.out.trans PP.2)
                        have HR9 := Lib.hid hrx
                        have HS9 : Hid (SaA x { x4 with ev := (.slice (some ⟨g9, 0, none⟩) (x4.es.length + 1) cap9), es := x4.es ++ [(⟨s, t⟩ : ExpD)] }) := Lib.hid ⟨HS.out.ts, HS.out.hs, HS.out.gs, HS.out.first, HS.out.most⟩
                        have HP9 : Hid (RepAt (rexp nf) n b q (x4.es ++ [(⟨s, t⟩ : ExpD)]) q3) := Lib.hid (HP.out.good (by rw [HL.out]; exact hlt) (rexp_4 S1.out E1.out S2.out))
                        have HL9 : Hid ((x4.es ++ [(⟨s, t⟩ : ExpD)]).length = k + 1) := Lib.hid (by rw [List.length_append, HL.out]; rfl)
                        go_simp
                        refine hK.out _ _ ⟨hrc, hpc, hmx⟩ (fun hHeld => ?_)
                        clear hK K
                        (try simp only [Act.put, List.setIfInBounds_toArray, List.set_cons_zero, List.set_cons_succ])
                        refine wpAnyH_done (by kernel_rfl) ?_ _
                        clear HP HL S1 S2 E1 PP HMA HKA HRA HOA HX7 HX HMD HM6 HK6 HR6 HS HBAD
                        go_wp2_with fail
                        go_roundw
                        case rel => exact ⟨k + 1, q3, { x4 with ev := (.slice (some ⟨g9, 0, none⟩) (x4.es.length + 1) cap9), es := x4.es ++ [(⟨s, t⟩ : ExpD)] }, by omega, by go_num, HM9, HK9, HR9, HP9, HL9, HS9, HE⟩
                        case measure => simp [intOf]; omega
                  · obtain rfl : k = n := by omega
                    have HES : Hid (rmany 64 (rexp nf) b qd = .ok (x4.es, q')) := Lib.hid (many_good HN.out (HP.out.done HL.out))
                    have HALL : Hid (rbd x.ts x.first b at_ = .ok ((fs.map Fq5.f, ds.map (·.1), x4.es), q')) := Lib.hid (by rw [HRBD.out]; exact bind_good HFA.out (bind_good HDS.out (by rw [HNF.out]; exact HES.out)))
                    clear HN HP HL hk hn hlt
                    obtain ⟨p0, p2, p3, -⟩ := HM.out.pc
                    obtain ⟨ab, cb, hbv, -⟩ := HM.out.rm.rd.len
                    subst hbv
                    by_cases hq : q' = b.length
                    · have hd2 : ((q' : Int) == (b.length : Int)) = true := by simp; omega
                      go_wp2_with fail
                      go_still_tail 14, (by kernel_rfl)
                      go_wp2_with (go_at_call 20; refine (mod_ask _ _ _ _).mono ?_; rintro r wq ⟨rfl, hwq⟩; obtain rfl := hwq.symm)
                      have HMZ := Lib.hid (HM.out.on (drew_bel wr))
                      have HKZ := Lib.hid (HK.out.trans (Kp.on (B := B) (p := p) (mb := mb) (drew_bel wr)))
                      clear hd2 p0 p2 p3 HM HK q0
                      subst hq
                      exact bodyPost_end (results_none rfl _ _ _) rfl (.inl ⟨_, HALL.out, rfl, ⟨x4, al, HMZ.out, by unfold Mq.m; rw [HS.out.ts, HS.out.hs, HS.out.gs, HS.out.first, HS.out.most, HE.out.1, HE.out.2]⟩, HKZ.out⟩)
                    · have hd2 : ((q' : Int) == (b.length : Int)) = false := by simp; omega
                      go_wp2_with fail
                      go_still_tail 14, (by kernel_rfl)
                      go_wp2_with (go_at_call 20; refine (mod_ask _ _ _ _).mono ?_; rintro r wq ⟨rfl, hwq⟩; obtain rfl := hwq.symm)
                      exact ⟨rfl, .inr (.inl ⟨_, q', HALL.out, hq, rfl, HK.out.trans (Kp.on (drew_bel wr))⟩)⟩
end Go.Proofs.YteaolgldkfjdkaaDoor
