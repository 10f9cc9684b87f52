/- instance.find. -/
import Derived.Test.YtfhkjahjenpbgaaDoorMAll
import Derived.Test.YtfhkjahjenpbgaaDoorMTwice
import Derived.Test.YtfhkjahjenpbgaaDoorMVw15
namespace Go.Proofs.YtfhkjahjenpbgaaDoor
open Go Go.RowKit
set_option linter.unusedSimpArgs false

theorem MB_cells {w w1 : World} {n : Nat} {c : Array Value} (h : w.heap[n]? = some (.cells c 29 (0, 0))) (hb : Below w.heap.size w w1) : w1.heap[n]? = some (.cells c 29 (0, 0)) := (hb.block _ (row_lt h)).trans h
set_option maxRecDepth 100000 in
set_option maxHeartbeats 3200000 in
theorem inst_find (w : World) (S : Nat → Prop) (hS : ∀ b, S b → b < w.heap.size) (m : ModD) (cs : List Value) (hm : RMod S w cs m) (sm : SmM m) (wf : WfM m) (htb : Tb w) (name : ByteArray) :
    Calls Tryd.prog 11 #[.agg cs.toArray, .string name] w fun r w' => r = .returned (.tuple #[.int .i64 (findM m name).1, .int .i64 (findM m name).2]) ∧ Below w.heap.size w w' := by
  have hm0 := hm
  obtain ⟨tv, hv, gv, fv, dv, ev, rfl, r1, r2, r3, r4, r5, r6⟩ := hm
  obtain ⟨ta, tc, rfl, tl⟩ := r1.len
  obtain ⟨ha, hc, rfl, hl⟩ := r2.len
  obtain ⟨ga, gc, rfl, gl⟩ := r3.len
  obtain ⟨fa, fc, rfl, fl⟩ := r4.len
  obtain ⟨da, dc, rfl, dl⟩ := r5.len
  obtain ⟨ea, ec, rfl, el⟩ := r6.len
  have hba := below_alloc w (.cells #[.slice ta m.types.length tc, .slice ha m.hosts.length hc, .slice ga m.globals.length gc, .int .i64 m.first, .int .i64 m.most, .slice fa m.funs.length fc, .slice da m.datas.length dc, .slice ea m.exps.length ec] 29)
  have hmb := heap_alloc_new w (.cells #[.slice ta m.types.length tc, .slice ha m.hosts.length hc, .slice ga m.globals.length gc, .int .i64 m.first, .int .i64 m.most, .slice fa m.funs.length fc, .slice da m.datas.length dc, .slice ea m.exps.length ec] 29)
  have HV := Lib.hid (val_Module (w.alloc (.cells #[.slice ta m.types.length tc, .slice ha m.hosts.length hc, .slice ga m.globals.length gc, .int .i64 m.first, .int .i64 m.most, .slice fa m.funs.length fc, .slice da m.datas.length dc, .slice ea m.exps.length ec] 29)) S (fun b hb => by have := hS b hb; have := hba.size; omega) m _ (hm0.keeps (Keeps.all S hba)) sm wf (htb.bel hba))
  have HR6 := Lib.hid r6; have HMB := Lib.hid hmb; have HB := Lib.hid hba
  have g0 := row_cell hmb 0 rfl; have g1 := row_cell hmb 1 rfl; have g2 := row_cell hmb 2 rfl; have g3 := row_cell hmb 3 rfl; have g4 := row_cell hmb 4 rfl; have g5 := row_cell hmb 5 rfl; have g6 := row_cell hmb 6 rfl; have g7 := row_cell hmb 7 rfl
  simp only [List.getElem_toArray, List.getElem_cons_zero, List.getElem_cons_succ] at g0 g1 g2 g3 g4 g5 g6 g7
  clear hm0 r1 r2 r3 r4 r5 r6 hba hmb htb hS sm wf
  go_enter Tryd.func11, Tryd.ntmps11
  go_wp2_with fail
  refine HV.out.mono ?_
  rintro e w2 ⟨lv, rfl, -, hb2⟩
  obtain ⟨ve, hve⟩ : ∃ e, (valM m).2.1 = e := ⟨_, rfl⟩
  rw [hve]
  have HVE := Lib.hid hve
  have HB2 := Lib.hid (below_next HB.out hb2)
  have HMB2 := Lib.hid (MB_cells HMB.out hb2)
  clear g0 g1 g2 g3 g4 g5 g6 g7 hb2 hve HV HB HMB
  have g7 := row_cell HMB2.out 7 rfl
  simp only [List.getElem_toArray, List.getElem_cons_zero, List.getElem_cons_succ] at g7
  by_cases h0 : ve = 0
  rotate_left
  · have hvb : (ve != 0) = true := by simpa using h0
    have HF : Hid (findM m name = (0, ve)) := Lib.hid (by unfold findM; rw [HVE.out, if_pos h0])
    clear h0
    go_wp2
    refine bodyPost_ret (results_tmp2 rfl _ _ _) rfl ⟨?_, HB2.out⟩
    rw [HF.out]; rfl
  have hvb : (ve != 0) = false := by simp [h0]
  have HF : Hid (findM m name = pickM (m.exps.find? fun x => x.name = name)) := Lib.hid (by unfold findM; rw [HVE.out, if_neg (by simp [h0])])
  have hel : m.exps.length ≤ 140737488355328 := el
  clear h0 HVE
  go_wp2
  go_loopw [25] (fun i wr => ∃ k : Nat, k ≤ m.exps.length ∧ i = .int .i64 k ∧ Hid (Below w2.heap.size w2 wr) ∧ Hid (m.exps.find? (fun x => x.name = name) = (m.exps.drop k).find? (fun x => x.name = name))) (fun i _ => m.exps.length - (intOf i).toNat)
  case atStart => exact ⟨0, by omega, rfl, Lib.hid (Below.refl _ _), Lib.hid rfl⟩
  case round =>
    obtain ⟨k, hk, rfl, HBk, HD⟩ := hrel
    by_cases hlt : k < m.exps.length
    · obtain ⟨b, off, rfl, c0, c1⟩ := ex_at (HR6.out) hlt
      obtain ⟨⟨nm, fx⟩, hx⟩ : ∃ x, m.exps[k] = x := ⟨_, rfl⟩
      rw [hx] at c0 c1
      simp only at c0 c1
      have hbw := (HB2.out.trans (HBk.out.mono HB2.out.size))
      have c0 := cell_below hbw c0
      have c1 := cell_below hbw c1
      have HDS : Hid (m.exps.drop k = ⟨nm, fx⟩ :: m.exps.drop (k + 1)) := Lib.hid (by rw [List.drop_eq_getElem_cons hlt, hx])
      have hba := below_alloc wr (.cells #[.string nm, .int .i64 fx] 59)
      have HBA := Lib.hid (below_next HBk.out hba)
      have r0 := heap_alloc_new wr (.cells #[.string ⟨#[]⟩, .int .i64 0] 59)
      have fr0 := row_free r0 0; have fr1 := row_free r0 1
      clear hbw hx hba r0
      by_cases hnm : nm = name
      · subst hnm
        have HFN : Hid (findM m nm = (fx, 0)) := Lib.hid (by
          rw [HF.out, HD.out, HDS.out, List.find?_cons]
          simp [pickM])
        go_wp2
        refine bodyPost_ret (results_tmp2 rfl _ _ _) rfl ⟨?_, below_next HB2.out HBA.out⟩
        rw [HFN.out]; rfl
      · have hnt : ¬ nm.toList = name.toList := fun e => hnm (ba_inj5 e)
        have e1 : (nm.toList == name.toList) = false := by simpa using hnt
        have HDN : Hid (m.exps.find? (fun x => x.name = name) = (m.exps.drop (k + 1)).find? (fun x => x.name = name)) := Lib.hid (by
          rw [HD.out, HDS.out, List.find?_cons]
          simp [hnm])
        clear hnm hnt
        go_wp2
        go_roundw
        case rel => exact ⟨k + 1, by omega, by go_num, HBA, HDN⟩
        case measure => simp [intOf]; omega
    · have HFN : Hid (findM m name = (0, 41)) := Lib.hid (by
        rw [HF.out, HD.out, List.drop_eq_nil_of_le (by omega)]; rfl)
      go_wp2
      refine bodyPost_ret (results_tmp2 rfl _ _ _) rfl ⟨?_, below_next HB2.out HBk.out⟩
      rw [HFN.out]; rfl
end Go.Proofs.YtfhkjahjenpbgaaDoor
