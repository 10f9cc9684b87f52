/- module's reader: head. -/
import Derived.Test.YteaolgldkfjdkaaDoorMRd
import Derived.Test.YteaolgldkfjdkaaDoorMTwice
import Derived.Test.YteaolgldkfjdkaaDoorMRf0
namespace Go.Proofs.YteaolgldkfjdkaaDoor
open Go Go.RowKit

theorem up_bel {w w' : World} {f : Value} {m e : Int} {p : Nat} (h : Up w f m e p) (hb : Below w.heap.size w w') : Up w' f m e p := by
  obtain ⟨x, y, e1, c1, c2⟩ := h.ex
  exact ⟨⟨x, y, e1, cell_below hb c1, cell_below hb c2⟩⟩
theorem rnum_0 {most : Nat} {great e : Int} {b : List Int} {p k : Nat} (h : rnum most great b p = .error (e, k)) (hg : great ≠ 0) : e ≠ 0 := rnum_err hg h
set_option maxRecDepth 100000 in
set_option maxHeartbeats 12800000 in
theorem rm_head (S : Nat → Prop) (B : Nat) (w : World) (p mb : Nat) (bv : Value) (b : List Int) (al : Int) (at_ : Nat) (h : Md S B w p mb bv b al at_ mqZ []) (hb : Bytes b) (hl : b.length ≤ 1000000) :
    Calls Tryd.prog 22 #[.pointer (some ⟨p, 0, none⟩)] w (RhE S B w p mb bv b al at_) := by
  have hmf : ∀ (fn : Fn) (first cap : Array Value) (w : World), (Instr.makeFunc fn first cap).run Tryd.prog w = .ok (.func fn first cap) w := fun _ _ _ _ => rfl
  obtain ⟨i0, hi, hz0, hz1, hz2⟩ := info_parts Tryd.infoSig
  obtain ⟨i1, hj, hy0, hy1, hy2⟩ := info_parts Tryd.infoIntH
  obtain ⟨i2, hg, hx0, hx1, hx2⟩ := info_parts Tryd.infoGlobH
  have HB := Lib.hid hb
  have hSp := fun y hy => (h.sS y hy).2.1
  have HSP := Lib.hid hSp
  have hb1 := below_alloc w (.cells #[.pointer (some ⟨p, 0, none⟩)] 66)
  have hr1 := heap_alloc_new w (.cells #[.pointer (some ⟨p, 0, none⟩)] 66)
  have HM1 := Lib.hid (h.on hb1)
  have HK1 : Hid (Kp B p mb w (w.alloc (.cells #[.pointer (some ⟨p, 0, none⟩)] 66))) := Lib.hid (Kp.on hb1)
  have HR1 := Lib.hid hr1
  have q0 := row_cell hr1 0 rfl
  simp only [List.getElem_toArray, List.getElem_cons_zero] at q0
  clear h hb hSp hb1 hr1
  go_enter Tryd.func22, Tryd.ntmps22
  go_wp2_with fail
  generalize w.alloc (.cells #[.pointer (some ⟨p, 0, none⟩)] 66) = w1 at *
  obtain ⟨rb, hrb⟩ : ∃ rb, w.heap.size = rb := ⟨_, rfl⟩
  rw [hrb] at q0 HR1 ⊢
  clear hrb
  have HU1 := Lib.hid (fun wx (hx : Rm S wx p mb bv b al at_) f (hf : Up wx f 64 20 p) => rm_upTo hx HB.out HSP.out 64 64 rfl 20 (by decide) (by omega) f hf)
  go_cut [11, 12] (fun c11 c12 wx => c12 = .int .i64 0 ∧ ∃ n q, c11 = .int .i64 (n : Nat) ∧ Hid (rnum 64 20 b at_ = .ok (n, q)) ∧ Hid (Md S B wx p mb bv b al q mqZ []) ∧ Hid (Kp B p mb w wx) ∧ Hid (wx.heap[rb]? = some (.cells #[.pointer (some ⟨p, 0, none⟩)] 66 (0, 0))))
  case first =>
    as_aux_lemma =>
      go_region_law (first
        | (go_simp; go_at_call 45; (with_reducible refine (mod_upTo _ 64 20).mono ?_); rintro e w2 ⟨f, rfl, hb2, hup⟩; have q0 := cell_below hb2 q0; have HM2 := Lib.hid (HM1.out.on (below_next (drew_bel w1) hb2)); have HK2 := Lib.hid (HK1.out.trans (Kp.on (below_next (drew_bel w1) hb2))); have HR2 := Lib.hid (((below_next (drew_bel w1) hb2).block _ (row_lt HR1.out)).trans HR1.out))
        | (go_simp; go_at_call 44; (with_reducible refine (HU1.out _ HM2.out.rm f (hup p)).mono ?_); rintro e w3 (⟨n, q, h1, rfl, h2, h3⟩ | ⟨z, k, h1, rfl, h3⟩); rotate_left 1; exact ⟨rfl, .inr ⟨_, _, rhd_1 h1, rfl, HK2.out.trans (Kp.read h3)⟩⟩))
      all_goals
        have HM3 := Lib.hid (HM2.out.read h2 h3)
        have HK3 : Hid (Kp B p mb w w3) := Lib.hid (HK2.out.trans (Kp.read h3))
        have HR3 := Lib.hid ((h3.block _ (row_lt HR2.out) (row_ne HR2.out HM2.out.rm.row (by decide))).trans HR2.out)
        have H1 := Lib.hid h1
        clear h1 h2 h3
        go_wp2_with fail
        go_meet
        exact ⟨rfl, n, q, rfl, H1, HM3, HK3, HR3⟩
  case rest =>
    obtain ⟨rfl, n, q, rfl, HN, HM, HK, HR⟩ := hcut
    clear HM1 HK1 HR1 HU1 q0
    have q0 := row_cell HR.out 0 rfl
    have hn := (rnum_le5 HN.out).1
    simp only [List.getElem_toArray, List.getElem_cons_zero] at q0
    go_wp2_with fail
    go_loopw [12] (fun i wr => ∃ (k : Nat) (q' : Nat) (tv : Value) (ts : List SigD), k ≤ n ∧ i = .int .i64 k ∧ Hid (Md S B wr p mb bv b al q' { mqZ with tv := tv, ts := ts } []) ∧ Hid (Kp B p mb w wr) ∧ Hid (wr.heap[rb]? = some (.cells #[.pointer (some ⟨p, 0, none⟩)] 66 (0, 0))) ∧ Hid (RepAt rsig n b q ts q') ∧ Hid (ts.length = k)) (fun i _ => n - (intOf i).toNat)
    case atStart => exact ⟨0, q, nilV, [], by omega, rfl, HM, HK, HR, Lib.hid (RepAt.zero _ _ _ _), rfl⟩
    case round =>
      clear HM HK HR q0
      obtain ⟨k, q', tv, ts, hk, rfl, HM, HK, HR, HP, HL⟩ := hrel
      have q0 := row_cell HR.out 0 rfl
      have p3 := row_cell HM.out.rm.row 3 rfl
      simp only [List.getElem_toArray, List.getElem_cons_zero, List.getElem_cons_succ] at q0 p3
      by_cases hlt : k < n
      · skip
        as_aux_lemma =>
          go_wp2_with fail
          have HP3 := Lib.hid p3
          refine (rm_lettered HM.out.rm HB.out HSP.out 8 (by omega)).mono ?_
          rintro e w3 (⟨s1, q1, h1, rfl, h2, h3⟩ | ⟨z, kk, h1, rfl, h3⟩)
          rotate_left
          · exact ⟨rfl, .inr ⟨_, _, rhd_2 HN.out (HP.out.bad (by rw [HL.out]; exact hlt) (by rw [rsig_at, h1])), rfl, HK.out.trans (Kp.read h3)⟩⟩
          have HM3 := Lib.hid (HM.out.read h2 h3)
          have HK3 : Hid (Kp B p mb w w3) := Lib.hid (HK.out.trans (Kp.read h3))
          have HR3 := Lib.hid ((h3.block _ (row_lt HR.out) (row_ne HR.out HM.out.rm.row (by decide))).trans HR.out)
          have S1 := Lib.hid h1
          clear HM HK HR h1 h2 h3 q0 p3 HP3
          have hb4 := below_alloc w3 (.cells #[.string s1, .string ⟨#[]⟩] 46)
          have hr4 := heap_alloc_new w3 (.cells #[.string s1, .string ⟨#[]⟩] 46)
          have HM4 := Lib.hid (HM3.out.on hb4)
          have HK4 : Hid (Kp B p mb w (w3.alloc (.cells #[.string s1, .string ⟨#[]⟩] 46))) := Lib.hid (HK3.out.trans (Kp.on hb4))
          have HR4 := Lib.hid ((hb4.block _ (row_lt HR3.out)).trans HR3.out)
          have HG := Lib.hid (And.intro HM3.out.hi (HM3.out.fresh (Nat.le_refl w3.heap.size)))
          have HG4 := Lib.hid hr4
          have q0 := row_cell HR4.out 0 rfl
          simp only [List.getElem_toArray, List.getElem_cons_zero] at q0
          clear hb4 hr4 HM3 HK3 HR3
          go_wp2_with fail
          generalize w3.alloc (.cells #[.string s1, .string ⟨#[]⟩] 46) = w4 at *
          generalize w3.heap.size = g at *
          refine (rm_lettered HM4.out.rm HB.out HSP.out 8 (by omega)).mono ?_
          rintro e w5 (⟨s2, q2, h1, rfl, h2, h3⟩ | ⟨z, kk, h1, rfl, h3⟩)
          rotate_left
          · exact ⟨rfl, .inr ⟨_, _, rhd_2 HN.out (HP.out.bad (by rw [HL.out]; exact hlt) (by rw [rsig_at, S1.out]; simp only; rw [h1])), rfl, HK4.out.trans (Kp.read h3)⟩⟩
          have HM5 := HM4.out.read h2 h3
          have HR5 := (h3.block _ (row_lt HR4.out) (row_ne HR4.out HM4.out.rm.row (by decide))).trans HR4.out
          have HG5 := (h3.block _ (row_lt HG4.out) (row_ne HG4.out HM4.out.rm.row (by decide))).trans HG4.out
          have P6 := HM5.cell (i := 1) (.string s2) HG.out.1 HG.out.2
          have hkg := (Keeps.refl (fun b => b ≠ g) w5).setCell (a := ⟨g, 1, none⟩) (by simp) (.string s2)
          have HM6 := Lib.hid P6.1
          have HK6 : Hid (Kp B p mb w (w5.setCell ⟨g, 1, none⟩ (.string s2))) := Lib.hid ((HK4.out.trans (Kp.read h3)).trans P6.2)
          have HR6 := Lib.hid ((hkg.block _ (row_lt HR5) (row_ne HR5 HG5 (by decide))).trans HR5)
          have HG6 : Hid ((w5.setCell ⟨g, 1, none⟩ (.string s2)).heap[g]? = some (.cells #[.string s1, .string s2] 46 (0, 0))) := Lib.hid (by simpa using row_setCell HG5 1 (.string s2))
          have S2 := Lib.hid h1
          have y1 := row_cell HG5 1 rfl; have yf := row_free HG5 1; have q0 := row_cell HR5 0 rfl
          simp only [List.getElem_toArray, List.getElem_cons_zero, List.getElem_cons_succ] at y1 q0
          clear h1 h2 h3 HM5 HR5 HG5 P6 hkg HM4 HK4 HR4 HG4
          go_wp2_with fail
          generalize w5.setCell ⟨g, 1, none⟩ (.string s2) = w6 at *
          clear q0 y1 yf
          have q0 := row_cell HR6.out 0 rfl
          have y0 := row_cell HG6.out 0 rfl; have y1 := row_cell HG6.out 1 rfl
          obtain ⟨p0, _, _, _⟩ := HM6.out.pc
          obtain ⟨a', c', hvt, _⟩ := own_slice (HM6.out.fam.own (tyE tv ts) (by simp [Mq.ents]))
          have hvt : tv = .slice a' ts.length c' := hvt
          subst hvt
          have m0 : w6.cell? ⟨mb, 0, none⟩ = some (.slice a' ts.length c') := (HM6.out.mc (i := 0) rfl).1
          have mf := row_free HM6.out.mrow 0
          simp only [List.getElem_toArray, List.getElem_cons_zero, List.getElem_cons_succ] at q0 y0 y1
          have hbel := below_alloc w6.drew (.cells #[.string s1, .string s2] 46)
          have HMA := Lib.hid (HM6.out.on (below_step (Below.refl _ w6).drew (Nat.le_refl _) hbel))
          have HOA : Hid ((w6.drew.alloc (.cells #[.string s1, .string s2] 46)).ownsRow B 46 2 (.slice a' ts.length c') ts.length (ts.flatMap sgC)) := Lib.hid (HMA.out.fam.own (tyE (.slice a' ts.length c') ts) (by simp [Mq.ents]))
          have HGA := Lib.hid (((below_step (Below.refl _ w6).drew (Nat.le_refl _) hbel).block _ (row_lt HG6.out)).trans HG6.out)
          have HNG : Hid ((Value.slice a' ts.length c').ownBlock ≠ some g) := Lib.hid (fun e => HG.out.2 (mem_entBs.2 ⟨tyE (.slice a' ts.length c') ts, by simp [Mq.ents], e⟩))
          have HRA := Lib.hid (((below_step (Below.refl _ w6).drew (Nat.le_refl _) hbel).block _ (row_lt HR6.out)).trans HR6.out)
          have HKA := Lib.hid (HK6.out.trans (Kp.on (B := B) (p := p) (mb := mb) (below_step (Below.refl _ w6).drew (Nat.le_refl _) hbel)))
          have hb6 := below_alloc w6 (.cells #[.string s1, .string s2] 46)
          have z0 := cell_below hb6 q0; have z1 := cell_below hb6 p0; have z2 := cell_below hb6 m0; have z3 := cell_below hb6 y0; have z4 := cell_below hb6 y1
          have hBw := HM6.out.hi
          have HNP : Hid ((Value.slice a' ts.length c').ownBlock ≠ some p) := Lib.hid (fun e => by have := (World.ownsRow.lt HOA.out p e).1; have := HMA.out.lo; omega)
          have HNR : Hid ((Value.slice a' ts.length c').ownBlock ≠ some rb) := Lib.hid (own_ne HOA.out HRA.out (by decide))
          clear hb6
          have hln : ts.length ≤ 64 := by have := HL.out; omega
          have HNM : Hid ((Value.slice a' ts.length c').ownBlock ≠ some mb) := Lib.hid (fun e => by have := (World.ownsRow.lt HOA.out mb e).1; have := HMA.out.lo; omega)
          clear hbel
          go_cut [] (fun wx => ∃ v9, Hid (Md S B wx p mb bv b al q2 { mqZ with tv := v9, ts := ts ++ [(s1, s2)] } []) ∧ Hid (Kp B p mb w wx) ∧ Hid (wx.heap[rb]? = some (.cells #[.pointer (some ⟨p, 0, none⟩)] 66 (0, 0))))
          case first =>
            have n1 : rb ≠ mb := row_ne HR6.out HM6.out.mrow (by decide)
            have n2 : p ≠ mb := HM6.out.ne
            have n3 : g ≠ mb := row_ne HG6.out HM6.out.mrow (by decide)
            refine wp_region_held_drew (S := (fun wx => wx.cell? ⟨rb, 0, none⟩ = some (.pointer (some ⟨p, 0, none⟩)) ∧ wx.cell? ⟨p, 0, none⟩ = some (.pointer (some ⟨mb, 0, none⟩)) ∧ wx.cell? ⟨g, 0, none⟩ = some (.string s1) ∧ wx.cell? ⟨g, 1, none⟩ = some (.string s2))) (by kernel_rfl) ⟨q0, p0, y0, y1⟩ (fun hHeld => ?_)
            refine takeAt (i := 0) (d := 24) (v := ?_) rfl (by kernel_rfl) (by kernel_rfl) (by kernel_rfl) (by kernel_rfl) (fun _ _ _ h => h) (Or.inl ⟨by kernel_rfl, ?_⟩) (by assumption) ?_
            rotate_left
            · (intro w hSw; (try dsimp only at hSw); go_simp; all_goals (with_reducible rfl))
            (try simp only [Act.put, List.setIfInBounds_toArray, List.set_cons_zero, List.set_cons_succ])
            refine takeAt (i := 1) (d := 25) (v := ?_) rfl (by kernel_rfl) (by kernel_rfl) (by kernel_rfl) (by kernel_rfl) (fun _ _ _ h => h) (Or.inl ⟨by kernel_rfl, ?_⟩) (by assumption) ?_
            rotate_left
            · (intro w hSw; (try dsimp only at hSw); go_simp; all_goals (with_reducible rfl))
            (try simp only [Act.put, List.setIfInBounds_toArray, List.set_cons_zero, List.set_cons_succ])
            refine takeAt (i := 2) (d := 26) (v := ?_) rfl (by kernel_rfl) (by kernel_rfl) (by kernel_rfl) (by kernel_rfl) (fun _ _ _ h => h) (Or.inl ⟨by kernel_rfl, ?_⟩) (by assumption) ?_
            rotate_left
            · (intro w hSw; (try dsimp only at hSw); go_simp; all_goals (with_reducible rfl))
            (try simp only [Act.put, List.setIfInBounds_toArray, List.set_cons_zero, List.set_cons_succ])
            refine takeAt (i := 3) (d := 27) (v := ?_) rfl (by kernel_rfl) (by kernel_rfl) (by kernel_rfl) (by kernel_rfl) (fun _ _ _ h => h) (Or.inl ⟨by kernel_rfl, ?_⟩) (by assumption) ?_
            rotate_left
            · (intro w hSw; (try dsimp only at hSw); go_simp; all_goals (with_reducible rfl))
            (try simp only [Act.put, List.setIfInBounds_toArray, List.set_cons_zero, List.set_cons_succ])
            refine takeAt (i := 4) (d := 28) (v := ?_) rfl (by kernel_rfl) (by kernel_rfl) (by kernel_rfl) (by kernel_rfl) (fun _ _ _ h => h) (Or.inl ⟨by kernel_rfl, ?_⟩) (by assumption) ?_
            rotate_left
            · (intro w hSw; (try dsimp only at hSw); go_simp; all_goals (with_reducible rfl))
            (try simp only [Act.put, List.setIfInBounds_toArray, List.set_cons_zero, List.set_cons_succ])
            refine takeAt (i := 5) (d := 29) (v := ?_) rfl (by kernel_rfl) (by kernel_rfl) (by kernel_rfl) (by kernel_rfl) (fun _ _ _ h => h) (Or.inl ⟨by kernel_rfl, ?_⟩) (by assumption) ?_
            rotate_left
            · (intro w hSw; (try dsimp only at hSw); go_simp; all_goals (with_reducible rfl))
            (try simp only [Act.put, List.setIfInBounds_toArray, List.set_cons_zero, List.set_cons_succ])
            refine takeAt (i := 6) (d := 30) (v := ?_) rfl (by kernel_rfl) (by kernel_rfl) (by kernel_rfl) (by kernel_rfl) (fun _ _ _ h => h) (Or.inl ⟨by kernel_rfl, ?_⟩) (by assumption) ?_
            rotate_left
            · (intro w hSw; (try dsimp only at hSw); go_simp; all_goals (with_reducible rfl))
            (try simp only [Act.put, List.setIfInBounds_toArray, List.set_cons_zero, List.set_cons_succ])
            refine takeAt (i := 7) (d := 31) (v := ?_) rfl (by kernel_rfl) (by kernel_rfl) (by kernel_rfl) (by kernel_rfl) (fun _ _ _ h => h) (Or.inl ⟨by kernel_rfl, ?_⟩) (by assumption) ?_
            rotate_left
            · (intro w hSw; (try dsimp only at hSw); go_simp; all_goals (with_reducible rfl))
            (try simp only [Act.put, List.setIfInBounds_toArray, List.set_cons_zero, List.set_cons_succ])
            refine takeAt (i := 8) (d := 32) (v := ?_) rfl (by kernel_rfl) (by kernel_rfl) (by kernel_rfl) (by kernel_rfl) (fun _ _ _ h => h) (Or.inl ⟨by kernel_rfl, ?_⟩) (by assumption) ?_
            rotate_left
            · (intro w hSw; (try dsimp only at hSw); go_simp; all_goals (with_reducible rfl))
            (try simp only [Act.put, List.setIfInBounds_toArray, List.set_cons_zero, List.set_cons_succ])
            refine takeAt (i := 9) (d := 33) (v := ?_) rfl (by kernel_rfl) (by kernel_rfl) (by kernel_rfl) (by kernel_rfl) (fun _ _ _ h => h) (Or.inl ⟨by kernel_rfl, ?_⟩) (by assumption) ?_
            rotate_left
            · (intro w hSw; (try dsimp only at hSw); go_simp; all_goals (with_reducible rfl))
            (try simp only [Act.put, List.setIfInBounds_toArray, List.set_cons_zero, List.set_cons_succ])
            refine takeAt (i := 10) (d := 34) (v := ?_) rfl (by kernel_rfl) (by kernel_rfl) (by kernel_rfl) (by kernel_rfl) (fun _ _ _ h => h) (Or.inl ⟨by kernel_rfl, ?_⟩) (by assumption) ?_
            rotate_left
            · (intro w hSw; (try dsimp only at hSw); go_simp; all_goals (with_reducible rfl))
            (try simp only [Act.put, List.setIfInBounds_toArray, List.set_cons_zero, List.set_cons_succ])
            refine takeAt (i := 11) (d := 35) (v := ?_) rfl (by kernel_rfl) (by kernel_rfl) (by kernel_rfl) (by kernel_rfl) (fun _ _ _ h => h) (Or.inl ⟨by kernel_rfl, ?_⟩) (by assumption) ?_
            rotate_left
            · (intro w hSw; (try dsimp only at hSw); go_simp; all_goals (with_reducible rfl))
            (try simp only [Act.put, List.setIfInBounds_toArray, List.set_cons_zero, List.set_cons_succ])
            refine takeAt (i := 13) (d := 37) (v := ?_) rfl (by kernel_rfl) (by kernel_rfl) (by kernel_rfl) (by kernel_rfl) (fun _ _ _ h => h) (Or.inl ⟨by kernel_rfl, ?_⟩) (by assumption) ?_
            rotate_left
            · (intro w hSw; (try dsimp only at hSw); go_simp; all_goals (with_reducible rfl))
            (try simp only [Act.put, List.setIfInBounds_toArray, List.set_cons_zero, List.set_cons_succ])
            refine wpAnyH_ready (rs := [12, 14]) (by kernel_rfl) (by simp) ?_
            refine AllReadyH.cons rfl (fun K hK => ?_) (AllReadyH.cons rfl (fun K hK => ?_) AllReadyH.nil)
            · go_simp
              refine hK.out _ _ hHeld (fun hHeld => ?_)
              clear hK K
              (try refine stateAt (d := 36) (by kernel_rfl) ?_)
              (try simp only [Act.put, List.setIfInBounds_toArray, List.set_cons_zero, List.set_cons_succ])
              refine wpAnyH_ready (rs := [14]) (by kernel_rfl) (by simp) ?_
              refine AllReadyH.cons rfl (fun K hK => ?_) AllReadyH.nil
              go_simp
              refine hK.out _ _ ⟨z0, z1, z3, z4⟩ (fun hHeld => ?_)
              clear hK K
              (try refine stateAt (d := 38) (by kernel_rfl) ?_)
              (try simp only [Act.put, List.setIfInBounds_toArray, List.set_cons_zero, List.set_cons_succ])
              refine wpAnyH_ready (rs := [15]) (by kernel_rfl) (by simp) ?_
              refine AllReadyH.cons rfl (fun K hK => ?_) AllReadyH.nil
              clear hHeld
              refine step_append_lies _ (by rfl) _ _ 22 (by rfl) B 46 i0 _ 2 32 Tryd.underlying22 hi hz0 hz1 hz2 rfl (by omega) (.slice a' ts.length c') ts.length (ts.flatMap sgC) (by rfl) HOA.out ⟨w6.heap.size, 0, none⟩ 1 1 [.string s1, .string s2] (by rfl) (by rfl) (news2 w6.drew _ _ _) (by simp [Value.oneCell']) (by omega) (by unfold maxLen; omega) (by omega) (by show B ≤ (w6.alloc _).heap.size; rw [World.size_alloc]; omega) (w6.heap.size + 1) (by show (w6.alloc _).heap.size = _; rw [World.size_alloc]) ?_
              intro g9 cap9 w9 hown9 hgrow9 hat9 hlt9
              have hm9 := grown_block hgrow9 HMA.out.mrow HNM.out
              have c9 := row_cell hm9 0 rfl
              have f9 := row_free hm9 0
              have hp9 := grown_block hgrow9 HMA.out.rm.row HNP.out
              have hr9 := grown_block hgrow9 HRA.out HNR.out
              have hg9 := grown_block hgrow9 HGA.out HNG.out
              have d9 := row_cell hp9 0 rfl
              have e9 := row_cell hr9 0 rfl
              have y09 := row_cell hg9 0 rfl
              have y19 := row_cell hg9 1 rfl
              refine hK.out _ _ ⟨e9, d9, y09, y19⟩ (fun hHeld => ?_)
              clear hK K
              (try refine stateAt (d := 39) (by kernel_rfl) ?_)
              (try simp only [Act.put, List.setIfInBounds_toArray, List.set_cons_zero, List.set_cons_succ])
              refine takeAt (i := 16) (d := 40) (v := ?_) rfl (by kernel_rfl) (by kernel_rfl) (by kernel_rfl) (by kernel_rfl) (fun _ _ _ h => h) (Or.inl ⟨by kernel_rfl, ?_⟩) (by assumption) ?_
              rotate_left
              · (intro w hSw; (try dsimp only at hSw); go_simp; all_goals (with_reducible rfl))
              (try simp only [Act.put, List.setIfInBounds_toArray, List.set_cons_zero, List.set_cons_succ])
              refine takeAt (i := 17) (d := 41) (v := ?_) rfl (by kernel_rfl) (by kernel_rfl) (by kernel_rfl) (by kernel_rfl) (fun _ _ _ h => h) (Or.inl ⟨by kernel_rfl, ?_⟩) (by assumption) ?_
              rotate_left
              · (intro w hSw; (try dsimp only at hSw); go_simp; all_goals (with_reducible rfl))
              (try simp only [Act.put, List.setIfInBounds_toArray, List.set_cons_zero, List.set_cons_succ])
              refine wpAnyH_ready (rs := [18]) (by kernel_rfl) (by simp) ?_
              refine AllReadyH.cons rfl (fun K hK => ?_) AllReadyH.nil
              have n9 := (Keeps.refl (fun b => b ≠ mb) w9).setCell (a := ⟨mb, 0, none⟩) (by simp) (.slice (some ⟨g9, 0, none⟩) (ts.length + 1) cap9)
              have hpc := row_cell ((n9.block _ (row_lt hp9) n2).trans hp9) 0 rfl
              have hrx := (n9.block _ (row_lt hr9) n1).trans hr9
              have hrc := row_cell hrx 0 rfl
              have hgx := (n9.block _ (row_lt hg9) n3).trans hg9
              have hg0 := row_cell hgx 0 rfl
              have hg1 := row_cell hgx 1 rfl
              have PP := HMA.out.grow (e := tyE (.slice a' ts.length c') ts) (e' := tyE (.slice (some ⟨g9, 0, none⟩) (ts.length + 1) cap9) (ts ++ [(s1, s2)])) (i := 0) (x' := { mqZ with tv := .slice (some ⟨g9, 0, none⟩) (ts.length + 1) cap9, ts := ts ++ [(s1, s2)] }) (X' := []) (List.Perm.refl _) (List.Perm.refl _) rfl rfl hgrow9 (by simpa [tyE, sgC] using hown9) (at_of5 hat9 (by show (w6.alloc _).heap.size ≤ _; rw [World.size_alloc]; exact Nat.le_refl _))
              have HM9 := Lib.hid PP.1
              have HK9 := Lib.hid (HKA.out.trans PP.2)
              have HR9 := Lib.hid hrx
              go_simp
              refine hK.out _ _ ⟨hrc, hpc, hg0, hg1⟩ (fun hHeld => ?_)
              clear hK K
              (try simp only [Act.put, List.setIfInBounds_toArray, List.set_cons_zero, List.set_cons_succ])
              refine wpAnyH_done (by kernel_rfl) ?_ _
              go_wp2_with fail
              go_meet
              exact ⟨_, HM9, HK9, HR9⟩
            · go_simp
              refine hK.out _ _ ⟨z0, z1, z3, z4⟩ (fun hHeld => ?_)
              clear hK K
              (try refine stateAt (d := 38) (by kernel_rfl) ?_)
              (try simp only [Act.put, List.setIfInBounds_toArray, List.set_cons_zero, List.set_cons_succ])
              refine wpAnyH_ready (rs := [12]) (by kernel_rfl) (by simp) ?_
              refine AllReadyH.cons rfl (fun K hK => ?_) AllReadyH.nil
              go_simp
              refine hK.out _ _ ⟨z0, z1, z3, z4⟩ (fun hHeld => ?_)
              clear hK K
              (try refine stateAt (d := 36) (by kernel_rfl) ?_)
              (try simp only [Act.put, List.setIfInBounds_toArray, List.set_cons_zero, List.set_cons_succ])
              refine wpAnyH_ready (rs := [15]) (by kernel_rfl) (by simp) ?_
              refine AllReadyH.cons rfl (fun K hK => ?_) AllReadyH.nil
              clear hHeld
              refine step_append_lies _ (by rfl) _ _ 22 (by rfl) B 46 i0 _ 2 32 Tryd.underlying22 hi hz0 hz1 hz2 rfl (by omega) (.slice a' ts.length c') ts.length (ts.flatMap sgC) (by rfl) HOA.out ⟨w6.heap.size, 0, none⟩ 1 1 [.string s1, .string s2] (by rfl) (by rfl) (news2 w6.drew _ _ _) (by simp [Value.oneCell']) (by omega) (by unfold maxLen; omega) (by omega) (by show B ≤ (w6.alloc _).heap.size; rw [World.size_alloc]; omega) (w6.heap.size + 1) (by show (w6.alloc _).heap.size = _; rw [World.size_alloc]) ?_
              intro g9 cap9 w9 hown9 hgrow9 hat9 hlt9
              have hm9 := grown_block hgrow9 HMA.out.mrow HNM.out
              have c9 := row_cell hm9 0 rfl
              have f9 := row_free hm9 0
              have hp9 := grown_block hgrow9 HMA.out.rm.row HNP.out
              have hr9 := grown_block hgrow9 HRA.out HNR.out
              have hg9 := grown_block hgrow9 HGA.out HNG.out
              have d9 := row_cell hp9 0 rfl
              have e9 := row_cell hr9 0 rfl
              have y09 := row_cell hg9 0 rfl
              have y19 := row_cell hg9 1 rfl
              refine hK.out _ _ ⟨e9, d9, y09, y19⟩ (fun hHeld => ?_)
              clear hK K
              (try refine stateAt (d := 39) (by kernel_rfl) ?_)
              (try simp only [Act.put, List.setIfInBounds_toArray, List.set_cons_zero, List.set_cons_succ])
              refine takeAt (i := 16) (d := 40) (v := ?_) rfl (by kernel_rfl) (by kernel_rfl) (by kernel_rfl) (by kernel_rfl) (fun _ _ _ h => h) (Or.inl ⟨by kernel_rfl, ?_⟩) (by assumption) ?_
              rotate_left
              · (intro w hSw; (try dsimp only at hSw); go_simp; all_goals (with_reducible rfl))
              (try simp only [Act.put, List.setIfInBounds_toArray, List.set_cons_zero, List.set_cons_succ])
              refine takeAt (i := 17) (d := 41) (v := ?_) rfl (by kernel_rfl) (by kernel_rfl) (by kernel_rfl) (by kernel_rfl) (fun _ _ _ h => h) (Or.inl ⟨by kernel_rfl, ?_⟩) (by assumption) ?_
              rotate_left
              · (intro w hSw; (try dsimp only at hSw); go_simp; all_goals (with_reducible rfl))
              (try simp only [Act.put, List.setIfInBounds_toArray, List.set_cons_zero, List.set_cons_succ])
              refine wpAnyH_ready (rs := [18]) (by kernel_rfl) (by simp) ?_
              refine AllReadyH.cons rfl (fun K hK => ?_) AllReadyH.nil
              have n9 := (Keeps.refl (fun b => b ≠ mb) w9).setCell (a := ⟨mb, 0, none⟩) (by simp) (.slice (some ⟨g9, 0, none⟩) (ts.length + 1) cap9)
              have hpc := row_cell ((n9.block _ (row_lt hp9) n2).trans hp9) 0 rfl
              have hrx := (n9.block _ (row_lt hr9) n1).trans hr9
              have hrc := row_cell hrx 0 rfl
              have hgx := (n9.block _ (row_lt hg9) n3).trans hg9
              have hg0 := row_cell hgx 0 rfl
              have hg1 := row_cell hgx 1 rfl
              have PP := HMA.out.grow (e := tyE (.slice a' ts.length c') ts) (e' := tyE (.slice (some ⟨g9, 0, none⟩) (ts.length + 1) cap9) (ts ++ [(s1, s2)])) (i := 0) (x' := { mqZ with tv := .slice (some ⟨g9, 0, none⟩) (ts.length + 1) cap9, ts := ts ++ [(s1, s2)] }) (X' := []) (List.Perm.refl _) (List.Perm.refl _) rfl rfl hgrow9 (by simpa [tyE, sgC] using hown9) (at_of5 hat9 (by show (w6.alloc _).heap.size ≤ _; rw [World.size_alloc]; exact Nat.le_refl _))
              have HM9 := Lib.hid PP.1
              have HK9 := Lib.hid (HKA.out.trans PP.2)
              have HR9 := Lib.hid hrx
              go_simp
              refine hK.out _ _ ⟨hrc, hpc, hg0, hg1⟩ (fun hHeld => ?_)
              clear hK K
              (try simp only [Act.put, List.setIfInBounds_toArray, List.set_cons_zero, List.set_cons_succ])
              refine wpAnyH_done (by kernel_rfl) ?_ _
              go_wp2_with fail
              go_meet
              exact ⟨_, HM9, HK9, HR9⟩
          case rest =>
            obtain ⟨v9, HM7, HK7, HR7⟩ := hcut
            clear HMA HOA HGA HNG HRA HKA HNP HNR HNM HM6 HK6 HR6 HG6 q0 y0 y1 p0 m0 mf z0 z1 z2 z3 z4
            have q0 := row_cell HR7.out 0 rfl
            simp only [List.getElem_toArray, List.getElem_cons_zero] at q0
            go_wp2_with fail
            refine (mod_twice _ p mb _ _ v9 (ts ++ [(s1, s2)]) ts.length (by simp) HM7.out.rl rfl (HM7.out.sigs (by have := HL.out; simp; omega)) q').mono ?_
            rintro e w8 (⟨h1, rfl, hb8⟩ | ⟨h1, rfl, hb8⟩)
            rotate_left
            · exact ⟨rfl, .inr ⟨_, _, rhd_2 HN.out (HP.out.bad (by rw [HL.out]; exact hlt) (by rw [rsig_at, S1.out]; simp only; rw [S2.out]; simp only; rw [tw_yes5 rfl h1]; rfl)), rfl, HK7.out.trans (Kp.on hb8)⟩⟩
            have HM8 := Lib.hid (HM7.out.on hb8)
            have HK8 : Hid (Kp B p mb w w8) := Lib.hid (HK7.out.trans (Kp.on hb8))
            have HR8 := Lib.hid ((hb8.block _ (row_lt HR7.out)).trans HR7.out)
            have HP8 : Hid (RepAt rsig n b q (ts ++ [(s1, s2)]) q2) := Lib.hid (HP.out.good (by rw [HL.out]; exact hlt) (by rw [rsig_at, S1.out]; simp only; rw [S2.out]; simp only; rw [tw_no5 rfl h1]; rfl))
            have HL8 : Hid ((ts ++ [(s1, s2)]).length = k + 1) := Lib.hid (by rw [List.length_append, HL.out]; rfl)
            clear HM7 HK7 HR7 HP HL S1 S2 h1 hb8 q0
            go_wp2_with fail
            go_roundw
            case rel => exact ⟨k + 1, q2, v9, _, by omega, by go_num, HM8, HK8, HR8, HP8, HL8⟩
            case measure => simp [intOf]; omega
      · obtain rfl : k = n := by omega
        obtain ⟨q1, hq1⟩ : ∃ x, q' = x := ⟨_, rfl⟩
        rw [hq1] at HM HP p3
        clear hq1 q'
        have HTS : Hid (rmany 64 rsig b at_ = .ok (ts, q1)) := Lib.hid (many_good HN.out (HP.out.done HL.out))
        have hTL : ts.length ≤ 64 := by rw [HL.out]; exact hn
        clear HN HP HL hk hn hlt p3
        have HU1 := Lib.hid (fun wx (hx : Rm S wx p mb bv b al q1) f (hf : Up wx f 32 20 p) => rm_upTo hx HB.out HSP.out 32 32 rfl 20 (by decide) (by omega) f hf)
        go_wp2_with fail
        go_cut [50, 51] (fun c11 c12 wx => c12 = .int .i64 0 ∧ ∃ n q, c11 = .int .i64 (n : Nat) ∧ Hid (rnum 32 20 b q1 = .ok (n, q)) ∧ Hid (Md S B wx p mb bv b al q { mqZ with tv := tv, ts := ts } []) ∧ Hid (Kp B p mb w wx) ∧ Hid (wx.heap[rb]? = some (.cells #[.pointer (some ⟨p, 0, none⟩)] 66 (0, 0))))
        case first =>
          as_aux_lemma =>
            go_region_law (first
              | (go_simp; go_at_call 45; (with_reducible refine (mod_upTo _ 32 20).mono ?_); rintro e w2 ⟨f, rfl, hb2, hup⟩; have q0 := cell_below hb2 q0; have HM2 := Lib.hid (HM.out.on (below_next (drew_bel wr) hb2)); have HK2 := Lib.hid (HK.out.trans (Kp.on (below_next (drew_bel wr) hb2))); have HR2 := Lib.hid (((below_next (drew_bel wr) hb2).block _ (row_lt HR.out)).trans HR.out))
              | (go_simp; go_at_call 44; (with_reducible refine (HU1.out _ HM2.out.rm f (hup p)).mono ?_); rintro e w3 (⟨n, q, h1, rfl, h2, h3⟩ | ⟨z, k, h1, rfl, h3⟩); rotate_left 1; exact ⟨rfl, .inr ⟨_, _, bind_bad2 HTS.out (bind_bad1 (many_bad1 h1)), rfl, HK2.out.trans (Kp.read h3)⟩⟩))
            all_goals
              have HM3 := Lib.hid (HM2.out.read h2 h3)
              have HK3 : Hid (Kp B p mb w w3) := Lib.hid (HK2.out.trans (Kp.read h3))
              have HR3 := Lib.hid ((h3.block _ (row_lt HR2.out) (row_ne HR2.out HM2.out.rm.row (by decide))).trans HR2.out)
              have H1 := Lib.hid h1
              clear h1 h2 h3
              go_wp2_with fail
              go_meet
              exact ⟨rfl, n, q, rfl, H1, HM3, HK3, HR3⟩
        case rest =>
          clear HM HK HR HU1 q0
          obtain ⟨rfl, n, q, rfl, HN, HM, HK, HR⟩ := hcut
          have q0 := row_cell HR.out 0 rfl
          have hn := (rnum_le5 HN.out).1
          simp only [List.getElem_toArray, List.getElem_cons_zero] at q0
          obtain ⟨a', c', hvt, _⟩ := own_slice (HM.out.fam.own (tyE tv ts) (by simp [Mq.ents]))
          have hvt : tv = .slice a' ts.length c' := hvt
          have HVT := Lib.hid hvt
          clear hvt
          go_wp2_with fail
          go_loopw [51] (fun i wr => ∃ (k : Nat) (q' : Nat) (hv : Value) (hs : List Int), k ≤ n ∧ i = .int .i64 k ∧ Hid (Md S B wr p mb bv b al q' { mqZ with tv := tv, ts := ts, hv := hv, hs := hs } []) ∧ Hid (Kp B p mb w wr) ∧ Hid (wr.heap[rb]? = some (.cells #[.pointer (some ⟨p, 0, none⟩)] 66 (0, 0))) ∧ Hid (RepAt (fun _ => ridx ts.length) n b q hs q') ∧ Hid (hs.length = k)) (fun i _ => n - (intOf i).toNat)
          case atStart => exact ⟨0, q, nilV, [], by omega, rfl, HM, HK, HR, Lib.hid (RepAt.zero _ _ _ _), rfl⟩
          case round =>
            clear HM HK HR q0
            obtain ⟨k, q', hv, hs, hk, rfl, HM, HK, HR, HP, HL⟩ := hrel
            have q0 := row_cell HR.out 0 rfl
            obtain ⟨p0, _, _, _⟩ := HM.out.pc
            have m0 : wr.cell? ⟨mb, 0, none⟩ = some (.slice a' ts.length c') := by rw [← HVT.out]; exact (HM.out.mc (i := 0) rfl).1
            simp only [List.getElem_toArray, List.getElem_cons_zero] at q0
            by_cases hlt : k < n
            · skip
              as_aux_lemma =>
                go_wp2_with fail
                obtain ⟨a2, c2, hvh, _⟩ := own_slice (HM.out.fam.own (hoE hv hs) (by simp [Mq.ents]))
                have hvh : hv = .slice a2 hs.length c2 := hvh
                subst hvh
                have m1 : wr.cell? ⟨mb, 1, none⟩ = some (.slice a2 hs.length c2) := (HM.out.mc (i := 1) rfl).1
                have hln : hs.length ≤ 32 := by have := HL.out; omega
                have hbw := drew_bel wr
                have HMD := Lib.hid (HM.out.on hbw)
                have n1 : rb ≠ mb := row_ne HR.out HM.out.mrow (by decide)
                have n2 : p ≠ mb := HM.out.ne
                have HX := Lib.hid (fun (w' : World) (q2 : Nat) (h2 : Rm S w' p mb bv b al q2) (h3 : Keeps (fun b => b ≠ p) wr.drew w') => (show Md S B w' p mb bv b al q2 { mqZ with tv := tv, ts := ts, hv := .slice a2 hs.length c2, hs := hs } [] ∧ Kp B p mb w w' ∧ w'.heap[rb]? = some (.cells #[.pointer (some ⟨p, 0, none⟩)] 66 (0, 0)) from
                  ⟨HMD.out.read h2 h3, HK.out.trans ((Kp.on hbw).trans (Kp.read h3)), (h3.block _ (row_lt ((hbw.block _ (row_lt HR.out)).trans HR.out)) (row_ne HR.out HM.out.rm.row (by decide))).trans ((hbw.block _ (row_lt HR.out)).trans HR.out)⟩))
                refine wp_region_held_drew (S := (fun wx => wx.cell? ⟨rb, 0, none⟩ = some (.pointer (some ⟨p, 0, none⟩)) ∧ wx.cell? ⟨p, 0, none⟩ = some (.pointer (some ⟨mb, 0, none⟩)) ∧ wx.cell? ⟨mb, 0, none⟩ = some (.slice a' ts.length c'))) (by kernel_rfl) ⟨q0, p0, m0⟩ (fun hHeld => ?_)
                refine takeAt (i := 0) (d := 53) (v := ?_) rfl (by kernel_rfl) (by kernel_rfl) (by kernel_rfl) (by kernel_rfl) (fun _ _ _ h => h) (Or.inl ⟨by kernel_rfl, ?_⟩) (by assumption) ?_
                rotate_left
                · (intro w hSw; (try dsimp only at hSw); go_simp; all_goals (with_reducible rfl))
                (try simp only [Act.put, List.setIfInBounds_toArray, List.set_cons_zero, List.set_cons_succ])
                refine takeAt (i := 1) (d := 54) (v := ?_) rfl (by kernel_rfl) (by kernel_rfl) (by kernel_rfl) (by kernel_rfl) (fun _ _ _ h => h) (Or.inl ⟨by kernel_rfl, ?_⟩) (by assumption) ?_
                rotate_left
                · (intro w hSw; (try dsimp only at hSw); go_simp; all_goals (with_reducible rfl))
                (try simp only [Act.put, List.setIfInBounds_toArray, List.set_cons_zero, List.set_cons_succ])
                refine takeAt (i := 2) (d := 55) (v := ?_) rfl (by kernel_rfl) (by kernel_rfl) (by kernel_rfl) (by kernel_rfl) (fun _ _ _ h => h) (Or.inl ⟨by kernel_rfl, ?_⟩) (by assumption) ?_
                rotate_left
                · (intro w hSw; (try dsimp only at hSw); go_simp; all_goals (with_reducible rfl))
                (try simp only [Act.put, List.setIfInBounds_toArray, List.set_cons_zero, List.set_cons_succ])
                refine takeAt (i := 3) (d := 56) (v := ?_) rfl (by kernel_rfl) (by kernel_rfl) (by kernel_rfl) (by kernel_rfl) (fun _ _ _ h => h) (Or.inl ⟨by kernel_rfl, ?_⟩) (by assumption) ?_
                rotate_left
                · (intro w hSw; (try dsimp only at hSw); go_simp; all_goals (with_reducible rfl))
                (try simp only [Act.put, List.setIfInBounds_toArray, List.set_cons_zero, List.set_cons_succ])
                refine takeAt (i := 4) (d := 57) (v := ?_) rfl (by kernel_rfl) (by kernel_rfl) (by kernel_rfl) (by kernel_rfl) (fun _ _ _ h => h) (Or.inl ⟨by kernel_rfl, ?_⟩) (by assumption) ?_
                rotate_left
                · (intro w hSw; (try dsimp only at hSw); go_simp; all_goals (with_reducible rfl))
                (try simp only [Act.put, List.setIfInBounds_toArray, List.set_cons_zero, List.set_cons_succ])
                refine takeAt (i := 5) (d := 58) (v := ?_) rfl (by kernel_rfl) (by kernel_rfl) (by kernel_rfl) (by kernel_rfl) (fun _ _ _ h => h) (Or.inl ⟨by kernel_rfl, ?_⟩) (by assumption) ?_
                rotate_left
                · (intro w hSw; (try dsimp only at hSw); go_simp; all_goals (with_reducible rfl))
                (try simp only [Act.put, List.setIfInBounds_toArray, List.set_cons_zero, List.set_cons_succ])
                refine takeAt (i := 6) (d := 59) (v := ?_) rfl (by kernel_rfl) (by kernel_rfl) (by kernel_rfl) (by kernel_rfl) (fun _ _ _ h => h) (Or.inl ⟨by kernel_rfl, ?_⟩) (by assumption) ?_
                rotate_left
                · (intro w hSw; (try dsimp only at hSw); go_simp; all_goals (with_reducible rfl))
                (try simp only [Act.put, List.setIfInBounds_toArray, List.set_cons_zero, List.set_cons_succ])
                refine takeAt (i := 7) (d := 60) (v := ?_) rfl (by kernel_rfl) (by kernel_rfl) (by kernel_rfl) (by kernel_rfl) (fun _ _ _ h => h) (Or.inl ⟨by kernel_rfl, ?_⟩) (by assumption) ?_
                rotate_left
                · (intro w hSw; (try dsimp only at hSw); go_simp; all_goals (with_reducible rfl))
                (try simp only [Act.put, List.setIfInBounds_toArray, List.set_cons_zero, List.set_cons_succ])
                refine takeAt (i := 8) (d := 61) (v := ?_) rfl (by kernel_rfl) (by kernel_rfl) (by kernel_rfl) (by kernel_rfl) (fun _ _ _ h => h) (Or.inl ⟨by kernel_rfl, ?_⟩) (by assumption) ?_
                rotate_left
                · (intro w hSw; (try dsimp only at hSw); go_simp; all_goals (with_reducible rfl))
                (try simp only [Act.put, List.setIfInBounds_toArray, List.set_cons_zero, List.set_cons_succ])
                refine takeAt (i := 9) (d := 62) (v := ?_) rfl (by kernel_rfl) (by kernel_rfl) (by kernel_rfl) (by kernel_rfl) (fun _ _ _ h => h) (Or.inl ⟨by kernel_rfl, ?_⟩) (by assumption) ?_
                rotate_left
                · (intro w hSw; (try dsimp only at hSw); go_simp; all_goals (with_reducible rfl))
                (try simp only [Act.put, List.setIfInBounds_toArray, List.set_cons_zero, List.set_cons_succ])
                refine takeAt (i := 10) (d := 63) (v := ?_) rfl (by kernel_rfl) (by kernel_rfl) (by kernel_rfl) (by kernel_rfl) (fun _ _ _ h => h) (Or.inl ⟨by kernel_rfl, ?_⟩) (by assumption) ?_
                rotate_left
                · (intro w hSw; (try dsimp only at hSw); go_simp; all_goals (with_reducible rfl))
                (try simp only [Act.put, List.setIfInBounds_toArray, List.set_cons_zero, List.set_cons_succ])
                refine takeAt (i := 11) (d := 64) (v := ?_) rfl (by kernel_rfl) (by kernel_rfl) (by kernel_rfl) (by kernel_rfl) (fun _ _ _ h => h) (Or.inl ⟨by kernel_rfl, ?_⟩) (by assumption) ?_
                rotate_left
                · (intro w hSw; (try dsimp only at hSw); go_simp; all_goals (with_reducible rfl))
                (try simp only [Act.put, List.setIfInBounds_toArray, List.set_cons_zero, List.set_cons_succ])
                refine takeAt (i := 13) (d := 66) (v := ?_) rfl (by kernel_rfl) (by kernel_rfl) (by kernel_rfl) (by kernel_rfl) (fun _ _ _ h => h) (Or.inl ⟨by kernel_rfl, ?_⟩) (by assumption) ?_
                rotate_left
                · (intro w hSw; (try dsimp only at hSw); go_simp; all_goals (with_reducible rfl))
                (try simp only [Act.put, List.setIfInBounds_toArray, List.set_cons_zero, List.set_cons_succ])
                refine takeAt (i := 14) (d := 67) (v := ?_) rfl (by kernel_rfl) (by kernel_rfl) (by kernel_rfl) (by kernel_rfl) (fun _ _ _ h => h) (Or.inl ⟨by kernel_rfl, ?_⟩) (by assumption) ?_
                rotate_left
                · (intro w hSw; (try dsimp only at hSw); go_simp; all_goals (with_reducible rfl))
                (try simp only [Act.put, List.setIfInBounds_toArray, List.set_cons_zero, List.set_cons_succ])
                refine takeAt (i := 15) (d := 68) (v := ?_) rfl (by kernel_rfl) (by kernel_rfl) (by kernel_rfl) (by kernel_rfl) (fun _ _ _ h => h) (Or.inl ⟨by kernel_rfl, ?_⟩) (by assumption) ?_
                rotate_left
                · (intro w hSw; (try dsimp only at hSw); go_simp; all_goals (with_reducible rfl))
                (try simp only [Act.put, List.setIfInBounds_toArray, List.set_cons_zero, List.set_cons_succ])
                refine takeAt (i := 16) (d := 69) (v := ?_) rfl (by kernel_rfl) (by kernel_rfl) (by kernel_rfl) (by kernel_rfl) (fun _ _ _ h => h) (Or.inl ⟨by kernel_rfl, ?_⟩) (by assumption) ?_
                rotate_left
                · (intro w hSw; (try dsimp only at hSw); go_simp; all_goals (with_reducible rfl))
                (try simp only [Act.put, List.setIfInBounds_toArray, List.set_cons_zero, List.set_cons_succ])
                refine takeAt (i := 17) (d := 70) (v := ?_) rfl (by kernel_rfl) (by kernel_rfl) (by kernel_rfl) (by kernel_rfl) (fun _ _ _ h => h) (Or.inl ⟨by kernel_rfl, ?_⟩) (by assumption) ?_
                rotate_left
                · (intro w hSw; (try dsimp only at hSw); go_simp; all_goals (with_reducible rfl))
                (try simp only [Act.put, List.setIfInBounds_toArray, List.set_cons_zero, List.set_cons_succ])
                refine takeAt (i := 18) (d := 71) (v := ?_) rfl (by kernel_rfl) (by kernel_rfl) (by kernel_rfl) (by kernel_rfl) (fun _ _ _ h => h) (Or.inl ⟨by kernel_rfl, ?_⟩) (by assumption) ?_
                rotate_left
                · (intro w hSw; (try dsimp only at hSw); go_simp; all_goals (with_reducible rfl))
                (try simp only [Act.put, List.setIfInBounds_toArray, List.set_cons_zero, List.set_cons_succ])
                refine takeAt (i := 19) (d := 72) (v := ?_) rfl (by kernel_rfl) (by kernel_rfl) (by kernel_rfl) (by kernel_rfl) (fun _ _ _ h => h) (Or.inl ⟨by kernel_rfl, ?_⟩) (by assumption) ?_
                rotate_left
                · (intro w hSw; (try dsimp only at hSw); go_simp; all_goals (with_reducible rfl))
                (try simp only [Act.put, List.setIfInBounds_toArray, List.set_cons_zero, List.set_cons_succ])
                refine takeAt (i := 20) (d := 73) (v := ?_) rfl (by kernel_rfl) (by kernel_rfl) (by kernel_rfl) (by kernel_rfl) (fun _ _ _ h => h) (Or.inl ⟨by kernel_rfl, ?_⟩) (by assumption) ?_
                rotate_left
                · (intro w hSw; (try dsimp only at hSw); go_simp; all_goals (with_reducible rfl))
                (try simp only [Act.put, List.setIfInBounds_toArray, List.set_cons_zero, List.set_cons_succ])
                refine takeAt (i := 21) (d := 74) (v := ?_) rfl (by kernel_rfl) (by kernel_rfl) (by kernel_rfl) (by kernel_rfl) (fun _ _ _ h => h) (Or.inl ⟨by kernel_rfl, ?_⟩) (by assumption) ?_
                rotate_left
                · (intro w hSw; (try dsimp only at hSw); go_simp; all_goals (with_reducible rfl))
                (try simp only [Act.put, List.setIfInBounds_toArray, List.set_cons_zero, List.set_cons_succ])
                refine takeAt (i := 22) (d := 75) (v := ?_) rfl (by kernel_rfl) (by kernel_rfl) (by kernel_rfl) (by kernel_rfl) (fun _ _ _ h => h) (Or.inl ⟨by kernel_rfl, ?_⟩) (by assumption) ?_
                rotate_left
                · (intro w hSw; (try dsimp only at hSw); go_simp; all_goals (with_reducible rfl))
                (try simp only [Act.put, List.setIfInBounds_toArray, List.set_cons_zero, List.set_cons_succ])
                refine wpAnyH_ready (rs := [12, 23]) (by kernel_rfl) (by simp) ?_
                refine AllReadyH.cons rfl (fun K hK => ?_) (AllReadyH.cons rfl (fun K hK => ?_) AllReadyH.nil)
                · go_simp
                  refine hK.out _ _ hHeld (fun hHeld => ?_)
                  clear hK K
                  (try refine stateAt (d := 65) (by kernel_rfl) ?_)
                  (try simp only [Act.put, List.setIfInBounds_toArray, List.set_cons_zero, List.set_cons_succ])
                  refine wpAnyH_ready (rs := [23]) (by kernel_rfl) (by simp) ?_
                  refine AllReadyH.cons rfl (fun K hK => ?_) AllReadyH.nil
                  clear hHeld
                  go_simp
                  refine (rm_index HMD.out.rm HB.out HSP.out ts.length (by omega)).mono ?_
                  rintro e w5 (⟨x9, q2, h1, rfl, h2, h3⟩ | ⟨z, kk, h1, rfl, h3⟩)
                  rotate_left
                  · exact ⟨rfl, .inr ⟨_, _, bind_bad2 HTS.out (bind_bad1 (many_bad2 HN.out (HP.out.bad (by rw [HL.out]; exact hlt) h1))), rfl, HK.out.trans ((Kp.on hbw).trans (Kp.read h3))⟩⟩
                  have S1 := Lib.hid h1
                  have HX5 := Lib.hid (HX.out w5 q2 h2 h3)
                  clear h1 h2 h3
                  have r5 := row_cell HX5.out.2.2 0 rfl
                  have p5 := HX5.out.1.pc.1
                  have m5 : w5.cell? ⟨mb, 0, none⟩ = some (.slice a' ts.length c') := by rw [← HVT.out]; exact (HX5.out.1.mc (i := 0) rfl).1
                  have m51 : w5.cell? ⟨mb, 1, none⟩ = some (.slice a2 hs.length c2) := (HX5.out.1.mc (i := 1) rfl).1
                  simp only [List.getElem_toArray, List.getElem_cons_zero] at r5
                  have hb6 := below_alloc w5 (.cells #[.int .i64 x9] 3)
                  have z0 := cell_below hb6 r5; have z1 := cell_below hb6 p5; have z2 := cell_below hb6 m5; have z3 := cell_below hb6 m51
                  have HMA := Lib.hid (HX5.out.1.on hb6)
                  have HKA := Lib.hid (HX5.out.2.1.trans (Kp.on (B := B) (p := p) (mb := mb) hb6))
                  have HRA := Lib.hid ((hb6.block _ (row_lt HX5.out.2.2)).trans HX5.out.2.2)
                  have HOA : Hid ((w5.alloc (.cells #[.int .i64 x9] 3)).ownsRow B 3 1 (.slice a2 hs.length c2) hs.length (hs.map (Value.int .i64))) := Lib.hid (HMA.out.fam.own (hoE (.slice a2 hs.length c2) hs) (by simp [Mq.ents]))
                  have hB5 := HX5.out.1.hi
                  have HNM : Hid ((Value.slice a2 hs.length c2).ownBlock ≠ some mb) := Lib.hid (fun e => by have := (World.ownsRow.lt HOA.out mb e).1; have := HMA.out.lo; omega)
                  have HNP : Hid ((Value.slice a2 hs.length c2).ownBlock ≠ some p) := Lib.hid (fun e => by have := (World.ownsRow.lt HOA.out p e).1; have := HMA.out.lo; omega)
                  have HNR : Hid ((Value.slice a2 hs.length c2).ownBlock ≠ some rb) := Lib.hid (own_ne HOA.out HRA.out (by decide))
                  clear hb6
                  go_wp2_with fail
                  refine hK.out _ _ ⟨r5, p5, m5⟩ (fun hHeld => ?_)
                  clear hK K
                  (try refine stateAt (d := 76) (by kernel_rfl) ?_)
                  (try simp only [Act.put, List.setIfInBounds_toArray, List.set_cons_zero, List.set_cons_succ])
                  refine wpAnyH_ready (rs := [24]) (by kernel_rfl) (by simp) ?_
                  refine AllReadyH.cons rfl (fun K hK => ?_) AllReadyH.nil
                  go_simp
                  refine hK.out _ _ ⟨z0, z1, z2⟩ (fun hHeld => ?_)
                  clear hK K
                  (try refine stateAt (d := 77) (by kernel_rfl) ?_)
                  (try simp only [Act.put, List.setIfInBounds_toArray, List.set_cons_zero, List.set_cons_succ])
                  refine wpAnyH_ready (rs := [25]) (by kernel_rfl) (by simp) ?_
                  refine AllReadyH.cons rfl (fun K hK => ?_) AllReadyH.nil
                  clear hHeld
                  refine step_append_lies _ (by rfl) _ _ 23 (by rfl) B 3 i1 _ 1 8 Tryd.underlying23 hj hy0 hy1 hy2 rfl (by omega) (.slice a2 hs.length c2) hs.length (hs.map (Value.int .i64)) (by rfl) HOA.out ⟨w5.heap.size, 0, none⟩ 1 1 [.int .i64 x9] (by rfl) (by rfl) (news1 w5 _ _) (by simp [Value.oneCell']) (by omega) (by unfold maxLen; omega) (by omega) (by rw [World.size_alloc]; omega) (w5.heap.size + 1) (by rw [World.size_alloc]) ?_
                  intro g9 cap9 w9 hown9 hgrow9 hat9 hlt9
                  have hm9 := grown_block hgrow9 HMA.out.mrow HNM.out
                  have c9 := row_cell hm9 1 rfl
                  have f9 := row_free hm9 1
                  have mm9 : w9.cell? ⟨mb, 0, none⟩ = some (.slice a' ts.length c') := by rw [← HVT.out]; exact row_cell hm9 0 rfl
                  have hp9 := grown_block hgrow9 HMA.out.rm.row HNP.out
                  have hr9 := grown_block hgrow9 HRA.out HNR.out
                  have d9 := row_cell hp9 0 rfl
                  have e9 := row_cell hr9 0 rfl
                  refine hK.out _ _ ⟨e9, d9, mm9⟩ (fun hHeld => ?_)
                  clear hK K
                  (try refine stateAt (d := 78) (by kernel_rfl) ?_)
                  (try simp only [Act.put, List.setIfInBounds_toArray, List.set_cons_zero, List.set_cons_succ])
                  refine takeAt (i := 26) (d := 79) (v := ?_) rfl (by kernel_rfl) (by kernel_rfl) (by kernel_rfl) (by kernel_rfl) (fun _ _ _ h => h) (Or.inl ⟨by kernel_rfl, ?_⟩) (by assumption) ?_
                  rotate_left
                  · (intro w hSw; (try dsimp only at hSw); go_simp; all_goals (with_reducible rfl))
                  (try simp only [Act.put, List.setIfInBounds_toArray, List.set_cons_zero, List.set_cons_succ])
                  refine takeAt (i := 27) (d := 80) (v := ?_) rfl (by kernel_rfl) (by kernel_rfl) (by kernel_rfl) (by kernel_rfl) (fun _ _ _ h => h) (Or.inl ⟨by kernel_rfl, ?_⟩) (by assumption) ?_
                  rotate_left
                  · (intro w hSw; (try dsimp only at hSw); go_simp; all_goals (with_reducible rfl))
                  (try simp only [Act.put, List.setIfInBounds_toArray, List.set_cons_zero, List.set_cons_succ])
                  refine wpAnyH_ready (rs := [28]) (by kernel_rfl) (by simp) ?_
                  refine AllReadyH.cons rfl (fun K hK => ?_) AllReadyH.nil
                  have n9 := (Keeps.refl (fun b => b ≠ mb) w9).setCell (a := ⟨mb, 1, none⟩) (by simp) (.slice (some ⟨g9, 0, none⟩) (hs.length + 1) cap9)
                  have hpc := row_cell ((n9.block _ (row_lt hp9) n2).trans hp9) 0 rfl
                  have hrx := (n9.block _ (row_lt hr9) n1).trans hr9
                  have hrc := row_cell hrx 0 rfl
                  have hmx := row_cell (row_setCell hm9 1 (.slice (some ⟨g9, 0, none⟩) (hs.length + 1) cap9)) 0 rfl
                  have hmx : (w9.setCell ⟨mb, 1, none⟩ (.slice (some ⟨g9, 0, none⟩) (hs.length + 1) cap9)).cell? ⟨mb, 0, none⟩ = some (.slice a' ts.length c') := by rw [← HVT.out]; exact hmx
                  have PP := HMA.out.grow (e := hoE (.slice a2 hs.length c2) hs) (e' := hoE (.slice (some ⟨g9, 0, none⟩) (hs.length + 1) cap9) (hs ++ [x9])) (i := 1) (x' := { mqZ with tv := tv, ts := ts, hv := .slice (some ⟨g9, 0, none⟩) (hs.length + 1) cap9, hs := hs ++ [x9] }) (X' := []) (List.Perm.swap _ _ _) (List.Perm.swap _ _ _) rfl rfl hgrow9 (by simpa [hoE] using hown9) (at_of5 hat9 (by rw [World.size_alloc]; exact Nat.le_refl _))
                  have HM9 := Lib.hid PP.1
                  have HK9 := Lib.hid (HKA.out.trans PP.2)
                  have HR9 := Lib.hid hrx
                  go_simp
                  refine hK.out _ _ ⟨hrc, hpc, hmx⟩ (fun hHeld => ?_)
                  clear hK K
                  (try simp only [Act.put, List.setIfInBounds_toArray, List.set_cons_zero, List.set_cons_succ])
                  refine wpAnyH_done (by kernel_rfl) ?_ _
                  have HP8 : Hid (RepAt (fun _ => ridx ts.length) n b q (hs ++ [x9]) q2) := Lib.hid (HP.out.good (by rw [HL.out]; exact hlt) S1.out)
                  have HL8 : Hid ((hs ++ [x9]).length = k + 1) := Lib.hid (by rw [List.length_append, HL.out]; rfl)
                  clear HP HL S1 PP HMA HKA HRA HOA HX5 HX HMD HM HK HR
                  go_wp2_with fail
                  go_roundw
                  case rel => exact ⟨k + 1, q2, _, _, by omega, by go_num, HM9, HK9, HR9, HP8, HL8⟩
                  case measure => simp [intOf]; omega
                · clear hHeld
                  go_simp
                  refine (rm_index HMD.out.rm HB.out HSP.out ts.length (by omega)).mono ?_
                  rintro e w5 (⟨x9, q2, h1, rfl, h2, h3⟩ | ⟨z, kk, h1, rfl, h3⟩)
                  rotate_left
                  · exact ⟨rfl, .inr ⟨_, _, bind_bad2 HTS.out (bind_bad1 (many_bad2 HN.out (HP.out.bad (by rw [HL.out]; exact hlt) h1))), rfl, HK.out.trans ((Kp.on hbw).trans (Kp.read h3))⟩⟩
                  have S1 := Lib.hid h1
                  have HX5 := Lib.hid (HX.out w5 q2 h2 h3)
                  clear h1 h2 h3
                  have r5 := row_cell HX5.out.2.2 0 rfl
                  have p5 := HX5.out.1.pc.1
                  have m5 : w5.cell? ⟨mb, 0, none⟩ = some (.slice a' ts.length c') := by rw [← HVT.out]; exact (HX5.out.1.mc (i := 0) rfl).1
                  have m51 : w5.cell? ⟨mb, 1, none⟩ = some (.slice a2 hs.length c2) := (HX5.out.1.mc (i := 1) rfl).1
                  simp only [List.getElem_toArray, List.getElem_cons_zero] at r5
                  have hb6 := below_alloc w5 (.cells #[.int .i64 x9] 3)
                  have z0 := cell_below hb6 r5; have z1 := cell_below hb6 p5; have z2 := cell_below hb6 m5; have z3 := cell_below hb6 m51
                  have HMA := Lib.hid (HX5.out.1.on hb6)
                  have HKA := Lib.hid (HX5.out.2.1.trans (Kp.on (B := B) (p := p) (mb := mb) hb6))
                  have HRA := Lib.hid ((hb6.block _ (row_lt HX5.out.2.2)).trans HX5.out.2.2)
                  have HOA : Hid ((w5.alloc (.cells #[.int .i64 x9] 3)).ownsRow B 3 1 (.slice a2 hs.length c2) hs.length (hs.map (Value.int .i64))) := Lib.hid (HMA.out.fam.own (hoE (.slice a2 hs.length c2) hs) (by simp [Mq.ents]))
                  have hB5 := HX5.out.1.hi
                  have HNM : Hid ((Value.slice a2 hs.length c2).ownBlock ≠ some mb) := Lib.hid (fun e => by have := (World.ownsRow.lt HOA.out mb e).1; have := HMA.out.lo; omega)
                  have HNP : Hid ((Value.slice a2 hs.length c2).ownBlock ≠ some p) := Lib.hid (fun e => by have := (World.ownsRow.lt HOA.out p e).1; have := HMA.out.lo; omega)
                  have HNR : Hid ((Value.slice a2 hs.length c2).ownBlock ≠ some rb) := Lib.hid (own_ne HOA.out HRA.out (by decide))
                  clear hb6
                  go_wp2_with fail
                  refine hK.out _ _ ⟨r5, p5, m5⟩ (fun hHeld => ?_)
                  clear hK K
                  (try refine stateAt (d := 76) (by kernel_rfl) ?_)
                  (try simp only [Act.put, List.setIfInBounds_toArray, List.set_cons_zero, List.set_cons_succ])
                  refine wpAnyH_ready (rs := [12, 24]) (by kernel_rfl) (by simp) ?_
                  refine AllReadyH.cons rfl (fun K hK => ?_) (AllReadyH.cons rfl (fun K hK => ?_) AllReadyH.nil)
                  · go_simp
                    refine hK.out _ _ ⟨r5, p5, m5⟩ (fun hHeld => ?_)
                    clear hK K
                    (try refine stateAt (d := 65) (by kernel_rfl) ?_)
                    (try simp only [Act.put, List.setIfInBounds_toArray, List.set_cons_zero, List.set_cons_succ])
                    refine wpAnyH_ready (rs := [24]) (by kernel_rfl) (by simp) ?_
                    refine AllReadyH.cons rfl (fun K hK => ?_) AllReadyH.nil
                    go_simp
                    refine hK.out _ _ ⟨z0, z1, z2⟩ (fun hHeld => ?_)
                    clear hK K
                    (try refine stateAt (d := 77) (by kernel_rfl) ?_)
                    (try simp only [Act.put, List.setIfInBounds_toArray, List.set_cons_zero, List.set_cons_succ])
                    refine wpAnyH_ready (rs := [25]) (by kernel_rfl) (by simp) ?_
                    refine AllReadyH.cons rfl (fun K hK => ?_) AllReadyH.nil
                    clear hHeld
                    refine step_append_lies _ (by rfl) _ _ 23 (by rfl) B 3 i1 _ 1 8 Tryd.underlying23 hj hy0 hy1 hy2 rfl (by omega) (.slice a2 hs.length c2) hs.length (hs.map (Value.int .i64)) (by rfl) HOA.out ⟨w5.heap.size, 0, none⟩ 1 1 [.int .i64 x9] (by rfl) (by rfl) (news1 w5 _ _) (by simp [Value.oneCell']) (by omega) (by unfold maxLen; omega) (by omega) (by rw [World.size_alloc]; omega) (w5.heap.size + 1) (by rw [World.size_alloc]) ?_
                    intro g9 cap9 w9 hown9 hgrow9 hat9 hlt9
                    have hm9 := grown_block hgrow9 HMA.out.mrow HNM.out
                    have c9 := row_cell hm9 1 rfl
                    have f9 := row_free hm9 1
                    have mm9 : w9.cell? ⟨mb, 0, none⟩ = some (.slice a' ts.length c') := by rw [← HVT.out]; exact row_cell hm9 0 rfl
                    have hp9 := grown_block hgrow9 HMA.out.rm.row HNP.out
                    have hr9 := grown_block hgrow9 HRA.out HNR.out
                    have d9 := row_cell hp9 0 rfl
                    have e9 := row_cell hr9 0 rfl
                    refine hK.out _ _ ⟨e9, d9, mm9⟩ (fun hHeld => ?_)
                    clear hK K
                    (try refine stateAt (d := 78) (by kernel_rfl) ?_)
                    (try simp only [Act.put, List.setIfInBounds_toArray, List.set_cons_zero, List.set_cons_succ])
                    refine takeAt (i := 26) (d := 79) (v := ?_) rfl (by kernel_rfl) (by kernel_rfl) (by kernel_rfl) (by kernel_rfl) (fun _ _ _ h => h) (Or.inl ⟨by kernel_rfl, ?_⟩) (by assumption) ?_
                    rotate_left
                    · (intro w hSw; (try dsimp only at hSw); go_simp; all_goals (with_reducible rfl))
                    (try simp only [Act.put, List.setIfInBounds_toArray, List.set_cons_zero, List.set_cons_succ])
                    refine takeAt (i := 27) (d := 80) (v := ?_) rfl (by kernel_rfl) (by kernel_rfl) (by kernel_rfl) (by kernel_rfl) (fun _ _ _ h => h) (Or.inl ⟨by kernel_rfl, ?_⟩) (by assumption) ?_
                    rotate_left
                    · (intro w hSw; (try dsimp only at hSw); go_simp; all_goals (with_reducible rfl))
                    (try simp only [Act.put, List.setIfInBounds_toArray, List.set_cons_zero, List.set_cons_succ])
                    refine wpAnyH_ready (rs := [28]) (by kernel_rfl) (by simp) ?_
                    refine AllReadyH.cons rfl (fun K hK => ?_) AllReadyH.nil
                    have n9 := (Keeps.refl (fun b => b ≠ mb) w9).setCell (a := ⟨mb, 1, none⟩) (by simp) (.slice (some ⟨g9, 0, none⟩) (hs.length + 1) cap9)
                    have hpc := row_cell ((n9.block _ (row_lt hp9) n2).trans hp9) 0 rfl
                    have hrx := (n9.block _ (row_lt hr9) n1).trans hr9
                    have hrc := row_cell hrx 0 rfl
                    have hmx := row_cell (row_setCell hm9 1 (.slice (some ⟨g9, 0, none⟩) (hs.length + 1) cap9)) 0 rfl
                    have hmx : (w9.setCell ⟨mb, 1, none⟩ (.slice (some ⟨g9, 0, none⟩) (hs.length + 1) cap9)).cell? ⟨mb, 0, none⟩ = some (.slice a' ts.length c') := by rw [← HVT.out]; exact hmx
                    have PP := HMA.out.grow (e := hoE (.slice a2 hs.length c2) hs) (e' := hoE (.slice (some ⟨g9, 0, none⟩) (hs.length + 1) cap9) (hs ++ [x9])) (i := 1) (x' := { mqZ with tv := tv, ts := ts, hv := .slice (some ⟨g9, 0, none⟩) (hs.length + 1) cap9, hs := hs ++ [x9] }) (X' := []) (List.Perm.swap _ _ _) (List.Perm.swap _ _ _) rfl rfl hgrow9 (by simpa [hoE] using hown9) (at_of5 hat9 (by rw [World.size_alloc]; exact Nat.le_refl _))
                    have HM9 := Lib.hid PP.1
                    have HK9 := Lib.hid (HKA.out.trans PP.2)
                    have HR9 := Lib.hid hrx
                    go_simp
                    refine hK.out _ _ ⟨hrc, hpc, hmx⟩ (fun hHeld => ?_)
                    clear hK K
                    (try simp only [Act.put, List.setIfInBounds_toArray, List.set_cons_zero, List.set_cons_succ])
                    refine wpAnyH_done (by kernel_rfl) ?_ _
                    have HP8 : Hid (RepAt (fun _ => ridx ts.length) n b q (hs ++ [x9]) q2) := Lib.hid (HP.out.good (by rw [HL.out]; exact hlt) S1.out)
                    have HL8 : Hid ((hs ++ [x9]).length = k + 1) := Lib.hid (by rw [List.length_append, HL.out]; rfl)
                    clear HP HL S1 PP HMA HKA HRA HOA HX5 HX HMD HM HK HR
                    go_wp2_with fail
                    go_roundw
                    case rel => exact ⟨k + 1, q2, _, _, by omega, by go_num, HM9, HK9, HR9, HP8, HL8⟩
                    case measure => simp [intOf]; omega
                  · go_simp
                    refine hK.out _ _ ⟨z0, z1, z2⟩ (fun hHeld => ?_)
                    clear hK K
                    (try refine stateAt (d := 77) (by kernel_rfl) ?_)
                    (try simp only [Act.put, List.setIfInBounds_toArray, List.set_cons_zero, List.set_cons_succ])
                    refine wpAnyH_ready (rs := [12]) (by kernel_rfl) (by simp) ?_
                    refine AllReadyH.cons rfl (fun K hK => ?_) AllReadyH.nil
                    go_simp
                    refine hK.out _ _ ⟨z0, z1, z2⟩ (fun hHeld => ?_)
                    clear hK K
                    (try refine stateAt (d := 65) (by kernel_rfl) ?_)
                    (try simp only [Act.put, List.setIfInBounds_toArray, List.set_cons_zero, List.set_cons_succ])
                    refine wpAnyH_ready (rs := [25]) (by kernel_rfl) (by simp) ?_
                    refine AllReadyH.cons rfl (fun K hK => ?_) AllReadyH.nil
                    clear hHeld
                    refine step_append_lies _ (by rfl) _ _ 23 (by rfl) B 3 i1 _ 1 8 Tryd.underlying23 hj hy0 hy1 hy2 rfl (by omega) (.slice a2 hs.length c2) hs.length (hs.map (Value.int .i64)) (by rfl) HOA.out ⟨w5.heap.size, 0, none⟩ 1 1 [.int .i64 x9] (by rfl) (by rfl) (news1 w5 _ _) (by simp [Value.oneCell']) (by omega) (by unfold maxLen; omega) (by omega) (by rw [World.size_alloc]; omega) (w5.heap.size + 1) (by rw [World.size_alloc]) ?_
                    intro g9 cap9 w9 hown9 hgrow9 hat9 hlt9
                    have hm9 := grown_block hgrow9 HMA.out.mrow HNM.out
                    have c9 := row_cell hm9 1 rfl
                    have f9 := row_free hm9 1
                    have mm9 : w9.cell? ⟨mb, 0, none⟩ = some (.slice a' ts.length c') := by rw [← HVT.out]; exact row_cell hm9 0 rfl
                    have hp9 := grown_block hgrow9 HMA.out.rm.row HNP.out
                    have hr9 := grown_block hgrow9 HRA.out HNR.out
                    have d9 := row_cell hp9 0 rfl
                    have e9 := row_cell hr9 0 rfl
                    refine hK.out _ _ ⟨e9, d9, mm9⟩ (fun hHeld => ?_)
                    clear hK K
                    (try refine stateAt (d := 78) (by kernel_rfl) ?_)
                    (try simp only [Act.put, List.setIfInBounds_toArray, List.set_cons_zero, List.set_cons_succ])
                    refine takeAt (i := 26) (d := 79) (v := ?_) rfl (by kernel_rfl) (by kernel_rfl) (by kernel_rfl) (by kernel_rfl) (fun _ _ _ h => h) (Or.inl ⟨by kernel_rfl, ?_⟩) (by assumption) ?_
                    rotate_left
                    · (intro w hSw; (try dsimp only at hSw); go_simp; all_goals (with_reducible rfl))
                    (try simp only [Act.put, List.setIfInBounds_toArray, List.set_cons_zero, List.set_cons_succ])
                    refine takeAt (i := 27) (d := 80) (v := ?_) rfl (by kernel_rfl) (by kernel_rfl) (by kernel_rfl) (by kernel_rfl) (fun _ _ _ h => h) (Or.inl ⟨by kernel_rfl, ?_⟩) (by assumption) ?_
                    rotate_left
                    · (intro w hSw; (try dsimp only at hSw); go_simp; all_goals (with_reducible rfl))
                    (try simp only [Act.put, List.setIfInBounds_toArray, List.set_cons_zero, List.set_cons_succ])
                    refine wpAnyH_ready (rs := [28]) (by kernel_rfl) (by simp) ?_
                    refine AllReadyH.cons rfl (fun K hK => ?_) AllReadyH.nil
                    have n9 := (Keeps.refl (fun b => b ≠ mb) w9).setCell (a := ⟨mb, 1, none⟩) (by simp) (.slice (some ⟨g9, 0, none⟩) (hs.length + 1) cap9)
                    have hpc := row_cell ((n9.block _ (row_lt hp9) n2).trans hp9) 0 rfl
                    have hrx := (n9.block _ (row_lt hr9) n1).trans hr9
                    have hrc := row_cell hrx 0 rfl
                    have hmx := row_cell (row_setCell hm9 1 (.slice (some ⟨g9, 0, none⟩) (hs.length + 1) cap9)) 0 rfl
                    have hmx : (w9.setCell ⟨mb, 1, none⟩ (.slice (some ⟨g9, 0, none⟩) (hs.length + 1) cap9)).cell? ⟨mb, 0, none⟩ = some (.slice a' ts.length c') := by rw [← HVT.out]; exact hmx
                    have PP := HMA.out.grow (e := hoE (.slice a2 hs.length c2) hs) (e' := hoE (.slice (some ⟨g9, 0, none⟩) (hs.length + 1) cap9) (hs ++ [x9])) (i := 1) (x' := { mqZ with tv := tv, ts := ts, hv := .slice (some ⟨g9, 0, none⟩) (hs.length + 1) cap9, hs := hs ++ [x9] }) (X' := []) (List.Perm.swap _ _ _) (List.Perm.swap _ _ _) rfl rfl hgrow9 (by simpa [hoE] using hown9) (at_of5 hat9 (by rw [World.size_alloc]; exact Nat.le_refl _))
                    have HM9 := Lib.hid PP.1
                    have HK9 := Lib.hid (HKA.out.trans PP.2)
                    have HR9 := Lib.hid hrx
                    go_simp
                    refine hK.out _ _ ⟨hrc, hpc, hmx⟩ (fun hHeld => ?_)
                    clear hK K
                    (try simp only [Act.put, List.setIfInBounds_toArray, List.set_cons_zero, List.set_cons_succ])
                    refine wpAnyH_done (by kernel_rfl) ?_ _
                    have HP8 : Hid (RepAt (fun _ => ridx ts.length) n b q (hs ++ [x9]) q2) := Lib.hid (HP.out.good (by rw [HL.out]; exact hlt) S1.out)
                    have HL8 : Hid ((hs ++ [x9]).length = k + 1) := Lib.hid (by rw [List.length_append, HL.out]; rfl)
                    clear HP HL S1 PP HMA HKA HRA HOA HX5 HX HMD HM HK HR
                    go_wp2_with fail
                    go_roundw
                    case rel => exact ⟨k + 1, q2, _, _, by omega, by go_num, HM9, HK9, HR9, HP8, HL8⟩
                    case measure => simp [intOf]; omega
            · obtain rfl : k = n := by omega
              have HHS : Hid (rmany 32 (fun _ => ridx ts.length) b q1 = .ok (hs, q')) := Lib.hid (many_good HN.out (HP.out.done HL.out))
              have hHL : hs.length ≤ 32 := by rw [HL.out]; exact hn
              clear HN HP HL hk hn hlt p0 m0 HVT
              have HU1 := Lib.hid (fun wx (hx : Rm S wx p mb bv b al q') f (hf : Up wx f 64 20 p) => rm_upTo hx HB.out HSP.out 64 64 rfl 20 (by decide) (by omega) f hf)
              go_wp2_with fail
              go_cut [84, 85] (fun c11 c12 wx => c12 = .int .i64 0 ∧ ∃ n q, c11 = .int .i64 (n : Nat) ∧ Hid (rnum 64 20 b q' = .ok (n, q)) ∧ Hid (Md S B wx p mb bv b al q { mqZ with tv := tv, ts := ts, hv := hv, hs := hs } []) ∧ Hid (Kp B p mb w wx) ∧ Hid (wx.heap[rb]? = some (.cells #[.pointer (some ⟨p, 0, none⟩)] 66 (0, 0))))
              case first =>
                as_aux_lemma =>
                  go_region_law (first
                    | (go_simp; go_at_call 45; (with_reducible refine (mod_upTo _ 64 20).mono ?_); rintro e w2 ⟨f, rfl, hb2, hup⟩; have q0 := cell_below hb2 q0; have HM2 := Lib.hid (HM.out.on (below_next (drew_bel wr) hb2)); have HK2 := Lib.hid (HK.out.trans (Kp.on (below_next (drew_bel wr) hb2))); have HR2 := Lib.hid (((below_next (drew_bel wr) hb2).block _ (row_lt HR.out)).trans HR.out))
                    | (go_simp; go_at_call 44; (with_reducible refine (HU1.out _ HM2.out.rm f (hup p)).mono ?_); rintro e w3 (⟨n, q, h1, rfl, h2, h3⟩ | ⟨z, k, h1, rfl, h3⟩); rotate_left 1; exact ⟨rfl, .inr ⟨_, _, bind_bad2 HTS.out (bind_bad2 HHS.out (bind_bad1 (many_bad1 h1))), rfl, HK2.out.trans (Kp.read h3)⟩⟩))
                  all_goals
                    have HM3 := Lib.hid (HM2.out.read h2 h3)
                    have HK3 : Hid (Kp B p mb w w3) := Lib.hid (HK2.out.trans (Kp.read h3))
                    have HR3 := Lib.hid ((h3.block _ (row_lt HR2.out) (row_ne HR2.out HM2.out.rm.row (by decide))).trans HR2.out)
                    have H1 := Lib.hid h1
                    clear h1 h2 h3
                    go_wp2_with fail
                    go_meet
                    exact ⟨rfl, n, q, rfl, H1, HM3, HK3, HR3⟩
              case rest =>
                clear HM HK HR HU1 q0
                obtain ⟨rfl, n, q, rfl, HN, HM, HK, HR⟩ := hcut
                have q0 := row_cell HR.out 0 rfl
                have hn := (rnum_le5 HN.out).1
                simp only [List.getElem_toArray, List.getElem_cons_zero] at q0
                go_wp2_with fail
                go_loopw [85] (fun i wr => ∃ (k : Nat) (q' : Nat) (gv : Value) (gs : List GlobD), k ≤ n ∧ i = .int .i64 k ∧ Hid (Md S B wr p mb bv b al q' { mqZ with tv := tv, ts := ts, hv := hv, hs := hs, gv := gv, gs := gs } []) ∧ Hid (Kp B p mb w wr) ∧ Hid (wr.heap[rb]? = some (.cells #[.pointer (some ⟨p, 0, none⟩)] 66 (0, 0))) ∧ Hid (RepAt (fun _ => rglob) n b q gs q') ∧ Hid (gs.length = k)) (fun i _ => n - (intOf i).toNat)
                case atStart => exact ⟨0, q, nilV, [], by omega, rfl, HM, HK, HR, Lib.hid (RepAt.zero _ _ _ _), rfl⟩
                case round =>
                  clear HM HK HR q0
                  obtain ⟨k, q0', gv, gs, hk, rfl, HM, HK, HR, HP, HL⟩ := hrel
                  have q0 := row_cell HR.out 0 rfl
                  simp only [List.getElem_toArray, List.getElem_cons_zero] at q0
                  by_cases hlt : k < n
                  · skip
                    as_aux_lemma =>
                      have HBAD := Lib.hid (fun (z : Int × Nat) (hz : rglob b q0' = .error z) => (show rhd b at_ = .error z from bind_bad2 HTS.out (bind_bad2 HHS.out (bind_bad1 (many_bad2 HN.out (HP.out.bad (by rw [HL.out]; exact hlt) hz))))))
                      go_wp2_with fail
                      refine (rm_octet HM.out.rm HB.out HSP.out hl).mono ?_
                      rintro e w3 (⟨c, q1, h1, rfl, h2, h3⟩ | ⟨z, kk, h1, rfl, h3⟩)
                      rotate_left
                      · exact ⟨rfl, .inr ⟨_, _, HBAD.out _ (rglob_1 h1), rfl, HK.out.trans (Kp.read h3)⟩⟩
                      obtain ⟨e1, hc256, hq1l⟩ := roct_ok5 HB.out h1
                      have HM3 := Lib.hid (HM.out.read h2 h3)
                      have HK3 : Hid (Kp B p mb w w3) := Lib.hid (HK.out.trans (Kp.read h3))
                      have HR3 := Lib.hid ((h3.block _ (row_lt HR.out) (row_ne HR.out HM.out.rm.row (by decide))).trans HR.out)
                      have S1 := Lib.hid h1
                      clear HM HK HR h1 h2 h3 q0
                      have hw1 : IntKind.i64.wrap ((q1 : Int) - 1) = q0' := by rw [IntWalk.i64_in _ ⟨by omega, by omega⟩]; omega
                      have hb4 := below_alloc w3 (.cells #[.int .u8 c, .bool false, .int .u64 0] 86)
                      have hr4 := heap_alloc_new w3 (.cells #[.int .u8 c, .bool false, .int .u64 0] 86)
                      have HM4 := Lib.hid (HM3.out.on hb4)
                      have HK4 : Hid (Kp B p mb w (w3.alloc (.cells #[.int .u8 c, .bool false, .int .u64 0] 86))) := Lib.hid (HK3.out.trans (Kp.on hb4))
                      have HR4 := Lib.hid ((hb4.block _ (row_lt HR3.out)).trans HR3.out)
                      have HG := Lib.hid (And.intro HM3.out.hi (HM3.out.fresh (Nat.le_refl w3.heap.size)))
                      have HG4 := Lib.hid hr4
                      have q0 := row_cell HR4.out 0 rfl
                      have y0 := row_cell hr4 0 rfl
                      obtain ⟨_, _, p3, _⟩ := HM4.out.pc
                      simp only [List.getElem_toArray, List.getElem_cons_zero] at q0 y0
                      have HQ1 := Lib.hid e1
                      clear hb4 hr4 HM3 HK3 HR3 e1
                      go_wp2_with fail
                      generalize w3.alloc (.cells #[.int .u8 c, .bool false, .int .u64 0] 86) = w4 at *
                      generalize w3.heap.size = g at *
                      go_still_tail 8, (by kernel_rfl)
                      still_call (types_Letter _ c)
                      repeat still_step
                      refine wpStill_nil ?_
                      cases hil : (c == 119 || c == 108) with
                      | false =>
                        go_wp2_with (go_at_call 20; refine (mod_ask _ _ _ _).mono ?_; rintro r w1 ⟨rfl, hw1'⟩; obtain rfl := hw1'.symm)
                        exact ⟨rfl, .inr ⟨_, _, HBAD.out _ (rglob_2 S1.out hil), rfl, HK4.out.trans (Kp.on (drew_bel _))⟩⟩
                      | true =>
                        have HIL : Hid (isLet c = true) := Lib.hid hil
                        have HM5 := Lib.hid (HM4.out.on (drew_bel w4))
                        have HK5 : Hid (Kp B p mb w w4.drew) := Lib.hid (HK4.out.trans (Kp.on (drew_bel w4)))
                        have HR5 := Lib.hid (((drew_bel w4).block _ (row_lt HR4.out)).trans HR4.out)
                        have HG5 := Lib.hid (((drew_bel w4).block _ (row_lt HG4.out)).trans HG4.out)
                        clear HM4 HK4 HR4 HG4 p3
                        go_wp2_with (go_at_call 20; refine (mod_ask _ _ _ _).mono ?_; rintro r w1 ⟨rfl, hw1'⟩; obtain rfl := hw1'.symm)
                        refine (rm_octet HM5.out.rm HB.out HSP.out hl).mono ?_
                        rintro e w6 (⟨d, q2, h1, rfl, h2, h3⟩ | ⟨z, kk, h1, rfl, h3⟩)
                        rotate_left
                        · exact ⟨rfl, .inr ⟨_, _, HBAD.out _ (rglob_3 S1.out HIL.out h1), rfl, HK5.out.trans (Kp.read h3)⟩⟩
                        obtain ⟨e2, hd256, hq2l⟩ := roct_ok5 HB.out h1
                        have HM6 := Lib.hid (HM5.out.read h2 h3)
                        have HK6 : Hid (Kp B p mb w w6) := Lib.hid (HK5.out.trans (Kp.read h3))
                        have HR6 := Lib.hid ((h3.block _ (row_lt HR5.out) (row_ne HR5.out HM5.out.rm.row (by decide))).trans HR5.out)
                        have HG6 := Lib.hid ((h3.block _ (row_lt HG5.out) (row_ne HG5.out HM5.out.rm.row (by decide))).trans HG5.out)
                        have S2 := Lib.hid h1
                        have hw2 : IntKind.i64.wrap ((q2 : Int) - 1) = q1 := by rw [IntWalk.i64_in _ ⟨by omega, by omega⟩]; omega
                        have HQ2 := Lib.hid e2
                        clear HM5 HK5 HR5 HG5 q0 y0 h1 h2 h3 hw1 hil e2
                        have q0 := row_cell HR6.out 0 rfl
                        have y0 := row_cell HG6.out 0 rfl
                        have y1 := row_cell HG6.out 1 rfl; have yf1 := row_free HG6.out 1
                        obtain ⟨_, p2, p3, _⟩ := HM6.out.pc
                        simp only [List.getElem_toArray, List.getElem_cons_zero, List.getElem_cons_succ] at q0 y0 y1
                        by_cases hd1 : d ≤ 1
                        · have hdd : decide ((d : Int) ≤ 1) = true := decide_eq_true (by omega)
                          go_wp2_with (go_at_call 20; refine (mod_ask _ _ _ _).mono ?_; rintro r w1 ⟨rfl, hw1'⟩; obtain rfl := hw1'.symm)
                          obtain ⟨mu, hm1⟩ : ∃ mu, ((d : Int) == 1) = mu := ⟨_, rfl⟩
                          rw [hm1]
                          have HMU : Hid ((d == 1) = mu) := Lib.hid (by rw [← hm1, Bool.eq_iff_iff, beq_iff_eq, beq_iff_eq]; omega)
                          have P7 := HM6.out.cell (i := 1) (.bool mu) HG.out.1 HG.out.2
                          have hkg := (Keeps.refl (fun b => b ≠ g) w6).setCell (a := ⟨g, 1, none⟩) (by simp) (.bool mu)
                          have HM7 := Lib.hid P7.1
                          have HK7 := Lib.hid (HK6.out.trans P7.2)
                          have HR7 := Lib.hid ((hkg.block _ (row_lt HR6.out) (row_ne HR6.out HG6.out (by decide))).trans HR6.out)
                          have HG7 : Hid ((w6.setCell ⟨g, 1, none⟩ (.bool mu)).heap[g]? = some (.cells #[.int .u8 c, .bool mu, .int .u64 0] 86 (0, 0))) := Lib.hid (by simpa using row_setCell HG6.out 1 (.bool mu))
                          clear P7 hkg HM6 HK6 HR6 HG6 q0 y0 y1 yf1 p2 p3 hdd hm1 hw2
                          generalize w6.setCell ⟨g, 1, none⟩ (.bool mu) = w7 at *
                          have q0 := row_cell HR7.out 0 rfl
                          obtain ⟨_, p2, p3, _⟩ := HM7.out.pc
                          simp only [List.getElem_toArray, List.getElem_cons_zero] at q0
                          obtain ⟨v, hv⟩ : ∃ v, zag (ruv b q2).1 = v := ⟨_, rfl⟩
                          obtain ⟨y, hy⟩ : ∃ y, (ruv b q2).2.1 = y := ⟨_, rfl⟩
                          obtain ⟨z, hz⟩ : ∃ z, (ruv b q2).2.2 = z := ⟨_, rfl⟩
                          have HV := Lib.hid hv; have HY := Lib.hid hy; have HZ := Lib.hid hz
                          have hv64 : -9223372036854775808 ≤ v ∧ v ≤ 9223372036854775807 := by rw [← hv]; exact zag_i64 (ruv_u64 b q2)
                          clear hv hy hz
                          go_quiet ((go_at_call 49; exact Calls.quiet_of_same (wire_ReadSvarQ _ S bv b HB.out (HM7.out.rm.rd.drewN _) q2 HM7.out.rm.le v y z HV.out HY.out HZ.out)))
                          have HM8 := Lib.hid (HM7.out.on (drewN_below w7 nq))
                          have HK8 : Hid (Kp B p mb w (w7.drewN nq)) := Lib.hid (HK7.out.trans (Kp.on (drewN_below w7 nq)))
                          have HR8 := Lib.hid (((drewN_below w7 nq).block _ (row_lt HR7.out)).trans HR7.out)
                          have HG8 := Lib.hid (((drewN_below w7 nq).block _ (row_lt HG7.out)).trans HG7.out)
                          clear HM7 HK7 HR7 HG7 q0 p2 p3
                          generalize w7.drewN nq = w8 at *
                          have q0 := row_cell HR8.out 0 rfl
                          have y0 := row_cell HG8.out 0 rfl
                          have y2 := row_cell HG8.out 2 rfl; have yf2 := row_free HG8.out 2
                          obtain ⟨p0, _, p3, pf3⟩ := HM8.out.pc
                          simp only [List.getElem_toArray, List.getElem_cons_zero, List.getElem_cons_succ] at q0 y0 y2
                          by_cases hz : z = 0
                          · subst hz
                            have hyl : y ≤ b.length := by have := ruv_le HZ.out; rw [HY.out] at this; exact this
                            by_cases hc : c = 119
                            · have hcc : ((c : Int) == 119) = true := by rw [beq_iff_eq]; omega
                              by_cases hr : -2147483648 ≤ v ∧ v ≤ 2147483647
                              · have hw32 : IntKind.i32.wrap v = v := IntWalk.i32_in _ hr
                                have hw64 : IntKind.i64.wrap v = v := IntWalk.i64_in _ hv64
                                obtain ⟨G0, hG0⟩ : ∃ G0 : Int, IntKind.u64.wrap v = G0 := ⟨_, rfl⟩
                                obtain ⟨G, hG⟩ : ∃ G : Nat, (v % 4294967296).toNat = G := ⟨_, rfl⟩
                                have hG1 : IntKind.u32.wrap v = G := by rw [IntKind.wrap_u32]; omega
                                have hG2 : IntKind.u64.wrap (G : Int) = G := IntWalk.u64_in _ ⟨by omega, by omega⟩
                                go_wp2_with (go_at_call 20; refine (mod_ask _ _ _ _).mono ?_; rintro r w1 ⟨rfl, hw1'⟩; obtain rfl := hw1'.symm)
                                have P9 := HM8.out.cell (i := 2) (.int .u64 G0) HG.out.1 HG.out.2
                                have K9 := HK8.out.trans P9.2
                                have k9 := (Keeps.refl (fun b => b ≠ g) w8).setCell (a := ⟨g, 2, none⟩) (by simp) (.int .u64 G0)
                                have g9 := row_setCell HG8.out 2 (.int .u64 G0)
                                have P9 := P9.1.cell (i := 2) (.int .u64 G) HG.out.1 HG.out.2
                                have K9 := K9.trans P9.2
                                have k9 := k9.setCell (a := ⟨g, 2, none⟩) (by simp) (.int .u64 G)
                                have g9 := row_setCell g9 2 (.int .u64 G)
                                have r9 := (k9.block _ (row_lt HR8.out) (row_ne HR8.out HG8.out (by decide))).trans HR8.out
                                have PA := P9.1.setAt y hyl
                                have kA := (Keeps.refl (fun b => b ≠ p) ((w8.setCell ⟨g, 2, none⟩ (.int .u64 G0)).setCell ⟨g, 2, none⟩ (.int .u64 G))).setCell (a := ⟨p, 3, none⟩) (by simp) (.int .i64 y)
                                have rA := (kA.block _ (row_lt r9) (row_ne r9 P9.1.rm.row (by decide))).trans r9
                                have gA := (kA.block _ (row_lt g9) (row_ne g9 P9.1.rm.row (by decide))).trans g9
                                have HM9 := Lib.hid PA.1
                                have HK9 := Lib.hid (K9.trans PA.2)
                                have HR9 := Lib.hid rA
                                have HG9 : Hid ((((w8.setCell ⟨g, 2, none⟩ (.int .u64 G0)).setCell ⟨g, 2, none⟩ (.int .u64 G)).setCell ⟨p, 3, none⟩ (.int .i64 y)).heap[g]? = some (.cells #[.int .u8 c, .bool mu, .int .u64 G] 86 (0, 0))) := Lib.hid (by simpa using gA)
                                have S9 : Hid (rglob b q0' = .ok (⟨c, mu, G⟩, y)) := Lib.hid (by have := rglob_7 S1.out HIL.out S2.out hd1 HZ.out (fun _ => by rw [HV.out]; exact hr); rw [HV.out, HY.out] at this; unfold globOf at this; simp only [if_pos hc] at this; rw [HMU.out, hG] at this; exact this)
                                clear P9 K9 k9 g9 r9 PA kA rA gA HM8 HK8 HR8 HG8 S1 S2 HBAD HIL q0 y0 y2 yf2 p0 p3 pf3 HV HY HZ hG hc hcc
                                generalize (((w8.setCell ⟨g, 2, none⟩ (.int .u64 G0)).setCell ⟨g, 2, none⟩ (.int .u64 G)).setCell ⟨p, 3, none⟩ (.int .i64 y)) = w9 at *
                                have q0 := row_cell HR9.out 0 rfl
                                have y0 := row_cell HG9.out 0 rfl; have y1 := row_cell HG9.out 1 rfl; have y2 := row_cell HG9.out 2 rfl
                                obtain ⟨p0, _, _, _⟩ := HM9.out.pc
                                obtain ⟨a3, c3, hvg, _⟩ := own_slice (HM9.out.fam.own (glE gv gs) (by simp [Mq.ents]))
                                have hvg : gv = .slice a3 gs.length c3 := hvg
                                subst hvg
                                have m0 : w9.cell? ⟨mb, 2, none⟩ = some (.slice a3 gs.length c3) := (HM9.out.mc (i := 2) rfl).1
                                simp only [List.getElem_toArray, List.getElem_cons_zero, List.getElem_cons_succ] at q0 y0 y1 y2
                                have hbel := below_step (Below.refl _ w9).drew (Nat.le_refl _) (below_alloc w9.drew (.cells #[.int .u8 c, .bool mu, .int .u64 G] 86))
                                have HMA := Lib.hid (HM9.out.on hbel)
                                have HOA : Hid ((w9.drew.alloc (.cells #[.int .u8 c, .bool mu, .int .u64 G] 86)).ownsRow B 86 3 (.slice a3 gs.length c3) gs.length (gs.flatMap glC)) := Lib.hid (HMA.out.fam.own (glE (.slice a3 gs.length c3) gs) (by simp [Mq.ents]))
                                have HGA := Lib.hid ((hbel.block _ (row_lt HG9.out)).trans HG9.out)
                                have HRA := Lib.hid ((hbel.block _ (row_lt HR9.out)).trans HR9.out)
                                have HNG : Hid ((Value.slice a3 gs.length c3).ownBlock ≠ some g) := Lib.hid (fun e => HG.out.2 (mem_entBs.2 ⟨glE (.slice a3 gs.length c3) gs, by simp [Mq.ents], e⟩))
                                have HKA := Lib.hid (HK9.out.trans (Kp.on (B := B) (p := p) (mb := mb) hbel))
                                have hb6 := below_alloc w9 (.cells #[.int .u8 c, .bool mu, .int .u64 G] 86)
                                have z0 := cell_below hb6 q0; have z1 := cell_below hb6 p0; have z2 := cell_below hb6 m0; have z3 := cell_below hb6 y0; have z4 := cell_below hb6 y1; have z5 := cell_below hb6 y2
                                have hBw := HM9.out.hi
                                have HNP : Hid ((Value.slice a3 gs.length c3).ownBlock ≠ some p) := Lib.hid (fun e => by have := (World.ownsRow.lt HOA.out p e).1; have := HMA.out.lo; omega)
                                have HNM : Hid ((Value.slice a3 gs.length c3).ownBlock ≠ some mb) := Lib.hid (fun e => by have := (World.ownsRow.lt HOA.out mb e).1; have := HMA.out.lo; omega)
                                have HNR : Hid ((Value.slice a3 gs.length c3).ownBlock ≠ some rb) := Lib.hid (own_ne HOA.out HRA.out (by decide))
                                have hln : gs.length ≤ 64 := by have := HL.out; omega
                                have n1 : rb ≠ mb := row_ne HR9.out HM9.out.mrow (by decide)
                                have n2 : p ≠ mb := HM9.out.ne
                                have n3 : g ≠ mb := row_ne HG9.out HM9.out.mrow (by decide)
                                clear hb6 hbel
                                refine wp_region_held_drew (S := (fun wx => wx.cell? ⟨rb, 0, none⟩ = some (.pointer (some ⟨p, 0, none⟩)) ∧ wx.cell? ⟨p, 0, none⟩ = some (.pointer (some ⟨mb, 0, none⟩)) ∧ wx.cell? ⟨g, 0, none⟩ = some (.int .u8 c) ∧ wx.cell? ⟨g, 1, none⟩ = some (.bool mu) ∧ wx.cell? ⟨g, 2, none⟩ = some (.int .u64 G))) (by kernel_rfl) ⟨q0, p0, y0, y1, y2⟩ (fun hHeld => ?_)
                                refine takeAt (i := 0) (d := 157) (v := ?_) rfl (by kernel_rfl) (by kernel_rfl) (by kernel_rfl) (by kernel_rfl) (fun _ _ _ h => h) (Or.inl ⟨by kernel_rfl, ?_⟩) (by assumption) ?_
                                rotate_left
                                · (intro w hSw; (try dsimp only at hSw); go_simp; all_goals (with_reducible rfl))
                                (try simp only [Act.put, List.setIfInBounds_toArray, List.set_cons_zero, List.set_cons_succ])
                                refine takeAt (i := 1) (d := 158) (v := ?_) rfl (by kernel_rfl) (by kernel_rfl) (by kernel_rfl) (by kernel_rfl) (fun _ _ _ h => h) (Or.inl ⟨by kernel_rfl, ?_⟩) (by assumption) ?_
                                rotate_left
                                · (intro w hSw; (try dsimp only at hSw); go_simp; all_goals (with_reducible rfl))
                                (try simp only [Act.put, List.setIfInBounds_toArray, List.set_cons_zero, List.set_cons_succ])
                                refine takeAt (i := 2) (d := 159) (v := ?_) rfl (by kernel_rfl) (by kernel_rfl) (by kernel_rfl) (by kernel_rfl) (fun _ _ _ h => h) (Or.inl ⟨by kernel_rfl, ?_⟩) (by assumption) ?_
                                rotate_left
                                · (intro w hSw; (try dsimp only at hSw); go_simp; all_goals (with_reducible rfl))
                                (try simp only [Act.put, List.setIfInBounds_toArray, List.set_cons_zero, List.set_cons_succ])
                                refine takeAt (i := 3) (d := 160) (v := ?_) rfl (by kernel_rfl) (by kernel_rfl) (by kernel_rfl) (by kernel_rfl) (fun _ _ _ h => h) (Or.inl ⟨by kernel_rfl, ?_⟩) (by assumption) ?_
                                rotate_left
                                · (intro w hSw; (try dsimp only at hSw); go_simp; all_goals (with_reducible rfl))
                                (try simp only [Act.put, List.setIfInBounds_toArray, List.set_cons_zero, List.set_cons_succ])
                                refine takeAt (i := 4) (d := 161) (v := ?_) rfl (by kernel_rfl) (by kernel_rfl) (by kernel_rfl) (by kernel_rfl) (fun _ _ _ h => h) (Or.inl ⟨by kernel_rfl, ?_⟩) (by assumption) ?_
                                rotate_left
                                · (intro w hSw; (try dsimp only at hSw); go_simp; all_goals (with_reducible rfl))
                                (try simp only [Act.put, List.setIfInBounds_toArray, List.set_cons_zero, List.set_cons_succ])
                                refine takeAt (i := 5) (d := 162) (v := ?_) rfl (by kernel_rfl) (by kernel_rfl) (by kernel_rfl) (by kernel_rfl) (fun _ _ _ h => h) (Or.inl ⟨by kernel_rfl, ?_⟩) (by assumption) ?_
                                rotate_left
                                · (intro w hSw; (try dsimp only at hSw); go_simp; all_goals (with_reducible rfl))
                                (try simp only [Act.put, List.setIfInBounds_toArray, List.set_cons_zero, List.set_cons_succ])
                                refine takeAt (i := 6) (d := 163) (v := ?_) rfl (by kernel_rfl) (by kernel_rfl) (by kernel_rfl) (by kernel_rfl) (fun _ _ _ h => h) (Or.inl ⟨by kernel_rfl, ?_⟩) (by assumption) ?_
                                rotate_left
                                · (intro w hSw; (try dsimp only at hSw); go_simp; all_goals (with_reducible rfl))
                                (try simp only [Act.put, List.setIfInBounds_toArray, List.set_cons_zero, List.set_cons_succ])
                                refine takeAt (i := 7) (d := 164) (v := ?_) rfl (by kernel_rfl) (by kernel_rfl) (by kernel_rfl) (by kernel_rfl) (fun _ _ _ h => h) (Or.inl ⟨by kernel_rfl, ?_⟩) (by assumption) ?_
                                rotate_left
                                · (intro w hSw; (try dsimp only at hSw); go_simp; all_goals (with_reducible rfl))
                                (try simp only [Act.put, List.setIfInBounds_toArray, List.set_cons_zero, List.set_cons_succ])
                                refine takeAt (i := 8) (d := 165) (v := ?_) rfl (by kernel_rfl) (by kernel_rfl) (by kernel_rfl) (by kernel_rfl) (fun _ _ _ h => h) (Or.inl ⟨by kernel_rfl, ?_⟩) (by assumption) ?_
                                rotate_left
                                · (intro w hSw; (try dsimp only at hSw); go_simp; all_goals (with_reducible rfl))
                                (try simp only [Act.put, List.setIfInBounds_toArray, List.set_cons_zero, List.set_cons_succ])
                                refine takeAt (i := 9) (d := 166) (v := ?_) rfl (by kernel_rfl) (by kernel_rfl) (by kernel_rfl) (by kernel_rfl) (fun _ _ _ h => h) (Or.inl ⟨by kernel_rfl, ?_⟩) (by assumption) ?_
                                rotate_left
                                · (intro w hSw; (try dsimp only at hSw); go_simp; all_goals (with_reducible rfl))
                                (try simp only [Act.put, List.setIfInBounds_toArray, List.set_cons_zero, List.set_cons_succ])
                                refine takeAt (i := 10) (d := 167) (v := ?_) rfl (by kernel_rfl) (by kernel_rfl) (by kernel_rfl) (by kernel_rfl) (fun _ _ _ h => h) (Or.inl ⟨by kernel_rfl, ?_⟩) (by assumption) ?_
                                rotate_left
                                · (intro w hSw; (try dsimp only at hSw); go_simp; all_goals (with_reducible rfl))
                                (try simp only [Act.put, List.setIfInBounds_toArray, List.set_cons_zero, List.set_cons_succ])
                                refine takeAt (i := 11) (d := 168) (v := ?_) rfl (by kernel_rfl) (by kernel_rfl) (by kernel_rfl) (by kernel_rfl) (fun _ _ _ h => h) (Or.inl ⟨by kernel_rfl, ?_⟩) (by assumption) ?_
                                rotate_left
                                · (intro w hSw; (try dsimp only at hSw); go_simp; all_goals (with_reducible rfl))
                                (try simp only [Act.put, List.setIfInBounds_toArray, List.set_cons_zero, List.set_cons_succ])
                                refine takeAt (i := 13) (d := 170) (v := ?_) rfl (by kernel_rfl) (by kernel_rfl) (by kernel_rfl) (by kernel_rfl) (fun _ _ _ h => h) (Or.inl ⟨by kernel_rfl, ?_⟩) (by assumption) ?_
                                rotate_left
                                · (intro w hSw; (try dsimp only at hSw); go_simp; all_goals (with_reducible rfl))
                                (try simp only [Act.put, List.setIfInBounds_toArray, List.set_cons_zero, List.set_cons_succ])
                                refine wpAnyH_ready (rs := [12, 14]) (by kernel_rfl) (by simp) ?_
                                refine AllReadyH.cons rfl (fun K hK => ?_) (AllReadyH.cons rfl (fun K hK => ?_) AllReadyH.nil)
                                · go_simp
                                  refine hK.out _ _ hHeld (fun hHeld => ?_)
                                  clear hK K
                                  (try refine stateAt (d := 169) (by kernel_rfl) ?_)
                                  (try simp only [Act.put, List.setIfInBounds_toArray, List.set_cons_zero, List.set_cons_succ])
                                  refine wpAnyH_ready (rs := [14]) (by kernel_rfl) (by simp) ?_
                                  refine AllReadyH.cons rfl (fun K hK => ?_) AllReadyH.nil
                                  go_simp
                                  refine hK.out _ _ ⟨z0, z1, z3, z4, z5⟩ (fun hHeld => ?_)
                                  clear hK K
                                  (try refine stateAt (d := 171) (by kernel_rfl) ?_)
                                  (try simp only [Act.put, List.setIfInBounds_toArray, List.set_cons_zero, List.set_cons_succ])
                                  refine wpAnyH_ready (rs := [15]) (by kernel_rfl) (by simp) ?_
                                  refine AllReadyH.cons rfl (fun K hK => ?_) AllReadyH.nil
                                  clear hHeld
                                  refine step_append_lies _ (by rfl) _ _ 24 (by rfl) B 86 i2 _ 3 16 Tryd.underlying24 hg hx0 hx1 hx2 rfl (by omega) (.slice a3 gs.length c3) gs.length (gs.flatMap glC) (by rfl) HOA.out ⟨w9.heap.size, 0, none⟩ 1 1 [.int .u8 c, .bool mu, .int .u64 G] (by rfl) (by rfl) (news3 w9.drew _ _ _ _) (by simp [Value.oneCell']) (by omega) (by unfold maxLen; omega) (by omega) (by show B ≤ (w9.alloc _).heap.size; rw [World.size_alloc]; omega) (w9.heap.size + 1) (by show (w9.alloc _).heap.size = _; rw [World.size_alloc]) ?_
                                  intro g9 cap9 wb hown9 hgrow9 hat9 hlt9
                                  have hm9 := grown_block hgrow9 HMA.out.mrow HNM.out
                                  have c9 := row_cell hm9 2 rfl
                                  have f9 := row_free hm9 2
                                  have hp9 := grown_block hgrow9 HMA.out.rm.row HNP.out
                                  have hr9 := grown_block hgrow9 HRA.out HNR.out
                                  have hg9 := grown_block hgrow9 HGA.out HNG.out
                                  have d9 := row_cell hp9 0 rfl
                                  have e9 := row_cell hr9 0 rfl
                                  have y09 := row_cell hg9 0 rfl
                                  have y19 := row_cell hg9 1 rfl
                                  have y29 := row_cell hg9 2 rfl
                                  refine hK.out _ _ ⟨e9, d9, y09, y19, y29⟩ (fun hHeld => ?_)
                                  clear hK K
                                  (try refine stateAt (d := 172) (by kernel_rfl) ?_)
                                  (try simp only [Act.put, List.setIfInBounds_toArray, List.set_cons_zero, List.set_cons_succ])
                                  refine takeAt (i := 16) (d := 173) (v := ?_) rfl (by kernel_rfl) (by kernel_rfl) (by kernel_rfl) (by kernel_rfl) (fun _ _ _ h => h) (Or.inl ⟨by kernel_rfl, ?_⟩) (by assumption) ?_
                                  rotate_left
                                  · (intro w hSw; (try dsimp only at hSw); go_simp; all_goals (with_reducible rfl))
                                  (try simp only [Act.put, List.setIfInBounds_toArray, List.set_cons_zero, List.set_cons_succ])
                                  refine takeAt (i := 17) (d := 174) (v := ?_) rfl (by kernel_rfl) (by kernel_rfl) (by kernel_rfl) (by kernel_rfl) (fun _ _ _ h => h) (Or.inl ⟨by kernel_rfl, ?_⟩) (by assumption) ?_
                                  rotate_left
                                  · (intro w hSw; (try dsimp only at hSw); go_simp; all_goals (with_reducible rfl))
                                  (try simp only [Act.put, List.setIfInBounds_toArray, List.set_cons_zero, List.set_cons_succ])
                                  refine wpAnyH_ready (rs := [18]) (by kernel_rfl) (by simp) ?_
                                  refine AllReadyH.cons rfl (fun K hK => ?_) AllReadyH.nil
                                  have n9 := (Keeps.refl (fun b => b ≠ mb) wb).setCell (a := ⟨mb, 2, none⟩) (by simp) (.slice (some ⟨g9, 0, none⟩) (gs.length + 1) cap9)
                                  have hpc := row_cell ((n9.block _ (row_lt hp9) n2).trans hp9) 0 rfl
                                  have hrx := (n9.block _ (row_lt hr9) n1).trans hr9
                                  have hrc := row_cell hrx 0 rfl
                                  have hgx := (n9.block _ (row_lt hg9) n3).trans hg9
                                  have hg0 := row_cell hgx 0 rfl
                                  have hg1 := row_cell hgx 1 rfl
                                  have hg2 := row_cell hgx 2 rfl
                                  have PP := HMA.out.grow (e := glE (.slice a3 gs.length c3) gs) (e' := glE (.slice (some ⟨g9, 0, none⟩) (gs.length + 1) cap9) (gs ++ [⟨c, mu, G⟩])) (i := 2) (x' := { mqZ with tv := tv, ts := ts, hv := hv, hs := hs, gv := .slice (some ⟨g9, 0, none⟩) (gs.length + 1) cap9, gs := gs ++ [⟨c, mu, G⟩] }) (X' := []) ((List.Perm.cons _ (List.Perm.swap _ _ _)).trans (List.Perm.swap _ _ _)) ((List.Perm.cons _ (List.Perm.swap _ _ _)).trans (List.Perm.swap _ _ _)) rfl rfl hgrow9 (by simpa [glE, glC] using hown9) (at_of5 hat9 (by show (w9.alloc _).heap.size ≤ _; rw [World.size_alloc]; exact Nat.le_refl _))
                                  have HMZ := Lib.hid PP.1
                                  have HKZ := Lib.hid (HKA.out.trans PP.2)
                                  have HRZ := Lib.hid hrx
                                  go_simp
                                  refine hK.out _ _ ⟨hrc, hpc, hg0, hg1, hg2⟩ (fun hHeld => ?_)
                                  clear hK K
                                  (try simp only [Act.put, List.setIfInBounds_toArray, List.set_cons_zero, List.set_cons_succ])
                                  refine wpAnyH_done (by kernel_rfl) ?_ _
                                  have HP8 : Hid (RepAt (fun _ => rglob) n b q (gs ++ [⟨c, mu, G⟩]) y) := Lib.hid (HP.out.good (by rw [HL.out]; exact hlt) S9.out)
                                  have HL8 : Hid ((gs ++ [(⟨c, mu, G⟩ : GlobD)]).length = k + 1) := Lib.hid (by rw [List.length_append, HL.out]; rfl)
                                  clear HP HL S9 PP HMA HKA HRA HOA HGA HM9 HK9 HR9 HG9
                                  go_wp2_with fail
                                  go_roundw
                                  case rel => exact ⟨k + 1, y, _, _, by omega, by go_num, HMZ, HKZ, HRZ, HP8, HL8⟩
                                  case measure => simp [intOf]; omega
                                · go_simp
                                  refine hK.out _ _ ⟨z0, z1, z3, z4, z5⟩ (fun hHeld => ?_)
                                  clear hK K
                                  (try refine stateAt (d := 171) (by kernel_rfl) ?_)
                                  (try simp only [Act.put, List.setIfInBounds_toArray, List.set_cons_zero, List.set_cons_succ])
                                  refine wpAnyH_ready (rs := [12]) (by kernel_rfl) (by simp) ?_
                                  refine AllReadyH.cons rfl (fun K hK => ?_) AllReadyH.nil
                                  go_simp
                                  refine hK.out _ _ ⟨z0, z1, z3, z4, z5⟩ (fun hHeld => ?_)
                                  clear hK K
                                  (try refine stateAt (d := 169) (by kernel_rfl) ?_)
                                  (try simp only [Act.put, List.setIfInBounds_toArray, List.set_cons_zero, List.set_cons_succ])
                                  refine wpAnyH_ready (rs := [15]) (by kernel_rfl) (by simp) ?_
                                  refine AllReadyH.cons rfl (fun K hK => ?_) AllReadyH.nil
                                  clear hHeld
                                  refine step_append_lies _ (by rfl) _ _ 24 (by rfl) B 86 i2 _ 3 16 Tryd.underlying24 hg hx0 hx1 hx2 rfl (by omega) (.slice a3 gs.length c3) gs.length (gs.flatMap glC) (by rfl) HOA.out ⟨w9.heap.size, 0, none⟩ 1 1 [.int .u8 c, .bool mu, .int .u64 G] (by rfl) (by rfl) (news3 w9.drew _ _ _ _) (by simp [Value.oneCell']) (by omega) (by unfold maxLen; omega) (by omega) (by show B ≤ (w9.alloc _).heap.size; rw [World.size_alloc]; omega) (w9.heap.size + 1) (by show (w9.alloc _).heap.size = _; rw [World.size_alloc]) ?_
                                  intro g9 cap9 wb hown9 hgrow9 hat9 hlt9
                                  have hm9 := grown_block hgrow9 HMA.out.mrow HNM.out
                                  have c9 := row_cell hm9 2 rfl
                                  have f9 := row_free hm9 2
                                  have hp9 := grown_block hgrow9 HMA.out.rm.row HNP.out
                                  have hr9 := grown_block hgrow9 HRA.out HNR.out
                                  have hg9 := grown_block hgrow9 HGA.out HNG.out
                                  have d9 := row_cell hp9 0 rfl
                                  have e9 := row_cell hr9 0 rfl
                                  have y09 := row_cell hg9 0 rfl
                                  have y19 := row_cell hg9 1 rfl
                                  have y29 := row_cell hg9 2 rfl
                                  refine hK.out _ _ ⟨e9, d9, y09, y19, y29⟩ (fun hHeld => ?_)
                                  clear hK K
                                  (try refine stateAt (d := 172) (by kernel_rfl) ?_)
                                  (try simp only [Act.put, List.setIfInBounds_toArray, List.set_cons_zero, List.set_cons_succ])
                                  refine takeAt (i := 16) (d := 173) (v := ?_) rfl (by kernel_rfl) (by kernel_rfl) (by kernel_rfl) (by kernel_rfl) (fun _ _ _ h => h) (Or.inl ⟨by kernel_rfl, ?_⟩) (by assumption) ?_
                                  rotate_left
                                  · (intro w hSw; (try dsimp only at hSw); go_simp; all_goals (with_reducible rfl))
                                  (try simp only [Act.put, List.setIfInBounds_toArray, List.set_cons_zero, List.set_cons_succ])
                                  refine takeAt (i := 17) (d := 174) (v := ?_) rfl (by kernel_rfl) (by kernel_rfl) (by kernel_rfl) (by kernel_rfl) (fun _ _ _ h => h) (Or.inl ⟨by kernel_rfl, ?_⟩) (by assumption) ?_
                                  rotate_left
                                  · (intro w hSw; (try dsimp only at hSw); go_simp; all_goals (with_reducible rfl))
                                  (try simp only [Act.put, List.setIfInBounds_toArray, List.set_cons_zero, List.set_cons_succ])
                                  refine wpAnyH_ready (rs := [18]) (by kernel_rfl) (by simp) ?_
                                  refine AllReadyH.cons rfl (fun K hK => ?_) AllReadyH.nil
                                  have n9 := (Keeps.refl (fun b => b ≠ mb) wb).setCell (a := ⟨mb, 2, none⟩) (by simp) (.slice (some ⟨g9, 0, none⟩) (gs.length + 1) cap9)
                                  have hpc := row_cell ((n9.block _ (row_lt hp9) n2).trans hp9) 0 rfl
                                  have hrx := (n9.block _ (row_lt hr9) n1).trans hr9
                                  have hrc := row_cell hrx 0 rfl
                                  have hgx := (n9.block _ (row_lt hg9) n3).trans hg9
                                  have hg0 := row_cell hgx 0 rfl
                                  have hg1 := row_cell hgx 1 rfl
                                  have hg2 := row_cell hgx 2 rfl
                                  have PP := HMA.out.grow (e := glE (.slice a3 gs.length c3) gs) (e' := glE (.slice (some ⟨g9, 0, none⟩) (gs.length + 1) cap9) (gs ++ [⟨c, mu, G⟩])) (i := 2) (x' := { mqZ with tv := tv, ts := ts, hv := hv, hs := hs, gv := .slice (some ⟨g9, 0, none⟩) (gs.length + 1) cap9, gs := gs ++ [⟨c, mu, G⟩] }) (X' := []) ((List.Perm.cons _ (List.Perm.swap _ _ _)).trans (List.Perm.swap _ _ _)) ((List.Perm.cons _ (List.Perm.swap _ _ _)).trans (List.Perm.swap _ _ _)) rfl rfl hgrow9 (by simpa [glE, glC] using hown9) (at_of5 hat9 (by show (w9.alloc _).heap.size ≤ _; rw [World.size_alloc]; exact Nat.le_refl _))
                                  have HMZ := Lib.hid PP.1
                                  have HKZ := Lib.hid (HKA.out.trans PP.2)
                                  have HRZ := Lib.hid hrx
                                  go_simp
                                  refine hK.out _ _ ⟨hrc, hpc, hg0, hg1, hg2⟩ (fun hHeld => ?_)
                                  clear hK K
                                  (try simp only [Act.put, List.setIfInBounds_toArray, List.set_cons_zero, List.set_cons_succ])
                                  refine wpAnyH_done (by kernel_rfl) ?_ _
                                  have HP8 : Hid (RepAt (fun _ => rglob) n b q (gs ++ [⟨c, mu, G⟩]) y) := Lib.hid (HP.out.good (by rw [HL.out]; exact hlt) S9.out)
                                  have HL8 : Hid ((gs ++ [(⟨c, mu, G⟩ : GlobD)]).length = k + 1) := Lib.hid (by rw [List.length_append, HL.out]; rfl)
                                  clear HP HL S9 PP HMA HKA HRA HOA HGA HM9 HK9 HR9 HG9
                                  go_wp2_with fail
                                  go_roundw
                                  case rel => exact ⟨k + 1, y, _, _, by omega, by go_num, HMZ, HKZ, HRZ, HP8, HL8⟩
                                  case measure => simp [intOf]; omega
                              · obtain ⟨U, hU⟩ : ∃ U, IntKind.i32.wrap v = U := ⟨_, rfl⟩
                                have hUr : -2147483648 ≤ U ∧ U ≤ 2147483647 := by rw [← hU, IntKind.wrap_i32]; omega
                                have hU64 : IntKind.i64.wrap U = U := IntWalk.i64_in _ ⟨by omega, by omega⟩
                                have hvU : (v == U) = false := by rw [beq_eq_false_iff_ne]; intro e; subst e; exact hr hUr
                                obtain ⟨G0, hG0⟩ : ∃ G0 : Int, IntKind.u64.wrap v = G0 := ⟨_, rfl⟩
                                go_wp2_with (go_at_call 20; refine (mod_ask _ _ _ _).mono ?_; rintro r w1 ⟨rfl, hw1'⟩; obtain rfl := hw1'.symm)
                                have hr' : ¬ (-2147483648 ≤ zag (ruv b q2).1 ∧ zag (ruv b q2).1 ≤ 2147483647) := by rw [HV.out]; exact hr
                                have hbad := rglob_6 (by rw [← hc]; exact S1.out) S2.out hd1 HZ.out hr'
                                exact ⟨rfl, .inr ⟨_, _, HBAD.out _ hbad, rfl, HK8.out.trans (HM8.out.cell (i := 2) (.int .u64 G0) HG.out.1 HG.out.2).2⟩⟩
                            · have hcc : ((c : Int) == 119) = false := by rw [beq_eq_false_iff_ne]; omega
                              obtain ⟨G, hG⟩ : ∃ G : Nat, (v % 18446744073709551616).toNat = G := ⟨_, rfl⟩
                              have hG1 : IntKind.u64.wrap v = G := by rw [IntKind.wrap_u64]; omega
                              go_wp2_with (go_at_call 20; refine (mod_ask _ _ _ _).mono ?_; rintro r w1 ⟨rfl, hw1'⟩; obtain rfl := hw1'.symm)
                              have P9 := HM8.out.cell (i := 2) (.int .u64 G) HG.out.1 HG.out.2
                              have K9 := HK8.out.trans P9.2
                              have k9 := (Keeps.refl (fun b => b ≠ g) w8).setCell (a := ⟨g, 2, none⟩) (by simp) (.int .u64 G)
                              have g9 := row_setCell HG8.out 2 (.int .u64 G)
                              have r9 := (k9.block _ (row_lt HR8.out) (row_ne HR8.out HG8.out (by decide))).trans HR8.out
                              have PA := P9.1.setAt y hyl
                              have kA := (Keeps.refl (fun b => b ≠ p) (w8.setCell ⟨g, 2, none⟩ (.int .u64 G))).setCell (a := ⟨p, 3, none⟩) (by simp) (.int .i64 y)
                              have rA := (kA.block _ (row_lt r9) (row_ne r9 P9.1.rm.row (by decide))).trans r9
                              have gA := (kA.block _ (row_lt g9) (row_ne g9 P9.1.rm.row (by decide))).trans g9
                              have HM9 := Lib.hid PA.1
                              have HK9 := Lib.hid (K9.trans PA.2)
                              have HR9 := Lib.hid rA
                              have HG9 : Hid (((w8.setCell ⟨g, 2, none⟩ (.int .u64 G)).setCell ⟨p, 3, none⟩ (.int .i64 y)).heap[g]? = some (.cells #[.int .u8 c, .bool mu, .int .u64 G] 86 (0, 0))) := Lib.hid (by simpa using gA)
                              have S9 : Hid (rglob b q0' = .ok (⟨c, mu, G⟩, y)) := Lib.hid (by have := rglob_7 S1.out HIL.out S2.out hd1 HZ.out (fun e => absurd e hc); rw [HV.out, HY.out] at this; unfold globOf at this; simp only [if_neg hc] at this; rw [HMU.out, hG] at this; exact this)
                              clear P9 K9 k9 g9 r9 PA kA rA gA HM8 HK8 HR8 HG8 S1 S2 HBAD HIL q0 y0 y2 yf2 p0 p3 pf3 HV HY HZ hG hc hcc
                              generalize ((w8.setCell ⟨g, 2, none⟩ (.int .u64 G)).setCell ⟨p, 3, none⟩ (.int .i64 y)) = w9 at *
                              have q0 := row_cell HR9.out 0 rfl
                              have y0 := row_cell HG9.out 0 rfl; have y1 := row_cell HG9.out 1 rfl; have y2 := row_cell HG9.out 2 rfl
                              obtain ⟨p0, _, _, _⟩ := HM9.out.pc
                              obtain ⟨a3, c3, hvg, _⟩ := own_slice (HM9.out.fam.own (glE gv gs) (by simp [Mq.ents]))
                              have hvg : gv = .slice a3 gs.length c3 := hvg
                              subst hvg
                              have m0 : w9.cell? ⟨mb, 2, none⟩ = some (.slice a3 gs.length c3) := (HM9.out.mc (i := 2) rfl).1
                              simp only [List.getElem_toArray, List.getElem_cons_zero, List.getElem_cons_succ] at q0 y0 y1 y2
                              have hbel := below_step (Below.refl _ w9).drew (Nat.le_refl _) (below_alloc w9.drew (.cells #[.int .u8 c, .bool mu, .int .u64 G] 86))
                              have HMA := Lib.hid (HM9.out.on hbel)
                              have HOA : Hid ((w9.drew.alloc (.cells #[.int .u8 c, .bool mu, .int .u64 G] 86)).ownsRow B 86 3 (.slice a3 gs.length c3) gs.length (gs.flatMap glC)) := Lib.hid (HMA.out.fam.own (glE (.slice a3 gs.length c3) gs) (by simp [Mq.ents]))
                              have HGA := Lib.hid ((hbel.block _ (row_lt HG9.out)).trans HG9.out)
                              have HRA := Lib.hid ((hbel.block _ (row_lt HR9.out)).trans HR9.out)
                              have HNG : Hid ((Value.slice a3 gs.length c3).ownBlock ≠ some g) := Lib.hid (fun e => HG.out.2 (mem_entBs.2 ⟨glE (.slice a3 gs.length c3) gs, by simp [Mq.ents], e⟩))
                              have HKA := Lib.hid (HK9.out.trans (Kp.on (B := B) (p := p) (mb := mb) hbel))
                              have hb6 := below_alloc w9 (.cells #[.int .u8 c, .bool mu, .int .u64 G] 86)
                              have z0 := cell_below hb6 q0; have z1 := cell_below hb6 p0; have z2 := cell_below hb6 m0; have z3 := cell_below hb6 y0; have z4 := cell_below hb6 y1; have z5 := cell_below hb6 y2
                              have hBw := HM9.out.hi
                              have HNP : Hid ((Value.slice a3 gs.length c3).ownBlock ≠ some p) := Lib.hid (fun e => by have := (World.ownsRow.lt HOA.out p e).1; have := HMA.out.lo; omega)
                              have HNM : Hid ((Value.slice a3 gs.length c3).ownBlock ≠ some mb) := Lib.hid (fun e => by have := (World.ownsRow.lt HOA.out mb e).1; have := HMA.out.lo; omega)
                              have HNR : Hid ((Value.slice a3 gs.length c3).ownBlock ≠ some rb) := Lib.hid (own_ne HOA.out HRA.out (by decide))
                              have hln : gs.length ≤ 64 := by have := HL.out; omega
                              have n1 : rb ≠ mb := row_ne HR9.out HM9.out.mrow (by decide)
                              have n2 : p ≠ mb := HM9.out.ne
                              have n3 : g ≠ mb := row_ne HG9.out HM9.out.mrow (by decide)
                              clear hb6 hbel
                              refine wp_region_held_drew (S := (fun wx => wx.cell? ⟨rb, 0, none⟩ = some (.pointer (some ⟨p, 0, none⟩)) ∧ wx.cell? ⟨p, 0, none⟩ = some (.pointer (some ⟨mb, 0, none⟩)) ∧ wx.cell? ⟨g, 0, none⟩ = some (.int .u8 c) ∧ wx.cell? ⟨g, 1, none⟩ = some (.bool mu) ∧ wx.cell? ⟨g, 2, none⟩ = some (.int .u64 G))) (by kernel_rfl) ⟨q0, p0, y0, y1, y2⟩ (fun hHeld => ?_)
                              refine takeAt (i := 0) (d := 157) (v := ?_) rfl (by kernel_rfl) (by kernel_rfl) (by kernel_rfl) (by kernel_rfl) (fun _ _ _ h => h) (Or.inl ⟨by kernel_rfl, ?_⟩) (by assumption) ?_
                              rotate_left
                              · (intro w hSw; (try dsimp only at hSw); go_simp; all_goals (with_reducible rfl))
                              (try simp only [Act.put, List.setIfInBounds_toArray, List.set_cons_zero, List.set_cons_succ])
                              refine takeAt (i := 1) (d := 158) (v := ?_) rfl (by kernel_rfl) (by kernel_rfl) (by kernel_rfl) (by kernel_rfl) (fun _ _ _ h => h) (Or.inl ⟨by kernel_rfl, ?_⟩) (by assumption) ?_
                              rotate_left
                              · (intro w hSw; (try dsimp only at hSw); go_simp; all_goals (with_reducible rfl))
                              (try simp only [Act.put, List.setIfInBounds_toArray, List.set_cons_zero, List.set_cons_succ])
                              refine takeAt (i := 2) (d := 159) (v := ?_) rfl (by kernel_rfl) (by kernel_rfl) (by kernel_rfl) (by kernel_rfl) (fun _ _ _ h => h) (Or.inl ⟨by kernel_rfl, ?_⟩) (by assumption) ?_
                              rotate_left
                              · (intro w hSw; (try dsimp only at hSw); go_simp; all_goals (with_reducible rfl))
                              (try simp only [Act.put, List.setIfInBounds_toArray, List.set_cons_zero, List.set_cons_succ])
                              refine takeAt (i := 3) (d := 160) (v := ?_) rfl (by kernel_rfl) (by kernel_rfl) (by kernel_rfl) (by kernel_rfl) (fun _ _ _ h => h) (Or.inl ⟨by kernel_rfl, ?_⟩) (by assumption) ?_
                              rotate_left
                              · (intro w hSw; (try dsimp only at hSw); go_simp; all_goals (with_reducible rfl))
                              (try simp only [Act.put, List.setIfInBounds_toArray, List.set_cons_zero, List.set_cons_succ])
                              refine takeAt (i := 4) (d := 161) (v := ?_) rfl (by kernel_rfl) (by kernel_rfl) (by kernel_rfl) (by kernel_rfl) (fun _ _ _ h => h) (Or.inl ⟨by kernel_rfl, ?_⟩) (by assumption) ?_
                              rotate_left
                              · (intro w hSw; (try dsimp only at hSw); go_simp; all_goals (with_reducible rfl))
                              (try simp only [Act.put, List.setIfInBounds_toArray, List.set_cons_zero, List.set_cons_succ])
                              refine takeAt (i := 5) (d := 162) (v := ?_) rfl (by kernel_rfl) (by kernel_rfl) (by kernel_rfl) (by kernel_rfl) (fun _ _ _ h => h) (Or.inl ⟨by kernel_rfl, ?_⟩) (by assumption) ?_
                              rotate_left
                              · (intro w hSw; (try dsimp only at hSw); go_simp; all_goals (with_reducible rfl))
                              (try simp only [Act.put, List.setIfInBounds_toArray, List.set_cons_zero, List.set_cons_succ])
                              refine takeAt (i := 6) (d := 163) (v := ?_) rfl (by kernel_rfl) (by kernel_rfl) (by kernel_rfl) (by kernel_rfl) (fun _ _ _ h => h) (Or.inl ⟨by kernel_rfl, ?_⟩) (by assumption) ?_
                              rotate_left
                              · (intro w hSw; (try dsimp only at hSw); go_simp; all_goals (with_reducible rfl))
                              (try simp only [Act.put, List.setIfInBounds_toArray, List.set_cons_zero, List.set_cons_succ])
                              refine takeAt (i := 7) (d := 164) (v := ?_) rfl (by kernel_rfl) (by kernel_rfl) (by kernel_rfl) (by kernel_rfl) (fun _ _ _ h => h) (Or.inl ⟨by kernel_rfl, ?_⟩) (by assumption) ?_
                              rotate_left
                              · (intro w hSw; (try dsimp only at hSw); go_simp; all_goals (with_reducible rfl))
                              (try simp only [Act.put, List.setIfInBounds_toArray, List.set_cons_zero, List.set_cons_succ])
                              refine takeAt (i := 8) (d := 165) (v := ?_) rfl (by kernel_rfl) (by kernel_rfl) (by kernel_rfl) (by kernel_rfl) (fun _ _ _ h => h) (Or.inl ⟨by kernel_rfl, ?_⟩) (by assumption) ?_
                              rotate_left
                              · (intro w hSw; (try dsimp only at hSw); go_simp; all_goals (with_reducible rfl))
                              (try simp only [Act.put, List.setIfInBounds_toArray, List.set_cons_zero, List.set_cons_succ])
                              refine takeAt (i := 9) (d := 166) (v := ?_) rfl (by kernel_rfl) (by kernel_rfl) (by kernel_rfl) (by kernel_rfl) (fun _ _ _ h => h) (Or.inl ⟨by kernel_rfl, ?_⟩) (by assumption) ?_
                              rotate_left
                              · (intro w hSw; (try dsimp only at hSw); go_simp; all_goals (with_reducible rfl))
                              (try simp only [Act.put, List.setIfInBounds_toArray, List.set_cons_zero, List.set_cons_succ])
                              refine takeAt (i := 10) (d := 167) (v := ?_) rfl (by kernel_rfl) (by kernel_rfl) (by kernel_rfl) (by kernel_rfl) (fun _ _ _ h => h) (Or.inl ⟨by kernel_rfl, ?_⟩) (by assumption) ?_
                              rotate_left
                              · (intro w hSw; (try dsimp only at hSw); go_simp; all_goals (with_reducible rfl))
                              (try simp only [Act.put, List.setIfInBounds_toArray, List.set_cons_zero, List.set_cons_succ])
                              refine takeAt (i := 11) (d := 168) (v := ?_) rfl (by kernel_rfl) (by kernel_rfl) (by kernel_rfl) (by kernel_rfl) (fun _ _ _ h => h) (Or.inl ⟨by kernel_rfl, ?_⟩) (by assumption) ?_
                              rotate_left
                              · (intro w hSw; (try dsimp only at hSw); go_simp; all_goals (with_reducible rfl))
                              (try simp only [Act.put, List.setIfInBounds_toArray, List.set_cons_zero, List.set_cons_succ])
                              refine takeAt (i := 13) (d := 170) (v := ?_) rfl (by kernel_rfl) (by kernel_rfl) (by kernel_rfl) (by kernel_rfl) (fun _ _ _ h => h) (Or.inl ⟨by kernel_rfl, ?_⟩) (by assumption) ?_
                              rotate_left
                              · (intro w hSw; (try dsimp only at hSw); go_simp; all_goals (with_reducible rfl))
                              (try simp only [Act.put, List.setIfInBounds_toArray, List.set_cons_zero, List.set_cons_succ])
                              refine wpAnyH_ready (rs := [12, 14]) (by kernel_rfl) (by simp) ?_
                              refine AllReadyH.cons rfl (fun K hK => ?_) (AllReadyH.cons rfl (fun K hK => ?_) AllReadyH.nil)
                              · go_simp
                                refine hK.out _ _ hHeld (fun hHeld => ?_)
                                clear hK K
                                (try refine stateAt (d := 169) (by kernel_rfl) ?_)
                                (try simp only [Act.put, List.setIfInBounds_toArray, List.set_cons_zero, List.set_cons_succ])
                                refine wpAnyH_ready (rs := [14]) (by kernel_rfl) (by simp) ?_
                                refine AllReadyH.cons rfl (fun K hK => ?_) AllReadyH.nil
                                go_simp
                                refine hK.out _ _ ⟨z0, z1, z3, z4, z5⟩ (fun hHeld => ?_)
                                clear hK K
                                (try refine stateAt (d := 171) (by kernel_rfl) ?_)
                                (try simp only [Act.put, List.setIfInBounds_toArray, List.set_cons_zero, List.set_cons_succ])
                                refine wpAnyH_ready (rs := [15]) (by kernel_rfl) (by simp) ?_
                                refine AllReadyH.cons rfl (fun K hK => ?_) AllReadyH.nil
                                clear hHeld
                                refine step_append_lies _ (by rfl) _ _ 24 (by rfl) B 86 i2 _ 3 16 Tryd.underlying24 hg hx0 hx1 hx2 rfl (by omega) (.slice a3 gs.length c3) gs.length (gs.flatMap glC) (by rfl) HOA.out ⟨w9.heap.size, 0, none⟩ 1 1 [.int .u8 c, .bool mu, .int .u64 G] (by rfl) (by rfl) (news3 w9.drew _ _ _ _) (by simp [Value.oneCell']) (by omega) (by unfold maxLen; omega) (by omega) (by show B ≤ (w9.alloc _).heap.size; rw [World.size_alloc]; omega) (w9.heap.size + 1) (by show (w9.alloc _).heap.size = _; rw [World.size_alloc]) ?_
                                intro g9 cap9 wb hown9 hgrow9 hat9 hlt9
                                have hm9 := grown_block hgrow9 HMA.out.mrow HNM.out
                                have c9 := row_cell hm9 2 rfl
                                have f9 := row_free hm9 2
                                have hp9 := grown_block hgrow9 HMA.out.rm.row HNP.out
                                have hr9 := grown_block hgrow9 HRA.out HNR.out
                                have hg9 := grown_block hgrow9 HGA.out HNG.out
                                have d9 := row_cell hp9 0 rfl
                                have e9 := row_cell hr9 0 rfl
                                have y09 := row_cell hg9 0 rfl
                                have y19 := row_cell hg9 1 rfl
                                have y29 := row_cell hg9 2 rfl
                                refine hK.out _ _ ⟨e9, d9, y09, y19, y29⟩ (fun hHeld => ?_)
                                clear hK K
                                (try refine stateAt (d := 172) (by kernel_rfl) ?_)
                                (try simp only [Act.put, List.setIfInBounds_toArray, List.set_cons_zero, List.set_cons_succ])
                                refine takeAt (i := 16) (d := 173) (v := ?_) rfl (by kernel_rfl) (by kernel_rfl) (by kernel_rfl) (by kernel_rfl) (fun _ _ _ h => h) (Or.inl ⟨by kernel_rfl, ?_⟩) (by assumption) ?_
                                rotate_left
                                · (intro w hSw; (try dsimp only at hSw); go_simp; all_goals (with_reducible rfl))
                                (try simp only [Act.put, List.setIfInBounds_toArray, List.set_cons_zero, List.set_cons_succ])
                                refine takeAt (i := 17) (d := 174) (v := ?_) rfl (by kernel_rfl) (by kernel_rfl) (by kernel_rfl) (by kernel_rfl) (fun _ _ _ h => h) (Or.inl ⟨by kernel_rfl, ?_⟩) (by assumption) ?_
                                rotate_left
                                · (intro w hSw; (try dsimp only at hSw); go_simp; all_goals (with_reducible rfl))
                                (try simp only [Act.put, List.setIfInBounds_toArray, List.set_cons_zero, List.set_cons_succ])
                                refine wpAnyH_ready (rs := [18]) (by kernel_rfl) (by simp) ?_
                                refine AllReadyH.cons rfl (fun K hK => ?_) AllReadyH.nil
                                have n9 := (Keeps.refl (fun b => b ≠ mb) wb).setCell (a := ⟨mb, 2, none⟩) (by simp) (.slice (some ⟨g9, 0, none⟩) (gs.length + 1) cap9)
                                have hpc := row_cell ((n9.block _ (row_lt hp9) n2).trans hp9) 0 rfl
                                have hrx := (n9.block _ (row_lt hr9) n1).trans hr9
                                have hrc := row_cell hrx 0 rfl
                                have hgx := (n9.block _ (row_lt hg9) n3).trans hg9
                                have hg0 := row_cell hgx 0 rfl
                                have hg1 := row_cell hgx 1 rfl
                                have hg2 := row_cell hgx 2 rfl
                                have PP := HMA.out.grow (e := glE (.slice a3 gs.length c3) gs) (e' := glE (.slice (some ⟨g9, 0, none⟩) (gs.length + 1) cap9) (gs ++ [⟨c, mu, G⟩])) (i := 2) (x' := { mqZ with tv := tv, ts := ts, hv := hv, hs := hs, gv := .slice (some ⟨g9, 0, none⟩) (gs.length + 1) cap9, gs := gs ++ [⟨c, mu, G⟩] }) (X' := []) ((List.Perm.cons _ (List.Perm.swap _ _ _)).trans (List.Perm.swap _ _ _)) ((List.Perm.cons _ (List.Perm.swap _ _ _)).trans (List.Perm.swap _ _ _)) rfl rfl hgrow9 (by simpa [glE, glC] using hown9) (at_of5 hat9 (by show (w9.alloc _).heap.size ≤ _; rw [World.size_alloc]; exact Nat.le_refl _))
                                have HMZ := Lib.hid PP.1
                                have HKZ := Lib.hid (HKA.out.trans PP.2)
                                have HRZ := Lib.hid hrx
                                go_simp
                                refine hK.out _ _ ⟨hrc, hpc, hg0, hg1, hg2⟩ (fun hHeld => ?_)
                                clear hK K
                                (try simp only [Act.put, List.setIfInBounds_toArray, List.set_cons_zero, List.set_cons_succ])
                                refine wpAnyH_done (by kernel_rfl) ?_ _
                                have HP8 : Hid (RepAt (fun _ => rglob) n b q (gs ++ [⟨c, mu, G⟩]) y) := Lib.hid (HP.out.good (by rw [HL.out]; exact hlt) S9.out)
                                have HL8 : Hid ((gs ++ [(⟨c, mu, G⟩ : GlobD)]).length = k + 1) := Lib.hid (by rw [List.length_append, HL.out]; rfl)
                                clear HP HL S9 PP HMA HKA HRA HOA HGA HM9 HK9 HR9 HG9
                                go_wp2_with fail
                                go_roundw
                                case rel => exact ⟨k + 1, y, _, _, by omega, by go_num, HMZ, HKZ, HRZ, HP8, HL8⟩
                                case measure => simp [intOf]; omega
                              · go_simp
                                refine hK.out _ _ ⟨z0, z1, z3, z4, z5⟩ (fun hHeld => ?_)
                                clear hK K
                                (try refine stateAt (d := 171) (by kernel_rfl) ?_)
                                (try simp only [Act.put, List.setIfInBounds_toArray, List.set_cons_zero, List.set_cons_succ])
                                refine wpAnyH_ready (rs := [12]) (by kernel_rfl) (by simp) ?_
                                refine AllReadyH.cons rfl (fun K hK => ?_) AllReadyH.nil
                                go_simp
                                refine hK.out _ _ ⟨z0, z1, z3, z4, z5⟩ (fun hHeld => ?_)
                                clear hK K
                                (try refine stateAt (d := 169) (by kernel_rfl) ?_)
                                (try simp only [Act.put, List.setIfInBounds_toArray, List.set_cons_zero, List.set_cons_succ])
                                refine wpAnyH_ready (rs := [15]) (by kernel_rfl) (by simp) ?_
                                refine AllReadyH.cons rfl (fun K hK => ?_) AllReadyH.nil
                                clear hHeld
                                refine step_append_lies _ (by rfl) _ _ 24 (by rfl) B 86 i2 _ 3 16 Tryd.underlying24 hg hx0 hx1 hx2 rfl (by omega) (.slice a3 gs.length c3) gs.length (gs.flatMap glC) (by rfl) HOA.out ⟨w9.heap.size, 0, none⟩ 1 1 [.int .u8 c, .bool mu, .int .u64 G] (by rfl) (by rfl) (news3 w9.drew _ _ _ _) (by simp [Value.oneCell']) (by omega) (by unfold maxLen; omega) (by omega) (by show B ≤ (w9.alloc _).heap.size; rw [World.size_alloc]; omega) (w9.heap.size + 1) (by show (w9.alloc _).heap.size = _; rw [World.size_alloc]) ?_
                                intro g9 cap9 wb hown9 hgrow9 hat9 hlt9
                                have hm9 := grown_block hgrow9 HMA.out.mrow HNM.out
                                have c9 := row_cell hm9 2 rfl
                                have f9 := row_free hm9 2
                                have hp9 := grown_block hgrow9 HMA.out.rm.row HNP.out
                                have hr9 := grown_block hgrow9 HRA.out HNR.out
                                have hg9 := grown_block hgrow9 HGA.out HNG.out
                                have d9 := row_cell hp9 0 rfl
                                have e9 := row_cell hr9 0 rfl
                                have y09 := row_cell hg9 0 rfl
                                have y19 := row_cell hg9 1 rfl
                                have y29 := row_cell hg9 2 rfl
                                refine hK.out _ _ ⟨e9, d9, y09, y19, y29⟩ (fun hHeld => ?_)
                                clear hK K
                                (try refine stateAt (d := 172) (by kernel_rfl) ?_)
                                (try simp only [Act.put, List.setIfInBounds_toArray, List.set_cons_zero, List.set_cons_succ])
                                refine takeAt (i := 16) (d := 173) (v := ?_) rfl (by kernel_rfl) (by kernel_rfl) (by kernel_rfl) (by kernel_rfl) (fun _ _ _ h => h) (Or.inl ⟨by kernel_rfl, ?_⟩) (by assumption) ?_
                                rotate_left
                                · (intro w hSw; (try dsimp only at hSw); go_simp; all_goals (with_reducible rfl))
                                (try simp only [Act.put, List.setIfInBounds_toArray, List.set_cons_zero, List.set_cons_succ])
                                refine takeAt (i := 17) (d := 174) (v := ?_) rfl (by kernel_rfl) (by kernel_rfl) (by kernel_rfl) (by kernel_rfl) (fun _ _ _ h => h) (Or.inl ⟨by kernel_rfl, ?_⟩) (by assumption) ?_
                                rotate_left
                                · (intro w hSw; (try dsimp only at hSw); go_simp; all_goals (with_reducible rfl))
                                (try simp only [Act.put, List.setIfInBounds_toArray, List.set_cons_zero, List.set_cons_succ])
                                refine wpAnyH_ready (rs := [18]) (by kernel_rfl) (by simp) ?_
                                refine AllReadyH.cons rfl (fun K hK => ?_) AllReadyH.nil
                                have n9 := (Keeps.refl (fun b => b ≠ mb) wb).setCell (a := ⟨mb, 2, none⟩) (by simp) (.slice (some ⟨g9, 0, none⟩) (gs.length + 1) cap9)
                                have hpc := row_cell ((n9.block _ (row_lt hp9) n2).trans hp9) 0 rfl
                                have hrx := (n9.block _ (row_lt hr9) n1).trans hr9
                                have hrc := row_cell hrx 0 rfl
                                have hgx := (n9.block _ (row_lt hg9) n3).trans hg9
                                have hg0 := row_cell hgx 0 rfl
                                have hg1 := row_cell hgx 1 rfl
                                have hg2 := row_cell hgx 2 rfl
                                have PP := HMA.out.grow (e := glE (.slice a3 gs.length c3) gs) (e' := glE (.slice (some ⟨g9, 0, none⟩) (gs.length + 1) cap9) (gs ++ [⟨c, mu, G⟩])) (i := 2) (x' := { mqZ with tv := tv, ts := ts, hv := hv, hs := hs, gv := .slice (some ⟨g9, 0, none⟩) (gs.length + 1) cap9, gs := gs ++ [⟨c, mu, G⟩] }) (X' := []) ((List.Perm.cons _ (List.Perm.swap _ _ _)).trans (List.Perm.swap _ _ _)) ((List.Perm.cons _ (List.Perm.swap _ _ _)).trans (List.Perm.swap _ _ _)) rfl rfl hgrow9 (by simpa [glE, glC] using hown9) (at_of5 hat9 (by show (w9.alloc _).heap.size ≤ _; rw [World.size_alloc]; exact Nat.le_refl _))
                                have HMZ := Lib.hid PP.1
                                have HKZ := Lib.hid (HKA.out.trans PP.2)
                                have HRZ := Lib.hid hrx
                                go_simp
                                refine hK.out _ _ ⟨hrc, hpc, hg0, hg1, hg2⟩ (fun hHeld => ?_)
                                clear hK K
                                (try simp only [Act.put, List.setIfInBounds_toArray, List.set_cons_zero, List.set_cons_succ])
                                refine wpAnyH_done (by kernel_rfl) ?_ _
                                have HP8 : Hid (RepAt (fun _ => rglob) n b q (gs ++ [⟨c, mu, G⟩]) y) := Lib.hid (HP.out.good (by rw [HL.out]; exact hlt) S9.out)
                                have HL8 : Hid ((gs ++ [(⟨c, mu, G⟩ : GlobD)]).length = k + 1) := Lib.hid (by rw [List.length_append, HL.out]; rfl)
                                clear HP HL S9 PP HMA HKA HRA HOA HGA HM9 HK9 HR9 HG9
                                go_wp2_with fail
                                go_roundw
                                case rel => exact ⟨k + 1, y, _, _, by omega, by go_num, HMZ, HKZ, HRZ, HP8, HL8⟩
                                case measure => simp [intOf]; omega
                          · have hz1 : (z == 0) = false := by simp [hz]
                            have HZN := Lib.hid hz
                            clear hz
                            go_wp2_with (go_at_call 20; refine (mod_ask _ _ _ _).mono ?_; rintro r w1 ⟨rfl, hw1'⟩; obtain rfl := hw1'.symm)
                            exact ⟨rfl, .inr ⟨_, _, HBAD.out _ (by have := rglob_5 S1.out HIL.out S2.out hd1 (by rw [HZ.out]; exact HZN.out); rw [HZ.out] at this; exact this), rfl, HK8.out⟩⟩
                        · have hdd : decide ((d : Int) ≤ 1) = false := decide_eq_false (by omega)
                          go_wp2_with (go_at_call 20; refine (mod_ask _ _ _ _).mono ?_; rintro r w1 ⟨rfl, hw1'⟩; obtain rfl := hw1'.symm)
                          exact ⟨rfl, .inr ⟨_, _, HBAD.out _ (rglob_4 S1.out HIL.out S2.out hd1), rfl, HK6.out⟩⟩
                  · obtain rfl : k = n := by omega
                    have HGS : Hid (rmany 64 (fun _ => rglob) b q' = .ok (gs, q0')) := Lib.hid (many_good HN.out (HP.out.done HL.out))
                    clear HN HP HL hk hn hlt
                    have HBAD := Lib.hid (fun (z : Int × Nat) (hz : rint 64 17 b q0' = .error z) => (show rhd b at_ = .error z from bind_bad2 HTS.out (bind_bad2 HHS.out (bind_bad2 HGS.out (bind_bad1 hz)))))
                    have HU1 := Lib.hid (fun wx (hx : Rm S wx p mb bv b al q0') f (hf : Up wx f 64 17 p) => rm_upTo hx HB.out HSP.out 64 64 rfl 17 (by decide) (by omega) f hf)
                    obtain ⟨p0, _, _, _⟩ := HM.out.pc
                    go_wp2_with fail
                    go_cut [] (fun wx => ∃ (first q2 : Nat), Hid (rnum 64 17 b q0' = .ok (first, q2)) ∧ Hid (Md S B wx p mb bv b al q2 { mqZ with tv := tv, ts := ts, hv := hv, hs := hs, gv := gv, gs := gs, first := first } []) ∧ Hid (Kp B p mb w wx) ∧ Hid (wx.heap[rb]? = some (.cells #[.pointer (some ⟨p, 0, none⟩)] 66 (0, 0))))
                    case first =>
                      refine wp_region_held_drew (S := (fun wx => wx.cell? ⟨rb, 0, none⟩ = some (.pointer (some ⟨p, 0, none⟩)) ∧ wx.cell? ⟨p, 0, none⟩ = some (.pointer (some ⟨mb, 0, none⟩)))) (by kernel_rfl) ⟨q0, p0⟩ (fun hHeld => ?_)
                      refine takeAt (i := 0) (d := 176) (v := ?_) rfl (by kernel_rfl) (by kernel_rfl) (by kernel_rfl) (by kernel_rfl) (fun _ _ _ h => h) (Or.inl ⟨by kernel_rfl, ?_⟩) (by assumption) ?_
                      rotate_left
                      · (intro w hSw; (try dsimp only at hSw); go_simp; all_goals (with_reducible rfl))
                      (try simp only [Act.put, List.setIfInBounds_toArray, List.set_cons_zero, List.set_cons_succ])
                      refine takeAt (i := 1) (d := 177) (v := ?_) rfl (by kernel_rfl) (by kernel_rfl) (by kernel_rfl) (by kernel_rfl) (fun _ _ _ h => h) (Or.inl ⟨by kernel_rfl, ?_⟩) (by assumption) ?_
                      rotate_left
                      · (intro w hSw; (try dsimp only at hSw); go_simp; all_goals (with_reducible rfl))
                      (try simp only [Act.put, List.setIfInBounds_toArray, List.set_cons_zero, List.set_cons_succ])
                      refine takeAt (i := 2) (d := 178) (v := ?_) rfl (by kernel_rfl) (by kernel_rfl) (by kernel_rfl) (by kernel_rfl) (fun _ _ _ h => h) (Or.inl ⟨by kernel_rfl, ?_⟩) (by assumption) ?_
                      rotate_left
                      · (intro w hSw; (try dsimp only at hSw); go_simp; all_goals (with_reducible rfl))
                      (try simp only [Act.put, List.setIfInBounds_toArray, List.set_cons_zero, List.set_cons_succ])
                      refine takeAt (i := 3) (d := 179) (v := ?_) rfl (by kernel_rfl) (by kernel_rfl) (by kernel_rfl) (by kernel_rfl) (fun _ _ _ h => h) (Or.inl ⟨by kernel_rfl, ?_⟩) (by assumption) ?_
                      rotate_left
                      · (intro w hSw; (try dsimp only at hSw); go_simp; all_goals (with_reducible rfl))
                      (try simp only [Act.put, List.setIfInBounds_toArray, List.set_cons_zero, List.set_cons_succ])
                      refine takeAt (i := 4) (d := 180) (v := ?_) rfl (by kernel_rfl) (by kernel_rfl) (by kernel_rfl) (by kernel_rfl) (fun _ _ _ h => h) (Or.inl ⟨by kernel_rfl, ?_⟩) (by assumption) ?_
                      rotate_left
                      · (intro w hSw; (try dsimp only at hSw); go_simp; all_goals (with_reducible rfl))
                      (try simp only [Act.put, List.setIfInBounds_toArray, List.set_cons_zero, List.set_cons_succ])
                      refine takeAt (i := 5) (d := 181) (v := ?_) rfl (by kernel_rfl) (by kernel_rfl) (by kernel_rfl) (by kernel_rfl) (fun _ _ _ h => h) (Or.inl ⟨by kernel_rfl, ?_⟩) (by assumption) ?_
                      rotate_left
                      · (intro w hSw; (try dsimp only at hSw); go_simp; all_goals (with_reducible rfl))
                      (try simp only [Act.put, List.setIfInBounds_toArray, List.set_cons_zero, List.set_cons_succ])
                      refine wpAnyH_ready (rs := [6]) (by kernel_rfl) (by simp) ?_
                      refine AllReadyH.cons rfl (fun K hK => ?_) AllReadyH.nil
                      clear hHeld
                      go_simp
                      refine (mod_upTo _ 64 17).mono ?_
                      rintro e w2 ⟨f, rfl, hb2, hup⟩
                      have hb3 := below_next (drew_bel wr) hb2
                      have HM2 := Lib.hid (HM.out.on hb3)
                      have HK2 := Lib.hid (HK.out.trans (Kp.on (B := B) (p := p) (mb := mb) hb3))
                      have HR2 := Lib.hid ((hb3.block _ (row_lt HR.out)).trans HR.out)
                      have r2 := cell_below hb3 q0; have p2 := cell_below hb3 p0
                      clear hb2 hb3
                      go_wp2_with fail
                      refine hK.out _ _ ⟨r2, p2⟩ (fun hHeld => ?_)
                      clear hK K
                      (try refine stateAt (d := 182) (by kernel_rfl) ?_)
                      (try simp only [Act.put, List.setIfInBounds_toArray, List.set_cons_zero, List.set_cons_succ])
                      refine wpAnyH_ready (rs := [7]) (by kernel_rfl) (by simp) ?_
                      refine AllReadyH.cons rfl (fun K hK => ?_) AllReadyH.nil
                      clear hHeld
                      go_simp
                      refine (HU1.out _ HM2.out.rm f (hup p)).mono ?_
                      rintro e w3 (⟨n9, q2, h1, rfl, h2, h3⟩ | ⟨z, kk, h1, rfl, h3⟩)
                      rotate_left
                      · exact ⟨rfl, .inr ⟨_, _, HBAD.out _ (rint_bad h1), rfl, HK2.out.trans (Kp.read h3)⟩⟩
                      have HM3 := Lib.hid (HM2.out.read h2 h3)
                      have HK3 : Hid (Kp B p mb w w3) := Lib.hid (HK2.out.trans (Kp.read h3))
                      have HR3 := Lib.hid ((h3.block _ (row_lt HR2.out) (row_ne HR2.out HM2.out.rm.row (by decide))).trans HR2.out)
                      have S3 := Lib.hid h1
                      clear h1 h2 h3 r2 p2 hup
                      have r3 := row_cell HR3.out 0 rfl
                      have p3 := HM3.out.pc.1
                      simp only [List.getElem_toArray, List.getElem_cons_zero] at r3
                      go_wp2_with fail
                      refine hK.out _ _ ⟨r3, p3⟩ (fun hHeld => ?_)
                      clear hK K
                      (try refine stateAt (d := 183) (by kernel_rfl) ?_)
                      (try simp only [Act.put, List.setIfInBounds_toArray, List.set_cons_zero, List.set_cons_succ])
                      refine takeAt (i := 8) (d := 184) (v := ?_) rfl (by kernel_rfl) (by kernel_rfl) (by kernel_rfl) (by kernel_rfl) (fun _ _ _ h => h) (Or.inl ⟨by kernel_rfl, ?_⟩) (by assumption) ?_
                      rotate_left
                      · (intro w hSw; (try dsimp only at hSw); go_simp; all_goals (with_reducible rfl))
                      (try simp only [Act.put, List.setIfInBounds_toArray, List.set_cons_zero, List.set_cons_succ])
                      refine takeAt (i := 9) (d := 185) (v := ?_) rfl (by kernel_rfl) (by kernel_rfl) (by kernel_rfl) (by kernel_rfl) (fun _ _ _ h => h) (Or.inl ⟨by kernel_rfl, ?_⟩) (by assumption) ?_
                      rotate_left
                      · (intro w hSw; (try dsimp only at hSw); go_simp; all_goals (with_reducible rfl))
                      (try simp only [Act.put, List.setIfInBounds_toArray, List.set_cons_zero, List.set_cons_succ])
                      refine wpAnyH_ready (rs := [10]) (by kernel_rfl) (by simp) ?_
                      refine AllReadyH.cons rfl (fun K hK => ?_) AllReadyH.nil
                      have mc3 := HM3.out.mc (i := 3) rfl
                      obtain ⟨m3c, m3f⟩ := mc3
                      have n1 : rb ≠ mb := row_ne HR3.out HM3.out.mrow (by decide)
                      have n2 : p ≠ mb := HM3.out.ne
                      have PM := HM3.out.put (x' := { mqZ with tv := tv, ts := ts, hv := hv, hs := hs, gv := gv, gs := gs, first := n9 }) 3 (.int .i64 n9) rfl rfl
                      have ks := (Keeps.refl (fun b => b ≠ mb) w3).setCell (a := ⟨mb, 3, none⟩) (by simp) (.int .i64 n9)
                      have hrx := (ks.block _ (row_lt HR3.out) n1).trans HR3.out
                      have hrc := row_cell hrx 0 rfl
                      have hpc := PM.1.pc.1
                      have HMZ := Lib.hid PM.1
                      have HKZ := Lib.hid (HK3.out.trans PM.2)
                      have HRZ := Lib.hid hrx
                      clear PM ks hrx
                      go_simp
                      refine hK.out _ _ ⟨hrc, hpc⟩ (fun hHeld => ?_)
                      clear hK K
                      (try simp only [Act.put, List.setIfInBounds_toArray, List.set_cons_zero, List.set_cons_succ])
                      refine wpAnyH_done (by kernel_rfl) ?_ _
                      go_wp2_with fail
                      go_meet
                      exact ⟨n9, q2, S3, HMZ, HKZ, HRZ⟩
                    case rest =>
                      clear HM HK HR HU1 q0 p0
                      obtain ⟨first, q2, S1, HM, HK, HR⟩ := hcut
                      have HBAD2 := Lib.hid (fun (z : Int × Nat) (hz : rmost first b q2 = .error z) => (show rhd b at_ = .error z from bind_bad2 HTS.out (bind_bad2 HHS.out (bind_bad2 HGS.out (bind_bad2 (rint_good S1.out) hz)))))
                      have HGOOD := Lib.hid (fun (m : Int) (q9 : Nat) (hz : rmost first b q2 = .ok (m, q9)) => (show rhd b at_ = .ok ((ts, hs, gs, (first : Int), m), q9) from bind_good HTS.out (bind_good HHS.out (bind_good HGS.out (bind_good (rint_good S1.out) hz)))))
                      clear HBAD
                      have hf64 := (rnum_le5 S1.out).1
                      have q0 := row_cell HR.out 0 rfl
                      obtain ⟨p0, _, _, _⟩ := HM.out.pc
                      have m3 := (HM.out.mc (i := 3) rfl).1
                      simp only [List.getElem_toArray, List.getElem_cons_zero] at q0
                      go_wp2_with fail
                      refine wp_region_held_drew (S := (fun wx => wx.cell? ⟨rb, 0, none⟩ = some (.pointer (some ⟨p, 0, none⟩)) ∧ wx.cell? ⟨p, 0, none⟩ = some (.pointer (some ⟨mb, 0, none⟩)))) (by kernel_rfl) ⟨q0, p0⟩ (fun hHeld => ?_)
                      refine takeAt (i := 0) (d := 186) (v := ?_) rfl (by kernel_rfl) (by kernel_rfl) (by kernel_rfl) (by kernel_rfl) (fun _ _ _ h => h) (Or.inl ⟨by kernel_rfl, ?_⟩) (by assumption) ?_
                      rotate_left
                      · (intro w hSw; (try dsimp only at hSw); go_simp; all_goals (with_reducible rfl))
                      (try simp only [Act.put, List.setIfInBounds_toArray, List.set_cons_zero, List.set_cons_succ])
                      refine takeAt (i := 1) (d := 187) (v := ?_) rfl (by kernel_rfl) (by kernel_rfl) (by kernel_rfl) (by kernel_rfl) (fun _ _ _ h => h) (Or.inl ⟨by kernel_rfl, ?_⟩) (by assumption) ?_
                      rotate_left
                      · (intro w hSw; (try dsimp only at hSw); go_simp; all_goals (with_reducible rfl))
                      (try simp only [Act.put, List.setIfInBounds_toArray, List.set_cons_zero, List.set_cons_succ])
                      refine takeAt (i := 2) (d := 188) (v := ?_) rfl (by kernel_rfl) (by kernel_rfl) (by kernel_rfl) (by kernel_rfl) (fun _ _ _ h => h) (Or.inl ⟨by kernel_rfl, ?_⟩) (by assumption) ?_
                      rotate_left
                      · (intro w hSw; (try dsimp only at hSw); go_simp; all_goals (with_reducible rfl))
                      (try simp only [Act.put, List.setIfInBounds_toArray, List.set_cons_zero, List.set_cons_succ])
                      refine takeAt (i := 3) (d := 189) (v := ?_) rfl (by kernel_rfl) (by kernel_rfl) (by kernel_rfl) (by kernel_rfl) (fun _ _ _ h => h) (Or.inl ⟨by kernel_rfl, ?_⟩) (by assumption) ?_
                      rotate_left
                      · (intro w hSw; (try dsimp only at hSw); go_simp; all_goals (with_reducible rfl))
                      (try simp only [Act.put, List.setIfInBounds_toArray, List.set_cons_zero, List.set_cons_succ])
                      refine takeAt (i := 4) (d := 190) (v := ?_) rfl (by kernel_rfl) (by kernel_rfl) (by kernel_rfl) (by kernel_rfl) (fun _ _ _ h => h) (Or.inl ⟨by kernel_rfl, ?_⟩) (by assumption) ?_
                      rotate_left
                      · (intro w hSw; (try dsimp only at hSw); go_simp; all_goals (with_reducible rfl))
                      (try simp only [Act.put, List.setIfInBounds_toArray, List.set_cons_zero, List.set_cons_succ])
                      refine takeAt (i := 5) (d := 191) (v := ?_) rfl (by kernel_rfl) (by kernel_rfl) (by kernel_rfl) (by kernel_rfl) (fun _ _ _ h => h) (Or.inl ⟨by kernel_rfl, ?_⟩) (by assumption) ?_
                      rotate_left
                      · (intro w hSw; (try dsimp only at hSw); go_simp; all_goals (with_reducible rfl))
                      (try simp only [Act.put, List.setIfInBounds_toArray, List.set_cons_zero, List.set_cons_succ])
                      refine wpAnyH_ready (rs := [6]) (by kernel_rfl) (by simp) ?_
                      refine AllReadyH.cons rfl (fun K hK => ?_) AllReadyH.nil
                      go_simp
                      refine hK.out _ _ hHeld (fun hHeld => ?_)
                      clear hK K
                      (try refine stateAt (d := 192) (by kernel_rfl) ?_)
                      (try simp only [Act.put, List.setIfInBounds_toArray, List.set_cons_zero, List.set_cons_succ])
                      refine wpAnyH_ready (rs := [7]) (by kernel_rfl) (by simp) ?_
                      refine AllReadyH.cons rfl (fun K hK => ?_) AllReadyH.nil
                      clear hHeld
                      have HMD := Lib.hid (HM.out.on (drew_bel _))
                      have HKD := Lib.hid (HK.out.trans (Kp.on (B := B) (p := p) (mb := mb) (drew_bel _)))
                      have HRD := Lib.hid (((drew_bel _).block _ (row_lt HR.out)).trans HR.out)
                      go_simp
                      refine (rm_most HMD.out.rm HB.out HSP.out rb first q0 m3 hf64).mono ?_
                      rintro e w3 (⟨n9, q9, h1, rfl, h2, h3⟩ | ⟨z, kk, h1, rfl, h3⟩)
                      rotate_left
                      · exact ⟨rfl, .inr ⟨_, _, HBAD2.out _ h1, rfl, HKD.out.trans (Kp.read h3)⟩⟩
                      have HM3 := Lib.hid (HMD.out.read h2 h3)
                      have HK3 : Hid (Kp B p mb w w3) := Lib.hid (HKD.out.trans (Kp.read h3))
                      have HR3 := Lib.hid ((h3.block _ (row_lt HRD.out) (row_ne HRD.out HMD.out.rm.row (by decide))).trans HRD.out)
                      have S3 := Lib.hid h1
                      clear h1 h2 h3 q0 p0 m3 HM HK HR HMD HKD HRD
                      have r3 := row_cell HR3.out 0 rfl
                      have p3 := HM3.out.pc.1
                      simp only [List.getElem_toArray, List.getElem_cons_zero] at r3
                      go_wp2_with fail
                      refine hK.out _ _ ⟨r3, p3⟩ (fun hHeld => ?_)
                      clear hK K
                      (try refine stateAt (d := 193) (by kernel_rfl) ?_)
                      (try simp only [Act.put, List.setIfInBounds_toArray, List.set_cons_zero, List.set_cons_succ])
                      refine takeAt (i := 8) (d := 194) (v := ?_) rfl (by kernel_rfl) (by kernel_rfl) (by kernel_rfl) (by kernel_rfl) (fun _ _ _ h => h) (Or.inl ⟨by kernel_rfl, ?_⟩) (by assumption) ?_
                      rotate_left
                      · (intro w hSw; (try dsimp only at hSw); go_simp; all_goals (with_reducible rfl))
                      (try simp only [Act.put, List.setIfInBounds_toArray, List.set_cons_zero, List.set_cons_succ])
                      refine takeAt (i := 9) (d := 195) (v := ?_) rfl (by kernel_rfl) (by kernel_rfl) (by kernel_rfl) (by kernel_rfl) (fun _ _ _ h => h) (Or.inl ⟨by kernel_rfl, ?_⟩) (by assumption) ?_
                      rotate_left
                      · (intro w hSw; (try dsimp only at hSw); go_simp; all_goals (with_reducible rfl))
                      (try simp only [Act.put, List.setIfInBounds_toArray, List.set_cons_zero, List.set_cons_succ])
                      refine wpAnyH_ready (rs := [10]) (by kernel_rfl) (by simp) ?_
                      refine AllReadyH.cons rfl (fun K hK => ?_) AllReadyH.nil
                      have mc3 := HM3.out.mc (i := 4) rfl
                      obtain ⟨m3c, m3f⟩ := mc3
                      have n1 : rb ≠ mb := row_ne HR3.out HM3.out.mrow (by decide)
                      have n2 : p ≠ mb := HM3.out.ne
                      have PM := HM3.out.put (x' := { mqZ with tv := tv, ts := ts, hv := hv, hs := hs, gv := gv, gs := gs, first := first, most := n9 }) 4 (.int .i64 n9) rfl rfl
                      have ks := (Keeps.refl (fun b => b ≠ mb) w3).setCell (a := ⟨mb, 4, none⟩) (by simp) (.int .i64 n9)
                      have hrx := (ks.block _ (row_lt HR3.out) n1).trans HR3.out
                      have hrc := row_cell hrx 0 rfl
                      have hpc := PM.1.pc.1
                      have HMZ := Lib.hid PM.1
                      have HKZ := Lib.hid (HK3.out.trans PM.2)
                      have HRZ := Lib.hid hrx
                      clear PM ks hrx
                      go_simp
                      refine hK.out _ _ ⟨hrc, hpc⟩ (fun hHeld => ?_)
                      clear hK K
                      (try simp only [Act.put, List.setIfInBounds_toArray, List.set_cons_zero, List.set_cons_succ])
                      refine wpAnyH_done (by kernel_rfl) ?_ _
                      go_wp2_with fail
                      go_end0
                      exact .inl ⟨_, q9, HGOOD.out _ _ S3.out, rfl, ⟨_, HMZ.out, rfl, rfl, rfl, rfl, rfl, rfl, rfl, rfl, rfl, rfl, rfl⟩, HKZ.out⟩
end Go.Proofs.YteaolgldkfjdkaaDoor
