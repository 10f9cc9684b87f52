/- control.Map. -/
import Derived.Test.YtfhkjahjenpbgaaDoorMCtl
import Derived.Test.YtfhkjahjenpbgaaDoorFilled
namespace Go.Proofs.YtfhkjahjenpbgaaDoor
open Go Go.RowKit
set_option linter.unusedSimpArgs false

theorem Tryd.infoOpened : (Tryd.prog.info? 109).map (fun i => (i.zero, i.size, i.bytes)) = some (some (.agg #[.int .i64 0, .int .i64 0]), 2, 16) := by kernel_rfl
theorem stk_form {w : World} {B e size n : Nat} {v : Value} {xs : List Value} (h : w.ownsRow B e size v (n + 1) xs) : ∃ g c, v = .slice (some ⟨g, 0, none⟩) (n + 1) c ∧ n + 1 ≤ c ∧ B ≤ g ∧ g < w.heap.size := by
  rcases h.2 with ⟨_, h0⟩ | ⟨g, c, cur, rfl, hb, hg, hn, _⟩
  · omega
  · exact ⟨g, c, rfl, hn, hb, row_lt hg⟩
theorem cell_two_new (w : World) (x y : Value) (t : TypeId) : ∀ j u, [x, y][j]? = some u → (w.alloc (.cells #[x, y] t)).cell? ((⟨w.heap.size, 0, none⟩ : Addr).add j) = some u := by
  intro j u hu
  have e : (⟨w.heap.size, 0, none⟩ : Addr).add j = ⟨w.heap.size, j, none⟩ := by unfold Addr.add; split <;> simp_all
  rw [e, cell_of_row _ _ j _ _ _ (heap_alloc_new _ _)]
  rw [← hu]; simp
set_option maxRecDepth 100000 in
set_option maxHeartbeats 6400000 in
theorem control_Map (w : World) (v : Value) (l : List InsD) (hc : Cd w v l) (hl : l.length ≤ 1048576) :
    Calls Tryd.prog 24 #[v] w fun e w' => ∃ v1 v2 v3, e = .returned (.tuple #[v1, v2, v3, .int .i64 (mapP (opsOf l)).2.2.2.1, .int .i64 (mapP (opsOf l)).2.2.2.2]) ∧ MapA w 3 (opsOf l) v1 v2 v3 w' := by
  obtain ⟨i0, hi, hz0, hz1, hz2⟩ := info_parts Tryd.infoOpened
  obtain ⟨va, vc, rfl, _⟩ := hc.len
  have HC := Lib.hid hc; clear hc
  go_enter Tryd.func24, Tryd.ntmps24
  go_wp2_with fail
  go_step3
  go_wp2_with fail
  refine (control_filled _ l.length (by omega)).mono ?_
  rintro e w1 ⟨v1, rfl, hb1, ho1⟩
  have HB1 := Lib.hid hb1; have HO1 := Lib.hid ho1; clear hb1 ho1
  go_wp2_with fail
  refine (control_filled _ l.length (by omega)).mono ?_
  rintro e w2 ⟨v2, rfl, hb2, ho2⟩
  have HB2 := Lib.hid hb2; have HO2 := Lib.hid ho2; clear hb2 ho2
  go_wp2_with fail
  refine (control_filled _ l.length (by omega)).mono ?_
  rintro e w3 ⟨v3, rfl, hb3, ho3⟩
  have HR : Hid (R3 w.heap.size 3 w3 v1 v2 v3 (List.replicate l.length (-1)) (List.replicate l.length (-1)) (List.replicate l.length (-1))) := Lib.hid (by
    have s1 := HB1.out.size; have s2 := HB2.out.size
    exact ⟨own_below (own_below HO1.out HB2.out) hb3, own_base (own_below HO2.out hb3) s1, own_base ho3 (Nat.le_trans s1 s2),
      fun g h1 h2 => by have a := (HO1.out.lt g h1).2; have b := (HO2.out.lt g h2).1; omega,
      fun g h1 h2 => by have a := (HO1.out.lt g h1).2; have b := (ho3.lt g h2).1; omega,
      fun g h1 h2 => by have a := (HO2.out.lt g h1).2; have b := (ho3.lt g h2).1; omega⟩)
  have HB := Lib.hid (below_next HB1.out (below_next HB2.out hb3))
  clear hb3 ho3 HB1 HB2 HO1 HO2
  go_wp2_with fail
  go_step3
  have hm0 : Hid (Mw w 3 109 2 Kp 1 l v1 v2 v3 (w3.alloc (.cells #[.int .i64 (-1), .int .i64 (-1)] 109)) (.slice (some ⟨w3.heap.size, 0, none⟩) 1 1) 0 (startM l.length)) := Lib.hid (by
    refine ⟨⟨below_next HB.out (below_alloc _ _), HR.out.on (below_alloc _ _), ?_, fun g hg => ?_⟩, by have := startM_in (opsOf l); rw [opsOf_len] at this; exact this, by rw [opsOf_len]; rfl⟩
    · exact World.ownsRow_lit w3 #[.int .i64 (-1), .int .i64 (-1)] 1 HB.out.size (by decide) rfl
    · simp only [Value.ownBlock, Option.some.injEq] at hg
      subst hg
      exact ⟨fun e => by have := HR.out.r1.lt _ e; omega, fun e => by have := HR.out.r2.lt _ e; omega, fun e => by have := HR.out.r3.lt _ e; omega⟩)
  clear HR HB
  go_wp2_with fail
  go_loopw [2, 3, 4, 7, 24] (fun r1 r2 r3 ov i wr => ∃ (pc : Nat) (s : Ms), pc ≤ l.length ∧ r1 = v1 ∧ r2 = v2 ∧ r3 = v3 ∧ i = .int .i64 pc ∧ Hid (Mw w 3 109 2 Kp 1 l v1 v2 v3 wr ov pc s)) (fun _ _ _ _ i _ => l.length - (intOf i).toNat)
  case atStart => exact ⟨0, _, by omega, rfl, rfl, rfl, rfl, hm0⟩
  case round =>
    obtain ⟨pc, s, hpc, rfl, rfl, rfl, rfl, HM⟩ := hrel
    by_cases hlt : pc < l.length
    · obtain ⟨b, off, vl, rfl, x0, x1, x2, hrl⟩ := Cd.at_ (Cd.bel HC.out HM.out.mh.bel) hlt
      have hop : (opsOf l).getD pc 0 = l[pc].op := opsOf_at hlt
      have HOP := Lib.hid hop
      obtain ⟨al, cl, rfl, _⟩ := hrl.lenc
      have HL3 := Lib.hid HM.out.mh.rows.r3.lt
      clear hop hrl
      generalize l[pc].op = op at *
      generalize l[pc].a = xa at *
      generalize l[pc].l.length = ln at *
      go_upto_region 6 with fail
      have hbx := below_alloc wr (.cells #[.int .u8 op, .int .i64 xa, .slice al ln cl] 68)
      have hrx := heap_alloc_new wr (.cells #[.int .u8 op, .int .i64 xa, .slice al ln cl] 68)
      have HMx := Lib.hid (HM.out.on hbx)
      generalize wr.alloc (.cells #[.int .u8 op, .int .i64 xa, .slice al ln cl] 68) = wx at *
      generalize wr.heap.size = gx at *
      have HXr := Lib.hid hrx
      clear hbx hrx x0 x1 x2 HM
      obtain ⟨gs, cs, rfl, hcs, _, _⟩ := stk_form HMx.out.mh.stk
      have hk32 : s.open_.length ≤ 32 := HMx.out.inn.ok.deep
      obtain ⟨hy0, hy1⟩ := HMx.out.mh.tops
      obtain ⟨g3, c3, rfl, ⟨x3, _, hoc⟩, hof⟩ := HMx.out.mh.rows.r3.form (k := pc) HMx.out.le.2.2 hlt
      clear hm0
      go_upto_region 8 with fail
      have hg3 : gx ≠ g3 := by have := (HL3.out g3 rfl).2; omega
      have z0 : (wx.setCell ⟨g3, pc, none⟩ (.int .i64 s.top)).cell? ⟨gx, 0, none⟩ = some (.int .u8 op) := row_cell ((Below.heap_setCell _ _ _ _ hg3).trans HXr.out) 0 rfl
      have HN := Lib.hid (HMx.out.mh.set3 pc s.top)
      clear hy0 hy1 hoc hof HXr HL3 hg3
      generalize wx.setCell ⟨g3, pc, none⟩ (.int .i64 s.top) = wy at *
      obtain ⟨hy0, hy1⟩ := HN.out.tops
      have hyf0 := World.ownsRow.frozenAt HN.out.stk (s.open_.length * 2 + 1)
      by_cases h2 : op = 2 ∨ op = 3 ∨ op = 4
      · have hO : opensP ((opsOf l).getD pc 0) := by rw [HOP.out]; exact h2
        by_cases hd : s.open_.length = 32
        · have HF := Lib.hid (HMx.out.refuse hlt (step_deep hO hd) (by decide))
          have HZ := Lib.hid (mapA_none (T := 3) HN.out.bel HF.out)
          clear hO HMx
          rcases h2 with rfl | rfl | rfl
          all_goals
            go_wp2
            (try simp only [Exit.inBlock, Exit.then, Exit.noGoto_ret]); refine bodyPost_ret (results_tmp5 rfl _ _ _) rfl ?_
            rw [HF.out]
            exact ⟨_, _, _, rfl, HZ.out⟩
        · have HS := Lib.hid (step_open (s := s) hO hd)
          have hd' : s.open_.length < 32 := by omega
          have HP : Hid (s.elses[pc]? = some (-1)) := Lib.hid (HMx.out.inn.rest pc (Nat.le_refl _) (by rw [opsOf_len]; exact hlt))
          clear hO hd hy0 hy1
          have hb6 := below_alloc wy (.cells #[.int .i64 pc, .int .i64 (-1)] 109)
          have HN6 := Lib.hid (HN.out.on hb6)
          have hB6 := HN6.out.bel.size
          clear hb6
          rcases h2 with rfl | rfl | rfl
          all_goals
            go_wp2_with (at_builtin; refine wpList_append_kept _ rfl _ _ 110 rfl w.heap.size 109 i0 (.agg #[.int .i64 0, .int .i64 0]) 2 16 Tryd.underlying110 hi hz0 hz1 hz2 rfl (by decide) _ (s.open_.length + 1) (pairC s.stk) rfl HN6.out.stk ⟨wy.heap.size, 0, none⟩ 1 1 [.int .i64 pc, .int .i64 (-1)] rfl rfl (cell_two_new _ _ _ _) (by simp [Value.oneCell']) (by unfold maxLen; omega) (by omega) hB6 ?_)
            intro v' w7 ho hk hn
            have HN7 := Lib.hid (HMx.out.next hlt HS.out (wy := w7) (ov' := v') (by
              have e : Kp { s with owners := s.owners.set pc s.top, open_ := s.open_ ++ [pc] } = pairC s.stk ++ [.int .i64 pc, .int .i64 (-1)] := by
                show pairC _ = _
                rw [stk_push (s := s) (s' := { s with owners := s.owners.set pc s.top, open_ := s.open_ ++ [pc] }) (pc := pc) rfl rfl HP.out, pairC_app]; rfl
              rw [e]
              simpa using HN6.out.push ho hk.grown fun g hg => (hn g hg).imp id fun h => by rw [World.size_alloc]; exact h))
            clear ho hk hn
            go_wp2
            go_roundw
            case rel => exact ⟨pc + 1, _, by omega, rfl, rfl, rfl, by go_num, HN7⟩
            case measure => simp [intOf]; omega
      have hno : ¬ opensP ((opsOf l).getD pc 0) := by rw [HOP.out]; exact h2
      have hpn : pc ≤ (opsOf l).length := by rw [opsOf_len]; exact hpc
      by_cases h5 : op = 5
      · subst h5
        by_cases ht : s.top < 0
        · have HF := Lib.hid (HMx.out.refuse hlt (step_noelse HOP.out (.inl ht)) (by decide))
          have HZ := Lib.hid (mapA_none (T := 3) HN.out.bel HF.out)
          clear hno HMx
          go_wp2
          (try simp only [Exit.inBlock, Exit.then, Exit.noGoto_ret]); refine bodyPost_ret (results_tmp5 rfl _ _ _) rfl ?_
          rw [HF.out]
          exact ⟨_, _, _, rfl, HZ.out⟩
        have htl := top_lt HMx.out.inn ht
        have hoe := oth_eq HMx.out.inn hpn ht
        obtain ⟨tn, htn⟩ : ∃ tn : Nat, s.top = tn := ⟨s.top.toNat, by omega⟩
        have htt : s.top.toNat = tn := by omega
        have htnl : tn < l.length := by omega
        obtain ⟨b', off', vl', e7, x0, -, -, -⟩ := Cd.at_ (Cd.bel HC.out HN.out.bel) htnl
        simp only [Option.some.injEq, Addr.mk.injEq, and_true] at e7
        obtain ⟨rfl, rfl⟩ := e7
        have HT : Hid ((opsOf l).getD s.top.toNat 0 = (l[tn]'htnl).op) := Lib.hid (by rw [htt]; exact opsOf_at htnl)
        have HTN := Lib.hid (And.intro htn (And.intro htt hoe))
        rw [htt] at htl
        rw [htn] at hy0 ⊢
        clear htn htt hoe hno
        generalize (l[tn]'htnl).op = op' at *
        by_cases h4 : ¬ op' = 4
        · have HF := Lib.hid (HMx.out.refuse hlt (step_noelse HOP.out (.inr (.inl (by rw [HT.out]; exact h4)))) (by decide))
          have HZ := Lib.hid (mapA_none (T := 3) HN.out.bel HF.out)
          clear HMx
          go_wp2
          (try simp only [Exit.inBlock, Exit.then, Exit.noGoto_ret]); refine bodyPost_ret (results_tmp5 rfl _ _ _) rfl ?_
          rw [HF.out]
          exact ⟨_, _, _, rfl, HZ.out⟩
        obtain rfl : op' = 4 := Decidable.not_not.1 h4
        clear h4
        by_cases ho : 0 ≤ othP s
        · have HF := Lib.hid (HMx.out.refuse hlt (step_noelse HOP.out (.inr (.inr (by rw [← HTN.out.2.2]; exact ho)))) (by decide))
          have HZ := Lib.hid (mapA_none (T := 3) HN.out.bel HF.out)
          clear HMx
          go_wp2
          (try simp only [Exit.inBlock, Exit.then, Exit.noGoto_ret]); refine bodyPost_ret (results_tmp5 rfl _ _ _) rfl ?_
          rw [HF.out]
          exact ⟨_, _, _, rfl, HZ.out⟩
        · have HS := Lib.hid (step_else (s := s) HOP.out (by rw [HT.out, ← HTN.out.2.2]; omega))
          obtain ⟨g2, c2, rfl, ⟨x2', _, hpc2⟩, hpf2⟩ := HN.out.rows.r2.form (k := tn) HMx.out.le.2.1 (by omega)
          have hne : gs ≠ g2 := fun e => (HN.out.ds gs rfl).2.1 (by simp [Value.ownBlock, e])
          have HE := Lib.hid ((HN.out.top (s.open_.length * 2 + 1) (pc : Int)).set2 tn (pc : Int))
          have HK : Hid ((pairC s.stk).set (s.open_.length * 2 + 1) (.int .i64 (pc : Int)) = Kp { s with owners := s.owners.set pc s.top, elses := s.elses.set s.top.toNat pc }) := Lib.hid (by
            rw [pairC_set _ _ _ _ (stk_last s)]
            show _ = pairC _
            rw [stk_else (s' := { s with owners := s.owners.set pc s.top, elses := s.elses.set s.top.toNat pc }) HMx.out.inn ht rfl rfl (by rw [opsOf_len]; exact hlt)])
          have HN7 := Lib.hid (HMx.out.next hlt HS.out (wy := (wy.setCell ⟨gs, s.open_.length * 2 + 1, none⟩ (.int .i64 (pc : Int))).setCell ⟨g2, tn, none⟩ (.int .i64 (pc : Int))) (ov' := .slice (some ⟨gs, 0, none⟩) (s.open_.length + 1) cs) (by
            rw [← HK.out]
            have := HE.out
            rw [← HTN.out.2.1] at this ⊢
            exact this))
          clear HE HK HMx
          go_wp2
          go_roundw
          case rel => exact ⟨pc + 1, _, by omega, rfl, rfl, rfl, by go_num, HN7⟩
          case measure => simp [intOf]; omega
      by_cases h6 : op = 6
      · subst h6
        by_cases ht : s.top < 0
        · have HS := Lib.hid (step_last (s := s) HOP.out ht)
          by_cases hr : pc + 1 < l.length
          · have HF := Lib.hid (HMx.out.rest hlt HS.out hr)
            have HZ := Lib.hid (mapA_none (T := 3) HN.out.bel HF.out)
            clear hno HMx HS
            go_wp2
            (try simp only [Exit.inBlock, Exit.then, Exit.noGoto_ret]); refine bodyPost_ret (results_tmp5 rfl _ _ _) rfl ?_
            rw [HF.out]
            exact ⟨_, _, _, rfl, HZ.out⟩
          · have HF := Lib.hid (HMx.out.last hlt HS.out hr)
            have HZ := Lib.hid (mapA_done HN.out.bel HF.out HN.out.rows)
            clear hno HMx HS
            go_wp2
            (try simp only [Exit.inBlock, Exit.then, Exit.noGoto_ret]); refine bodyPost_ret (results_tmp5 rfl _ _ _) rfl ?_
            rw [HF.out]
            exact ⟨_, _, _, rfl, HZ.out⟩
        have htl := top_lt HMx.out.inn ht
        have hoe := oth_eq HMx.out.inn hpn ht
        have hol := oth_lt HMx.out.inn hpn ht
        have hdl := drop_len ht
        obtain ⟨tn, htn⟩ : ∃ tn : Nat, s.top = tn := ⟨s.top.toNat, by omega⟩
        have htt : s.top.toNat = tn := by omega
        have htnl : tn < l.length := by omega
        have HTN := Lib.hid (And.intro htn (And.intro htt hoe))
        have HPo : Hid (∀ s' : Ms, s'.open_ = s.open_.dropLast → s'.elses = s.elses → (pairC s.stk).take (s.open_.length * 2) = Kp s') := Lib.hid (fun s' h1 h2 => by rw [pairC_take]; show _ = pairC _; rw [stk_pop h1 h2 (open_ne ht)])
        rw [htt] at htl
        rw [htn] at hy0 ⊢
        clear htn htt hoe hno
        obtain ⟨g1, c1, rfl, ⟨x1', _, hpc1⟩, hpf1⟩ := HN.out.rows.r1.form (k := tn) HMx.out.le.1 htnl
        have hne : gs ≠ g1 := fun e => (HN.out.ds gs rfl).1 (by simp [Value.ownBlock, e])
        go_upto_region 25 with fail
        have HN1 := Lib.hid (HN.out.set1 tn (pc : Int))
        clear hy0 hy1 hyf0 z0 HN hpc1 hpf1
        generalize wy.setCell ⟨g1, tn, none⟩ (.int .i64 (pc : Int)) = wz at *
        obtain ⟨hy0, hy1⟩ := HN1.out.tops
        by_cases ho : 0 ≤ othP s
        · have HS := Lib.hid (step_end2 (s := s) HOP.out ht (by rw [← HTN.out.2.2]; exact ho))
          obtain ⟨on, hon⟩ : ∃ n : Nat, othP s = n := ⟨(othP s).toNat, by omega⟩
          have honl : on < l.length := by omega
          have hot : (s.elses.getD s.top.toNat 0).toNat = on := by rw [← HTN.out.2.2, hon]; omega
          have HOT := Lib.hid hot
          rw [hon] at hy1
          clear hot hon ho
          obtain ⟨x2', _, hpc2⟩ : ∃ x, (s.ends.set tn (pc : Int))[on]? = some x ∧ wz.cell? ⟨g1, on, none⟩ = some (.int .i64 x) := by
            obtain ⟨g, c, e, h, _⟩ := HN1.out.rows.r1.form (k := on) (n := l.length) (by rw [List.length_set]; exact HMx.out.le.1) honl
            simp only [Value.slice.injEq, Option.some.injEq, Addr.mk.injEq, and_true] at e
            obtain ⟨rfl, _⟩ := e
            exact h
          have hpf2 : wz.frozen? ⟨g1, on, none⟩ = false := by
            obtain ⟨g, c, e, _, h⟩ := HN1.out.rows.r1.form (k := on) (n := l.length) (by rw [List.length_set]; exact HMx.out.le.1) honl
            simp only [Value.slice.injEq, Option.some.injEq, Addr.mk.injEq, and_true] at e
            obtain ⟨rfl, _⟩ := e
            exact h
          have HE := Lib.hid ((HN1.out.set1 on (pc : Int)).cut s.open_.length (by omega))
          have HN7 := Lib.hid (HMx.out.next hlt HS.out (wy := wz.setCell ⟨g1, on, none⟩ (.int .i64 (pc : Int))) (ov' := .slice (some ⟨gs, 0, none⟩) s.open_.length cs) (by
            have := HE.out
            rw [HPo.out { s with owners := s.owners.set pc s.top, ends := (s.ends.set s.top.toNat pc).set (s.elses.getD s.top.toNat 0).toNat pc, open_ := s.open_.dropLast } rfl rfl] at this
            rw [← HTN.out.2.1] at this
            show Mh w 3 109 2 _ _ _ _ _ (s.open_.dropLast.length + 1) ((s.ends.set s.top.toNat pc).set (s.elses.getD s.top.toNat 0).toNat pc) s.elses (s.owners.set pc s.top) _
            rw [hdl]
            rw [HOT.out] at this ⊢
            exact this))
          clear HE HMx HN1
          go_wp2
          go_roundw
          case rel => exact ⟨pc + 1, _, by omega, rfl, rfl, rfl, by go_num, HN7⟩
          case measure => simp [intOf]; omega
        · have HS := Lib.hid (step_end (s := s) HOP.out ht (by rw [← HTN.out.2.2]; exact ho))
          have HE := Lib.hid (HN1.out.cut s.open_.length (by omega))
          have HN7 := Lib.hid (HMx.out.next hlt HS.out (wy := wz) (ov' := .slice (some ⟨gs, 0, none⟩) s.open_.length cs) (by
            have := HE.out
            rw [HPo.out { s with owners := s.owners.set pc s.top, ends := s.ends.set s.top.toNat pc, open_ := s.open_.dropLast } rfl rfl] at this
            rw [← HTN.out.2.1] at this
            show Mh w 3 109 2 _ _ _ _ _ (s.open_.dropLast.length + 1) _ _ _ _
            rw [hdl]
            exact this))
          clear HE HMx HN1
          go_wp2
          go_roundw
          case rel => exact ⟨pc + 1, _, by omega, rfl, rfl, rfl, by go_num, HN7⟩
          case measure => simp [intOf]; omega
      · have HS := Lib.hid (step_other (s := s) hno (by rw [HOP.out]; exact h5) (by rw [HOP.out]; exact h6))
        have HN7 := Lib.hid (HMx.out.next hlt HS.out (wy := wy) (ov' := .slice (some ⟨gs, 0, none⟩) (s.open_.length + 1) cs) (by
          have e : Kp { s with owners := s.owners.set pc s.top } = Kp s := congrArg pairC (stk_same (s := s) (s' := { s with owners := s.owners.set pc s.top }) rfl rfl)
          rw [e]
          exact HN.out))
        clear HMx HN
        go_wp2
        go_roundw
        case rel => exact ⟨pc + 1, _, by omega, rfl, rfl, rfl, by go_num, HN7⟩
        case measure => simp [intOf]; omega
    · have HF := Lib.hid (HM.out.cut hlt)
      have HZ := Lib.hid (mapA_none (T := 3) HM.out.mh.bel HF.out)
      obtain rfl : pc = l.length := by omega
      obtain ⟨gs, cs, rfl, hcs, _, _⟩ := stk_form HM.out.mh.stk
      clear HM
      go_wp2
      (try simp only [Exit.inBlock, Exit.then, Exit.noGoto_ret]); refine bodyPost_ret (results_tmp5 rfl _ _ _) rfl ?_
      rw [HF.out]
      exact ⟨_, _, _, rfl, HZ.out⟩
end Go.Proofs.YtfhkjahjenpbgaaDoor
