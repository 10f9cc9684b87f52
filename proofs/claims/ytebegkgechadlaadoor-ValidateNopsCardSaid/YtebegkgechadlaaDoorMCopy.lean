/- control.filled. control.Map. flagonref00.CopySigs, CopyGlobals, CopyExports: lists of structs of their own. flagonref00.CopyInts, CopyIns, CopyCode. flagonref00.CopyFunction, CopyFunctions, CopyData, CopyDatas. Slices of values, one cell each: bools, strings; flagonref00.EqBools, EqTexts. The comparisons of two lists of integers (flagonref00.Eq..): each answers whether the two lists are one; it draws, and changes nothing. flagonref00.CopyFunctions, CopyDatas: deep lists of their own. -/
import Derived.Test.YtebegkgechadlaaDoorMCtl
import Derived.Test.YtebegkgechadlaaDoorMLib
import Derived.OwnWalk
import Derived.Test.YtebegkgechadlaaDoorMHead0
import Derived.Test.YtebegkgechadlaaDoorMVw1
import Derived.Test.YtebegkgechadlaaDoorMSmall
namespace Go.Proofs.YtebegkgechadlaaDoor
open Go Go.RowKit

theorem Tryd.infoIntF : (Tryd.prog.info? 3).map (fun i => (i.zero, i.size, i.bytes)) = some (some (.int .i64 0), 1, 8) := by kernel_rfl
/-- How far the list is filled. -/
def fillP (n k : Nat) : List Int := List.replicate k (-1) ++ List.replicate (n - k) 0
theorem fillP_len {n k : Nat} (h : k ≤ n) : (fillP n k).length = n := by simp [fillP]; omega
theorem fillP_end (n : Nat) : fillP n n = List.replicate n (-1) := by simp [fillP]
theorem fillP_step {n k : Nat} (h : k < n) : (fillP n k).set k (-1) = fillP n (k + 1) := by
  unfold fillP
  rw [List.set_append_right _ _ (by simp), List.length_replicate, Nat.sub_self, show n - k = (n - (k + 1)) + 1 by omega, List.replicate_succ, List.set_cons_zero, List.replicate_succ', List.append_assoc]
  rfl
theorem fill_zero (n : Nat) : (madeCells #[Value.int .i64 0] n).toList = ints (fillP n 0) := by
  rw [toList_madeCells_one]
  simp [fillP, ints]
set_option maxRecDepth 100000 in
set_option maxHeartbeats 1600000 in
theorem control_filled (w : World) (n : Nat) (hn : n ≤ 1073741824) :
    Calls Tryd.prog 34 #[.int .i64 n] w fun e w' => ∃ v, e = .returned v ∧ Below w.heap.size w w' ∧ OwnI w.heap.size 3 w' v (List.replicate n (-1)) := by
  obtain ⟨i0, hi, hz0, hz1, hz2⟩ := info_parts Tryd.infoIntF
  go_enter Tryd.func34, Tryd.ntmps34
  go_wp2_with (at_make; refine wpList_make_full _ rfl _ _ 23 rfl w.heap.size 3 i0 (.int .i64 0) 1 Tryd.underlying23 hi hz0 hz1 _ _ _ _ n rfl rfl rfl rfl ?b1 ?b2 (Nat.le_refl _) ?_)
  case b1 => rw [hz2]; omega
  case b2 => unfold maxLen; omega
  intro w1 hown hgrow
  have hb1 : Below w.heap.size w w1 := (Below.refl _ _).grown hgrow (Nat.le_refl _) (fun k hk => by cases hk)
  have HO : Hid (OwnI w.heap.size 3 w1 (.slice (some ⟨w.heap.size, 0, none⟩) n n) (fillP n 0)) := Lib.hid (by rw [fill_zero] at hown; unfold OwnI; rw [fillP_len (Nat.zero_le _)]; exact hown)
  have HB := Lib.hid hb1
  clear hown hgrow hb1
  go_wp2
  go_loopw [4, 9] (fun _ i wr => ∃ k : Nat, k ≤ n ∧ i = .int .i64 k ∧ Hid (OwnI w.heap.size 3 wr (.slice (some ⟨w.heap.size, 0, none⟩) n n) (fillP n k)) ∧ Hid (Below w.heap.size w wr)) (fun _ i _ => n - (intOf i).toNat)
  case atStart => exact ⟨0, by omega, rfl, HO, HB⟩
  case round =>
    obtain ⟨k, hk, rfl, HOk, HBk⟩ := hrel
    by_cases hlt : k < n
    · obtain ⟨g, c, e, _, _, hcell, hfree⟩ := HOk.out.at_ (k := k) (by rw [fillP_len hk]; exact hlt)
      simp only [Value.slice.injEq, Option.some.injEq, Addr.mk.injEq, and_true] at e
      obtain ⟨rfl, e2, rfl⟩ := e
      clear e2
      have HON := Lib.hid (HOk.out.set (k := k) (-1))
      rw [fillP_step hlt] at HON
      have HBN := Lib.hid (HBk.out.setCell (p := ⟨w.heap.size, k, none⟩) (Nat.le_refl _) (.int .i64 (-1)))
      clear HOk HBk
      go_wp2
      go_roundw
      case rel => exact ⟨k + 1, by omega, by go_num, HON, HBN⟩
      case measure => simp [intOf]; omega
    · obtain rfl : k = n := by omega
      have HE := HOk.out
      rw [fillP_end] at HE
      go_wp2
      go_ret
      exact ⟨_, rfl, HBk.out, HE⟩
end Go.Proofs.YtebegkgechadlaaDoor
namespace Go.Proofs.YtebegkgechadlaaDoor
open Go Go.RowKit
set_option linter.unusedSimpArgs false

theorem Tryd.infoOpened : (Tryd.prog.info? 96).map (fun i => (i.zero, i.size, i.bytes)) = some (some (.agg #[.int .i64 0, .int .i64 0]), 2, 16) := by kernel_rfl
theorem stk_form {w : World} {B e size n : Nat} {v : Value} {xs : List Value} (h : w.ownsRow B e size v (n + 1) xs) : ∃ g c, v = .slice (some ⟨g, 0, none⟩) (n + 1) c ∧ n + 1 ≤ c ∧ B ≤ g ∧ g < w.heap.size := by
  rcases h.2 with ⟨_, h0⟩ | ⟨g, c, cur, rfl, hb, hg, hn, _⟩
  · omega
  · exact ⟨g, c, rfl, hn, hb, row_lt hg⟩
theorem cell_two_new (w : World) (x y : Value) (t : TypeId) : ∀ j u, [x, y][j]? = some u → (w.alloc (.cells #[x, y] t)).cell? ((⟨w.heap.size, 0, none⟩ : Addr).add j) = some u := by
  intro j u hu
  have e : (⟨w.heap.size, 0, none⟩ : Addr).add j = ⟨w.heap.size, j, none⟩ := by unfold Addr.add; split <;> simp_all
  rw [e, cell_of_row _ _ j _ _ _ (heap_alloc_new _ _)]
  rw [← hu]; simp
set_option maxRecDepth 100000 in
set_option maxHeartbeats 6400000 in
theorem control_Map (w : World) (v : Value) (l : List InsD) (hc : Cd w v l) (hl : l.length ≤ 1048576) :
    Calls Tryd.prog 25 #[v] w fun e w' => ∃ v1 v2 v3, e = .returned (.tuple #[v1, v2, v3, .int .i64 (mapP (opsOf l)).2.2.2.1, .int .i64 (mapP (opsOf l)).2.2.2.2]) ∧ MapA w 3 (opsOf l) v1 v2 v3 w' := by
  obtain ⟨i0, hi, hz0, hz1, hz2⟩ := info_parts Tryd.infoOpened
  obtain ⟨va, vc, rfl, _⟩ := hc.len
  have HC := Lib.hid hc; clear hc
  go_enter Tryd.func25, Tryd.ntmps25
  go_wp2_with fail
  go_step3
  go_wp2_with fail
  refine (control_filled _ l.length (by omega)).mono ?_
  rintro e w1 ⟨v1, rfl, hb1, ho1⟩
  have HB1 := Lib.hid hb1; have HO1 := Lib.hid ho1; clear hb1 ho1
  go_wp2_with fail
  refine (control_filled _ l.length (by omega)).mono ?_
  rintro e w2 ⟨v2, rfl, hb2, ho2⟩
  have HB2 := Lib.hid hb2; have HO2 := Lib.hid ho2; clear hb2 ho2
  go_wp2_with fail
  refine (control_filled _ l.length (by omega)).mono ?_
  rintro e w3 ⟨v3, rfl, hb3, ho3⟩
  have HR : Hid (R3 w.heap.size 3 w3 v1 v2 v3 (List.replicate l.length (-1)) (List.replicate l.length (-1)) (List.replicate l.length (-1))) := Lib.hid (by
    have s1 := HB1.out.size; have s2 := HB2.out.size
    exact ⟨own_below (own_below HO1.out HB2.out) hb3, own_base (own_below HO2.out hb3) s1, own_base ho3 (Nat.le_trans s1 s2),
      fun g h1 h2 => by have a := (HO1.out.lt g h1).2; have b := (HO2.out.lt g h2).1; omega,
      fun g h1 h2 => by have a := (HO1.out.lt g h1).2; have b := (ho3.lt g h2).1; omega,
      fun g h1 h2 => by have a := (HO2.out.lt g h1).2; have b := (ho3.lt g h2).1; omega⟩)
  have HB := Lib.hid (below_next HB1.out (below_next HB2.out hb3))
  clear hb3 ho3 HB1 HB2 HO1 HO2
  go_wp2_with fail
  go_step3
  have hm0 : Hid (Mw w 3 96 2 Kp 1 l v1 v2 v3 (w3.alloc (.cells #[.int .i64 (-1), .int .i64 (-1)] 96)) (.slice (some ⟨w3.heap.size, 0, none⟩) 1 1) 0 (startM l.length)) := Lib.hid (by
    refine ⟨⟨below_next HB.out (below_alloc _ _), HR.out.on (below_alloc _ _), ?_, fun g hg => ?_⟩, by have := startM_in (opsOf l); rw [opsOf_len] at this; exact this, by rw [opsOf_len]; rfl⟩
    · exact World.ownsRow_lit w3 #[.int .i64 (-1), .int .i64 (-1)] 1 HB.out.size (by decide) rfl
    · simp only [Value.ownBlock, Option.some.injEq] at hg
      subst hg
      exact ⟨fun e => by have := HR.out.r1.lt _ e; omega, fun e => by have := HR.out.r2.lt _ e; omega, fun e => by have := HR.out.r3.lt _ e; omega⟩)
  clear HR HB
  go_wp2_with fail
  go_loopw [2, 3, 4, 7, 24] (fun r1 r2 r3 ov i wr => ∃ (pc : Nat) (s : Ms), pc ≤ l.length ∧ r1 = v1 ∧ r2 = v2 ∧ r3 = v3 ∧ i = .int .i64 pc ∧ Hid (Mw w 3 96 2 Kp 1 l v1 v2 v3 wr ov pc s)) (fun _ _ _ _ i _ => l.length - (intOf i).toNat)
  case atStart => exact ⟨0, _, by omega, rfl, rfl, rfl, rfl, hm0⟩
  case round =>
    obtain ⟨pc, s, hpc, rfl, rfl, rfl, rfl, HM⟩ := hrel
    by_cases hlt : pc < l.length
    · obtain ⟨b, off, vl, rfl, x0, x1, x2, hrl⟩ := Cd.at_ (Cd.bel HC.out HM.out.mh.bel) hlt
      have hop : (opsOf l).getD pc 0 = l[pc].op := opsOf_at hlt
      have HOP := Lib.hid hop
      obtain ⟨al, cl, rfl, _⟩ := hrl.lenc
      have HL3 := Lib.hid HM.out.mh.rows.r3.lt
      clear hop hrl
      generalize l[pc].op = op at *
      generalize l[pc].a = xa at *
      generalize l[pc].l.length = ln at *
      go_upto_region 6 with fail
      have hbx := below_alloc wr (.cells #[.int .u8 op, .int .i64 xa, .slice al ln cl] 43)
      have hrx := heap_alloc_new wr (.cells #[.int .u8 op, .int .i64 xa, .slice al ln cl] 43)
      have HMx := Lib.hid (HM.out.on hbx)
      generalize wr.alloc (.cells #[.int .u8 op, .int .i64 xa, .slice al ln cl] 43) = wx at *
      generalize wr.heap.size = gx at *
      have HXr := Lib.hid hrx
      clear hbx hrx x0 x1 x2 HM
      obtain ⟨gs, cs, rfl, hcs, _, _⟩ := stk_form HMx.out.mh.stk
      have hk32 : s.open_.length ≤ 32 := HMx.out.inn.ok.deep
      obtain ⟨hy0, hy1⟩ := HMx.out.mh.tops
      obtain ⟨g3, c3, rfl, ⟨x3, _, hoc⟩, hof⟩ := HMx.out.mh.rows.r3.form (k := pc) HMx.out.le.2.2 hlt
      clear hm0
      go_upto_region 8 with fail
      have hg3 : gx ≠ g3 := by have := (HL3.out g3 rfl).2; omega
      have z0 : (wx.setCell ⟨g3, pc, none⟩ (.int .i64 s.top)).cell? ⟨gx, 0, none⟩ = some (.int .u8 op) := row_cell ((Below.heap_setCell _ _ _ _ hg3).trans HXr.out) 0 rfl
      have HN := Lib.hid (HMx.out.mh.set3 pc s.top)
      clear hy0 hy1 hoc hof HXr HL3 hg3
      generalize wx.setCell ⟨g3, pc, none⟩ (.int .i64 s.top) = wy at *
      obtain ⟨hy0, hy1⟩ := HN.out.tops
      have hyf0 := World.ownsRow.frozenAt HN.out.stk (s.open_.length * 2 + 1)
      by_cases h2 : op = 2 ∨ op = 3 ∨ op = 4
      · have hO : opensP ((opsOf l).getD pc 0) := by rw [HOP.out]; exact h2
        by_cases hd : s.open_.length = 32
        · have HF := Lib.hid (HMx.out.refuse hlt (step_deep hO hd) (by decide))
          have HZ := Lib.hid (mapA_none (T := 3) HN.out.bel HF.out)
          clear hO HMx
          rcases h2 with rfl | rfl | rfl
          all_goals
            go_wp2
            (try simp only [Exit.inBlock, Exit.then, Exit.noGoto_ret]); refine bodyPost_ret (results_tmp5 rfl _ _ _) rfl ?_
            rw [HF.out]
            exact ⟨_, _, _, rfl, HZ.out⟩
        · have HS := Lib.hid (step_open (s := s) hO hd)
          have hd' : s.open_.length < 32 := by omega
          have HP : Hid (s.elses[pc]? = some (-1)) := Lib.hid (HMx.out.inn.rest pc (Nat.le_refl _) (by rw [opsOf_len]; exact hlt))
          clear hO hd hy0 hy1
          have hb6 := below_alloc wy (.cells #[.int .i64 pc, .int .i64 (-1)] 96)
          have HN6 := Lib.hid (HN.out.on hb6)
          have hB6 := HN6.out.bel.size
          clear hb6
          rcases h2 with rfl | rfl | rfl
          all_goals
            go_wp2_with (at_builtin; refine wpList_append_kept _ rfl _ _ 97 rfl w.heap.size 96 i0 (.agg #[.int .i64 0, .int .i64 0]) 2 16 Tryd.underlying97 hi hz0 hz1 hz2 rfl (by decide) _ (s.open_.length + 1) (pairC s.stk) rfl HN6.out.stk ⟨wy.heap.size, 0, none⟩ 1 1 [.int .i64 pc, .int .i64 (-1)] rfl rfl (cell_two_new _ _ _ _) (by simp [Value.oneCell']) (by unfold maxLen; omega) (by omega) hB6 ?_)
            intro v' w7 ho hk hn
            have HN7 := Lib.hid (HMx.out.next hlt HS.out (wy := w7) (ov' := v') (by
              have e : Kp { s with owners := s.owners.set pc s.top, open_ := s.open_ ++ [pc] } = pairC s.stk ++ [.int .i64 pc, .int .i64 (-1)] := by
                show pairC _ = _
                rw [stk_push (s := s) (s' := { s with owners := s.owners.set pc s.top, open_ := s.open_ ++ [pc] }) (pc := pc) rfl rfl HP.out, pairC_app]; rfl
              rw [e]
              simpa using HN6.out.push ho hk.grown fun g hg => (hn g hg).imp id fun h => by rw [World.size_alloc]; exact h))
            clear ho hk hn
            go_wp2
            go_roundw
            case rel => exact ⟨pc + 1, _, by omega, rfl, rfl, rfl, by go_num, HN7⟩
            case measure => simp [intOf]; omega
      have hno : ¬ opensP ((opsOf l).getD pc 0) := by rw [HOP.out]; exact h2
      have hpn : pc ≤ (opsOf l).length := by rw [opsOf_len]; exact hpc
      by_cases h5 : op = 5
      · subst h5
        by_cases ht : s.top < 0
        · have HF := Lib.hid (HMx.out.refuse hlt (step_noelse HOP.out (.inl ht)) (by decide))
          have HZ := Lib.hid (mapA_none (T := 3) HN.out.bel HF.out)
          clear hno HMx
          go_wp2
          (try simp only [Exit.inBlock, Exit.then, Exit.noGoto_ret]); refine bodyPost_ret (results_tmp5 rfl _ _ _) rfl ?_
          rw [HF.out]
          exact ⟨_, _, _, rfl, HZ.out⟩
        have htl := top_lt HMx.out.inn ht
        have hoe := oth_eq HMx.out.inn hpn ht
        obtain ⟨tn, htn⟩ : ∃ tn : Nat, s.top = tn := ⟨s.top.toNat, by omega⟩
        have htt : s.top.toNat = tn := by omega
        have htnl : tn < l.length := by omega
        obtain ⟨b', off', vl', e7, x0, -, -, -⟩ := Cd.at_ (Cd.bel HC.out HN.out.bel) htnl
        simp only [Option.some.injEq, Addr.mk.injEq, and_true] at e7
        obtain ⟨rfl, rfl⟩ := e7
        have HT : Hid ((opsOf l).getD s.top.toNat 0 = (l[tn]'htnl).op) := Lib.hid (by rw [htt]; exact opsOf_at htnl)
        have HTN := Lib.hid (And.intro htn (And.intro htt hoe))
        rw [htt] at htl
        rw [htn] at hy0 ⊢
        clear htn htt hoe hno
        generalize (l[tn]'htnl).op = op' at *
        by_cases h4 : ¬ op' = 4
        · have HF := Lib.hid (HMx.out.refuse hlt (step_noelse HOP.out (.inr (.inl (by rw [HT.out]; exact h4)))) (by decide))
          have HZ := Lib.hid (mapA_none (T := 3) HN.out.bel HF.out)
          clear HMx
          go_wp2
          (try simp only [Exit.inBlock, Exit.then, Exit.noGoto_ret]); refine bodyPost_ret (results_tmp5 rfl _ _ _) rfl ?_
          rw [HF.out]
          exact ⟨_, _, _, rfl, HZ.out⟩
        obtain rfl : op' = 4 := Decidable.not_not.1 h4
        clear h4
        by_cases ho : 0 ≤ othP s
        · have HF := Lib.hid (HMx.out.refuse hlt (step_noelse HOP.out (.inr (.inr (by rw [← HTN.out.2.2]; exact ho)))) (by decide))
          have HZ := Lib.hid (mapA_none (T := 3) HN.out.bel HF.out)
          clear HMx
          go_wp2
          (try simp only [Exit.inBlock, Exit.then, Exit.noGoto_ret]); refine bodyPost_ret (results_tmp5 rfl _ _ _) rfl ?_
          rw [HF.out]
          exact ⟨_, _, _, rfl, HZ.out⟩
        · have HS := Lib.hid (step_else (s := s) HOP.out (by rw [HT.out, ← HTN.out.2.2]; omega))
          obtain ⟨g2, c2, rfl, ⟨x2', _, hpc2⟩, hpf2⟩ := HN.out.rows.r2.form (k := tn) HMx.out.le.2.1 (by omega)
          have hne : gs ≠ g2 := fun e => (HN.out.ds gs rfl).2.1 (by simp [Value.ownBlock, e])
          have HE := Lib.hid ((HN.out.top (s.open_.length * 2 + 1) (pc : Int)).set2 tn (pc : Int))
          have HK : Hid ((pairC s.stk).set (s.open_.length * 2 + 1) (.int .i64 (pc : Int)) = Kp { s with owners := s.owners.set pc s.top, elses := s.elses.set s.top.toNat pc }) := Lib.hid (by
            rw [pairC_set _ _ _ _ (stk_last s)]
            show _ = pairC _
            rw [stk_else (s' := { s with owners := s.owners.set pc s.top, elses := s.elses.set s.top.toNat pc }) HMx.out.inn ht rfl rfl (by rw [opsOf_len]; exact hlt)])
          have HN7 := Lib.hid (HMx.out.next hlt HS.out (wy := (wy.setCell ⟨gs, s.open_.length * 2 + 1, none⟩ (.int .i64 (pc : Int))).setCell ⟨g2, tn, none⟩ (.int .i64 (pc : Int))) (ov' := .slice (some ⟨gs, 0, none⟩) (s.open_.length + 1) cs) (by
            rw [← HK.out]
            have := HE.out
            rw [← HTN.out.2.1] at this ⊢
            exact this))
          clear HE HK HMx
          go_wp2
          go_roundw
          case rel => exact ⟨pc + 1, _, by omega, rfl, rfl, rfl, by go_num, HN7⟩
          case measure => simp [intOf]; omega
      by_cases h6 : op = 6
      · subst h6
        by_cases ht : s.top < 0
        · have HS := Lib.hid (step_last (s := s) HOP.out ht)
          by_cases hr : pc + 1 < l.length
          · have HF := Lib.hid (HMx.out.rest hlt HS.out hr)
            have HZ := Lib.hid (mapA_none (T := 3) HN.out.bel HF.out)
            clear hno HMx HS
            go_wp2
            (try simp only [Exit.inBlock, Exit.then, Exit.noGoto_ret]); refine bodyPost_ret (results_tmp5 rfl _ _ _) rfl ?_
            rw [HF.out]
            exact ⟨_, _, _, rfl, HZ.out⟩
          · have HF := Lib.hid (HMx.out.last hlt HS.out hr)
            have HZ := Lib.hid (mapA_done HN.out.bel HF.out HN.out.rows)
            clear hno HMx HS
            go_wp2
            (try simp only [Exit.inBlock, Exit.then, Exit.noGoto_ret]); refine bodyPost_ret (results_tmp5 rfl _ _ _) rfl ?_
            rw [HF.out]
            exact ⟨_, _, _, rfl, HZ.out⟩
        have htl := top_lt HMx.out.inn ht
        have hoe := oth_eq HMx.out.inn hpn ht
        have hol := oth_lt HMx.out.inn hpn ht
        have hdl := drop_len ht
        obtain ⟨tn, htn⟩ : ∃ tn : Nat, s.top = tn := ⟨s.top.toNat, by omega⟩
        have htt : s.top.toNat = tn := by omega
        have htnl : tn < l.length := by omega
        have HTN := Lib.hid (And.intro htn (And.intro htt hoe))
        have HPo : Hid (∀ s' : Ms, s'.open_ = s.open_.dropLast → s'.elses = s.elses → (pairC s.stk).take (s.open_.length * 2) = Kp s') := Lib.hid (fun s' h1 h2 => by rw [pairC_take]; show _ = pairC _; rw [stk_pop h1 h2 (open_ne ht)])
        rw [htt] at htl
        rw [htn] at hy0 ⊢
        clear htn htt hoe hno
        obtain ⟨g1, c1, rfl, ⟨x1', _, hpc1⟩, hpf1⟩ := HN.out.rows.r1.form (k := tn) HMx.out.le.1 htnl
        have hne : gs ≠ g1 := fun e => (HN.out.ds gs rfl).1 (by simp [Value.ownBlock, e])
        go_upto_region 25 with fail
        have HN1 := Lib.hid (HN.out.set1 tn (pc : Int))
        clear hy0 hy1 hyf0 z0 HN hpc1 hpf1
        generalize wy.setCell ⟨g1, tn, none⟩ (.int .i64 (pc : Int)) = wz at *
        obtain ⟨hy0, hy1⟩ := HN1.out.tops
        by_cases ho : 0 ≤ othP s
        · have HS := Lib.hid (step_end2 (s := s) HOP.out ht (by rw [← HTN.out.2.2]; exact ho))
          obtain ⟨on, hon⟩ : ∃ n : Nat, othP s = n := ⟨(othP s).toNat, by omega⟩
          have honl : on < l.length := by omega
          have hot : (s.elses.getD s.top.toNat 0).toNat = on := by rw [← HTN.out.2.2, hon]; omega
          have HOT := Lib.hid hot
          rw [hon] at hy1
          clear hot hon ho
          obtain ⟨x2', _, hpc2⟩ : ∃ x, (s.ends.set tn (pc : Int))[on]? = some x ∧ wz.cell? ⟨g1, on, none⟩ = some (.int .i64 x) := by
            obtain ⟨g, c, e, h, _⟩ := HN1.out.rows.r1.form (k := on) (n := l.length) (by rw [List.length_set]; exact HMx.out.le.1) honl
            simp only [Value.slice.injEq, Option.some.injEq, Addr.mk.injEq, and_true] at e
            obtain ⟨rfl, _⟩ := e
            exact h
          have hpf2 : wz.frozen? ⟨g1, on, none⟩ = false := by
            obtain ⟨g, c, e, _, h⟩ := HN1.out.rows.r1.form (k := on) (n := l.length) (by rw [List.length_set]; exact HMx.out.le.1) honl
            simp only [Value.slice.injEq, Option.some.injEq, Addr.mk.injEq, and_true] at e
            obtain ⟨rfl, _⟩ := e
            exact h
          have HE := Lib.hid ((HN1.out.set1 on (pc : Int)).cut s.open_.length (by omega))
          have HN7 := Lib.hid (HMx.out.next hlt HS.out (wy := wz.setCell ⟨g1, on, none⟩ (.int .i64 (pc : Int))) (ov' := .slice (some ⟨gs, 0, none⟩) s.open_.length cs) (by
            have := HE.out
            rw [HPo.out { s with owners := s.owners.set pc s.top, ends := (s.ends.set s.top.toNat pc).set (s.elses.getD s.top.toNat 0).toNat pc, open_ := s.open_.dropLast } rfl rfl] at this
            rw [← HTN.out.2.1] at this
            show Mh w 3 96 2 _ _ _ _ _ (s.open_.dropLast.length + 1) ((s.ends.set s.top.toNat pc).set (s.elses.getD s.top.toNat 0).toNat pc) s.elses (s.owners.set pc s.top) _
            rw [hdl]
            rw [HOT.out] at this ⊢
            exact this))
          clear HE HMx HN1
          go_wp2
          go_roundw
          case rel => exact ⟨pc + 1, _, by omega, rfl, rfl, rfl, by go_num, HN7⟩
          case measure => simp [intOf]; omega
        · have HS := Lib.hid (step_end (s := s) HOP.out ht (by rw [← HTN.out.2.2]; exact ho))
          have HE := Lib.hid (HN1.out.cut s.open_.length (by omega))
          have HN7 := Lib.hid (HMx.out.next hlt HS.out (wy := wz) (ov' := .slice (some ⟨gs, 0, none⟩) s.open_.length cs) (by
            have := HE.out
            rw [HPo.out { s with owners := s.owners.set pc s.top, ends := s.ends.set s.top.toNat pc, open_ := s.open_.dropLast } rfl rfl] at this
            rw [← HTN.out.2.1] at this
            show Mh w 3 96 2 _ _ _ _ _ (s.open_.dropLast.length + 1) _ _ _ _
            rw [hdl]
            exact this))
          clear HE HMx HN1
          go_wp2
          go_roundw
          case rel => exact ⟨pc + 1, _, by omega, rfl, rfl, rfl, by go_num, HN7⟩
          case measure => simp [intOf]; omega
      · have HS := Lib.hid (step_other (s := s) hno (by rw [HOP.out]; exact h5) (by rw [HOP.out]; exact h6))
        have HN7 := Lib.hid (HMx.out.next hlt HS.out (wy := wy) (ov' := .slice (some ⟨gs, 0, none⟩) (s.open_.length + 1) cs) (by
          have e : Kp { s with owners := s.owners.set pc s.top } = Kp s := congrArg pairC (stk_same (s := s) (s' := { s with owners := s.owners.set pc s.top }) rfl rfl)
          rw [e]
          exact HN.out))
        clear HMx HN
        go_wp2
        go_roundw
        case rel => exact ⟨pc + 1, _, by omega, rfl, rfl, rfl, by go_num, HN7⟩
        case measure => simp [intOf]; omega
    · have HF := Lib.hid (HM.out.cut hlt)
      have HZ := Lib.hid (mapA_none (T := 3) HM.out.mh.bel HF.out)
      obtain rfl : pc = l.length := by omega
      obtain ⟨gs, cs, rfl, hcs, _, _⟩ := stk_form HM.out.mh.stk
      clear HM
      go_wp2
      (try simp only [Exit.inBlock, Exit.then, Exit.noGoto_ret]); refine bodyPost_ret (results_tmp5 rfl _ _ _) rfl ?_
      rw [HF.out]
      exact ⟨_, _, _, rfl, HZ.out⟩
end Go.Proofs.YtebegkgechadlaaDoor
namespace Go.Proofs.YtebegkgechadlaaDoor
open Go Go.RowKit
set_option linter.unusedSimpArgs false

theorem flat_at {α : Type} {sz : Nat} {enc : α → List Value} (hz : ∀ x, (enc x).length = sz) (h0 : 0 < sz) : ∀ (l : List α) (j : Nat) (u : Value), (l.flatMap enc)[j]? = some u → ∃ h : j / sz < l.length, (enc l[j / sz])[j % sz]? = some u
  | [], j, u, h => by simp at h
  | x :: l, j, u, h => by
    rw [List.flatMap_cons] at h
    by_cases hj : j < sz
    · rw [List.getElem?_append_left (by rw [hz]; exact hj)] at h
      refine ⟨by rw [Nat.div_eq_of_lt hj]; simp, ?_⟩
      simp only [Nat.div_eq_of_lt hj, Nat.mod_eq_of_lt hj, List.getElem_cons_zero]
      exact h
    · obtain ⟨i, rfl⟩ : ∃ i, j = i + sz := ⟨j - sz, by omega⟩
      rw [List.getElem?_append_right (by rw [hz]; omega), hz, Nat.add_sub_cancel] at h
      obtain ⟨h1, h2⟩ := flat_at hz h0 l _ _ h
      have e1 : (i + sz) / sz = i / sz + 1 := Nat.add_div_right _ h0
      have e2 : (i + sz) % sz = i % sz := Nat.add_mod_right _ _
      refine ⟨by rw [e1, List.length_cons]; omega, ?_⟩
      simp only [e1, e2, List.getElem_cons_succ]
      exact h2
theorem flat_len {α : Type} {sz : Nat} {enc : α → List Value} (hz : ∀ x, (enc x).length = sz) : ∀ l : List α, (l.flatMap enc).length = l.length * sz
  | [] => by simp
  | x :: l => by rw [List.flatMap_cons, List.length_append, hz, flat_len hz l, List.length_cons, Nat.succ_mul]; omega
/-- The cells of a list of structs, in a row. -/
theorem RdL.cells {α : Type} {sz : Nat} {R : World → List Value → α → Prop} {S : Nat → Prop} {w : World} {v : Value} {l : List α} {enc : α → List Value} (h : RdL sz R S w v l) (hz : ∀ x, (enc x).length = sz) (h0 : 0 < sz) (hR : ∀ cs x, R w cs x → cs = enc x) (hl : 0 < l.length) :
    ∃ b o cap, v = .slice (some ⟨b, o, none⟩) l.length cap ∧ l.length ≤ cap ∧ ∀ j u, (l.flatMap enc)[j]? = some u → w.cell? ((⟨b, o, none⟩ : Addr).add j) = some u := by
  obtain ⟨a, cap, rfl, hc, _, hp⟩ := h
  obtain ⟨b, o, cs, rfl, _⟩ := hp 0 hl
  refine ⟨b, o, cap, rfl, hc, fun j u hu => ?_⟩
  obtain ⟨hj, hu2⟩ := flat_at hz h0 l j u hu
  obtain ⟨b', o', cs', e, _, _, hcell, hr⟩ := hp (j / sz) hj
  simp only [Option.some.injEq, Addr.mk.injEq, and_true] at e
  obtain ⟨rfl, rfl⟩ := e
  have hm : j % sz < sz := Nat.mod_lt _ h0
  have := hcell (j % sz) hm
  rw [hR _ _ hr, hu2] at this
  have e : o + j / sz * sz + j % sz = o + j := by have := Nat.div_add_mod j sz; rw [Nat.mul_comm] at this; omega
  rw [e] at this
  unfold Addr.add
  split
  · rename_i e0; subst e0; exact this
  · exact this
theorem Tryd.infoCpSigs : (Tryd.prog.info? 54).map (fun i => (i.zero, i.size, i.bytes)) = some (some (.agg #[.string ⟨#[]⟩, .string ⟨#[]⟩]), 2, 32) := by kernel_rfl
set_option maxRecDepth 100000 in
set_option maxHeartbeats 800000 in
theorem copySigs (w : World) (S) (v : Value) (l : List SigD) (h : RdSigs S w v l) (hl : l.length ≤ 1073741824) :
    Calls Tryd.prog 17 #[v] w fun e w' => ∃ v', e = .returned v' ∧ w'.ownsRow w.heap.size 54 2 v' l.length (l.flatMap sgC) ∧ Below w.heap.size w w' := by
  obtain ⟨i0, hi, hz0, hz1, hz2⟩ := info_parts Tryd.infoCpSigs
  rcases Nat.eq_zero_or_pos l.length with h0 | h0
  · obtain rfl : l = [] := List.eq_nil_of_length_eq_zero h0
    obtain ⟨a, cap, rfl, hc, hm, r⟩ := h
    cases a with
    | none =>
      go_enter Tryd.func17, Tryd.ntmps17
      go_wp2
      go_ret
      exact ⟨_, rfl, World.ownsRow_nil _ _ _ _, Below.refl _ _⟩
    | some a =>
      go_enter Tryd.func17, Tryd.ntmps17
      go_wp2_with (at_builtin; refine wpList_append_own _ rfl _ _ 22 rfl w.heap.size 54 i0 (.agg #[.string ⟨#[]⟩, .string ⟨#[]⟩]) 2 32 Tryd.underlying22 hi hz0 hz1 hz2 rfl (by decide) _ _ _ rfl (World.ownsRow_nil _ _ _ _) a 0 cap [] rfl rfl (by simp) (by simp) (by unfold maxLen; omega) (by omega) (Nat.le_refl _) ?_)
      intro v' w1 hown' hgrow hnil
      go_wp2
      go_ret
      exact ⟨v', rfl, by simpa using hown', (Below.refl _ _).grown hgrow (Nat.le_refl _) (fun k hk => by simp [Value.ownBlock] at hk)⟩
  · obtain ⟨b, o, cap, rfl, hc, hcell⟩ := h.cells (enc := sgC) (fun _ => rfl) (by omega) (fun _ _ h => h) h0
    have HC := Lib.hid hcell
    have HF : Hid ((l.flatMap sgC).length = l.length * 2) := Lib.hid (flat_len (sz := 2) (enc := sgC) (fun _ => rfl) l)
    clear hcell h
    go_enter Tryd.func17, Tryd.ntmps17
    go_wp2_with (at_builtin; go_loud (refine wpList_append_own _ rfl _ _ 22 rfl w.heap.size 54 i0 (.agg #[.string ⟨#[]⟩, .string ⟨#[]⟩]) 2 32 Tryd.underlying22 hi hz0 hz1 hz2 rfl (by decide) _ _ _ rfl (World.ownsRow_nil _ _ _ _) ⟨b, o, none⟩ l.length cap (l.flatMap sgC) rfl HF.out HC.out ?c2 ?c3 ?c4 (Nat.le_refl _) ?_))
    case c2 => intro u hu; obtain ⟨x, _, hx⟩ := List.mem_flatMap.1 hu; simp only [sgC, List.mem_cons, List.not_mem_nil, or_false] at hx; rcases hx with rfl | rfl <;> rfl
    case c3 => unfold maxLen; omega
    case c4 => omega
    intro v' w1 hown' hgrow hnil
    go_wp2
    go_ret
    exact ⟨v', rfl, by simpa using hown', (Below.refl _ _).grown hgrow (Nat.le_refl _) (fun k hk => by simp [Value.ownBlock] at hk)⟩
theorem Tryd.infoCpGlobals : (Tryd.prog.info? 116).map (fun i => (i.zero, i.size, i.bytes)) = some (some (.agg #[.int .u8 0, .bool false, .int .u64 0]), 3, 16) := by kernel_rfl
set_option maxRecDepth 100000 in
set_option maxHeartbeats 800000 in
theorem copyGlobals (w : World) (S) (v : Value) (l : List GlobD) (h : RdGlobs S w v l) (hl : l.length ≤ 1073741824) :
    Calls Tryd.prog 19 #[v] w fun e w' => ∃ v', e = .returned v' ∧ w'.ownsRow w.heap.size 116 3 v' l.length (l.flatMap glC) ∧ Below w.heap.size w w' := by
  obtain ⟨i0, hi, hz0, hz1, hz2⟩ := info_parts Tryd.infoCpGlobals
  rcases Nat.eq_zero_or_pos l.length with h0 | h0
  · obtain rfl : l = [] := List.eq_nil_of_length_eq_zero h0
    obtain ⟨a, cap, rfl, hc, hm, r⟩ := h
    cases a with
    | none =>
      go_enter Tryd.func19, Tryd.ntmps19
      go_wp2
      go_ret
      exact ⟨_, rfl, World.ownsRow_nil _ _ _ _, Below.refl _ _⟩
    | some a =>
      go_enter Tryd.func19, Tryd.ntmps19
      go_wp2_with (at_builtin; refine wpList_append_own _ rfl _ _ 24 rfl w.heap.size 116 i0 (.agg #[.int .u8 0, .bool false, .int .u64 0]) 3 16 Tryd.underlying24 hi hz0 hz1 hz2 rfl (by decide) _ _ _ rfl (World.ownsRow_nil _ _ _ _) a 0 cap [] rfl rfl (by simp) (by simp) (by unfold maxLen; omega) (by omega) (Nat.le_refl _) ?_)
      intro v' w1 hown' hgrow hnil
      go_wp2
      go_ret
      exact ⟨v', rfl, by simpa using hown', (Below.refl _ _).grown hgrow (Nat.le_refl _) (fun k hk => by simp [Value.ownBlock] at hk)⟩
  · obtain ⟨b, o, cap, rfl, hc, hcell⟩ := h.cells (enc := glC) (fun _ => rfl) (by omega) (fun _ _ h => h) h0
    have HC := Lib.hid hcell
    have HF : Hid ((l.flatMap glC).length = l.length * 3) := Lib.hid (flat_len (sz := 3) (enc := glC) (fun _ => rfl) l)
    clear hcell h
    go_enter Tryd.func19, Tryd.ntmps19
    go_wp2_with (at_builtin; go_loud (refine wpList_append_own _ rfl _ _ 24 rfl w.heap.size 116 i0 (.agg #[.int .u8 0, .bool false, .int .u64 0]) 3 16 Tryd.underlying24 hi hz0 hz1 hz2 rfl (by decide) _ _ _ rfl (World.ownsRow_nil _ _ _ _) ⟨b, o, none⟩ l.length cap (l.flatMap glC) rfl HF.out HC.out ?c2 ?c3 ?c4 (Nat.le_refl _) ?_))
    case c2 => intro u hu; obtain ⟨x, _, hx⟩ := List.mem_flatMap.1 hu; simp only [glC, List.mem_cons, List.not_mem_nil, or_false] at hx; rcases hx with rfl | rfl | rfl <;> rfl
    case c3 => unfold maxLen; omega
    case c4 => omega
    intro v' w1 hown' hgrow hnil
    go_wp2
    go_ret
    exact ⟨v', rfl, by simpa using hown', (Below.refl _ _).grown hgrow (Nat.le_refl _) (fun k hk => by simp [Value.ownBlock] at hk)⟩
theorem Tryd.infoCpExports : (Tryd.prog.info? 60).map (fun i => (i.zero, i.size, i.bytes)) = some (some (.agg #[.string ⟨#[]⟩, .int .i64 0]), 2, 24) := by kernel_rfl
set_option maxRecDepth 100000 in
set_option maxHeartbeats 800000 in
theorem copyExports (w : World) (S) (v : Value) (l : List ExpD) (h : RdExps S w v l) (hl : l.length ≤ 1073741824) :
    Calls Tryd.prog 22 #[v] w fun e w' => ∃ v', e = .returned v' ∧ w'.ownsRow w.heap.size 60 2 v' l.length (l.flatMap exC) ∧ Below w.heap.size w w' := by
  obtain ⟨i0, hi, hz0, hz1, hz2⟩ := info_parts Tryd.infoCpExports
  rcases Nat.eq_zero_or_pos l.length with h0 | h0
  · obtain rfl : l = [] := List.eq_nil_of_length_eq_zero h0
    obtain ⟨a, cap, rfl, hc, hm, r⟩ := h
    cases a with
    | none =>
      go_enter Tryd.func22, Tryd.ntmps22
      go_wp2
      go_ret
      exact ⟨_, rfl, World.ownsRow_nil _ _ _ _, Below.refl _ _⟩
    | some a =>
      go_enter Tryd.func22, Tryd.ntmps22
      go_wp2_with (at_builtin; refine wpList_append_own _ rfl _ _ 27 rfl w.heap.size 60 i0 (.agg #[.string ⟨#[]⟩, .int .i64 0]) 2 24 Tryd.underlying27 hi hz0 hz1 hz2 rfl (by decide) _ _ _ rfl (World.ownsRow_nil _ _ _ _) a 0 cap [] rfl rfl (by simp) (by simp) (by unfold maxLen; omega) (by omega) (Nat.le_refl _) ?_)
      intro v' w1 hown' hgrow hnil
      go_wp2
      go_ret
      exact ⟨v', rfl, by simpa using hown', (Below.refl _ _).grown hgrow (Nat.le_refl _) (fun k hk => by simp [Value.ownBlock] at hk)⟩
  · obtain ⟨b, o, cap, rfl, hc, hcell⟩ := h.cells (enc := exC) (fun _ => rfl) (by omega) (fun _ _ h => h) h0
    have HC := Lib.hid hcell
    have HF : Hid ((l.flatMap exC).length = l.length * 2) := Lib.hid (flat_len (sz := 2) (enc := exC) (fun _ => rfl) l)
    clear hcell h
    go_enter Tryd.func22, Tryd.ntmps22
    go_wp2_with (at_builtin; go_loud (refine wpList_append_own _ rfl _ _ 27 rfl w.heap.size 60 i0 (.agg #[.string ⟨#[]⟩, .int .i64 0]) 2 24 Tryd.underlying27 hi hz0 hz1 hz2 rfl (by decide) _ _ _ rfl (World.ownsRow_nil _ _ _ _) ⟨b, o, none⟩ l.length cap (l.flatMap exC) rfl HF.out HC.out ?c2 ?c3 ?c4 (Nat.le_refl _) ?_))
    case c2 => intro u hu; obtain ⟨x, _, hx⟩ := List.mem_flatMap.1 hu; simp only [exC, List.mem_cons, List.not_mem_nil, or_false] at hx; rcases hx with rfl | rfl <;> rfl
    case c3 => unfold maxLen; omega
    case c4 => omega
    intro v' w1 hown' hgrow hnil
    go_wp2
    go_ret
    exact ⟨v', rfl, by simpa using hown', (Below.refl _ _).grown hgrow (Nat.le_refl _) (fun k hk => by simp [Value.ownBlock] at hk)⟩
end Go.Proofs.YtebegkgechadlaaDoor
namespace Go.Proofs.YtebegkgechadlaaDoor
open Go Go.RowKit
set_option linter.unusedSimpArgs false

theorem Tryd.infoInsC : (Tryd.prog.info? 43).map (fun i => (i.zero, i.size, i.bytes)) = some (some (.agg #[.int .u8 0, .int .i64 0, .slice none 0 0]), 3, 40) := by kernel_rfl
set_option maxRecDepth 100000 in
set_option maxHeartbeats 800000 in
theorem copyInts (w : World) (S) (v : Value) (l : List Int) (h : RdI .i64 S w v l) (hl : l.length ≤ 1073741824) :
    Calls Tryd.prog 18 #[v] w fun e w' => ∃ v', e = .returned v' ∧ OwnI w.heap.size 3 w' v' l ∧ Below w.heap.size w w' := by
  obtain ⟨i0, hi, hz0, hz1, hz2⟩ := info_parts Tryd.infoIntF
  obtain ⟨a, cap, rfl, hc, hm, r⟩ := h
  have H := Lib.hid r; clear r
  rcases Nat.eq_zero_or_pos l.length with h0 | h0
  · obtain rfl : l = [] := List.eq_nil_of_length_eq_zero h0
    cases a with
    | none =>
      go_enter Tryd.func18, Tryd.ntmps18
      go_wp2
      go_ret
      exact ⟨_, rfl, World.ownsRow_nil _ _ _ _, Below.refl _ _⟩
    | some a =>
      go_enter Tryd.func18, Tryd.ntmps18
      go_wp2_with (at_builtin; refine wpList_append_own _ rfl _ _ 23 rfl w.heap.size 3 i0 (.int .i64 0) 1 8 Tryd.underlying23 hi hz0 hz1 hz2 rfl (by decide) _ _ _ rfl (World.ownsRow_nil _ _ _ _) a 0 cap [] rfl rfl (by simp) (by simp) (by unfold maxLen; omega) (by omega) (Nat.le_refl _) ?_)
      intro v' w1 hown' hgrow hnil
      go_wp2
      go_ret
      exact ⟨v', rfl, by simpa [OwnI] using hown', (Below.refl _ _).grown hgrow (Nat.le_refl _) (fun k hk => by simp [Value.ownBlock] at hk)⟩
  · obtain ⟨b, o, rfl, _, _⟩ := H.out 0 h0
    go_enter Tryd.func18, Tryd.ntmps18
    go_wp2_with (at_builtin; refine wpList_append_own _ rfl _ _ 23 rfl w.heap.size 3 i0 (.int .i64 0) 1 8 Tryd.underlying23 hi hz0 hz1 hz2 rfl (by decide) _ _ _ rfl (World.ownsRow_nil _ _ _ _) ⟨b, o, none⟩ l.length cap (ints l) rfl (by simp) ?c1 ?c2 ?c3 ?c4 (Nat.le_refl _) ?_)
    case c1 =>
      intro j u hu
      have hj : j < l.length := by have := (List.getElem?_eq_some_iff.1 hu).1; simpa using this
      obtain ⟨b', o', e, _, hcell⟩ := H.out j hj
      simp only [Option.some.injEq, Addr.mk.injEq, and_true] at e
      obtain ⟨rfl, rfl⟩ := e
      simp [hj] at hu
      subst hu
      unfold Addr.add
      split
      · rename_i e0; subst e0; exact hcell
      · exact hcell
    case c2 => intro u hu; simp at hu; obtain ⟨x, _, rfl⟩ := hu; rfl
    case c3 => unfold maxLen; omega
    case c4 => omega
    intro v' w1 hown' hgrow hnil
    go_wp2
    go_ret
    exact ⟨v', rfl, by simpa [OwnI] using hown', (Below.refl _ _).grown hgrow (Nat.le_refl _) (fun k hk => by simp [Value.ownBlock] at hk)⟩
theorem set3_rowC {w : World} {g : Nat} {o0 o1 o2 : Value} {T : Nat} {fr : Nat × Nat} (h : w.heap[g]? = some (.cells #[o0, o1, o2] T fr)) (v0 v1 v2 : Value) :
    (((w.setCell ⟨g, 0, none⟩ v0).setCell ⟨g, 1, none⟩ v1).setCell ⟨g, 2, none⟩ v2).heap[g]? = some (.cells #[v0, v1, v2] T fr) := by
  simpa using row_setCell (row_setCell (row_setCell h 0 v0) 1 v1) 2 v2
theorem copy_results {a : Act} {w : World} (g : Nat) (cs : Array Value) (hrow : w.heap[g]? = some (.cells cs 43 (0, 0))) (hsz : cs.size = 3) (h2 : a.tmps.getD 2 undef = .pointer (some ⟨g, 0, none⟩)) :
    (results Tryd.f64 a.tmps).run Tryd.prog w = .ok (.agg cs) w := by
  have hl := run_loadVar_row (P := Tryd.prog) w g 43 43 cs (0, 0) _ hrow Tryd.underlying43 rfl (by rw [hsz]; kernel_rfl)
  have h2' : a.tmps[2]?.getD undef = .pointer (some ⟨g, 0, none⟩) := by simpa using h2
  simp [results, Tryd.results64, asAddr, h2', hl]
set_option maxRecDepth 100000 in
set_option maxHeartbeats 1600000 in
theorem copyIns (w : World) (S) (op : Nat) (a : Int) (v : Value) (l : List Int) (hr : RdI .i64 S w v l) (hl : l.length ≤ 1073741824) :
    Calls Tryd.prog 64 #[.agg #[.int .u8 op, .int .i64 a, v]] w fun e w' => ∃ v', e = .returned (.agg #[.int .u8 op, .int .i64 a, v']) ∧ OwnI w.heap.size 3 w' v' l ∧ Below w.heap.size w w' := by
  have HL := Lib.hid hr
  obtain ⟨va, vc, rfl, hlc⟩ := hr.lenc
  clear hr
  go_enter Tryd.func64, Tryd.ntmps64
  have hb1 := below_alloc w (.cells #[.int .u8 op, .int .i64 a, .slice va l.length vc] 43)
  have hr1 := heap_alloc_new w (.cells #[.int .u8 op, .int .i64 a, .slice va l.length vc] 43)
  go_wp2_with fail
  have hsz1 : (w.alloc (.cells #[.int .u8 op, .int .i64 a, .slice va l.length vc] 43)).heap.size = w.heap.size + 1 := World.size_alloc _ _
  generalize w.alloc (.cells #[.int .u8 op, .int .i64 a, .slice va l.length vc] 43) = w1 at *
  have hb2 := below_alloc w1 (.cells #[.int .u8 0, .int .i64 0, .slice none 0 0] 43)
  have hr2 := heap_alloc_new w1 (.cells #[.int .u8 0, .int .i64 0, .slice none 0 0] 43)
  have hsz2 : (w1.alloc (.cells #[.int .u8 0, .int .i64 0, .slice none 0 0] 43)).heap.size = w1.heap.size + 1 := World.size_alloc _ _
  generalize w1.alloc (.cells #[.int .u8 0, .int .i64 0, .slice none 0 0] 43) = w2 at *
  have HL2 := Lib.hid ((HL.out.any.bel hb1).bel hb2)
  have hr12 := (hb2.block _ (row_lt hr1)).trans hr1
  rw [hsz1] at hr2
  refine (copyInts w2 _ _ l HL2.out hl).mono ?_
  rintro e w3 ⟨v', rfl, hw3, hb3⟩
  obtain ⟨a3, c3, rfl, _⟩ := own_slice hw3
  have q1 := (hb3.block _ (row_lt hr12)).trans hr12
  have q2 := (hb3.block _ (row_lt hr2)).trans hr2
  have HB3 := Lib.hid (below_next (below_next hb1 hb2) hb3)
  have hg : w2.heap.size = w.heap.size + 1 + 1 := by rw [hsz2, hsz1]
  rw [hg] at hw3
  have HW3 := Lib.hid hw3
  have HQ := Lib.hid (And.intro q1 q2)
  have x0 := row_cell q1 0 rfl; have x1 := row_cell q1 1 rfl; have x2 := row_cell q1 2 rfl; have y0 := row_cell q2 0 rfl; have y1 := row_cell q2 1 rfl; have y2 := row_cell q2 2 rfl
  have f0 := row_free q1 0; have f1 := row_free q1 1; have f2 := row_free q1 2; have k0 := row_free q2 0; have k1 := row_free q2 1; have k2 := row_free q2 2
  simp only [List.getElem_toArray, List.getElem_cons_zero, List.getElem_cons_succ] at x0 x1 x2 y0 y1 y2
  clear hb1 hr1 hsz1 hb2 hr2 hsz2 HL2 hr12 hw3 hb3 q1 q2 hg HL
  go_wp2
  have qB : ((w3.setCell ⟨w.heap.size, 2, none⟩ (.slice a3 l.length c3)).heap[w.heap.size + 1]? = some (.cells #[.int .u8 0, .int .i64 0, .slice none 0 0] 43 (0, 0))) := by
    rw [Below.heap_setCell _ _ _ _ (by simp)]; exact HQ.out.2
  refine bodyPost_ret (copy_results (w.heap.size + 1) #[.int .u8 op, .int .i64 a, .slice a3 l.length c3] (set3_rowC qB _ _ _) rfl rfl) rfl ⟨_, rfl, ?_, ?_⟩
  · exact own_base (own_keeps (S := fun b => b ≠ w.heap.size ∧ b ≠ w.heap.size + 1) HW3.out (((((Keeps.refl _ w3).setCell (a := ⟨w.heap.size, 2, none⟩) (by simp) _).setCell (a := ⟨w.heap.size + 1, 0, none⟩) (by simp) _).setCell (a := ⟨w.heap.size + 1, 1, none⟩) (by simp) _).setCell (a := ⟨w.heap.size + 1, 2, none⟩) (by simp) _) fun b hb => by have := (HW3.out.lt b hb).1; omega) (by omega)
  · exact (((HB3.out.setCell (p := ⟨w.heap.size, 2, none⟩) (Nat.le_refl _) _).setCell (p := ⟨w.heap.size + 1, 0, none⟩) (by simp) _).setCell (p := ⟨w.heap.size + 1, 1, none⟩) (by simp) _).setCell (p := ⟨w.heap.size + 1, 2, none⟩) (by simp) _
/-- Instructions as cells: each with its list. -/
def insC (ps : List (InsD × Value)) : List Value := ps.flatMap fun p => [.int .u8 p.1.op, .int .i64 p.1.a, p.2]
theorem insC_len : ∀ ps, (insC ps).length = ps.length * 3
  | [] => rfl
  | p :: ps => by
    have := insC_len ps
    show ([Value.int .u8 p.1.op, .int .i64 p.1.a, p.2] ++ insC ps).length = _
    rw [List.length_append, this, List.length_cons]; simp; omega
theorem insC_app (ps qs : List (InsD × Value)) : insC (ps ++ qs) = insC ps ++ insC qs := by simp [insC]
theorem insC_at : ∀ (ps : List (InsD × Value)) (k : Nat) (p), ps[k]? = some p → (insC ps)[k * 3]? = some (.int .u8 p.1.op) ∧ (insC ps)[k * 3 + 1]? = some (.int .i64 p.1.a) ∧ (insC ps)[k * 3 + 2]? = some p.2
  | [], k, p, h => by simp at h
  | q :: ps, 0, p, h => by simp at h; subst h; exact ⟨rfl, rfl, rfl⟩
  | q :: ps, k + 1, p, h => by
    have := insC_at ps k p (by simpa using h)
    rw [show (k + 1) * 3 = k * 3 + 1 + 1 + 1 by omega]
    exact this
theorem insC_one : ∀ (ps : List (InsD × Value)), (∀ p ∈ ps, p.2.oneCell' = true) → ∀ u ∈ insC ps, u.oneCell' = true
  | [], _, u, h => by simp [insC] at h
  | p :: ps, hp, u, h => by
    have h' : u ∈ [Value.int .u8 p.1.op, .int .i64 p.1.a, p.2] ++ insC ps := h
    rcases List.mem_append.1 h' with h1 | h1
    · simp only [List.mem_cons, List.not_mem_nil, or_false] at h1
      rcases h1 with rfl | rfl | rfl
      · rfl
      · rfl
      · exact hp p (List.mem_cons_self ..)
    · exact insC_one ps (fun q hq => hp q (List.mem_cons_of_mem _ hq)) u h1
/-- A code of its own: its row, its lists. -/
structure OwnC (B : Nat) (w : World) (v : Value) (ps : List (InsD × Value)) : Prop where
  row : w.ownsRow B 43 3 v ps.length (insC ps)
  ls : ∀ p ∈ ps, RdI .i64 (fun b => B ≤ b ∧ v.ownBlock ≠ some b) w p.2 p.1.l
theorem OwnC.one {B : Nat} {w : World} {v : Value} {ps : List (InsD × Value)} (h : OwnC B w v ps) : ∀ p ∈ ps, p.2.oneCell' = true := fun p hp => by
  obtain ⟨a, c, e, _⟩ := h.ls p hp
  rw [e]; rfl
theorem OwnC.cd {B : Nat} {w : World} {v : Value} {ps : List (InsD × Value)} (h : OwnC B w v ps) (hl : ps.length ≤ 140737488355328) : Cd w v (ps.map Prod.fst) := by
  refine CdS.any (S := fun _ => True) ?_
  rcases h.row.2 with ⟨rfl, h0⟩ | ⟨g, cap, cur, rfl, hb, hg, hn, hm, hs, ht⟩
  · have : ps = [] := List.eq_nil_of_length_eq_zero h0
    subst this
    exact RdL.nil _ _ _ _
  · refine ⟨some ⟨g, 0, none⟩, cap, by simp, by simpa using hn, by simpa using hl, fun k hk => ?_⟩
    have hk' : k < ps.length := by simpa using hk
    obtain ⟨h0, h1, h2⟩ := insC_at ps k ps[k] (List.getElem?_eq_getElem hk')
    have c0 := own_at h.row rfl h0; have c1 := own_at h.row rfl h1; have c2 := own_at h.row rfl h2
    refine ⟨g, 0, [.int .u8 ps[k].1.op, .int .i64 ps[k].1.a, ps[k].2], rfl, trivial, rfl, fun i hi => ?_, ps[k].2, by simp, ?_⟩
    · rw [Nat.zero_add]
      match i, hi with
      | 0, _ => exact c0
      | 1, _ => exact c1
      | 2, _ => exact c2
    · have := (h.ls ps[k] (List.getElem_mem _)).mono (T := fun _ => True) fun _ _ _ => trivial
      simpa using this
theorem OwnC.nil (B : Nat) (w : World) : OwnC B w (.slice none 0 0) [] := ⟨World.ownsRow_nil _ _ _ _, fun p h => by cases h⟩
theorem OwnC.on {B : Nat} {w w' : World} {v : Value} {ps : List (InsD × Value)} (h : OwnC B w v ps) (hb : Below w.heap.size w w') : OwnC B w' v ps :=
  ⟨own_below h.row hb, fun p hp => (h.ls p hp).keeps (Keeps.all _ hb)⟩
/-- One more, or some more: what an append of rows leaves. -/
theorem OwnC.app {B n : Nat} {w w' : World} {v v' : Value} {ps qs : List (InsD × Value)} (h : OwnC B w v ps) (ho : w'.ownsRow B 43 3 v' (ps.length + qs.length) (insC ps ++ insC qs)) (hk : Kept w w' v.ownBlock n)
    (hf : ∀ g, v'.ownBlock = some g → v.ownBlock = some g ∨ w.heap.size ≤ g) (hq : ∀ p ∈ qs, RdI .i64 (fun b => B ≤ b ∧ v.ownBlock ≠ some b) w p.2 p.1.l) : OwnC B w' v' (ps ++ qs) := by
  refine ⟨by rw [List.length_append, insC_app]; exact ho, fun p hp => ?_⟩
  have hr : RdI .i64 (fun b => B ≤ b ∧ v.ownBlock ≠ some b) w p.2 p.1.l := by
    rcases List.mem_append.1 hp with h1 | h1
    · exact h.ls p h1
    · exact hq p h1
  have hk1 : Keeps (fun b => B ≤ b ∧ v.ownBlock ≠ some b) w w' := (Keeps.refl _ w).grown hk.grown fun k hk' _ h' => h'.2 hk'
  have h1 := hr.lt
  have h2 := h1.keeps (hk1.mono fun b _ hb => hb.1)
  refine h2.mono fun b _ hb => ⟨hb.1.1, fun e => ?_⟩
  rcases hf b e with h3 | h3
  · exact hb.1.2 h3
  · omega
theorem OwnC.max {B : Nat} {w : World} {v : Value} {ps : List (InsD × Value)} (h : OwnC B w v ps) : ∃ a c, v = .slice a ps.length c := by
  obtain ⟨a, c, e, _⟩ := own_slice h.row
  exact ⟨a, c, e⟩
theorem cells3_new (w : World) (x y z : Value) (t : TypeId) : ∀ j u, [x, y, z][j]? = some u → (w.alloc (.cells #[x, y, z] t)).cell? ((⟨w.heap.size, 0, none⟩ : Addr).add j) = some u := by
  intro j u hu
  have e : (⟨w.heap.size, 0, none⟩ : Addr).add j = ⟨w.heap.size, j, none⟩ := by unfold Addr.add; split <;> simp_all
  rw [e, cell_of_row _ _ j _ _ _ (heap_alloc_new _ _)]
  rw [← hu]; simp
set_option maxRecDepth 100000 in
set_option maxHeartbeats 1600000 in
theorem copyCode (w : World) (v : Value) (l : List InsD) (hc : Cd w v l) (hl : l.length ≤ 1048576) (hll : ∀ j (h : j < l.length), l[j].l.length ≤ 1048576) :
    Calls Tryd.prog 39 #[v] w fun e w' => ∃ v' ps, e = .returned v' ∧ ps.map Prod.fst = l ∧ OwnC w.heap.size w' v' ps ∧ Below w.heap.size w w' := by
  obtain ⟨i0, hi, hz0, hz1, hz2⟩ := info_parts Tryd.infoInsC
  have HL := Lib.hid hc
  have HLL := Lib.hid hll
  obtain ⟨va, vc, rfl, hlc⟩ := hc.len
  clear hc hll
  go_enter Tryd.func39, Tryd.ntmps39
  go_wp2
  go_loopw [3, 4] (fun ov i wr => ∃ (k : Nat) (ps : List (InsD × Value)), k ≤ l.length ∧ ps.length ≤ k ∧ i = .int .i64 k ∧ Hid (ps.map Prod.fst = l.take k) ∧ Hid (OwnC w.heap.size wr ov ps) ∧ Hid (Below w.heap.size w wr)) (fun _ i _ => l.length - (intOf i).toNat)
  case atStart => exact ⟨0, [], by omega, by simp, rfl, Lib.hid rfl, Lib.hid (OwnC.nil _ _), Lib.hid (Below.refl _ _)⟩
  case round =>
    obtain ⟨k, ps, hk, hpl, rfl, HP, HO, HB⟩ := hrel
    by_cases hlt : k < l.length
    · obtain ⟨b, off, vl, rfl, x0, x1, x2, hrl⟩ := Cd.at_ (Cd.bel HL.out HB.out) hlt
      have HW0 := Lib.hid (copyIns wr _ l[k].op l[k].a vl l[k].l hrl (by have := HLL.out k hlt; omega))
      have HX : Hid (∃ x : InsD, l[k] = x) := Lib.hid ⟨_, rfl⟩
      have HLEN : Hid (l[k].l.length ≤ 1048576) := Lib.hid (HLL.out k hlt)
      obtain ⟨x, hx⟩ := HX.out
      have HTK : Hid (l.take (k + 1) = l.take k ++ [x]) := Lib.hid (by rw [List.take_succ_eq_append_getElem hlt, hx])
      rw [hx] at HW0 x0 x1 HLEN
      obtain ⟨op, xa, xl⟩ := x
      simp only at *
      obtain ⟨al, cl, rfl, _⟩ := hrl.lenc
      obtain ⟨oa, oc, rfl⟩ := HO.out.max
      have hsz := HB.out.size
      clear hrl hx HX
      go_wp2_with fail
      refine HW0.out.mono ?_
      rintro e w5 ⟨v5, rfl, ho5, hb5⟩
      obtain ⟨a5, c5, rfl, _⟩ := own_slice ho5
      have hb6 := below_alloc w5 (.cells #[.int .u8 op, .int .i64 xa, .slice a5 xl.length c5] 43)
      have HO6 := Lib.hid ((HO.out.on hb5).on hb6)
      have hB6 : w.heap.size ≤ (w5.alloc (.cells #[.int .u8 op, .int .i64 xa, .slice a5 xl.length c5] 43)).heap.size := by have := hb5.size; rw [World.size_alloc]; omega
      have HB6 := Lib.hid (below_next HB.out (below_next hb5 hb6))
      have HR6 : Hid (∀ p ∈ [((⟨op, xa, xl⟩ : InsD), Value.slice a5 xl.length c5)], RdI .i64 (fun b => w.heap.size ≤ b ∧ (Value.slice oa ps.length oc).ownBlock ≠ some b) (w5.alloc (.cells #[.int .u8 op, .int .i64 xa, .slice a5 xl.length c5] 43)) p.2 p.1.l) := Lib.hid (by
        intro p hp
        obtain rfl : p = _ := List.mem_singleton.1 hp
        refine ((RdI.of_own ho5 (by have := HLEN.out; omega)).keeps (Keeps.all _ hb6)).mono fun b _ hb => ?_
        have h1 := (ho5.lt b hb).1
        refine ⟨by omega, fun e => ?_⟩
        have h2 := (HO.out.row.lt b e).2
        omega)
      clear ho5 hb5 hb6 HW0
      go_wp2_with (at_builtin; refine wpList_append_kept _ rfl _ _ 44 rfl w.heap.size 43 i0 (.agg #[.int .u8 0, .int .i64 0, .slice none 0 0]) 3 40 Tryd.underlying44 hi hz0 hz1 hz2 rfl (by decide) _ ps.length (insC ps) rfl HO6.out.row ⟨w5.heap.size, 0, none⟩ 1 1 [.int .u8 op, .int .i64 xa, .slice a5 xl.length c5] rfl rfl (cells3_new _ _ _ _ _) (by simp [Value.oneCell']) (by unfold maxLen; omega) (by omega) hB6 ?_)
      intro v' w7 ho hk7 hf
      have HN : Hid (OwnC w.heap.size w7 v' (ps ++ [((⟨op, xa, xl⟩ : InsD), Value.slice a5 xl.length c5)])) := Lib.hid (HO6.out.app ho hk7 (fun g hg => by have := hf g hg; rw [World.size_alloc]; exact this) HR6.out)
      have HBN := Lib.hid (HB6.out.grown hk7.grown hB6 fun j hj => (HO6.out.row.lt j hj).1)
      have HPN : Hid ((ps ++ [((⟨op, xa, xl⟩ : InsD), Value.slice a5 xl.length c5)]).map Prod.fst = l.take (k + 1)) := Lib.hid (by rw [List.map_append, HP.out, HTK.out]; rfl)
      clear ho hk7 hf HO6 HR6 HB6 hB6
      go_wp2
      go_roundw
      case rel => exact ⟨k + 1, _, by omega, by simp; omega, by go_num, HPN, HN, HBN⟩
      case measure => simp [intOf]; omega
    · obtain rfl : k = l.length := by omega
      go_wp2
      go_ret
      exact ⟨_, ps, rfl, by rw [HP.out, List.take_length], HO.out, HB.out⟩
end Go.Proofs.YtebegkgechadlaaDoor
namespace Go.Proofs.YtebegkgechadlaaDoor
open Go Go.RowKit
set_option linter.unusedSimpArgs false

/-- What a deep list's elements hold: it may be looked at in fewer blocks, and stays where they stay. -/
structure Deep {α : Type} (R : (Nat → Prop) → World → Value → α → Prop) : Prop where
  mono : ∀ {S T : Nat → Prop} {w : World} {v : Value} {x : α}, R S w v x → (∀ b, b < w.heap.size → S b → T b) → R T w v x
  keep : ∀ {S : Nat → Prop} {w w' : World} {v : Value} {x : α}, R S w v x → Keeps S w w' → R S w' v x
  one : ∀ {S : Nat → Prop} {w : World} {v : Value} {x : α}, R S w v x → v.oneCell' = true
/-- A list of its own whose elements hold lists. -/
structure OwnG {α : Type} (T sz : Nat) (enc : α × Value → List Value) (R : (Nat → Prop) → World → Value → α → Prop) (B : Nat) (w : World) (v : Value) (ps : List (α × Value)) : Prop where
  row : w.ownsRow B T sz v ps.length (ps.flatMap enc)
  ls : ∀ p ∈ ps, R (fun b => B ≤ b ∧ v.ownBlock ≠ some b) w p.2 p.1
section
variable {α : Type} {T sz : Nat} {enc : α × Value → List Value} {R : (Nat → Prop) → World → Value → α → Prop} {B n : Nat} {w w' : World} {v v' : Value} {ps qs : List (α × Value)}
theorem OwnG.nil : OwnG T sz enc R B w (.slice none 0 0) [] := ⟨World.ownsRow_nil _ _ _ _, fun p h => by cases h⟩
theorem OwnG.on (hd : Deep R) (h : OwnG T sz enc R B w v ps) (hb : Below w.heap.size w w') : OwnG T sz enc R B w' v ps :=
  ⟨own_below h.row hb, fun p hp => hd.keep (h.ls p hp) (Keeps.all _ hb)⟩
/-- Some more: what an append of rows leaves. -/
theorem OwnG.app (hd : Deep R) (h : OwnG T sz enc R B w v ps) (ho : w'.ownsRow B T sz v' (ps.length + qs.length) (ps.flatMap enc ++ qs.flatMap enc)) (hk : Kept w w' v.ownBlock n)
    (hf : ∀ g, v'.ownBlock = some g → v.ownBlock = some g ∨ w.heap.size ≤ g) (hq : ∀ p ∈ qs, R (fun b => B ≤ b ∧ v.ownBlock ≠ some b) w p.2 p.1) : OwnG T sz enc R B w' v' (ps ++ qs) := by
  refine ⟨by rw [List.length_append, List.flatMap_append]; exact ho, fun p hp => ?_⟩
  have hr : R (fun b => B ≤ b ∧ v.ownBlock ≠ some b) w p.2 p.1 := by
    rcases List.mem_append.1 hp with h1 | h1
    · exact h.ls p h1
    · exact hq p h1
  have hk1 : Keeps (fun b => B ≤ b ∧ v.ownBlock ≠ some b) w w' := (Keeps.refl _ w).grown hk.grown fun k hk' _ h' => h'.2 hk'
  have h1 := hd.mono (T := fun b => (B ≤ b ∧ v.ownBlock ≠ some b) ∧ b < w.heap.size) hr fun b hb h => ⟨h, hb⟩
  have h2 := hd.keep h1 (hk1.mono fun b _ hb => hb.1)
  refine hd.mono h2 fun b _ hb => ⟨hb.1.1, fun e => ?_⟩
  rcases hf b e with h3 | h3
  · exact hb.1.2 h3
  · have := hb.2; omega
theorem OwnG.max (h : OwnG T sz enc R B w v ps) : ∃ a c, v = .slice a ps.length c := by
  obtain ⟨a, c, e, _⟩ := own_slice h.row
  exact ⟨a, c, e⟩
end
abbrev CdR (S : Nat → Prop) (w : World) (v : Value) (x : FunD) : Prop := CdS S w v x.code
abbrev ByR (S : Nat → Prop) (w : World) (v : Value) (x : DatD) : Prop := RdI .u8 S w v x.b
theorem CdS.monoS {S T : Nat → Prop} {w : World} {v : Value} {l : List InsD} (h : CdS S w v l) (hS : ∀ b, b < w.heap.size → S b → T b) : CdS T w v l :=
  RdL.mono h (by omega) hS fun _ _ hr => hr.mono hS
theorem deepF : Deep CdR := ⟨fun h hS => CdS.monoS h hS, fun h hk => CdS.keeps h hk fun _ h => h, fun h => by obtain ⟨a, c, e, _⟩ := h; rw [e]; rfl⟩
theorem deepD : Deep ByR := ⟨fun h hS => RdI.mono h hS, fun h hk => RdI.keeps h hk, fun h => by obtain ⟨a, c, e, _⟩ := h; rw [e]; rfl⟩
def fnC (p : FunD × Value) : List Value := [.int .i64 p.1.t, .string p.1.locals, p.2]
def dnC (p : DatD × Value) : List Value := [.int .i64 p.1.at_, p.2]
abbrev OwnF := OwnG 46 3 fnC CdR
abbrev OwnD := OwnG 58 2 dnC ByR
/-- A copied code, in its own blocks. -/
theorem OwnC.cds {B : Nat} {w : World} {v : Value} {ps : List (InsD × Value)} (h : OwnC B w v ps) (hl : ps.length ≤ 140737488355328) : CdS (fun b => B ≤ b) w v (ps.map Prod.fst) := by
  rcases h.row.2 with ⟨rfl, h0⟩ | ⟨g, cap, cur, rfl, hb, hg, hn, hm, hs, ht⟩
  · have : ps = [] := List.eq_nil_of_length_eq_zero h0
    subst this
    exact RdL.nil _ _ _ _
  · refine ⟨some ⟨g, 0, none⟩, cap, by simp, by simpa using hn, by simpa using hl, fun k hk => ?_⟩
    have hk' : k < ps.length := by simpa using hk
    obtain ⟨h0, h1, h2⟩ := insC_at ps k ps[k] (List.getElem?_eq_getElem hk')
    have c0 := own_at h.row rfl h0; have c1 := own_at h.row rfl h1; have c2 := own_at h.row rfl h2
    refine ⟨g, 0, [.int .u8 ps[k].1.op, .int .i64 ps[k].1.a, ps[k].2], rfl, hb, rfl, fun i hi => ?_, ps[k].2, by simp, ?_⟩
    · rw [Nat.zero_add]
      match i, hi with
      | 0, _ => exact c0
      | 1, _ => exact c1
      | 2, _ => exact c2
    · have := (h.ls ps[k] (List.getElem_mem _)).mono (T := fun b => B ≤ b) fun _ _ h => h.1
      simpa using this
theorem RdFuns.at_ {S : Nat → Prop} {w : World} {a : Option Addr} {n c : Nat} {l : List FunD} (h : RdFuns S w (.slice a n c) l) {k : Nat} (hk : k < l.length) :
    ∃ b off v, a = some ⟨b, off, none⟩ ∧ w.cell? ⟨b, off + k * 3, none⟩ = some (.int .i64 l[k].t) ∧ w.cell? ⟨b, off + k * 3 + 1, none⟩ = some (.string l[k].locals) ∧ w.cell? ⟨b, off + k * 3 + 2, none⟩ = some v ∧ CdS S w v l[k].code := by
  obtain ⟨a', c', e, _, _, h3⟩ := h
  simp only [Value.slice.injEq] at e
  obtain ⟨rfl, _, rfl⟩ := e
  obtain ⟨b, off, cs, e1, e2, e3, e4, v, e5, e6⟩ := h3 k hk
  subst e5
  exact ⟨b, off, v, e1, e4 0 (by omega), e4 1 (by omega), e4 2 (by omega), e6⟩
theorem RdDats.at_ {S : Nat → Prop} {w : World} {a : Option Addr} {n c : Nat} {l : List DatD} (h : RdDats S w (.slice a n c) l) {k : Nat} (hk : k < l.length) :
    ∃ b off v, a = some ⟨b, off, none⟩ ∧ w.cell? ⟨b, off + k * 2, none⟩ = some (.int .i64 l[k].at_) ∧ w.cell? ⟨b, off + k * 2 + 1, none⟩ = some v ∧ RdI .u8 S w v l[k].b := by
  obtain ⟨a', c', e, _, _, h3⟩ := h
  simp only [Value.slice.injEq] at e
  obtain ⟨rfl, _, rfl⟩ := e
  obtain ⟨b, off, cs, e1, e2, e3, e4, v, e5, e6⟩ := h3 k hk
  subst e5
  exact ⟨b, off, v, e1, e4 0 (by omega), e4 1 (by omega), e6⟩
theorem RdFuns.bel {w w' : World} {v : Value} {l : List FunD} (h : RdFuns (· < w.heap.size) w v l) (hb : Below w.heap.size w w') : RdFuns (· < w'.heap.size) w' v l :=
  RdL.map h (Keeps.all _ hb) (fun _ hb' => Nat.lt_of_lt_of_le hb' hb.size) fun _ _ hr => (hr.keeps (Keeps.all _ hb)).mono fun _ _ hb' => Nat.lt_of_lt_of_le hb' hb.size
theorem RdDats.bel {w w' : World} {v : Value} {l : List DatD} (h : RdDats (· < w.heap.size) w v l) (hb : Below w.heap.size w w') : RdDats (· < w'.heap.size) w' v l :=
  RdL.map h (Keeps.all _ hb) (fun _ hb' => Nat.lt_of_lt_of_le hb' hb.size) fun _ _ hr => (hr.keeps (Keeps.all _ hb)).mono fun _ _ hb' => Nat.lt_of_lt_of_le hb' hb.size
theorem set2_rowD {w : World} {g : Nat} {o0 o1 : Value} {T : Nat} {fr : Nat × Nat} (h : w.heap[g]? = some (.cells #[o0, o1] T fr)) (v0 v1 : Value) :
    ((w.setCell ⟨g, 0, none⟩ v0).setCell ⟨g, 1, none⟩ v1).heap[g]? = some (.cells #[v0, v1] T fr) := by
  simpa using row_setCell (row_setCell h 0 v0) 1 v1
theorem copy_resultsFunction1 {a : Act} {w : World} (g : Nat) (cs : Array Value) (hrow : w.heap[g]? = some (.cells cs 46 (0, 0))) (hsz : cs.size = 3) (h2 : a.tmps.getD 2 undef = .pointer (some ⟨g, 0, none⟩)) :
    (results Tryd.f27 a.tmps).run Tryd.prog w = .ok (.agg cs) w := by
  have hl := run_loadVar_row (P := Tryd.prog) w g 46 46 cs (0, 0) _ hrow Tryd.underlying46 rfl (by rw [hsz]; kernel_rfl)
  have h2' : a.tmps[2]?.getD undef = .pointer (some ⟨g, 0, none⟩) := by simpa using h2
  simp [results, Tryd.results27, asAddr, h2', hl]
set_option maxRecDepth 100000 in
set_option maxHeartbeats 1600000 in
theorem copyFunction1 (w : World) (t : Int) (loc : ByteArray) (v : Value) (l : List InsD) (hr : Cd w v l) (hl : l.length ≤ 1048576) (hll : ∀ j (h : j < l.length), l[j].l.length ≤ 1048576) :
    Calls Tryd.prog 27 #[.agg #[.int .i64 t, .string loc, v]] w fun e w' => ∃ v', e = .returned (.agg #[.int .i64 t, .string loc, v']) ∧ CdS (fun b => w.heap.size ≤ b) w' v' l ∧ Below w.heap.size w w' := by
  have HL := Lib.hid hr
  obtain ⟨va, vc, ln, rfl⟩ : ∃ va vc ln, v = .slice va ln vc := by obtain ⟨a, c, e, _⟩ := hr; exact ⟨a, c, _, e⟩
  clear hr
  go_enter Tryd.func27, Tryd.ntmps27
  have hb1 := below_alloc w (.cells #[.int .i64 t, .string loc, .slice va ln vc] 46)
  have hr1 := heap_alloc_new w (.cells #[.int .i64 t, .string loc, .slice va ln vc] 46)
  go_wp2_with fail
  have hsz1 : (w.alloc (.cells #[.int .i64 t, .string loc, .slice va ln vc] 46)).heap.size = w.heap.size + 1 := World.size_alloc _ _
  generalize w.alloc (.cells #[.int .i64 t, .string loc, .slice va ln vc] 46) = w1 at *
  have hb2 := below_alloc w1 (.cells #[.int .i64 0, .string ⟨#[]⟩, .slice none 0 0] 46)
  have hr2 := heap_alloc_new w1 (.cells #[.int .i64 0, .string ⟨#[]⟩, .slice none 0 0] 46)
  have hsz2 : (w1.alloc (.cells #[.int .i64 0, .string ⟨#[]⟩, .slice none 0 0] 46)).heap.size = w1.heap.size + 1 := World.size_alloc _ _
  generalize w1.alloc (.cells #[.int .i64 0, .string ⟨#[]⟩, .slice none 0 0] 46) = w2 at *
  have hr12 := (hb2.block _ (row_lt hr1)).trans hr1
  rw [hsz1] at hr2
  refine (copyCode w2 _ l ((Cd.bel (Cd.bel HL.out hb1) hb2)) hl hll).mono ?_
  rintro e w3 ⟨v', ps, rfl, hps, hw3, hb3⟩
  obtain ⟨a3, c3, rfl⟩ := hw3.max
  generalize hln3 : ps.length = ln3 at *
  have q1 := (hb3.block _ (row_lt hr12)).trans hr12
  have q2 := (hb3.block _ (row_lt hr2)).trans hr2
  have HB3 := Lib.hid (below_next (below_next hb1 hb2) hb3)
  have hg : w2.heap.size = w.heap.size + 1 + 1 := by rw [hsz2, hsz1]
  rw [hg] at hw3
  have HW3 := Lib.hid hw3
  have HQ := Lib.hid (And.intro q1 q2)
  have x0 := row_cell q1 0 rfl; have y0 := row_cell q2 0 rfl; have f0 := row_free q1 0; have k0 := row_free q2 0; have x1 := row_cell q1 1 rfl; have y1 := row_cell q2 1 rfl; have f1 := row_free q1 1; have k1 := row_free q2 1; have x2 := row_cell q1 2 rfl; have y2 := row_cell q2 2 rfl; have f2 := row_free q1 2; have k2 := row_free q2 2
  simp only [List.getElem_toArray, List.getElem_cons_zero, List.getElem_cons_succ] at x0 y0 x1 y1 x2 y2
  clear hb1 hr1 hsz1 hb2 hr2 hsz2 hr12 hw3 hb3 q1 q2 hg HL
  go_wp2
  have qB : ((w3.setCell ⟨w.heap.size, 2, none⟩ (.slice a3 ln3 c3)).heap[w.heap.size + 1]? = some (.cells #[.int .i64 0, .string ⟨#[]⟩, .slice none 0 0] 46 (0, 0))) := by
    rw [Below.heap_setCell _ _ _ _ (by simp)]; exact HQ.out.2
  have hk : Keeps (fun b => b ≠ w.heap.size ∧ b ≠ w.heap.size + 1) w3 _ := ((((Keeps.refl _ w3).setCell (a := ⟨w.heap.size, 2, none⟩) (by simp) (.slice a3 ln3 c3)).setCell (a := ⟨w.heap.size + 1, 0, none⟩) (by simp) (.int .i64 t)).setCell (a := ⟨w.heap.size + 1, 1, none⟩) (by simp) (.string loc)).setCell (a := ⟨w.heap.size + 1, 2, none⟩) (by simp) (.slice a3 ln3 c3)
  refine bodyPost_ret (copy_resultsFunction1 (w.heap.size + 1) #[.int .i64 t, .string loc, .slice a3 ln3 c3] (set3_rowC qB _ _ _) rfl rfl) rfl ⟨_, rfl, ?_, (((HB3.out.setCell (p := ⟨w.heap.size, 2, none⟩) (Nat.le_refl _) _).setCell (p := ⟨w.heap.size + 1, 0, none⟩) (by simp) _).setCell (p := ⟨w.heap.size + 1, 1, none⟩) (by simp) _).setCell (p := ⟨w.heap.size + 1, 2, none⟩) (by simp) _⟩
  have hcd := HW3.out.cds (by have := congrArg List.length hps; rw [List.length_map] at this; omega)
  rw [hps] at hcd
  exact (CdS.keeps hcd (T := fun b => b ≠ w.heap.size ∧ b ≠ w.heap.size + 1) hk fun b hb => by omega).monoS fun b _ hb => by omega
theorem copy_resultsData1 {a : Act} {w : World} (g : Nat) (cs : Array Value) (hrow : w.heap[g]? = some (.cells cs 58 (0, 0))) (hsz : cs.size = 2) (h2 : a.tmps.getD 2 undef = .pointer (some ⟨g, 0, none⟩)) :
    (results Tryd.f28 a.tmps).run Tryd.prog w = .ok (.agg cs) w := by
  have hl := run_loadVar_row (P := Tryd.prog) w g 58 58 cs (0, 0) _ hrow Tryd.underlying58 rfl (by rw [hsz]; kernel_rfl)
  have h2' : a.tmps[2]?.getD undef = .pointer (some ⟨g, 0, none⟩) := by simpa using h2
  simp [results, Tryd.results28, asAddr, h2', hl]
set_option maxRecDepth 100000 in
set_option maxHeartbeats 1600000 in
theorem copyData1 (w : World) (a : Int) (v : Value) (l : List Int) (S) (hr : RdI .u8 S w v l) (hl : l.length ≤ 140737488355328) :
    Calls Tryd.prog 28 #[.agg #[.int .i64 a, v]] w fun e w' => ∃ v', e = .returned (.agg #[.int .i64 a, v']) ∧ RdI .u8 (fun b => w.heap.size ≤ b) w' v' l ∧ Below w.heap.size w w' := by
  have HL := Lib.hid hr
  obtain ⟨va, vc, ln, rfl⟩ : ∃ va vc ln, v = .slice va ln vc := by obtain ⟨a, c, e, _⟩ := hr; exact ⟨a, c, _, e⟩
  clear hr
  go_enter Tryd.func28, Tryd.ntmps28
  have hb1 := below_alloc w (.cells #[.int .i64 a, .slice va ln vc] 58)
  have hr1 := heap_alloc_new w (.cells #[.int .i64 a, .slice va ln vc] 58)
  go_wp2_with fail
  have hsz1 : (w.alloc (.cells #[.int .i64 a, .slice va ln vc] 58)).heap.size = w.heap.size + 1 := World.size_alloc _ _
  generalize w.alloc (.cells #[.int .i64 a, .slice va ln vc] 58) = w1 at *
  have hb2 := below_alloc w1 (.cells #[.int .i64 0, .slice none 0 0] 58)
  have hr2 := heap_alloc_new w1 (.cells #[.int .i64 0, .slice none 0 0] 58)
  have hsz2 : (w1.alloc (.cells #[.int .i64 0, .slice none 0 0] 58)).heap.size = w1.heap.size + 1 := World.size_alloc _ _
  generalize w1.alloc (.cells #[.int .i64 0, .slice none 0 0] 58) = w2 at *
  have hr12 := (hb2.block _ (row_lt hr1)).trans hr1
  rw [hsz1] at hr2
  refine (copyBytes w2 _ _ l ((HL.out.any.bel hb1).bel hb2)).mono ?_
  rintro e w3 ⟨v', rfl, hw3, hb3⟩
  obtain ⟨a3, c3, rfl, _⟩ := own_slice hw3
  generalize hln3 : l.length = ln3 at *
  have q1 := (hb3.block _ (row_lt hr12)).trans hr12
  have q2 := (hb3.block _ (row_lt hr2)).trans hr2
  have HB3 := Lib.hid (below_next (below_next hb1 hb2) hb3)
  have hg : w2.heap.size = w.heap.size + 1 + 1 := by rw [hsz2, hsz1]
  rw [hg] at hw3
  have HW3 := Lib.hid hw3
  have HQ := Lib.hid (And.intro q1 q2)
  have x0 := row_cell q1 0 rfl; have y0 := row_cell q2 0 rfl; have f0 := row_free q1 0; have k0 := row_free q2 0; have x1 := row_cell q1 1 rfl; have y1 := row_cell q2 1 rfl; have f1 := row_free q1 1; have k1 := row_free q2 1
  simp only [List.getElem_toArray, List.getElem_cons_zero, List.getElem_cons_succ] at x0 y0 x1 y1
  clear hb1 hr1 hsz1 hb2 hr2 hsz2 hr12 hw3 hb3 q1 q2 hg HL
  go_wp2
  have qB : ((w3.setCell ⟨w.heap.size, 1, none⟩ (.slice a3 ln3 c3)).heap[w.heap.size + 1]? = some (.cells #[.int .i64 0, .slice none 0 0] 58 (0, 0))) := by
    rw [Below.heap_setCell _ _ _ _ (by simp)]; exact HQ.out.2
  have hk : Keeps (fun b => b ≠ w.heap.size ∧ b ≠ w.heap.size + 1) w3 _ := (((Keeps.refl _ w3).setCell (a := ⟨w.heap.size, 1, none⟩) (by simp) (.slice a3 ln3 c3)).setCell (a := ⟨w.heap.size + 1, 0, none⟩) (by simp) (.int .i64 a)).setCell (a := ⟨w.heap.size + 1, 1, none⟩) (by simp) (.slice a3 ln3 c3)
  refine bodyPost_ret (copy_resultsData1 (w.heap.size + 1) #[.int .i64 a, .slice a3 ln3 c3] (set2_rowD qB _ _) rfl rfl) rfl ⟨_, rfl, ?_, ((HB3.out.setCell (p := ⟨w.heap.size, 1, none⟩) (Nat.le_refl _) _).setCell (p := ⟨w.heap.size + 1, 0, none⟩) (by simp) _).setCell (p := ⟨w.heap.size + 1, 1, none⟩) (by simp) _⟩
  have hcd := (RdI.of_own (l := l) (by rw [hln3]; exact HW3.out) (by omega)).mono (T := fun b => w.heap.size + 1 + 1 ≤ b) fun b _ hb => (World.ownsRow.lt HW3.out b hb).1
  exact (hcd.keeps (hk.mono fun b _ hb => by omega)).mono fun b _ hb => by omega
end Go.Proofs.YtebegkgechadlaaDoor
namespace Go.Proofs.YtebegkgechadlaaDoor
open Go Go.RowKit

/-- The slice v reads as the values xs, one cell each; what it reads lies in the blocks S. -/
def RdV (S : Nat → Prop) (w : World) (v : Value) (xs : List Value) : Prop :=
  ∃ a cap, v = .slice a xs.length cap ∧ xs.length ≤ cap ∧ xs.length ≤ 140737488355328 ∧
    ∀ j (h : j < xs.length), ∃ b off, a = some ⟨b, off, none⟩ ∧ S b ∧ w.cell? ⟨b, off + j, none⟩ = some xs[j]
theorem RdV.nil (S : Nat → Prop) (w : World) : RdV S w (.slice none 0 0) [] := ⟨none, 0, rfl, by simp, by simp, fun j h => absurd h (by simp)⟩
theorem RdV.mono {S w v l} {T : Nat → Prop} (h : RdV S w v l) (hs : ∀ b, b < w.heap.size → S b → T b) : RdV T w v l := by
  obtain ⟨a, cap, e, h1, h2, h3⟩ := h
  refine ⟨a, cap, e, h1, h2, fun j hj => ?_⟩
  obtain ⟨b, off, ha, hb, hc⟩ := h3 j hj
  exact ⟨b, off, ha, hs b (World.block_lt_of_cell? w _ hc) hb, hc⟩
theorem RdV.keeps {S w w' v l} (h : RdV S w v l) (hk : Keeps S w w') : RdV S w' v l := by
  obtain ⟨a, cap, e, h1, h2, h3⟩ := h
  refine ⟨a, cap, e, h1, h2, fun j hj => ?_⟩
  obtain ⟨b, off, ha, hb, hc⟩ := h3 j hj
  exact ⟨b, off, ha, hb, hk.cell hc hb⟩
theorem RdV.any {S : Nat → Prop} {w : World} {v : Value} {l : List Value} (h : RdV S w v l) : RdV (· < w.heap.size) w v l := h.mono fun _ hb _ => hb
theorem RdV.bel {w w' : World} {v : Value} {l : List Value} (h : RdV (· < w.heap.size) w v l) (hb : Below w.heap.size w w') : RdV (· < w'.heap.size) w' v l :=
  (h.keeps (Keeps.all _ hb)).mono fun _ hb' _ => hb'
theorem RdV.lenc {S w v l} (h : RdV S w v l) : ∃ a cap, v = .slice a l.length cap ∧ l.length ≤ cap := by
  obtain ⟨a, cap, e, h1, _⟩ := h; exact ⟨a, cap, e, h1⟩
theorem RdV.ofI {k : IntKind} {S : Nat → Prop} {w : World} {v : Value} {l : List Int} (h : RdI k S w v l) : RdV S w v (l.map (Value.int k)) := by
  obtain ⟨a, cap, e, h1, h2, h3⟩ := h
  refine ⟨a, cap, by simpa using e, by simpa using h1, by simpa using h2, fun j hj => ?_⟩
  obtain ⟨b, off, ha, hb, hc⟩ := h3 j (by simpa using hj)
  exact ⟨b, off, ha, hb, by simpa using hc⟩
/-- A list of bools, of strings, as values. -/
abbrev bools' (l : List Bool) : List Value := l.map Value.bool
theorem ba_inj {a b : ByteArray} (h : a.toList = b.toList) : a = b := by
  rw [ByteArray.toList_eq, ByteArray.toList_eq] at h
  obtain ⟨⟨x⟩⟩ := a
  obtain ⟨⟨y⟩⟩ := b
  simp at h
  rw [h]
abbrev texts (l : List ByteArray) : List Value := l.map Value.string
set_option maxHeartbeats 400000 in
theorem eqTexts (w : World) (S1 S2) (v1 v2 : Value) (l1 l2 : List ByteArray) (h1 : RdV S1 w v1 (texts l1)) (h2 : RdV S2 w v2 (texts l2)) :
    Calls Tryd.prog 13 #[v1, v2] w fun e w' => e = .returned (.bool (decide (l1 = l2))) ∧ ∃ n, w' = w.drewN n := by
  obtain ⟨a1, c1, rfl, hc1, hm1, r1⟩ := h1
  obtain ⟨a2, c2, rfl, hc2, hm2, r2⟩ := h2
  simp only [List.length_map, List.getElem_map] at r1 r2 hc1 hc2 hm1 hm2 ⊢
  have H1 := Lib.hid r1; have H2 := Lib.hid r2; clear r1 r2
  by_cases hl : l1.length = l2.length
  · have HL := Lib.hid hl
    have hb : ((l1.length : Int) != l2.length) = false := by simp [hl]
    clear hl
    go_enter Tryd.func13, Tryd.ntmps13
    go_wp2
    go_loopw [5] (fun i wr => ∃ k : Nat, k ≤ l1.length ∧ i = .int .i64 k ∧ Hid (l1.take k = l2.take k) ∧ ∃ n, wr = w.drewN n) (fun i _ => l1.length - (intOf i).toNat)
    case atStart => exact ⟨0, by omega, rfl, by simp [Hid], 0, rfl⟩
    case round =>
      obtain ⟨k, hk, rfl, HT, n, rfl⟩ := hrel
      by_cases hlt : k < l1.length
      · have hlt2 : k < l2.length := by rw [← HL.out]; exact hlt
        obtain ⟨b1, o1, rfl, _, e1⟩ := H1.out k hlt
        obtain ⟨b2, o2, rfl, _, e2⟩ := H2.out k hlt2
        obtain ⟨x1, hx1⟩ : ∃ x, l1[k] = x := ⟨_, rfl⟩
        obtain ⟨x2, hx2⟩ : ∃ x, l2[k] = x := ⟨_, rfl⟩
        rw [hx1] at e1; rw [hx2] at e2
        have HX := Lib.hid (And.intro hx1 hx2)
        clear hx1 hx2
        go_wp2
        go_quiet (fail)
        go_wp2
        · rename_i hne
          go_ret
          exact ⟨ret_bool (decide_eq_false (ne_of_get hlt hlt2 (fun e => absurd (congrArg ByteArray.toList (HX.out.1.symm.trans (e.trans HX.out.2))) (by simpa using hne)))).symm, _, World.drewN_drewN _ _ _⟩
        · rename_i heq
          go_roundw
          case rel => exact ⟨k + 1, by omega, by go_num, take_eq_succ hlt hlt2 HT.out (HX.out.1.trans (Eq.trans (ba_inj (by simpa using heq)) HX.out.2.symm)), _, rfl⟩
          case measure => simp [intOf]; omega
      · go_wp2
        go_ret
        exact ⟨ret_bool (decide_eq_true (eq_of_takes HL.out hlt HT.out)).symm, _, rfl⟩
  · have hb : ((l1.length : Int) != l2.length) = true := by simp; omega
    go_enter Tryd.func13, Tryd.ntmps13
    go_wp2
    go_ret
    exact ⟨ret_bool (decide_eq_false fun h => hl (by rw [h])).symm, 0, rfl⟩
end Go.Proofs.YtebegkgechadlaaDoor
namespace Go.Proofs.YtebegkgechadlaaDoor
open Go Go.RowKit



set_option maxHeartbeats 400000 in
/-- 'flagon/flagonref00.EqInts': two lists compared. -/
theorem eqInts (w : World) (S1 S2) (v1 v2 : Value) (l1 l2 : List Int) (h1 : RdI .i64 S1 w v1 l1) (h2 : RdI .i64 S2 w v2 l2) :
   Calls Tryd.prog 23 #[v1, v2] w fun e w' => e = .returned (.bool (decide (l1 = l2))) ∧ ∃ n, w' = w.drewN n := by
  obtain ⟨a1, c1, rfl, hc1, hm1, r1⟩ := h1
  obtain ⟨a2, c2, rfl, hc2, hm2, r2⟩ := h2
  have H1 := Lib.hid r1; have H2 := Lib.hid r2; clear r1 r2
  by_cases hl : l1.length = l2.length
  · have HL := Lib.hid hl
    have hb : ((l1.length : Int) != l2.length) = false := by simp [hl]
    clear hl
    go_enter Tryd.func23, Tryd.ntmps23
    go_wp2
    go_loopw [5] (fun i wr => ∃ k : Nat, k ≤ l1.length ∧ i = .int .i64 k ∧ Hid (l1.take k = l2.take k) ∧ ∃ n, wr = w.drewN n) (fun i _ => l1.length - (intOf i).toNat)
    case atStart => exact ⟨0, by omega, rfl, by simp [Hid], 0, rfl⟩
    case round =>
      obtain ⟨k, hk, rfl, HT, n, rfl⟩ := hrel
      by_cases hlt : k < l1.length
      · have hlt2 : k < l2.length := by rw [← HL.out]; exact hlt
        obtain ⟨b1, o1, rfl, _, e1⟩ := H1.out k hlt
        obtain ⟨b2, o2, rfl, _, e2⟩ := H2.out k hlt2
        go_wp2
        go_quiet (fail)
        go_wp2
        · rename_i hne
          go_ret
          exact ⟨ret_bool (decide_eq_false (ne_of_get hlt hlt2 (by simpa using hne))).symm, _, World.drewN_drewN _ _ _⟩
        · rename_i heq
          go_roundw
          case rel => exact ⟨k + 1, by omega, by go_num, take_eq_succ hlt hlt2 HT.out (by simpa using heq), _, rfl⟩
          case measure => simp [intOf]; omega
      · go_wp2
        go_ret
        exact ⟨ret_bool (decide_eq_true (eq_of_takes HL.out hlt HT.out)).symm, _, rfl⟩
  · have hb : ((l1.length : Int) != l2.length) = true := by simp; omega
    go_enter Tryd.func23, Tryd.ntmps23
    go_wp2
    go_ret
    exact ⟨ret_bool (decide_eq_false fun h => hl (by rw [h])).symm, 0, rfl⟩


end Go.Proofs.YtebegkgechadlaaDoor
namespace Go.Proofs.YtebegkgechadlaaDoor
open Go Go.RowKit
set_option linter.unusedSimpArgs false

theorem Tryd.infoFunC : (Tryd.prog.info? 46).map (fun i => (i.zero, i.size, i.bytes)) = some (some (.agg #[.int .i64 0, .string ⟨#[]⟩, .slice none 0 0]), 3, 48) := by kernel_rfl
theorem Tryd.infoDatC : (Tryd.prog.info? 58).map (fun i => (i.zero, i.size, i.bytes)) = some (some (.agg #[.int .i64 0, .slice none 0 0]), 2, 32) := by kernel_rfl
theorem cells2_new (w : World) (x y : Value) (t : TypeId) : ∀ j u, [x, y][j]? = some u → (w.alloc (.cells #[x, y] t)).cell? ((⟨w.heap.size, 0, none⟩ : Addr).add j) = some u := news2 w x y t
set_option maxRecDepth 100000 in
set_option maxHeartbeats 1600000 in
theorem copyFunctions (w : World) (v : Value) (l : List FunD) (hc : RdFuns (· < w.heap.size) w v l) (hl : l.length ≤ 1048576) (hll : ∀ f ∈ l, f.code.length ≤ 1048576 ∧ ∀ i ∈ f.code, i.l.length ≤ 1048576) :
    Calls Tryd.prog 20 #[v] w fun e w' => ∃ v' ps, e = .returned v' ∧ ps.map Prod.fst = l ∧ OwnF w.heap.size w' v' ps ∧ Below w.heap.size w w' := by
  obtain ⟨i0, hi, hz0, hz1, hz2⟩ := info_parts Tryd.infoFunC
  have HL := Lib.hid hc
  have HLL := Lib.hid hll
  obtain ⟨va, vc, rfl, hlc⟩ : ∃ a c, v = .slice a l.length c ∧ l.length ≤ c := by obtain ⟨a, c, e, h, _⟩ := hc; exact ⟨a, c, e, h⟩
  clear hc hll
  go_enter Tryd.func20, Tryd.ntmps20
  go_wp2
  go_loopw [3, 4] (fun ov i wr => ∃ (k : Nat) (ps : List (FunD × Value)), k ≤ l.length ∧ ps.length ≤ k ∧ i = .int .i64 k ∧ Hid (ps.map Prod.fst = l.take k) ∧ Hid (OwnF w.heap.size wr ov ps) ∧ Hid (Below w.heap.size w wr)) (fun _ i _ => l.length - (intOf i).toNat)
  case atStart => exact ⟨0, [], by omega, by simp, rfl, Lib.hid rfl, Lib.hid OwnG.nil, Lib.hid (Below.refl _ _)⟩
  case round =>
    obtain ⟨k, ps, hk, hpl, rfl, HP, HO, HB⟩ := hrel
    by_cases hlt : k < l.length
    · obtain ⟨b, off, vl, rfl, x0, x1, x2, hrl⟩ := RdFuns.at_ (RdFuns.bel HL.out HB.out) hlt
      have HW0 := Lib.hid (copyFunction1 wr l[k].t l[k].locals vl l[k].code (CdS.any hrl) (HLL.out _ (List.getElem_mem hlt)).1 fun j h => (HLL.out _ (List.getElem_mem hlt)).2 _ (List.getElem_mem h))
      have HX : Hid (∃ x : FunD, l[k] = x) := Lib.hid ⟨_, rfl⟩
      have HLEN : Hid (l[k].code.length ≤ 1048576 ∧ ∀ i ∈ l[k].code, i.l.length ≤ 1048576) := Lib.hid (HLL.out _ (List.getElem_mem hlt))
      obtain ⟨x, hx⟩ := HX.out
      have HTK : Hid (l.take (k + 1) = l.take k ++ [x]) := Lib.hid (by rw [List.take_succ_eq_append_getElem hlt, hx])
      obtain ⟨al, ln, cl, rfl⟩ : ∃ a n c, vl = .slice a n c := by obtain ⟨a, c, e, _⟩ := hrl; exact ⟨a, _, c, e⟩
      rw [hx] at HW0 x0 x1 HLEN
      obtain ⟨ft, floc, fcode⟩ := x
      simp only at *
      obtain ⟨oa, oc, rfl⟩ := HO.out.max
      have hsz := HB.out.size
      clear hrl hx HX
      go_wp2_with fail
      refine HW0.out.mono ?_
      rintro e w5 ⟨v5, rfl, ho5, hb5⟩
      have H5 := Lib.hid ho5
      obtain ⟨a5, n5, c5, rfl⟩ : ∃ a n c, v5 = .slice a n c := by obtain ⟨a, c, e, _⟩ := ho5; exact ⟨a, _, c, e⟩
      have hb6 := below_alloc w5 (.cells #[.int .i64 ft, .string floc, .slice a5 n5 c5] 46)
      have HO6 := Lib.hid ((HO.out.on deepF hb5).on deepF hb6)
      have hB6 : w.heap.size ≤ (w5.alloc (.cells #[.int .i64 ft, .string floc, .slice a5 n5 c5] 46)).heap.size := by have := hb5.size; rw [World.size_alloc]; omega
      have HB6 := Lib.hid (below_next HB.out (below_next hb5 hb6))
      have HR6 : Hid (∀ p ∈ [((⟨ft, floc, fcode⟩ : FunD), Value.slice a5 n5 c5)], CdR (fun b => w.heap.size ≤ b ∧ (Value.slice oa ps.length oc).ownBlock ≠ some b) (w5.alloc (.cells #[.int .i64 ft, .string floc, .slice a5 n5 c5] 46)) p.2 p.1) := Lib.hid (by
        intro p hp
        obtain rfl : p = _ := List.mem_singleton.1 hp
        refine deepF.mono (deepF.keep (x := (⟨ft, floc, fcode⟩ : FunD)) H5.out (Keeps.all _ hb6)) fun b _ hb => ?_
        refine ⟨by omega, fun e => ?_⟩
        have h2 := (HO.out.row.lt b e).2
        omega)
      clear ho5 hb5 hb6 HW0 H5
      go_wp2_with (at_builtin; refine wpList_append_kept _ rfl _ _ 25 rfl w.heap.size 46 i0 (.agg #[.int .i64 0, .string ⟨#[]⟩, .slice none 0 0]) 3 48 Tryd.underlying25 hi hz0 hz1 hz2 rfl (by decide) _ ps.length (ps.flatMap fnC) rfl HO6.out.row ⟨w5.heap.size, 0, none⟩ 1 1 [.int .i64 ft, .string floc, .slice a5 n5 c5] rfl rfl (cells3_new _ _ _ _ _) (by simp [Value.oneCell']) (by unfold maxLen; omega) (by omega) hB6 ?_)
      intro v' w7 ho hk7 hf
      have HN : Hid (OwnF w.heap.size w7 v' (ps ++ [((⟨ft, floc, fcode⟩ : FunD), Value.slice a5 n5 c5)])) := Lib.hid (HO6.out.app deepF ho hk7 (fun g hg => by have := hf g hg; rw [World.size_alloc]; exact this) HR6.out)
      have HBN := Lib.hid (HB6.out.grown hk7.grown hB6 fun j hj => (HO6.out.row.lt j hj).1)
      have HPN : Hid ((ps ++ [((⟨ft, floc, fcode⟩ : FunD), Value.slice a5 n5 c5)]).map Prod.fst = l.take (k + 1)) := Lib.hid (by rw [List.map_append, HP.out, HTK.out]; rfl)
      clear ho hk7 hf HO6 HR6 HB6 hB6
      go_wp2
      go_roundw
      case rel => exact ⟨k + 1, _, by omega, by simp; omega, by go_num, HPN, HN, HBN⟩
      case measure => simp [intOf]; omega
    · obtain rfl : k = l.length := by omega
      go_wp2
      go_ret
      exact ⟨_, ps, rfl, by rw [HP.out, List.take_length], HO.out, HB.out⟩
set_option maxRecDepth 100000 in
set_option maxHeartbeats 1600000 in
theorem copyDatas (w : World) (v : Value) (l : List DatD) (hc : RdDats (· < w.heap.size) w v l) (hl : l.length ≤ 1048576) (hll : ∀ f ∈ l, f.b.length ≤ 140737488355328) :
    Calls Tryd.prog 21 #[v] w fun e w' => ∃ v' ps, e = .returned v' ∧ ps.map Prod.fst = l ∧ OwnD w.heap.size w' v' ps ∧ Below w.heap.size w w' := by
  obtain ⟨i0, hi, hz0, hz1, hz2⟩ := info_parts Tryd.infoDatC
  have HL := Lib.hid hc
  have HLL := Lib.hid hll
  obtain ⟨va, vc, rfl, hlc⟩ : ∃ a c, v = .slice a l.length c ∧ l.length ≤ c := by obtain ⟨a, c, e, h, _⟩ := hc; exact ⟨a, c, e, h⟩
  clear hc hll
  go_enter Tryd.func21, Tryd.ntmps21
  go_wp2
  go_loopw [3, 4] (fun ov i wr => ∃ (k : Nat) (ps : List (DatD × Value)), k ≤ l.length ∧ ps.length ≤ k ∧ i = .int .i64 k ∧ Hid (ps.map Prod.fst = l.take k) ∧ Hid (OwnD w.heap.size wr ov ps) ∧ Hid (Below w.heap.size w wr)) (fun _ i _ => l.length - (intOf i).toNat)
  case atStart => exact ⟨0, [], by omega, by simp, rfl, Lib.hid rfl, Lib.hid OwnG.nil, Lib.hid (Below.refl _ _)⟩
  case round =>
    obtain ⟨k, ps, hk, hpl, rfl, HP, HO, HB⟩ := hrel
    by_cases hlt : k < l.length
    · obtain ⟨b, off, vl, rfl, x0, x1, hrl⟩ := RdDats.at_ (RdDats.bel HL.out HB.out) hlt
      have HW0 := Lib.hid (copyData1 wr l[k].at_ vl l[k].b _ hrl (HLL.out _ (List.getElem_mem hlt)))
      have HX : Hid (∃ x : DatD, l[k] = x) := Lib.hid ⟨_, rfl⟩
      have HLEN : Hid (l[k].b.length ≤ 140737488355328) := Lib.hid (HLL.out _ (List.getElem_mem hlt))
      obtain ⟨x, hx⟩ := HX.out
      have HTK : Hid (l.take (k + 1) = l.take k ++ [x]) := Lib.hid (by rw [List.take_succ_eq_append_getElem hlt, hx])
      obtain ⟨al, ln, cl, rfl⟩ : ∃ a n c, vl = .slice a n c := by obtain ⟨a, c, e, _⟩ := hrl; exact ⟨a, _, c, e⟩
      rw [hx] at HW0 x0 HLEN
      obtain ⟨dat, db⟩ := x
      simp only at *
      obtain ⟨oa, oc, rfl⟩ := HO.out.max
      have hsz := HB.out.size
      clear hrl hx HX
      go_wp2_with fail
      refine HW0.out.mono ?_
      rintro e w5 ⟨v5, rfl, ho5, hb5⟩
      have H5 := Lib.hid ho5
      obtain ⟨a5, n5, c5, rfl⟩ : ∃ a n c, v5 = .slice a n c := by obtain ⟨a, c, e, _⟩ := ho5; exact ⟨a, _, c, e⟩
      have hb6 := below_alloc w5 (.cells #[.int .i64 dat, .slice a5 n5 c5] 58)
      have HO6 := Lib.hid ((HO.out.on deepD hb5).on deepD hb6)
      have hB6 : w.heap.size ≤ (w5.alloc (.cells #[.int .i64 dat, .slice a5 n5 c5] 58)).heap.size := by have := hb5.size; rw [World.size_alloc]; omega
      have HB6 := Lib.hid (below_next HB.out (below_next hb5 hb6))
      have HR6 : Hid (∀ p ∈ [((⟨dat, db⟩ : DatD), Value.slice a5 n5 c5)], ByR (fun b => w.heap.size ≤ b ∧ (Value.slice oa ps.length oc).ownBlock ≠ some b) (w5.alloc (.cells #[.int .i64 dat, .slice a5 n5 c5] 58)) p.2 p.1) := Lib.hid (by
        intro p hp
        obtain rfl : p = _ := List.mem_singleton.1 hp
        refine deepD.mono (deepD.keep (x := (⟨dat, db⟩ : DatD)) H5.out (Keeps.all _ hb6)) fun b _ hb => ?_
        refine ⟨by omega, fun e => ?_⟩
        have h2 := (HO.out.row.lt b e).2
        omega)
      clear ho5 hb5 hb6 HW0 H5
      go_wp2_with (at_builtin; refine wpList_append_kept _ rfl _ _ 26 rfl w.heap.size 58 i0 (.agg #[.int .i64 0, .slice none 0 0]) 2 32 Tryd.underlying26 hi hz0 hz1 hz2 rfl (by decide) _ ps.length (ps.flatMap dnC) rfl HO6.out.row ⟨w5.heap.size, 0, none⟩ 1 1 [.int .i64 dat, .slice a5 n5 c5] rfl rfl (cells2_new _ _ _ _) (by simp [Value.oneCell']) (by unfold maxLen; omega) (by omega) hB6 ?_)
      intro v' w7 ho hk7 hf
      have HN : Hid (OwnD w.heap.size w7 v' (ps ++ [((⟨dat, db⟩ : DatD), Value.slice a5 n5 c5)])) := Lib.hid (HO6.out.app deepD ho hk7 (fun g hg => by have := hf g hg; rw [World.size_alloc]; exact this) HR6.out)
      have HBN := Lib.hid (HB6.out.grown hk7.grown hB6 fun j hj => (HO6.out.row.lt j hj).1)
      have HPN : Hid ((ps ++ [((⟨dat, db⟩ : DatD), Value.slice a5 n5 c5)]).map Prod.fst = l.take (k + 1)) := Lib.hid (by rw [List.map_append, HP.out, HTK.out]; rfl)
      clear ho hk7 hf HO6 HR6 HB6 hB6
      go_wp2
      go_roundw
      case rel => exact ⟨k + 1, _, by omega, by simp; omega, by go_num, HPN, HN, HBN⟩
      case measure => simp [intOf]; omega
    · obtain rfl : k = l.length := by omega
      go_wp2
      go_ret
      exact ⟨_, ps, rfl, by rw [HP.out, List.take_length], HO.out, HB.out⟩
end Go.Proofs.YtebegkgechadlaaDoor
