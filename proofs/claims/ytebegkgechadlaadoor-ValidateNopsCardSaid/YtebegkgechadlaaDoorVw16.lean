/- validate.Module. -/
import Derived.Test.YtebegkgechadlaaDoorVw15
namespace Go.Proofs.YtebegkgechadlaaDoor
open Go Go.RowKit
set_option linter.unusedSimpArgs false

theorem Tryd.infoTabM : (Tryd.prog.info? 38).map (fun i => (i.zero, i.size, i.bytes)) = some (some (.agg #[.slice none 0 0, .slice none 0 0, .slice none 0 0, .slice none 0 0, .int .i64 0]), 5, 104) := by kernel_rfl
/-- A list of tables of its own. -/
structure OwnT (B : Nat) (w : World) (v : Value) (ps : List (List Value × TbD)) : Prop where
  row : w.ownsRow B 38 5 v ps.length (ps.flatMap (·.1))
  ls : ∀ p ∈ ps, p.1.length = 5 ∧ RTab (fun b => B ≤ b ∧ v.ownBlock ≠ some b) w p.1 p.2
theorem OwnT.nil (B : Nat) (w : World) : OwnT B w (.slice none 0 0) [] := ⟨World.ownsRow_nil _ _ _ _, fun p h => by cases h⟩
theorem OwnT.on {B : Nat} {w w' : World} {v : Value} {ps : List (List Value × TbD)} (h : OwnT B w v ps) (hb : Below w.heap.size w w') : OwnT B w' v ps :=
  ⟨own_below h.row hb, fun p hp => ⟨(h.ls p hp).1, (h.ls p hp).2.keeps (Keeps.all _ hb)⟩⟩
theorem OwnT.app {B n : Nat} {w w' : World} {v v' : Value} {ps qs : List (List Value × TbD)} (h : OwnT B w v ps) (ho : w'.ownsRow B 38 5 v' (ps.length + qs.length) (ps.flatMap (·.1) ++ qs.flatMap (·.1))) (hk : Kept w w' v.ownBlock n)
    (hf : ∀ g, v'.ownBlock = some g → v.ownBlock = some g ∨ w.heap.size ≤ g) (hq : ∀ p ∈ qs, p.1.length = 5 ∧ RTab (fun b => B ≤ b ∧ v.ownBlock ≠ some b) w p.1 p.2) : OwnT B w' v' (ps ++ qs) := by
  refine ⟨by rw [List.length_append, List.flatMap_append]; exact ho, fun p hp => ?_⟩
  have hr : p.1.length = 5 ∧ RTab (fun b => B ≤ b ∧ v.ownBlock ≠ some b) w p.1 p.2 := by
    rcases List.mem_append.1 hp with h1 | h1
    · exact h.ls p h1
    · exact hq p h1
  refine ⟨hr.1, ?_⟩
  have hk1 : Keeps (fun b => B ≤ b ∧ v.ownBlock ≠ some b) w w' := (Keeps.refl _ w).grown hk.grown fun k hk' _ h' => h'.2 hk'
  have h1 := RTab.mono (T := fun b => (B ≤ b ∧ v.ownBlock ≠ some b) ∧ b < w.heap.size) hr.2 fun b hb h => ⟨h, hb⟩
  have h2 := h1.keeps (hk1.mono fun b _ hb => hb.1)
  refine h2.mono fun b _ hb => ⟨hb.1.1, fun e => ?_⟩
  rcases hf b e with h3 | h3
  · exact hb.1.2 h3
  · have := hb.2; omega
abbrev RdTabs (w : World) (v : Value) (l : List TbD) : Prop := RdL 5 (fun w cs t => RTab (· < w.heap.size) w cs t) (fun b => v.ownBlock = some b) w v l
theorem OwnT.rd {B : Nat} {w : World} {v : Value} {ps : List (List Value × TbD)} (h : OwnT B w v ps) (hl : ps.length ≤ 140737488355328) : RdTabs w v (ps.map Prod.snd) := by
  refine RdL.of_map (f := Prod.snd) ?_
  exact rd_own (α := List Value × TbD) (enc := (·.1)) (R := fun w cs p => RTab (· < w.heap.size) w cs p.2) h.row rfl rfl (fun p hp => (h.ls p hp).1) hl fun p hp => (h.ls p hp).2.mono fun b hb _ => hb
theorem allV_step {m : ModD} {f k : Nat} {acc : List TbD} (h : (funV m k).2.1 = 0) : allV m (f + 1) k acc = allV m f (k + 1) (acc ++ [(funV m k).1]) := by rw [allV, if_neg (by simp [h])]
theorem allV_bad {m : ModD} {f k : Nat} {acc : List TbD} (h : (funV m k).2.1 ≠ 0) : allV m (f + 1) k acc = .error ((funV m k).2.1, (k : Nat), (funV m k).2.2) := by rw [allV, if_pos h]
theorem results_tmp4 {fn : Func} {t u v x : Tmp} (h : fn.results = #[.tmp t, .tmp u, .tmp v, .tmp x]) (tmps : Array Value) (P : Program) (w : World) :
    (results fn tmps).run P w = .ok (.tuple #[tmps.getD t undef, tmps.getD u undef, tmps.getD v undef, tmps.getD x undef]) w := by
  simp [results, h]
/-- What validate.Module answers. -/
def ModP (w : World) (m : ModD) (r : Ending) (w' : World) : Prop :=
  ∃ lv, r = .returned (.tuple #[lv, .int .i64 (valM m).2.1, .int .i64 (valM m).2.2.1, .int .i64 (valM m).2.2.2]) ∧ RdTabs w' lv (valM m).1 ∧ Below w.heap.size w w'
theorem rdt_nil (w : World) : RdTabs w (.slice none 0 0) [] := RdL.nil _ _ _ _
set_option maxRecDepth 100000 in
set_option maxHeartbeats 3200000 in
theorem val_Module (w : World) (S : Nat → Prop) (hS : ∀ b, S b → b < w.heap.size) (m : ModD) (cs : List Value) (hm : RMod S w cs m) (sm : SmM m) (wf : WfM m) (htb : Tb w) :
    Calls Tryd.prog 7 #[.agg cs.toArray] w (ModP w m) := by
  obtain ⟨i0, hi, hz0, hz1, hz2⟩ := info_parts Tryd.infoTabM
  have hm0 := hm
  obtain ⟨tv, hv, gv, fv, dv, ev, rfl, r1, r2, r3, r4, r5, r6⟩ := hm
  obtain ⟨ta, tc, rfl, tl⟩ := r1.len
  obtain ⟨ha, hc, rfl, hl⟩ := r2.len
  obtain ⟨ga, gc, rfl, gl⟩ := r3.len
  obtain ⟨fa, fc, rfl, fl⟩ := r4.len
  obtain ⟨da, dc, rfl, dl⟩ := r5.len
  obtain ⟨ea, ec, rfl, el⟩ := r6.len
  have hba := below_alloc w (.cells #[.slice ta m.types.length tc, .slice ha m.hosts.length hc, .slice ga m.globals.length gc, .int .i64 m.first, .int .i64 m.most, .slice fa m.funs.length fc, .slice da m.datas.length dc, .slice ea m.exps.length ec] 29)
  have hmb := heap_alloc_new w (.cells #[.slice ta m.types.length tc, .slice ha m.hosts.length hc, .slice ga m.globals.length gc, .int .i64 m.first, .int .i64 m.most, .slice fa m.funs.length fc, .slice da m.datas.length dc, .slice ea m.exps.length ec] 29)
  have rm := hm0.keeps (Keeps.all S hba)
  have HCH := Lib.hid (mod_Check (w.alloc (.cells #[.slice ta m.types.length tc, .slice ha m.hosts.length hc, .slice ga m.globals.length gc, .int .i64 m.first, .int .i64 m.most, .slice fa m.funs.length fc, .slice da m.datas.length dc, .slice ea m.exps.length ec] 29)) S (fun b hb => by have := hS b hb; have := hba.size; omega) m _ rm sm wf (htb.bel hba))
  have HMB := Lib.hid hmb; have HB := Lib.hid hba; have HRM := Lib.hid rm
  have HS := Lib.hid hS; have HT := Lib.hid htb; have HWF := Lib.hid wf
  have g0 := row_cell hmb 0 rfl; have g1 := row_cell hmb 1 rfl; have g2 := row_cell hmb 2 rfl; have g3 := row_cell hmb 3 rfl; have g4 := row_cell hmb 4 rfl; have g5 := row_cell hmb 5 rfl; have g6 := row_cell hmb 6 rfl; have g7 := row_cell hmb 7 rfl
  simp only [List.getElem_toArray, List.getElem_cons_zero, List.getElem_cons_succ] at g0 g1 g2 g3 g4 g5 g6 g7
  clear hm0 r1 r2 r3 r4 r5 r6 hba hmb rm hS htb sm wf
  go_enter Tryd.func7, Tryd.ntmps7
  go_wp2_with fail
  refine HCH.out.mono ?_
  rintro e w3 ⟨rfl, hb3⟩
  have HM3 := Lib.hid ((hb3.block _ (row_lt HMB.out)).trans HMB.out)
  have HB3 := Lib.hid (below_next HB.out hb3)
  have HRM3 := Lib.hid (HRM.out.keeps (Keeps.all S hb3))
  obtain ⟨me, hme⟩ : ∃ e, (encM m).2 = e := ⟨_, rfl⟩
  rw [hme]
  clear g0 g1 g2 g3 g4 g5 g6 g7 HMB HB HRM HCH hb3
  by_cases hz : me = 0
  · have hzb : (me != 0) = false := by simp [hz]
    subst hz
    have g5 := row_cell HM3.out 5 rfl
    simp only [List.getElem_toArray, List.getElem_cons_zero, List.getElem_cons_succ] at g5
    have hg := gd_of hme HWF.out
    have HG := Lib.hid hg
    have hfn := hg.ln
    clear hg
    go_wp2_with fail
    go_loopw [7, 20] (fun lv i wr => ∃ (k : Nat) (ps : List (List Value × TbD)), k ≤ m.funs.length ∧ ps.length ≤ k ∧ i = .int .i64 k ∧ Hid (OwnT w3.heap.size wr lv ps) ∧ Hid (Below w3.heap.size w3 wr) ∧ Hid (allV m m.funs.length 0 [] = allV m (m.funs.length - k) k (ps.map Prod.snd))) (fun _ i _ => m.funs.length - (intOf i).toNat)
    case atStart => exact ⟨0, [], by omega, by simp, rfl, Lib.hid (OwnT.nil _ _), Lib.hid (Below.refl _ _), Lib.hid rfl⟩
    case round =>
      clear g5
      obtain ⟨k, ps, hk, hpl, rfl, HO, HBW, HA⟩ := hrel
      have HBR := Lib.hid (below_next HB3.out HBW.out)
      by_cases hlt : k < m.funs.length
      · have HMR := Lib.hid ((HBW.out.block _ (row_lt HM3.out)).trans HM3.out)
        have g0 := row_cell HMR.out 0 rfl; have g1 := row_cell HMR.out 1 rfl; have g2 := row_cell HMR.out 2 rfl; have g3 := row_cell HMR.out 3 rfl; have g4 := row_cell HMR.out 4 rfl; have g5 := row_cell HMR.out 5 rfl; have g6 := row_cell HMR.out 6 rfl; have g7 := row_cell HMR.out 7 rfl
        simp only [List.getElem_toArray, List.getElem_cons_zero, List.getElem_cons_succ] at g0 g1 g2 g3 g4 g5 g6 g7
        have HFN := Lib.hid (val_function wr S (fun b hb => by have := HS.out b hb; have := HBR.out.size; omega) m _ (HRM3.out.keeps (Keeps.all S HBW.out)) HG.out (HT.out.bel HBR.out) k hlt)
        obtain ⟨oa, oc, hov, -⟩ := own_slice HO.out.row
        subst hov
        obtain ⟨⟨tb, fe, fp⟩, hfv⟩ : ∃ x, funV m k = x := ⟨_, rfl⟩
        have HFV := Lib.hid hfv
        rw [hfv] at HFN
        clear hfv
        go_wp2_with fail
        refine HFN.out.mono ?_
        rintro r w4 ⟨cs4, rfl, hrt, hb4⟩
        have HRT := Lib.hid hrt
        obtain ⟨sv, ev4, lv, fv4, hcs, q1, q2, q3, q4⟩ := hrt
        obtain ⟨sa, sc, hsv, -⟩ := q1.lenc
        rw [List.length_map] at hsv
        subst hsv
        obtain ⟨ea4, ec4, rfl, -⟩ := q2.lenc
        obtain ⟨la, lc, rfl, -⟩ := q3.lenc
        obtain ⟨fa4, fc4, rfl, -⟩ := q4.lenc
        simp only at hcs
        subst hcs
        simp only at HRT
        have hsz := HBW.out.size
        clear q1 q2 q3 q4 g0 g1 g2 g3 g4 g5 g6 g7 HFN HMR
        have r0 := heap_alloc_new w4 (.cells #[.slice none 0 0, .slice none 0 0, .slice none 0 0, .slice none 0 0, .int .i64 0] 38)
        have fr0 := row_free r0 0; have fr1 := row_free r0 1; have fr2 := row_free r0 2; have fr3 := row_free r0 3; have fr4 := row_free r0 4
        clear r0
        simp only
        by_cases hfe : fe = 0
        · have hfb : (fe != 0) = false := by simp [hfe]
          have hrn := heap_alloc_new w4 (.cells #[.slice sa tb.shapes.length sc, .slice ea4 tb.ends.length ec4, .slice la tb.elses.length lc, .slice fa4 tb.floors.length fc4, .int .i64 tb.high] 38)
          have y0 := row_cell hrn 0 rfl; have y1 := row_cell hrn 1 rfl; have y2 := row_cell hrn 2 rfl; have y3 := row_cell hrn 3 rfl; have y4 := row_cell hrn 4 rfl
          simp only [List.getElem_toArray, List.getElem_cons_zero, List.getElem_cons_succ] at y0 y1 y2 y3 y4
          have hbn := below_alloc w4 (.cells #[.slice sa tb.shapes.length sc, .slice ea4 tb.ends.length ec4, .slice la tb.elses.length lc, .slice fa4 tb.floors.length fc4, .int .i64 tb.high] 38)
          have hbm := below_alloc (w4.alloc (.cells #[.slice sa tb.shapes.length sc, .slice ea4 tb.ends.length ec4, .slice la tb.elses.length lc, .slice fa4 tb.floors.length fc4, .int .i64 tb.high] 38)) (.cells #[.slice sa tb.shapes.length sc, .slice ea4 tb.ends.length ec4, .slice la tb.elses.length lc, .slice fa4 tb.floors.length fc4, .int .i64 tb.high] 38)
          have HO6 := Lib.hid (((HO.out.on hb4).on hbn).on hbm)
          have HW6 := Lib.hid (below_next HBW.out (below_next hb4 (below_next hbn hbm)))
          have HBS : Hid (w3.heap.size ≤ ((w4.alloc (.cells #[.slice sa tb.shapes.length sc, .slice ea4 tb.ends.length ec4, .slice la tb.elses.length lc, .slice fa4 tb.floors.length fc4, .int .i64 tb.high] 38)).alloc (.cells #[.slice sa tb.shapes.length sc, .slice ea4 tb.ends.length ec4, .slice la tb.elses.length lc, .slice fa4 tb.floors.length fc4, .int .i64 tb.high] 38)).heap.size) := Lib.hid (by have := HW6.out.size; exact this)
          have HCN : Hid (∀ j u, ([.slice sa tb.shapes.length sc, .slice ea4 tb.ends.length ec4, .slice la tb.elses.length lc, .slice fa4 tb.floors.length fc4, .int .i64 tb.high] : List Value)[j]? = some u → ((w4.alloc (.cells #[.slice sa tb.shapes.length sc, .slice ea4 tb.ends.length ec4, .slice la tb.elses.length lc, .slice fa4 tb.floors.length fc4, .int .i64 tb.high] 38)).alloc (.cells #[.slice sa tb.shapes.length sc, .slice ea4 tb.ends.length ec4, .slice la tb.elses.length lc, .slice fa4 tb.floors.length fc4, .int .i64 tb.high] 38)).cell? ((⟨w4.heap.size + 1, 0, none⟩ : Addr).add j) = some u) := Lib.hid (by
            have h9 := World.news_of_block (heap_alloc_new (w4.alloc (.cells #[.slice sa tb.shapes.length sc, .slice ea4 tb.ends.length ec4, .slice la tb.elses.length lc, .slice fa4 tb.floors.length fc4, .int .i64 tb.high] 38)) (.cells #[.slice sa tb.shapes.length sc, .slice ea4 tb.ends.length ec4, .slice la tb.elses.length lc, .slice fa4 tb.floors.length fc4, .int .i64 tb.high] 38))
            rw [World.size_alloc] at h9
            exact h9)
          have HR6 : Hid (∀ p ∈ [(([.slice sa tb.shapes.length sc, .slice ea4 tb.ends.length ec4, .slice la tb.elses.length lc, .slice fa4 tb.floors.length fc4, .int .i64 tb.high] : List Value), tb)], p.1.length = 5 ∧ RTab (fun b => w3.heap.size ≤ b ∧ (Value.slice oa ps.length oc).ownBlock ≠ some b) ((w4.alloc (.cells #[.slice sa tb.shapes.length sc, .slice ea4 tb.ends.length ec4, .slice la tb.elses.length lc, .slice fa4 tb.floors.length fc4, .int .i64 tb.high] 38)).alloc (.cells #[.slice sa tb.shapes.length sc, .slice ea4 tb.ends.length ec4, .slice la tb.elses.length lc, .slice fa4 tb.floors.length fc4, .int .i64 tb.high] 38)) p.1 p.2) := Lib.hid (by
            intro p hp
            obtain rfl : p = _ := List.mem_singleton.1 hp
            refine ⟨rfl, ?_⟩
            refine RTab.mono ((HRT.out.keeps (Keeps.all _ hbn)).keeps (Keeps.all _ hbm)) fun b _ hb => ⟨by omega, fun e => ?_⟩
            have h2 := (HO.out.row.lt b e).2
            omega)
          clear hrn hbn hbm hb4
          go_wp2_with (at_builtin; go_loud (refine wpList_append_kept _ rfl _ _ 32 rfl w3.heap.size 38 i0 (.agg #[.slice none 0 0, .slice none 0 0, .slice none 0 0, .slice none 0 0, .int .i64 0]) 5 104 Tryd.underlying32 hi hz0 hz1 hz2 rfl (by decide) (.slice oa ps.length oc) ps.length (ps.flatMap (·.1)) rfl HO6.out.row ⟨w4.heap.size + 1, 0, none⟩ 1 1 [.slice sa tb.shapes.length sc, .slice ea4 tb.ends.length ec4, .slice la tb.elses.length lc, .slice fa4 tb.floors.length fc4, .int .i64 tb.high] rfl rfl HCN.out (by simp [Value.oneCell']) (by unfold maxLen; omega) (by omega) HBS.out ?_))
          intro v' w7 ho hk7 hf
          have HN : Hid (OwnT w3.heap.size w7 v' (ps ++ [(([.slice sa tb.shapes.length sc, .slice ea4 tb.ends.length ec4, .slice la tb.elses.length lc, .slice fa4 tb.floors.length fc4, .int .i64 tb.high] : List Value), tb)])) := Lib.hid (HO6.out.app (by simpa using ho) hk7 (fun g hg => by have := hf g hg; rw [World.size_alloc, World.size_alloc]; exact this) HR6.out)
          have HWN := Lib.hid (HW6.out.grown hk7.grown HBS.out fun j hj => (HO6.out.row.lt j hj).1)
          have HAN : Hid (allV m m.funs.length 0 [] = allV m (m.funs.length - (k + 1)) (k + 1) ((ps ++ [(([.slice sa tb.shapes.length sc, .slice ea4 tb.ends.length ec4, .slice la tb.elses.length lc, .slice fa4 tb.floors.length fc4, .int .i64 tb.high] : List Value), tb)]).map Prod.snd)) := Lib.hid (by
            rw [HA.out, show m.funs.length - k = (m.funs.length - (k + 1)) + 1 by omega, allV_step (by rw [HFV.out]; exact hfe), HFV.out, List.map_append]; rfl)
          clear ho hk7 hf HO6 HR6 HW6 HBS HCN
          go_wp2
          go_roundw
          case rel => exact ⟨k + 1, _, by omega, by simp; omega, by go_num, HN, HWN, HAN⟩
          case measure => simp [intOf]; omega
        · have hfb : (fe != 0) = true := by simpa using hfe
          have HVM : Hid (valM m = ([], fe, ((k : Nat) : Int), fp)) := Lib.hid (by
            unfold valM
            rw [if_neg (by rw [hme]; simp), HA.out, show m.funs.length - k = (m.funs.length - (k + 1)) + 1 by omega, allV_bad (by rw [HFV.out]; exact hfe), HFV.out])
          have hbz := below_alloc w4 (.cells #[.slice sa tb.shapes.length sc, .slice ea4 tb.ends.length ec4, .slice la tb.elses.length lc, .slice fa4 tb.floors.length fc4, .int .i64 tb.high] 38)
          have HBZ := Lib.hid (below_next HBR.out (below_next hb4 hbz))
          go_wp2
          refine bodyPost_ret (results_tmp4 rfl _ _ _) rfl ?_
          exact ⟨_, by rw [HVM.out]; rfl, by rw [HVM.out]; exact rdt_nil _, HBZ.out⟩
      · obtain rfl : k = m.funs.length := by omega
        have HVM : Hid (valM m = (ps.map Prod.snd, 0, 0, 0)) := Lib.hid (by
          unfold valM
          rw [if_neg (by rw [hme]; simp), HA.out, Nat.sub_self]; rfl)
        go_wp2
        refine bodyPost_ret (results_tmp4 rfl _ _ _) rfl ?_
        exact ⟨_, by rw [HVM.out]; rfl, by rw [HVM.out]; exact HO.out.rd (by omega), HBR.out⟩
  · have hzb : (me != 0) = true := by simpa using hz
    have HVM : Hid (valM m = ([], me, -1, 0)) := Lib.hid (by unfold valM; rw [hme, if_pos hz])
    go_wp2
    refine bodyPost_ret (results_tmp4 rfl _ _ _) rfl ?_
    exact ⟨_, by rw [HVM.out]; rfl, by rw [HVM.out]; exact rdt_nil _, HB3.out⟩
end Go.Proofs.YtebegkgechadlaaDoor
