/- The comparisons of two lists of integers (flagonref00.Eq..): each answers whether the two lists are one; it draws, and changes nothing. flagonref00.EqModule and its parts: each answers whether two things are one. -/
import Derived.Test.YteaolgldkfjdkaaDoorMLib
import Derived.Test.YteaolgldkfjdkaaDoorMMod
import Derived.Deep.RegionWith
namespace Go.Proofs.YteaolgldkfjdkaaDoor
open Go Go.RowKit

set_option maxHeartbeats 400000 in
/-- 'flagon/flagonref00.EqBytes': two lists compared. -/
theorem eqBytes (w : World) (S1 S2) (v1 v2 : Value) (l1 l2 : List Int) (h1 : RdI .u8 S1 w v1 l1) (h2 : RdI .u8 S2 w v2 l2) :
   Calls Tryd.prog 12 #[v1, v2] w fun e w' => e = .returned (.bool (decide (l1 = l2))) ∧ ∃ n, w' = w.drewN n := by
  obtain ⟨a1, c1, rfl, hc1, hm1, r1⟩ := h1
  obtain ⟨a2, c2, rfl, hc2, hm2, r2⟩ := h2
  have H1 := Lib.hid r1; have H2 := Lib.hid r2; clear r1 r2
  by_cases hl : l1.length = l2.length
  · have HL := Lib.hid hl
    have hb : ((l1.length : Int) != l2.length) = false := by simp [hl]
    clear hl
    go_enter Tryd.func12, Tryd.ntmps12
    go_wp2
    go_loopw [5] (fun i wr => ∃ k : Nat, k ≤ l1.length ∧ i = .int .i64 k ∧ Hid (l1.take k = l2.take k) ∧ ∃ n, wr = w.drewN n) (fun i _ => l1.length - (intOf i).toNat)
    case atStart => exact ⟨0, by omega, rfl, by simp [Hid], 0, rfl⟩
    case round =>
      obtain ⟨k, hk, rfl, HT, n, rfl⟩ := hrel
      by_cases hlt : k < l1.length
      · have hlt2 : k < l2.length := by rw [← HL.out]; exact hlt
        obtain ⟨b1, o1, rfl, _, e1⟩ := H1.out k hlt
        obtain ⟨b2, o2, rfl, _, e2⟩ := H2.out k hlt2
        go_wp2
        go_quiet (fail)
        go_wp2
        · rename_i hne
          go_ret
          exact ⟨ret_bool (decide_eq_false (ne_of_get hlt hlt2 (by simpa using hne))).symm, _, World.drewN_drewN _ _ _⟩
        · rename_i heq
          go_roundw
          case rel => exact ⟨k + 1, by omega, by go_num, take_eq_succ hlt hlt2 HT.out (by simpa using heq), _, rfl⟩
          case measure => simp [intOf]; omega
      · go_wp2
        go_ret
        exact ⟨ret_bool (decide_eq_true (eq_of_takes HL.out hlt HT.out)).symm, _, rfl⟩
  · have hb : ((l1.length : Int) != l2.length) = true := by simp; omega
    go_enter Tryd.func12, Tryd.ntmps12
    go_wp2
    go_ret
    exact ⟨ret_bool (decide_eq_false fun h => hl (by rw [h])).symm, 0, rfl⟩


set_option maxHeartbeats 400000 in
/-- 'flagon/flagonref00.EqInts': two lists compared. -/
theorem eqInts (w : World) (S1 S2) (v1 v2 : Value) (l1 l2 : List Int) (h1 : RdI .i64 S1 w v1 l1) (h2 : RdI .i64 S2 w v2 l2) :
   Calls Tryd.prog 25 #[v1, v2] w fun e w' => e = .returned (.bool (decide (l1 = l2))) ∧ ∃ n, w' = w.drewN n := by
  obtain ⟨a1, c1, rfl, hc1, hm1, r1⟩ := h1
  obtain ⟨a2, c2, rfl, hc2, hm2, r2⟩ := h2
  have H1 := Lib.hid r1; have H2 := Lib.hid r2; clear r1 r2
  by_cases hl : l1.length = l2.length
  · have HL := Lib.hid hl
    have hb : ((l1.length : Int) != l2.length) = false := by simp [hl]
    clear hl
    go_enter Tryd.func25, Tryd.ntmps25
    go_wp2
    go_loopw [5] (fun i wr => ∃ k : Nat, k ≤ l1.length ∧ i = .int .i64 k ∧ Hid (l1.take k = l2.take k) ∧ ∃ n, wr = w.drewN n) (fun i _ => l1.length - (intOf i).toNat)
    case atStart => exact ⟨0, by omega, rfl, by simp [Hid], 0, rfl⟩
    case round =>
      obtain ⟨k, hk, rfl, HT, n, rfl⟩ := hrel
      by_cases hlt : k < l1.length
      · have hlt2 : k < l2.length := by rw [← HL.out]; exact hlt
        obtain ⟨b1, o1, rfl, _, e1⟩ := H1.out k hlt
        obtain ⟨b2, o2, rfl, _, e2⟩ := H2.out k hlt2
        go_wp2
        go_quiet (fail)
        go_wp2
        · rename_i hne
          go_ret
          exact ⟨ret_bool (decide_eq_false (ne_of_get hlt hlt2 (by simpa using hne))).symm, _, World.drewN_drewN _ _ _⟩
        · rename_i heq
          go_roundw
          case rel => exact ⟨k + 1, by omega, by go_num, take_eq_succ hlt hlt2 HT.out (by simpa using heq), _, rfl⟩
          case measure => simp [intOf]; omega
      · go_wp2
        go_ret
        exact ⟨ret_bool (decide_eq_true (eq_of_takes HL.out hlt HT.out)).symm, _, rfl⟩
  · have hb : ((l1.length : Int) != l2.length) = true := by simp; omega
    go_enter Tryd.func25, Tryd.ntmps25
    go_wp2
    go_ret
    exact ⟨ret_bool (decide_eq_false fun h => hl (by rw [h])).symm, 0, rfl⟩


end Go.Proofs.YteaolgldkfjdkaaDoor
namespace Go.Proofs.YteaolgldkfjdkaaDoor
open Go Go.RowKit


theorem bel_drewN5 {B : Nat} {w w' : World} (h : Below B w w') (n : Nat) : Below B w (w'.drewN n) := ⟨h.os, h.tape, h.output, h.size, h.block⟩
theorem RIns.keep5 {S w w' cs} {x : InsD} (h : RIns S w cs x) (hk : Keeps S w w') : RIns S w' cs x := h.keeps hk fun _ h => h
set_option maxRecDepth 100000 in
set_option maxHeartbeats 400000 in
theorem eqIns5 (w : World) (S1 S2) (cs1 cs2 : List Value) (f g : InsD) (h1 : RIns S1 w cs1 f) (h2 : RIns S2 w cs2 g) :
    Calls Tryd.prog 79 #[.agg cs1.toArray, .agg cs2.toArray] w fun e w' => e = .returned (.bool (decide (f = g))) ∧ Below w.heap.size w w' := by
  obtain ⟨lv, rfl, hl⟩ := h1
  obtain ⟨lv', rfl, hl'⟩ := h2
  obtain ⟨fo, fa, fl⟩ := f
  obtain ⟨go, ga, gl⟩ := g
  simp only at hl hl'
  by_cases a : fo = go
  · subst a
    by_cases b : fa = ga
    · subst b
      go_enter Tryd.func79, Tryd.ntmps79
      go_wp2_with (go_at_call_of 25 (lv); refine (eqInts _ S1 S2 lv lv' fl gl ((hl.alloc _).alloc _) ((hl'.alloc _).alloc _)).mono ?_; rintro e w' ⟨rfl, n, rfl⟩)
      go_ret
      exact ⟨ret_bool (by simp), bel_drewN5 (below_alloc2 _ _ _) _⟩
    · have b1 : (fa == ga) = false := by simp [b]
      go_enter Tryd.func79, Tryd.ntmps79
      go_wp2_with fail
      go_ret
      exact ⟨ret_bool (by simp [b]), below_alloc2 _ _ _⟩
  · have a1 : ((fo : Int) == (go : Int)) = false := by simp; omega
    go_enter Tryd.func79, Tryd.ntmps79
    go_wp2_with fail
    go_ret
    exact ⟨ret_bool (by simp [a]), below_alloc2 _ _ _⟩

set_option maxRecDepth 100000 in
set_option maxHeartbeats 400000 in
theorem eqCode5 (w : World) (S1 S2) (v1 v2 : Value) (l1 l2 : List (InsD)) (h1 : CdS S1 w v1 l1) (h2 : CdS S2 w v2 l2) :
    Calls Tryd.prog 68 #[v1, v2] w fun e w' => e = .returned (.bool (decide (l1 = l2))) ∧ Below w.heap.size w w' := by
  obtain ⟨a1, c1, rfl, hc1, hm1, r1⟩ := h1
  obtain ⟨a2, c2, rfl, hc2, hm2, r2⟩ := h2
  have H1 := Lib.hid r1; have H2 := Lib.hid r2; clear r1 r2
  by_cases hl : l1.length = l2.length
  · have HL := Lib.hid hl
    have hb : ((l1.length : Int) != l2.length) = false := by simp [hl]
    clear hl
    go_enter Tryd.func68, Tryd.ntmps68
    go_wp2
    go_loopw [5] (fun i wr => ∃ k : Nat, k ≤ l1.length ∧ i = .int .i64 k ∧ Hid (l1.take k = l2.take k) ∧ Below w.heap.size w wr) (fun i _ => l1.length - (intOf i).toNat)
    case atStart => exact ⟨0, by omega, rfl, by simp [Hid], Below.refl _ _⟩
    case round =>
      obtain ⟨k, hk, rfl, HT, hbel⟩ := hrel
      by_cases hlt : k < l1.length
      · have hlt2 : k < l2.length := by rw [← HL.out]; exact hlt
        obtain ⟨b1, o1, cs1, rfl, _, hn1, hcell1, hr1⟩ := H1.out k hlt
        obtain ⟨b2, o2, cs2, rfl, _, hn2, hcell2, hr2⟩ := H2.out k hlt2
        match cs1, hn1 with
        | [x0, x1, x2], _ =>
        match cs2, hn2 with
        | [y0, y1, y2], _ =>
        have e10 := cell_below hbel (hcell1 0 (by omega)); have e11 := cell_below hbel (hcell1 1 (by omega)); have e12 := cell_below hbel (hcell1 2 (by omega))
        have e20 := cell_below hbel (hcell2 0 (by omega)); have e21 := cell_below hbel (hcell2 1 (by omega)); have e22 := cell_below hbel (hcell2 2 (by omega))
        simp at e10 e20 e11 e21 e12 e22
        replace hr1 := RIns.keep5 hr1 (Keeps.all S1 hbel); replace hr2 := RIns.keep5 hr2 (Keeps.all S2 hbel)
        have hr1 := Lib.hid hr1; have hr2 := Lib.hid hr2
        clear hcell1 hcell2 hn1 hn2
        go_wp2
        go_still_tail 8, (by kernel_rfl)
        go_wp2_with (go_at_call 79; refine (eqIns5 _ S1 S2 [x0, x1, x2] [y0, y1, y2] l1[k] l2[k] (RIns.keep5 hr1.out ((Keeps.refl _ _).drew)) (RIns.keep5 hr2.out ((Keeps.refl _ _).drew))).mono ?_; rintro e w' ⟨rfl, hbel'⟩)
        · rename_i hne
          go_ret
          exact ⟨ret_bool (decide_eq_false (ne_of_get hlt hlt2 (by simpa using hne))).symm, below_step hbel.drew (Nat.le_refl _) hbel'⟩
        · rename_i heq
          go_roundw
          case rel => exact ⟨k + 1, by omega, by go_num, take_eq_succ hlt hlt2 HT.out (by simpa using heq), below_step hbel.drew (Nat.le_refl _) hbel'⟩
          case measure => simp [intOf]; omega
      · go_wp2
        go_ret
        exact ⟨ret_bool (decide_eq_true (eq_of_takes HL.out hlt HT.out)).symm, hbel⟩
  · have hb : ((l1.length : Int) != l2.length) = true := by simp; omega
    go_enter Tryd.func68, Tryd.ntmps68
    go_wp2
    go_ret
    exact ⟨ret_bool (decide_eq_false fun h => hl (by rw [h])).symm, Below.refl _ _⟩

theorem toList_inj5 {a b : ByteArray} (h : a.toList = b.toList) : a = b := by
  rw [ByteArray.toList_eq, ByteArray.toList_eq] at h
  cases a; cases b
  exact congrArg ByteArray.mk (by simpa using h)
theorem CdS.keep5 {S w w' v} {x : List InsD} (h : CdS S w v x) (hk : Keeps S w w') : CdS S w' v x := CdS.keeps h hk fun _ h => h
set_option maxRecDepth 100000 in
set_option maxHeartbeats 400000 in
theorem eqFun5 (w : World) (S1 S2) (cs1 cs2 : List Value) (f g : FunD) (h1 : RFun S1 w cs1 f) (h2 : RFun S2 w cs2 g) :
    Calls Tryd.prog 54 #[.agg cs1.toArray, .agg cs2.toArray] w fun e w' => e = .returned (.bool (decide (f = g))) ∧ Below w.heap.size w w' := by
  obtain ⟨lv, rfl, hl⟩ := h1
  obtain ⟨lv', rfl, hl'⟩ := h2
  obtain ⟨ft, fo, fl⟩ := f
  obtain ⟨gt, go, gl⟩ := g
  simp only at hl hl'
  by_cases a : ft = gt
  · subst a
    by_cases b : fo = go
    · subst b
      go_enter Tryd.func54, Tryd.ntmps54
      go_wp2_with (go_at_call_of 68 (lv); refine (eqCode5 _ S1 S2 lv lv' fl gl (CdS.keep5 hl (Keeps.all _ (below_alloc2 _ _ _))) (CdS.keep5 hl' (Keeps.all _ (below_alloc2 _ _ _)))).mono ?_; rintro e w' ⟨rfl, hb⟩)
      go_ret
      exact ⟨ret_bool (by simp), below_next (below_alloc2 _ _ _) hb⟩
    · have b0 : ¬ fo.toList = go.toList := fun h => b (toList_inj5 h)
      have b1 : (fo.toList == go.toList) = false := by simp [b0]
      go_enter Tryd.func54, Tryd.ntmps54
      go_wp2_with fail
      go_ret
      exact ⟨ret_bool (by simp [b]), below_alloc2 _ _ _⟩
  · have a1 : (ft == gt) = false := by simp [a]
    go_enter Tryd.func54, Tryd.ntmps54
    go_wp2_with fail
    go_ret
    exact ⟨ret_bool (by simp [a]), below_alloc2 _ _ _⟩

set_option maxRecDepth 100000 in
set_option maxHeartbeats 400000 in
theorem eqFuns5 (w : World) (S1 S2) (v1 v2 : Value) (l1 l2 : List (FunD)) (h1 : RdFuns S1 w v1 l1) (h2 : RdFuns S2 w v2 l2) :
    Calls Tryd.prog 27 #[v1, v2] w fun e w' => e = .returned (.bool (decide (l1 = l2))) ∧ Below w.heap.size w w' := by
  obtain ⟨a1, c1, rfl, hc1, hm1, r1⟩ := h1
  obtain ⟨a2, c2, rfl, hc2, hm2, r2⟩ := h2
  have H1 := Lib.hid r1; have H2 := Lib.hid r2; clear r1 r2
  by_cases hl : l1.length = l2.length
  · have HL := Lib.hid hl
    have hb : ((l1.length : Int) != l2.length) = false := by simp [hl]
    clear hl
    go_enter Tryd.func27, Tryd.ntmps27
    go_wp2
    go_loopw [5] (fun i wr => ∃ k : Nat, k ≤ l1.length ∧ i = .int .i64 k ∧ Hid (l1.take k = l2.take k) ∧ Below w.heap.size w wr) (fun i _ => l1.length - (intOf i).toNat)
    case atStart => exact ⟨0, by omega, rfl, by simp [Hid], Below.refl _ _⟩
    case round =>
      obtain ⟨k, hk, rfl, HT, hbel⟩ := hrel
      by_cases hlt : k < l1.length
      · have hlt2 : k < l2.length := by rw [← HL.out]; exact hlt
        obtain ⟨b1, o1, cs1, rfl, _, hn1, hcell1, hr1⟩ := H1.out k hlt
        obtain ⟨b2, o2, cs2, rfl, _, hn2, hcell2, hr2⟩ := H2.out k hlt2
        match cs1, hn1 with
        | [x0, x1, x2], _ =>
        match cs2, hn2 with
        | [y0, y1, y2], _ =>
        have e10 := cell_below hbel (hcell1 0 (by omega)); have e11 := cell_below hbel (hcell1 1 (by omega)); have e12 := cell_below hbel (hcell1 2 (by omega))
        have e20 := cell_below hbel (hcell2 0 (by omega)); have e21 := cell_below hbel (hcell2 1 (by omega)); have e22 := cell_below hbel (hcell2 2 (by omega))
        simp at e10 e20 e11 e21 e12 e22
        replace hr1 := RFun.keeps hr1 (Keeps.all S1 hbel); replace hr2 := RFun.keeps hr2 (Keeps.all S2 hbel)
        have hr1 := Lib.hid hr1; have hr2 := Lib.hid hr2
        clear hcell1 hcell2 hn1 hn2
        go_wp2
        go_still_tail 8, (by kernel_rfl)
        go_wp2_with (go_at_call 54; refine (eqFun5 _ S1 S2 [x0, x1, x2] [y0, y1, y2] l1[k] l2[k] (RFun.keeps hr1.out ((Keeps.refl _ _).drew)) (RFun.keeps hr2.out ((Keeps.refl _ _).drew))).mono ?_; rintro e w' ⟨rfl, hbel'⟩)
        · rename_i hne
          go_ret
          exact ⟨ret_bool (decide_eq_false (ne_of_get hlt hlt2 (by simpa using hne))).symm, below_step hbel.drew (Nat.le_refl _) hbel'⟩
        · rename_i heq
          go_roundw
          case rel => exact ⟨k + 1, by omega, by go_num, take_eq_succ hlt hlt2 HT.out (by simpa using heq), below_step hbel.drew (Nat.le_refl _) hbel'⟩
          case measure => simp [intOf]; omega
      · go_wp2
        go_ret
        exact ⟨ret_bool (decide_eq_true (eq_of_takes HL.out hlt HT.out)).symm, hbel⟩
  · have hb : ((l1.length : Int) != l2.length) = true := by simp; omega
    go_enter Tryd.func27, Tryd.ntmps27
    go_wp2
    go_ret
    exact ⟨ret_bool (decide_eq_false fun h => hl (by rw [h])).symm, Below.refl _ _⟩

set_option maxRecDepth 100000 in
set_option maxHeartbeats 400000 in
theorem eqDat5 (w : World) (S1 S2) (cs1 cs2 : List Value) (f g : DatD) (h1 : RDat S1 w cs1 f) (h2 : RDat S2 w cs2 g) :
    Calls Tryd.prog 55 #[.agg cs1.toArray, .agg cs2.toArray] w fun e w' => e = .returned (.bool (decide (f = g))) ∧ Below w.heap.size w w' := by
  obtain ⟨lv, rfl, hl⟩ := h1
  obtain ⟨lv', rfl, hl'⟩ := h2
  obtain ⟨ft, fl⟩ := f
  obtain ⟨gt, gl⟩ := g
  simp only at hl hl'
  by_cases a : ft = gt
  · subst a
    go_enter Tryd.func55, Tryd.ntmps55
    go_wp2_with (go_at_call_of 12 (lv); refine (eqBytes _ S1 S2 lv lv' fl gl ((hl.alloc _).alloc _) ((hl'.alloc _).alloc _)).mono ?_; rintro e w' ⟨rfl, n, rfl⟩)
    go_ret
    exact ⟨ret_bool (by simp), bel_drewN5 (below_alloc2 _ _ _) _⟩
  · have a1 : (ft == gt) = false := by simp [a]
    go_enter Tryd.func55, Tryd.ntmps55
    go_wp2_with fail
    go_ret
    exact ⟨ret_bool (by simp [a]), below_alloc2 _ _ _⟩

set_option maxRecDepth 100000 in
set_option maxHeartbeats 400000 in
theorem eqDats5 (w : World) (S1 S2) (v1 v2 : Value) (l1 l2 : List (DatD)) (h1 : RdDats S1 w v1 l1) (h2 : RdDats S2 w v2 l2) :
    Calls Tryd.prog 28 #[v1, v2] w fun e w' => e = .returned (.bool (decide (l1 = l2))) ∧ Below w.heap.size w w' := by
  obtain ⟨a1, c1, rfl, hc1, hm1, r1⟩ := h1
  obtain ⟨a2, c2, rfl, hc2, hm2, r2⟩ := h2
  have H1 := Lib.hid r1; have H2 := Lib.hid r2; clear r1 r2
  by_cases hl : l1.length = l2.length
  · have HL := Lib.hid hl
    have hb : ((l1.length : Int) != l2.length) = false := by simp [hl]
    clear hl
    go_enter Tryd.func28, Tryd.ntmps28
    go_wp2
    go_loopw [5] (fun i wr => ∃ k : Nat, k ≤ l1.length ∧ i = .int .i64 k ∧ Hid (l1.take k = l2.take k) ∧ Below w.heap.size w wr) (fun i _ => l1.length - (intOf i).toNat)
    case atStart => exact ⟨0, by omega, rfl, by simp [Hid], Below.refl _ _⟩
    case round =>
      obtain ⟨k, hk, rfl, HT, hbel⟩ := hrel
      by_cases hlt : k < l1.length
      · have hlt2 : k < l2.length := by rw [← HL.out]; exact hlt
        obtain ⟨b1, o1, cs1, rfl, _, hn1, hcell1, hr1⟩ := H1.out k hlt
        obtain ⟨b2, o2, cs2, rfl, _, hn2, hcell2, hr2⟩ := H2.out k hlt2
        match cs1, hn1 with
        | [x0, x1], _ =>
        match cs2, hn2 with
        | [y0, y1], _ =>
        have e10 := cell_below hbel (hcell1 0 (by omega)); have e11 := cell_below hbel (hcell1 1 (by omega))
        have e20 := cell_below hbel (hcell2 0 (by omega)); have e21 := cell_below hbel (hcell2 1 (by omega))
        simp at e10 e20 e11 e21
        replace hr1 := RDat.keeps hr1 (Keeps.all S1 hbel); replace hr2 := RDat.keeps hr2 (Keeps.all S2 hbel)
        have hr1 := Lib.hid hr1; have hr2 := Lib.hid hr2
        clear hcell1 hcell2 hn1 hn2
        go_wp2
        go_still_tail 8, (by kernel_rfl)
        go_wp2_with (go_at_call 55; refine (eqDat5 _ S1 S2 [x0, x1] [y0, y1] l1[k] l2[k] (RDat.keeps hr1.out ((Keeps.refl _ _).drew)) (RDat.keeps hr2.out ((Keeps.refl _ _).drew))).mono ?_; rintro e w' ⟨rfl, hbel'⟩)
        · rename_i hne
          go_ret
          exact ⟨ret_bool (decide_eq_false (ne_of_get hlt hlt2 (by simpa using hne))).symm, below_step hbel.drew (Nat.le_refl _) hbel'⟩
        · rename_i heq
          go_roundw
          case rel => exact ⟨k + 1, by omega, by go_num, take_eq_succ hlt hlt2 HT.out (by simpa using heq), below_step hbel.drew (Nat.le_refl _) hbel'⟩
          case measure => simp [intOf]; omega
      · go_wp2
        go_ret
        exact ⟨ret_bool (decide_eq_true (eq_of_takes HL.out hlt HT.out)).symm, hbel⟩
  · have hb : ((l1.length : Int) != l2.length) = true := by simp; omega
    go_enter Tryd.func28, Tryd.ntmps28
    go_wp2
    go_ret
    exact ⟨ret_bool (decide_eq_false fun h => hl (by rw [h])).symm, Below.refl _ _⟩

end Go.Proofs.YteaolgldkfjdkaaDoor
