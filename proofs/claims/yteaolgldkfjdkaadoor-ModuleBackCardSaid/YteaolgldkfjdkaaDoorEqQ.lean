/- flagonref00.EqSigs, EqGlobals, EqExports, EqModule. -/
import Derived.Test.YteaolgldkfjdkaaDoorMEq
import Derived.Test.YteaolgldkfjdkaaDoorMTwice
namespace Go.Proofs.YteaolgldkfjdkaaDoor
open Go Go.RowKit

set_option maxRecDepth 100000 in
set_option maxHeartbeats 1600000 in
theorem eqSigs5 (w : World) (S1 S2) (v1 v2 : Value) (l1 l2 : List (SigD)) (h1 : RdSigs S1 w v1 l1) (h2 : RdSigs S2 w v2 l2) :
    Calls Tryd.prog 24 #[v1, v2] w fun e w' => e = .returned (.bool (decide (l1 = l2))) ∧ Below w.heap.size w w' := by
  obtain ⟨a1, c1, rfl, hc1, hm1, r1⟩ := h1
  obtain ⟨a2, c2, rfl, hc2, hm2, r2⟩ := h2
  have H1 := Lib.hid r1; have H2 := Lib.hid r2; clear r1 r2
  by_cases hl : l1.length = l2.length
  · have HL := Lib.hid hl
    have hb : ((l1.length : Int) != l2.length) = false := by simp [hl]
    clear hl
    go_enter Tryd.func24, Tryd.ntmps24
    go_wp2
    go_loopw [5] (fun i wr => ∃ k : Nat, k ≤ l1.length ∧ i = .int .i64 k ∧ Hid (l1.take k = l2.take k) ∧ Below w.heap.size w wr) (fun i _ => l1.length - (intOf i).toNat)
    case atStart => exact ⟨0, by omega, rfl, by simp [Hid], Below.refl _ _⟩
    case round =>
      obtain ⟨k, hk, rfl, HT, hbel⟩ := hrel
      by_cases hlt : k < l1.length
      · have hlt2 : k < l2.length := by rw [← HL.out]; exact hlt
        obtain ⟨b1, o1, cs1, rfl, _, hn1, hcell1, hr1⟩ := H1.out k hlt
        obtain ⟨b2, o2, cs2, rfl, _, hn2, hcell2, hr2⟩ := H2.out k hlt2
        obtain ⟨x, hx⟩ : ∃ x, l1[k] = x := ⟨_, rfl⟩
        obtain ⟨y, hy⟩ : ∃ y, l2[k] = y := ⟨_, rfl⟩
        rw [hx] at hr1
        rw [hy] at hr2
        obtain ⟨x0, x1⟩ := x
        obtain ⟨y0, y1⟩ := y
        have hr1 : cs1 = [.string x0, .string x1] := hr1
        have hr2 : cs2 = [.string y0, .string y1] := hr2
        subst hr1
        subst hr2
        have e10 := cell_below hbel (hcell1 0 (by omega)); have e11 := cell_below hbel (hcell1 1 (by omega))
        have e20 := cell_below hbel (hcell2 0 (by omega)); have e21 := cell_below hbel (hcell2 1 (by omega))
        simp at e10 e20 e11 e21
        have HX := Lib.hid (And.intro hx hy)
        clear hcell1 hcell2 hn1 hn2 hx hy
        by_cases hq : x0.toList = y0.toList
        · obtain rfl := ba_inj5 hq
          by_cases hq : x1.toList = y1.toList
          · obtain rfl := ba_inj5 hq
            go_wp2
            go_quiet (fail)
            go_wp2
            all_goals (first | (exfalso; simp_all; done) | skip)
            go_roundw
            case rel => exact ⟨k + 1, by omega, by go_num, take_eq_succ hlt hlt2 HT.out (by rw [HX.out.1, HX.out.2]), (by first | exact hbel.drew | exact bel_drewN5 hbel _ | exact hbel)⟩
            case measure => simp [intOf]; omega
          · have d1 : ((x1.toList == y1.toList) = false) := by simp [hq]
            have hne : ¬ (x0, x1) = (x0, y1) := fun e => hq (by simp_all)
            have HNE := Lib.hid hne
            clear hne
            go_wp2
            go_quiet (fail)
            go_wp2
            all_goals (first | (exfalso; simp_all; done) | skip)
            go_ret
            exact ⟨ret_bool (decide_eq_false (ne_of_get hlt hlt2 (by rw [HX.out.1, HX.out.2]; exact HNE.out))).symm, (by first | exact hbel.drew | exact bel_drewN5 hbel _ | exact hbel)⟩
        · have d1 : ((x0.toList == y0.toList) = false) := by simp [hq]
          have hne : ¬ (x0, x1) = (y0, y1) := fun e => hq (by simp_all)
          have HNE := Lib.hid hne
          clear hne
          go_wp2
          go_quiet (fail)
          go_wp2
          all_goals (first | (exfalso; simp_all; done) | skip)
          go_ret
          exact ⟨ret_bool (decide_eq_false (ne_of_get hlt hlt2 (by rw [HX.out.1, HX.out.2]; exact HNE.out))).symm, (by first | exact hbel.drew | exact bel_drewN5 hbel _ | exact hbel)⟩
      · go_wp2
        go_ret
        exact ⟨ret_bool (decide_eq_true (eq_of_takes HL.out hlt HT.out)).symm, hbel⟩
  · have hb : ((l1.length : Int) != l2.length) = true := by simp; omega
    go_enter Tryd.func24, Tryd.ntmps24
    go_wp2
    go_ret
    exact ⟨ret_bool (decide_eq_false fun h => hl (by rw [h])).symm, Below.refl _ _⟩

set_option maxRecDepth 100000 in
set_option maxHeartbeats 1600000 in
theorem eqGlobs5 (w : World) (S1 S2) (v1 v2 : Value) (l1 l2 : List (GlobD)) (h1 : RdGlobs S1 w v1 l1) (h2 : RdGlobs S2 w v2 l2) :
    Calls Tryd.prog 26 #[v1, v2] w fun e w' => e = .returned (.bool (decide (l1 = l2))) ∧ Below w.heap.size w w' := by
  obtain ⟨a1, c1, rfl, hc1, hm1, r1⟩ := h1
  obtain ⟨a2, c2, rfl, hc2, hm2, r2⟩ := h2
  have H1 := Lib.hid r1; have H2 := Lib.hid r2; clear r1 r2
  by_cases hl : l1.length = l2.length
  · have HL := Lib.hid hl
    have hb : ((l1.length : Int) != l2.length) = false := by simp [hl]
    clear hl
    go_enter Tryd.func26, Tryd.ntmps26
    go_wp2
    go_loopw [5] (fun i wr => ∃ k : Nat, k ≤ l1.length ∧ i = .int .i64 k ∧ Hid (l1.take k = l2.take k) ∧ Below w.heap.size w wr) (fun i _ => l1.length - (intOf i).toNat)
    case atStart => exact ⟨0, by omega, rfl, by simp [Hid], Below.refl _ _⟩
    case round =>
      obtain ⟨k, hk, rfl, HT, hbel⟩ := hrel
      by_cases hlt : k < l1.length
      · have hlt2 : k < l2.length := by rw [← HL.out]; exact hlt
        obtain ⟨b1, o1, cs1, rfl, _, hn1, hcell1, hr1⟩ := H1.out k hlt
        obtain ⟨b2, o2, cs2, rfl, _, hn2, hcell2, hr2⟩ := H2.out k hlt2
        obtain ⟨x, hx⟩ : ∃ x, l1[k] = x := ⟨_, rfl⟩
        obtain ⟨y, hy⟩ : ∃ y, l2[k] = y := ⟨_, rfl⟩
        rw [hx] at hr1
        rw [hy] at hr2
        obtain ⟨x0, x1, x2⟩ := x
        obtain ⟨y0, y1, y2⟩ := y
        have hr1 : cs1 = [.int .u8 x0, .bool x1, .int .u64 x2] := hr1
        have hr2 : cs2 = [.int .u8 y0, .bool y1, .int .u64 y2] := hr2
        subst hr1
        subst hr2
        have e10 := cell_below hbel (hcell1 0 (by omega)); have e11 := cell_below hbel (hcell1 1 (by omega)); have e12 := cell_below hbel (hcell1 2 (by omega))
        have e20 := cell_below hbel (hcell2 0 (by omega)); have e21 := cell_below hbel (hcell2 1 (by omega)); have e22 := cell_below hbel (hcell2 2 (by omega))
        simp at e10 e20 e11 e21 e12 e22
        have HX := Lib.hid (And.intro hx hy)
        clear hcell1 hcell2 hn1 hn2 hx hy
        by_cases hq : x0 = y0
        · subst hq
          by_cases hq : x1 = y1
          · subst hq
            by_cases hq : x2 = y2
            · subst hq
              go_wp2
              go_quiet (fail)
              go_wp2
              all_goals (first | (exfalso; simp_all; done) | skip)
              go_roundw
              case rel => exact ⟨k + 1, by omega, by go_num, take_eq_succ hlt hlt2 HT.out (by rw [HX.out.1, HX.out.2]), (by first | exact hbel.drew | exact bel_drewN5 hbel _ | exact hbel)⟩
              case measure => simp [intOf]; omega
            · have d1 : (((x2 : Int) == (y2 : Int)) = false) := by simp; omega
              have d2 : ¬ (x2 : Int) = (y2 : Int) := by omega
              have hne : ¬ (⟨x0, x1, x2⟩ : GlobD) = (⟨x0, x1, y2⟩ : GlobD) := fun e => hq (by simp_all)
              have HNE := Lib.hid hne
              clear hne
              go_wp2
              go_quiet (fail)
              go_wp2
              all_goals (first | (exfalso; simp_all; done) | skip)
              go_ret
              exact ⟨ret_bool (decide_eq_false (ne_of_get hlt hlt2 (by rw [HX.out.1, HX.out.2]; exact HNE.out))).symm, (by first | exact hbel.drew | exact bel_drewN5 hbel _ | exact hbel)⟩
          · have d1 : ((x1 == y1) = false) := by simp [hq]
            have hne : ¬ (⟨x0, x1, x2⟩ : GlobD) = (⟨x0, y1, y2⟩ : GlobD) := fun e => hq (by simp_all)
            have HNE := Lib.hid hne
            clear hne
            go_wp2
            go_quiet (fail)
            go_wp2
            all_goals (first | (exfalso; simp_all; done) | skip)
            go_ret
            exact ⟨ret_bool (decide_eq_false (ne_of_get hlt hlt2 (by rw [HX.out.1, HX.out.2]; exact HNE.out))).symm, (by first | exact hbel.drew | exact bel_drewN5 hbel _ | exact hbel)⟩
        · have d1 : (((x0 : Int) == (y0 : Int)) = false) := by simp; omega
          have d2 : ¬ (x0 : Int) = (y0 : Int) := by omega
          have hne : ¬ (⟨x0, x1, x2⟩ : GlobD) = (⟨y0, y1, y2⟩ : GlobD) := fun e => hq (by simp_all)
          have HNE := Lib.hid hne
          clear hne
          go_wp2
          go_quiet (fail)
          go_wp2
          all_goals (first | (exfalso; simp_all; done) | skip)
          go_ret
          exact ⟨ret_bool (decide_eq_false (ne_of_get hlt hlt2 (by rw [HX.out.1, HX.out.2]; exact HNE.out))).symm, (by first | exact hbel.drew | exact bel_drewN5 hbel _ | exact hbel)⟩
      · go_wp2
        go_ret
        exact ⟨ret_bool (decide_eq_true (eq_of_takes HL.out hlt HT.out)).symm, hbel⟩
  · have hb : ((l1.length : Int) != l2.length) = true := by simp; omega
    go_enter Tryd.func26, Tryd.ntmps26
    go_wp2
    go_ret
    exact ⟨ret_bool (decide_eq_false fun h => hl (by rw [h])).symm, Below.refl _ _⟩

set_option maxRecDepth 100000 in
set_option maxHeartbeats 1600000 in
theorem eqExps5 (w : World) (S1 S2) (v1 v2 : Value) (l1 l2 : List (ExpD)) (h1 : RdExps S1 w v1 l1) (h2 : RdExps S2 w v2 l2) :
    Calls Tryd.prog 29 #[v1, v2] w fun e w' => e = .returned (.bool (decide (l1 = l2))) ∧ Below w.heap.size w w' := by
  obtain ⟨a1, c1, rfl, hc1, hm1, r1⟩ := h1
  obtain ⟨a2, c2, rfl, hc2, hm2, r2⟩ := h2
  have H1 := Lib.hid r1; have H2 := Lib.hid r2; clear r1 r2
  by_cases hl : l1.length = l2.length
  · have HL := Lib.hid hl
    have hb : ((l1.length : Int) != l2.length) = false := by simp [hl]
    clear hl
    go_enter Tryd.func29, Tryd.ntmps29
    go_wp2
    go_loopw [5] (fun i wr => ∃ k : Nat, k ≤ l1.length ∧ i = .int .i64 k ∧ Hid (l1.take k = l2.take k) ∧ Below w.heap.size w wr) (fun i _ => l1.length - (intOf i).toNat)
    case atStart => exact ⟨0, by omega, rfl, by simp [Hid], Below.refl _ _⟩
    case round =>
      obtain ⟨k, hk, rfl, HT, hbel⟩ := hrel
      by_cases hlt : k < l1.length
      · have hlt2 : k < l2.length := by rw [← HL.out]; exact hlt
        obtain ⟨b1, o1, cs1, rfl, _, hn1, hcell1, hr1⟩ := H1.out k hlt
        obtain ⟨b2, o2, cs2, rfl, _, hn2, hcell2, hr2⟩ := H2.out k hlt2
        obtain ⟨x, hx⟩ : ∃ x, l1[k] = x := ⟨_, rfl⟩
        obtain ⟨y, hy⟩ : ∃ y, l2[k] = y := ⟨_, rfl⟩
        rw [hx] at hr1
        rw [hy] at hr2
        obtain ⟨x0, x1⟩ := x
        obtain ⟨y0, y1⟩ := y
        have hr1 : cs1 = [.string x0, .int .i64 x1] := hr1
        have hr2 : cs2 = [.string y0, .int .i64 y1] := hr2
        subst hr1
        subst hr2
        have e10 := cell_below hbel (hcell1 0 (by omega)); have e11 := cell_below hbel (hcell1 1 (by omega))
        have e20 := cell_below hbel (hcell2 0 (by omega)); have e21 := cell_below hbel (hcell2 1 (by omega))
        simp at e10 e20 e11 e21
        have HX := Lib.hid (And.intro hx hy)
        clear hcell1 hcell2 hn1 hn2 hx hy
        by_cases hq : x0.toList = y0.toList
        · obtain rfl := ba_inj5 hq
          by_cases hq : x1 = y1
          · subst hq
            go_wp2
            go_quiet (fail)
            go_wp2
            all_goals (first | (exfalso; simp_all; done) | skip)
            go_roundw
            case rel => exact ⟨k + 1, by omega, by go_num, take_eq_succ hlt hlt2 HT.out (by rw [HX.out.1, HX.out.2]), (by first | exact hbel.drew | exact bel_drewN5 hbel _ | exact hbel)⟩
            case measure => simp [intOf]; omega
          · have d1 : ((x1 == y1) = false) := by simp [hq]
            have hne : ¬ (⟨x0, x1⟩ : ExpD) = (⟨x0, y1⟩ : ExpD) := fun e => hq (by simp_all)
            have HNE := Lib.hid hne
            clear hne
            go_wp2
            go_quiet (fail)
            go_wp2
            all_goals (first | (exfalso; simp_all; done) | skip)
            go_ret
            exact ⟨ret_bool (decide_eq_false (ne_of_get hlt hlt2 (by rw [HX.out.1, HX.out.2]; exact HNE.out))).symm, (by first | exact hbel.drew | exact bel_drewN5 hbel _ | exact hbel)⟩
        · have d1 : ((x0.toList == y0.toList) = false) := by simp [hq]
          have hne : ¬ (⟨x0, x1⟩ : ExpD) = (⟨y0, y1⟩ : ExpD) := fun e => hq (by simp_all)
          have HNE := Lib.hid hne
          clear hne
          go_wp2
          go_quiet (fail)
          go_wp2
          all_goals (first | (exfalso; simp_all; done) | skip)
          go_ret
          exact ⟨ret_bool (decide_eq_false (ne_of_get hlt hlt2 (by rw [HX.out.1, HX.out.2]; exact HNE.out))).symm, (by first | exact hbel.drew | exact bel_drewN5 hbel _ | exact hbel)⟩
      · go_wp2
        go_ret
        exact ⟨ret_bool (decide_eq_true (eq_of_takes HL.out hlt HT.out)).symm, hbel⟩
  · have hb : ((l1.length : Int) != l2.length) = true := by simp; omega
    go_enter Tryd.func29, Tryd.ntmps29
    go_wp2
    go_ret
    exact ⟨ret_bool (decide_eq_false fun h => hl (by rw [h])).symm, Below.refl _ _⟩

set_option maxRecDepth 100000 in
set_option maxHeartbeats 3200000 in
theorem eqMod5 (w : World) (S1 S2) (cs1 cs2 : List Value) (m1 m2 : ModD) (h1 : RMod S1 w cs1 m1) (h2 : RMod S2 w cs2 m2) :
    Calls Tryd.prog 10 #[.agg cs1.toArray, .agg cs2.toArray] w fun e w' => e = .returned (.bool (decide (m1 = m2))) ∧ Below w.heap.size w w' := by
  obtain ⟨v1, v2, v3, v4, v5, v6, rfl, r1, r2, r3, r4, r5, r6⟩ := h1
  obtain ⟨u1, u2, u3, u4, u5, u6, rfl, k1, k2, k3, k4, k5, k6⟩ := h2
  obtain ⟨at0, at1, rfl, -⟩ := r1.len
  obtain ⟨bt0, bt1, rfl, -⟩ := k1.len
  obtain ⟨ah0, ah1, rfl, -⟩ := r2.len
  obtain ⟨bh0, bh1, rfl, -⟩ := k2.len
  obtain ⟨ag0, ag1, rfl, -⟩ := r3.len
  obtain ⟨bg0, bg1, rfl, -⟩ := k3.len
  obtain ⟨af0, af1, rfl, -⟩ := r4.len
  obtain ⟨bf0, bf1, rfl, -⟩ := k4.len
  obtain ⟨ad0, ad1, rfl, -⟩ := r5.len
  obtain ⟨bd0, bd1, rfl, -⟩ := k5.len
  obtain ⟨ae0, ae1, rfl, -⟩ := r6.len
  obtain ⟨be0, be1, rfl, -⟩ := k6.len
  have R1 := Lib.hid r1; have K1 := Lib.hid k1
  have R2 := Lib.hid r2; have K2 := Lib.hid k2
  have R3 := Lib.hid r3; have K3 := Lib.hid k3
  have R4 := Lib.hid r4; have K4 := Lib.hid k4
  have R5 := Lib.hid r5; have K5 := Lib.hid k5
  have R6 := Lib.hid r6; have K6 := Lib.hid k6
  clear r1 r2 r3 r4 r5 r6 k1 k2 k3 k4 k5 k6
  by_cases q : m1.first = m2.first
  · have b1 : (m1.first == m2.first) = true := by simp [q]
    have QF := Lib.hid q
    clear q
    by_cases q : m1.most = m2.most
    · have b2 : (m1.most == m2.most) = true := by simp [q]
      have QM := Lib.hid q
      clear q
      have hr0 := heap_alloc_new w (.cells #[.slice at0 m1.types.length at1, .slice ah0 m1.hosts.length ah1, .slice ag0 m1.globals.length ag1, .int .i64 m1.first, .int .i64 m1.most, .slice af0 m1.funs.length af1, .slice ad0 m1.datas.length ad1, .slice ae0 m1.exps.length ae1] 29)
      have hr1 := heap_alloc_new (w.alloc (.cells #[.slice at0 m1.types.length at1, .slice ah0 m1.hosts.length ah1, .slice ag0 m1.globals.length ag1, .int .i64 m1.first, .int .i64 m1.most, .slice af0 m1.funs.length af1, .slice ad0 m1.datas.length ad1, .slice ae0 m1.exps.length ae1] 29)) (.cells #[.slice bt0 m2.types.length bt1, .slice bh0 m2.hosts.length bh1, .slice bg0 m2.globals.length bg1, .int .i64 m2.first, .int .i64 m2.most, .slice bf0 m2.funs.length bf1, .slice bd0 m2.datas.length bd1, .slice be0 m2.exps.length be1] 29)
      have hb1 := below_alloc (w.alloc (.cells #[.slice at0 m1.types.length at1, .slice ah0 m1.hosts.length ah1, .slice ag0 m1.globals.length ag1, .int .i64 m1.first, .int .i64 m1.most, .slice af0 m1.funs.length af1, .slice ad0 m1.datas.length ad1, .slice ae0 m1.exps.length ae1] 29)) (.cells #[.slice bt0 m2.types.length bt1, .slice bh0 m2.hosts.length bh1, .slice bg0 m2.globals.length bg1, .int .i64 m2.first, .int .i64 m2.most, .slice bf0 m2.funs.length bf1, .slice bd0 m2.datas.length bd1, .slice be0 m2.exps.length be1] 29)
      have HA0 := Lib.hid ((hb1.block _ (row_lt hr0)).trans hr0)
      have HC0 := Lib.hid hr1
      have HB0 := Lib.hid (below_alloc2 w (.cells #[.slice at0 m1.types.length at1, .slice ah0 m1.hosts.length ah1, .slice ag0 m1.globals.length ag1, .int .i64 m1.first, .int .i64 m1.most, .slice af0 m1.funs.length af1, .slice ad0 m1.datas.length ad1, .slice ae0 m1.exps.length ae1] 29) (.cells #[.slice bt0 m2.types.length bt1, .slice bh0 m2.hosts.length bh1, .slice bg0 m2.globals.length bg1, .int .i64 m2.first, .int .i64 m2.most, .slice bf0 m2.funs.length bf1, .slice bd0 m2.datas.length bd1, .slice be0 m2.exps.length be1] 29))
      rw [World.size_alloc] at HC0
      clear hr0 hr1 hb1
      go_enter Tryd.func10, Tryd.ntmps10
      go_wp2_with fail
      generalize (w.alloc (.cells #[.slice at0 m1.types.length at1, .slice ah0 m1.hosts.length ah1, .slice ag0 m1.globals.length ag1, .int .i64 m1.first, .int .i64 m1.most, .slice af0 m1.funs.length af1, .slice ad0 m1.datas.length ad1, .slice ae0 m1.exps.length ae1] 29)).alloc (.cells #[.slice bt0 m2.types.length bt1, .slice bh0 m2.hosts.length bh1, .slice bg0 m2.globals.length bg1, .int .i64 m2.first, .int .i64 m2.most, .slice bf0 m2.funs.length bf1, .slice bd0 m2.datas.length bd1, .slice be0 m2.exps.length be1] 29) = w0 at *
      have y0 := row_cell HA0.out 0 rfl; have y1 := row_cell HA0.out 1 rfl; have y2 := row_cell HA0.out 2 rfl; have y3 := row_cell HA0.out 3 rfl; have y4 := row_cell HA0.out 4 rfl; have y5 := row_cell HA0.out 5 rfl; have y6 := row_cell HA0.out 6 rfl; have y7 := row_cell HA0.out 7 rfl
      have z0 := row_cell HC0.out 0 rfl; have z1 := row_cell HC0.out 1 rfl; have z2 := row_cell HC0.out 2 rfl; have z3 := row_cell HC0.out 3 rfl; have z4 := row_cell HC0.out 4 rfl; have z5 := row_cell HC0.out 5 rfl; have z6 := row_cell HC0.out 6 rfl; have z7 := row_cell HC0.out 7 rfl
      simp only [List.getElem_toArray, List.getElem_cons_zero, List.getElem_cons_succ] at y0 z0 y1 z1 y2 z2 y3 z3 y4 z4 y5 z5 y6 z6 y7 z7
      refine (eqSigs5 w0 S1 S2 _ _ m1.types m2.types (RdL.map R1.out (Keeps.all S1 HB0.out) (fun _ h => h) (fun _ _ h => h)) (RdL.map K1.out (Keeps.all S2 HB0.out) (fun _ h => h) (fun _ _ h => h))).mono ?_
      rintro e w1 ⟨rfl, hb⟩
      have HB1 : Hid (Below w.heap.size w w1) := Lib.hid (below_next HB0.out hb)
      have HA1 := Lib.hid ((hb.block _ (row_lt HA0.out)).trans HA0.out)
      have HC1 := Lib.hid ((hb.block _ (row_lt HC0.out)).trans HC0.out)
      clear y0 z0 y1 z1 y2 z2 y3 z3 y4 z4 y5 z5 y6 z6 y7 z7
      clear hb HA0 HC0 HB0
      have y0 := row_cell HA1.out 0 rfl; have y1 := row_cell HA1.out 1 rfl; have y2 := row_cell HA1.out 2 rfl; have y3 := row_cell HA1.out 3 rfl; have y4 := row_cell HA1.out 4 rfl; have y5 := row_cell HA1.out 5 rfl; have y6 := row_cell HA1.out 6 rfl; have y7 := row_cell HA1.out 7 rfl
      have z0 := row_cell HC1.out 0 rfl; have z1 := row_cell HC1.out 1 rfl; have z2 := row_cell HC1.out 2 rfl; have z3 := row_cell HC1.out 3 rfl; have z4 := row_cell HC1.out 4 rfl; have z5 := row_cell HC1.out 5 rfl; have z6 := row_cell HC1.out 6 rfl; have z7 := row_cell HC1.out 7 rfl
      simp only [List.getElem_toArray, List.getElem_cons_zero, List.getElem_cons_succ] at y0 z0 y1 z1 y2 z2 y3 z3 y4 z4 y5 z5 y6 z6 y7 z7
      by_cases q0 : m1.types = m2.types
      · have d0 : decide (m1.types = m2.types) = true := decide_eq_true q0
        have Q0 := Lib.hid q0
        rw [d0]
        clear q0 d0
        go_wp2_with fail
        refine (eqInts w1 S1 S2 _ _ m1.hosts m2.hosts (R2.out.keeps (Keeps.all S1 HB1.out)) (K2.out.keeps (Keeps.all S2 HB1.out))).mono ?_
        rintro e w2 ⟨rfl, hn, hwn⟩
        have hb : Below w1.heap.size w1 w2 := by rw [hwn]; exact bel_drewN5 (Below.refl _ _) _
        clear hwn hn
        have HB2 : Hid (Below w.heap.size w w2) := Lib.hid (below_next HB1.out hb)
        have HA2 := Lib.hid ((hb.block _ (row_lt HA1.out)).trans HA1.out)
        have HC2 := Lib.hid ((hb.block _ (row_lt HC1.out)).trans HC1.out)
        clear y0 z0 y1 z1 y2 z2 y3 z3 y4 z4 y5 z5 y6 z6 y7 z7
        clear hb HA1 HC1 HB1
        have y0 := row_cell HA2.out 0 rfl; have y1 := row_cell HA2.out 1 rfl; have y2 := row_cell HA2.out 2 rfl; have y3 := row_cell HA2.out 3 rfl; have y4 := row_cell HA2.out 4 rfl; have y5 := row_cell HA2.out 5 rfl; have y6 := row_cell HA2.out 6 rfl; have y7 := row_cell HA2.out 7 rfl
        have z0 := row_cell HC2.out 0 rfl; have z1 := row_cell HC2.out 1 rfl; have z2 := row_cell HC2.out 2 rfl; have z3 := row_cell HC2.out 3 rfl; have z4 := row_cell HC2.out 4 rfl; have z5 := row_cell HC2.out 5 rfl; have z6 := row_cell HC2.out 6 rfl; have z7 := row_cell HC2.out 7 rfl
        simp only [List.getElem_toArray, List.getElem_cons_zero, List.getElem_cons_succ] at y0 z0 y1 z1 y2 z2 y3 z3 y4 z4 y5 z5 y6 z6 y7 z7
        by_cases q1 : m1.hosts = m2.hosts
        · have d1 : decide (m1.hosts = m2.hosts) = true := decide_eq_true q1
          have Q1 := Lib.hid q1
          rw [d1]
          clear q1 d1
          go_wp2_with fail
          refine (eqGlobs5 w2 S1 S2 _ _ m1.globals m2.globals (RdL.map R3.out (Keeps.all S1 HB2.out) (fun _ h => h) (fun _ _ h => h)) (RdL.map K3.out (Keeps.all S2 HB2.out) (fun _ h => h) (fun _ _ h => h))).mono ?_
          rintro e w3 ⟨rfl, hb⟩
          have HB3 : Hid (Below w.heap.size w w3) := Lib.hid (below_next HB2.out hb)
          have HA3 := Lib.hid ((hb.block _ (row_lt HA2.out)).trans HA2.out)
          have HC3 := Lib.hid ((hb.block _ (row_lt HC2.out)).trans HC2.out)
          clear y0 z0 y1 z1 y2 z2 y3 z3 y4 z4 y5 z5 y6 z6 y7 z7
          clear hb HA2 HC2 HB2
          have y0 := row_cell HA3.out 0 rfl; have y1 := row_cell HA3.out 1 rfl; have y2 := row_cell HA3.out 2 rfl; have y3 := row_cell HA3.out 3 rfl; have y4 := row_cell HA3.out 4 rfl; have y5 := row_cell HA3.out 5 rfl; have y6 := row_cell HA3.out 6 rfl; have y7 := row_cell HA3.out 7 rfl
          have z0 := row_cell HC3.out 0 rfl; have z1 := row_cell HC3.out 1 rfl; have z2 := row_cell HC3.out 2 rfl; have z3 := row_cell HC3.out 3 rfl; have z4 := row_cell HC3.out 4 rfl; have z5 := row_cell HC3.out 5 rfl; have z6 := row_cell HC3.out 6 rfl; have z7 := row_cell HC3.out 7 rfl
          simp only [List.getElem_toArray, List.getElem_cons_zero, List.getElem_cons_succ] at y0 z0 y1 z1 y2 z2 y3 z3 y4 z4 y5 z5 y6 z6 y7 z7
          by_cases q2 : m1.globals = m2.globals
          · have d2 : decide (m1.globals = m2.globals) = true := decide_eq_true q2
            have Q2 := Lib.hid q2
            rw [d2]
            clear q2 d2
            go_wp2_with fail
            refine (eqFuns5 w3 S1 S2 _ _ m1.funs m2.funs (RdL.map R4.out (Keeps.all S1 HB3.out) (fun _ h => h) (fun _ _ h => h.keeps (Keeps.all S1 HB3.out))) (RdL.map K4.out (Keeps.all S2 HB3.out) (fun _ h => h) (fun _ _ h => h.keeps (Keeps.all S2 HB3.out)))).mono ?_
            rintro e w4 ⟨rfl, hb⟩
            have HB4 : Hid (Below w.heap.size w w4) := Lib.hid (below_next HB3.out hb)
            have HA4 := Lib.hid ((hb.block _ (row_lt HA3.out)).trans HA3.out)
            have HC4 := Lib.hid ((hb.block _ (row_lt HC3.out)).trans HC3.out)
            clear y0 z0 y1 z1 y2 z2 y3 z3 y4 z4 y5 z5 y6 z6 y7 z7
            clear hb HA3 HC3 HB3
            have y0 := row_cell HA4.out 0 rfl; have y1 := row_cell HA4.out 1 rfl; have y2 := row_cell HA4.out 2 rfl; have y3 := row_cell HA4.out 3 rfl; have y4 := row_cell HA4.out 4 rfl; have y5 := row_cell HA4.out 5 rfl; have y6 := row_cell HA4.out 6 rfl; have y7 := row_cell HA4.out 7 rfl
            have z0 := row_cell HC4.out 0 rfl; have z1 := row_cell HC4.out 1 rfl; have z2 := row_cell HC4.out 2 rfl; have z3 := row_cell HC4.out 3 rfl; have z4 := row_cell HC4.out 4 rfl; have z5 := row_cell HC4.out 5 rfl; have z6 := row_cell HC4.out 6 rfl; have z7 := row_cell HC4.out 7 rfl
            simp only [List.getElem_toArray, List.getElem_cons_zero, List.getElem_cons_succ] at y0 z0 y1 z1 y2 z2 y3 z3 y4 z4 y5 z5 y6 z6 y7 z7
            by_cases q3 : m1.funs = m2.funs
            · have d3 : decide (m1.funs = m2.funs) = true := decide_eq_true q3
              have Q3 := Lib.hid q3
              rw [d3]
              clear q3 d3
              go_wp2_with fail
              refine (eqDats5 w4 S1 S2 _ _ m1.datas m2.datas (RdL.map R5.out (Keeps.all S1 HB4.out) (fun _ h => h) (fun _ _ h => h.keeps (Keeps.all S1 HB4.out))) (RdL.map K5.out (Keeps.all S2 HB4.out) (fun _ h => h) (fun _ _ h => h.keeps (Keeps.all S2 HB4.out)))).mono ?_
              rintro e w5 ⟨rfl, hb⟩
              have HB5 : Hid (Below w.heap.size w w5) := Lib.hid (below_next HB4.out hb)
              have HA5 := Lib.hid ((hb.block _ (row_lt HA4.out)).trans HA4.out)
              have HC5 := Lib.hid ((hb.block _ (row_lt HC4.out)).trans HC4.out)
              clear y0 z0 y1 z1 y2 z2 y3 z3 y4 z4 y5 z5 y6 z6 y7 z7
              clear hb HA4 HC4 HB4
              have y0 := row_cell HA5.out 0 rfl; have y1 := row_cell HA5.out 1 rfl; have y2 := row_cell HA5.out 2 rfl; have y3 := row_cell HA5.out 3 rfl; have y4 := row_cell HA5.out 4 rfl; have y5 := row_cell HA5.out 5 rfl; have y6 := row_cell HA5.out 6 rfl; have y7 := row_cell HA5.out 7 rfl
              have z0 := row_cell HC5.out 0 rfl; have z1 := row_cell HC5.out 1 rfl; have z2 := row_cell HC5.out 2 rfl; have z3 := row_cell HC5.out 3 rfl; have z4 := row_cell HC5.out 4 rfl; have z5 := row_cell HC5.out 5 rfl; have z6 := row_cell HC5.out 6 rfl; have z7 := row_cell HC5.out 7 rfl
              simp only [List.getElem_toArray, List.getElem_cons_zero, List.getElem_cons_succ] at y0 z0 y1 z1 y2 z2 y3 z3 y4 z4 y5 z5 y6 z6 y7 z7
              by_cases q4 : m1.datas = m2.datas
              · have d4 : decide (m1.datas = m2.datas) = true := decide_eq_true q4
                have Q4 := Lib.hid q4
                rw [d4]
                clear q4 d4
                go_wp2_with fail
                refine (eqExps5 w5 S1 S2 _ _ m1.exps m2.exps (RdL.map R6.out (Keeps.all S1 HB5.out) (fun _ h => h) (fun _ _ h => h)) (RdL.map K6.out (Keeps.all S2 HB5.out) (fun _ h => h) (fun _ _ h => h))).mono ?_
                rintro e w6 ⟨rfl, hb⟩
                have HB6 : Hid (Below w.heap.size w w6) := Lib.hid (below_next HB5.out hb)
                have HA6 := Lib.hid ((hb.block _ (row_lt HA5.out)).trans HA5.out)
                have HC6 := Lib.hid ((hb.block _ (row_lt HC5.out)).trans HC5.out)
                clear y0 z0 y1 z1 y2 z2 y3 z3 y4 z4 y5 z5 y6 z6 y7 z7
                clear hb HA5 HC5 HB5
                have y0 := row_cell HA6.out 0 rfl; have y1 := row_cell HA6.out 1 rfl; have y2 := row_cell HA6.out 2 rfl; have y3 := row_cell HA6.out 3 rfl; have y4 := row_cell HA6.out 4 rfl; have y5 := row_cell HA6.out 5 rfl; have y6 := row_cell HA6.out 6 rfl; have y7 := row_cell HA6.out 7 rfl
                have z0 := row_cell HC6.out 0 rfl; have z1 := row_cell HC6.out 1 rfl; have z2 := row_cell HC6.out 2 rfl; have z3 := row_cell HC6.out 3 rfl; have z4 := row_cell HC6.out 4 rfl; have z5 := row_cell HC6.out 5 rfl; have z6 := row_cell HC6.out 6 rfl; have z7 := row_cell HC6.out 7 rfl
                simp only [List.getElem_toArray, List.getElem_cons_zero, List.getElem_cons_succ] at y0 z0 y1 z1 y2 z2 y3 z3 y4 z4 y5 z5 y6 z6 y7 z7
                by_cases q5 : m1.exps = m2.exps
                · have d5 : decide (m1.exps = m2.exps) = true := decide_eq_true q5
                  have Q5 := Lib.hid q5
                  rw [d5]
                  clear q5 d5
                  go_wp2_with fail
                  go_ret
                  exact ⟨ret_bool (decide_eq_true (by cases m1; cases m2; simp only [ModD.mk.injEq]; exact ⟨Q0.out, Q1.out, Q2.out, QF.out, QM.out, Q3.out, Q4.out, Q5.out⟩)).symm, HB6.out⟩
                · have d5 : decide (m1.exps = m2.exps) = false := decide_eq_false q5
                  rw [d5]
                  clear d5
                  go_wp2_with fail
                  go_ret
                  exact ⟨ret_bool (decide_eq_false fun e => q5 (by rw [e])).symm, HB6.out⟩
              · have d4 : decide (m1.datas = m2.datas) = false := decide_eq_false q4
                rw [d4]
                clear d4
                go_wp2_with fail
                go_ret
                exact ⟨ret_bool (decide_eq_false fun e => q4 (by rw [e])).symm, HB5.out⟩
            · have d3 : decide (m1.funs = m2.funs) = false := decide_eq_false q3
              rw [d3]
              clear d3
              go_wp2_with fail
              go_ret
              exact ⟨ret_bool (decide_eq_false fun e => q3 (by rw [e])).symm, HB4.out⟩
          · have d2 : decide (m1.globals = m2.globals) = false := decide_eq_false q2
            rw [d2]
            clear d2
            go_wp2_with fail
            go_ret
            exact ⟨ret_bool (decide_eq_false fun e => q2 (by rw [e])).symm, HB3.out⟩
        · have d1 : decide (m1.hosts = m2.hosts) = false := decide_eq_false q1
          rw [d1]
          clear d1
          go_wp2_with fail
          go_ret
          exact ⟨ret_bool (decide_eq_false fun e => q1 (by rw [e])).symm, HB2.out⟩
      · have d0 : decide (m1.types = m2.types) = false := decide_eq_false q0
        rw [d0]
        clear d0
        go_wp2_with fail
        go_ret
        exact ⟨ret_bool (decide_eq_false fun e => q0 (by rw [e])).symm, HB1.out⟩
    · have b2 : (m1.most == m2.most) = false := by simp [q]
      go_enter Tryd.func10, Tryd.ntmps10
      go_wp2_with fail
      go_ret
      exact ⟨ret_bool (decide_eq_false fun e => q (by rw [e])).symm, below_alloc2 _ _ _⟩
  · have b1 : (m1.first == m2.first) = false := by simp [q]
    go_enter Tryd.func10, Tryd.ntmps10
    go_wp2_with fail
    go_ret
    exact ⟨ret_bool (decide_eq_false fun e => q (by rw [e])).symm, below_alloc2 _ _ _⟩

end Go.Proofs.YteaolgldkfjdkaaDoor
