/- States as data: frames, pages; flagonref00.EqFrame, EqFrames, EqPages, EqState. -/
import Derived.Test.YthlkckpadjjbdaaDoorEqs
import Derived.Deep.RegionWith
namespace Go.Proofs.YthlkckpadjjbdaaDoor
open Go Go.RowKit

structure FrameD where
  fn : Int
  pc : Int
  loc : List Int
  stk : List Int
deriving DecidableEq

structure StateD where
  frames : List FrameD
  globals : List Int
  pages : List (List Int)
  replies : Int
  ends : Int
  results : List Int
  trap : Int
  used : Int
deriving DecidableEq

def RFrame (S : Nat → Prop) : World → List Value → FrameD → Prop := fun w cs f =>
  ∃ lv sv, cs = [.int .i64 f.fn, .int .i64 f.pc, lv, sv] ∧ RdI .u64 S w lv f.loc ∧ RdI .u64 S w sv f.stk
abbrev RdFrames (S : Nat → Prop) (w : World) (v : Value) (xs : List FrameD) : Prop := RdL 4 (RFrame S) S w v xs
theorem RFrame.keeps {S w w' cs f} (h : RFrame S w cs f) (hk : Keeps S w w') : RFrame S w' cs f := by
  obtain ⟨lv, sv, e, h1, h2⟩ := h
  exact ⟨lv, sv, e, h1.keeps hk, h2.keeps hk⟩
theorem RdFrames.keeps {S w w' v xs} (h : RdFrames S w v xs) (hk : Keeps S w w') : RdFrames S w' v xs := RdL.map h hk (fun _ h => h) fun _ _ h => h.keeps hk

/-- A state's eight cells. -/
def RState (S : Nat → Prop) (w : World) (cs : List Value) (s : StateD) : Prop :=
  ∃ fv gv pv rv, cs = [fv, gv, pv, .int .i64 s.replies, .int .i8 s.ends, rv, .int .i8 s.trap, .int .i64 s.used] ∧
    RdFrames S w fv s.frames ∧ RdI .u64 S w gv s.globals ∧ RdLL .u8 S w pv s.pages ∧ RdI .u64 S w rv s.results
theorem RState.keeps {S w w' cs s} (h : RState S w cs s) (hk : Keeps S w w') : RState S w' cs s := by
  obtain ⟨fv, gv, pv, rv, e, h1, h2, h3, h4⟩ := h
  exact ⟨fv, gv, pv, rv, e, h1.keeps hk, h2.keeps hk, h3.keeps hk, h4.keeps hk⟩

theorem RState.mono {S T : Nat → Prop} {w cs s} (h : RState S w cs s) (hS : ∀ b, b < w.heap.size → S b → T b) : RState T w cs s := by
  obtain ⟨fv, gv, pv, rv, e, h1, h2, h3, h4⟩ := h
  exact ⟨fv, gv, pv, rv, e, h1.mono (by omega) hS fun cs x ⟨lv, sv, e, k1, k2⟩ => ⟨lv, sv, e, k1.mono hS, k2.mono hS⟩, h2.mono hS, h3.mono (by omega) hS fun cs x ⟨u, e, k⟩ => ⟨u, e, k.mono hS⟩, h4.mono hS⟩

theorem frame_eq {f g : FrameD} (h1 : f.fn = g.fn) (h2 : f.pc = g.pc) (h3 : f.loc = g.loc) : decide (f.stk = g.stk) = decide (f = g) := by
  rw [decide_eq_decide]; cases f; cases g; simp_all
theorem frame_ne {f g : FrameD} (h : ¬ f.fn = g.fn ∨ ¬ f.pc = g.pc ∨ ¬ f.loc = g.loc) : false = decide (f = g) := by
  refine (decide_eq_false ?_).symm; rintro rfl; simp at h

set_option maxRecDepth 100000 in
set_option maxHeartbeats 400000 in
theorem eqFrame (w : World) (S1 S2) (cs1 cs2 : List Value) (f g : FrameD) (h1 : RFrame S1 w cs1 f) (h2 : RFrame S2 w cs2 g) :
    Calls Tryd.prog 73 #[.agg cs1.toArray, .agg cs2.toArray] w fun e w' => e = .returned (.bool (decide (f = g))) ∧ Below w.heap.size w w' := by
  obtain ⟨lv, sv, rfl, hl, hs⟩ := h1
  obtain ⟨lv', sv', rfl, hl', hs'⟩ := h2
  go_enter Tryd.func73, Tryd.ntmps73
  go_wp2_with (first
    | (go_at_call_of 50 (lv); refine (eqWords _ S1 S2 lv lv' f.loc g.loc ((hl.alloc _).alloc _) ((hl'.alloc _).alloc _)).mono ?_; rintro e w' ⟨rfl, n, rfl⟩)
    | (go_at_call_of 50 (sv); refine (eqWords _ S1 S2 sv sv' f.stk g.stk (((hs.alloc _).alloc _).drewN _) (((hs'.alloc _).alloc _).drewN _)).mono ?_; rintro e w' ⟨rfl, m, rfl⟩))
  all_goals go_ret
  all_goals (refine ⟨ret_bool ?_, ?_⟩; rotate_left; (with_reducible first | exact below_alloc2 _ _ _ | exact below_drewN (below_alloc2 _ _ _) _ | exact below_drewN (below_drewN (below_alloc2 _ _ _) _) _))
  all_goals first
    | exact frame_eq (by assumption) (by assumption) (by assumption)
    | exact frame_ne (.inr (.inr (by assumption)))
    | exact frame_ne (.inr (.inl (by assumption)))
    | exact frame_ne (.inl (by assumption))


set_option maxRecDepth 100000 in
set_option maxHeartbeats 400000 in
theorem eqFrames (w : World) (S1 S2) (v1 v2 : Value) (l1 l2 : List (FrameD)) (h1 : RdFrames S1 w v1 l1) (h2 : RdFrames S2 w v2 l2) :
    Calls Tryd.prog 49 #[v1, v2] w fun e w' => e = .returned (.bool (decide (l1 = l2))) ∧ Below w.heap.size w w' := by
  obtain ⟨a1, c1, rfl, hc1, hm1, r1⟩ := h1
  obtain ⟨a2, c2, rfl, hc2, hm2, r2⟩ := h2
  have H1 := Lib.hid r1; have H2 := Lib.hid r2; clear r1 r2
  by_cases hl : l1.length = l2.length
  · have HL := Lib.hid hl
    have hb : ((l1.length : Int) != l2.length) = false := by simp [hl]
    clear hl
    go_enter Tryd.func49, Tryd.ntmps49
    go_wp2
    go_loopw [5] (fun i wr => ∃ k : Nat, k ≤ l1.length ∧ i = .int .i64 k ∧ Hid (l1.take k = l2.take k) ∧ Below w.heap.size w wr) (fun i _ => l1.length - (intOf i).toNat)
    case atStart => exact ⟨0, by omega, rfl, by simp [Hid], Below.refl _ _⟩
    case round =>
      obtain ⟨k, hk, rfl, HT, hbel⟩ := hrel
      by_cases hlt : k < l1.length
      · have hlt2 : k < l2.length := by rw [← HL.out]; exact hlt
        obtain ⟨b1, o1, cs1, rfl, _, hn1, hcell1, hr1⟩ := H1.out k hlt
        obtain ⟨b2, o2, cs2, rfl, _, hn2, hcell2, hr2⟩ := H2.out k hlt2
        match cs1, hn1 with
        | [x0, x1, x2, x3], _ =>
        match cs2, hn2 with
        | [y0, y1, y2, y3], _ =>
        have e10 := cell_below hbel (hcell1 0 (by omega)); have e11 := cell_below hbel (hcell1 1 (by omega)); have e12 := cell_below hbel (hcell1 2 (by omega)); have e13 := cell_below hbel (hcell1 3 (by omega))
        have e20 := cell_below hbel (hcell2 0 (by omega)); have e21 := cell_below hbel (hcell2 1 (by omega)); have e22 := cell_below hbel (hcell2 2 (by omega)); have e23 := cell_below hbel (hcell2 3 (by omega))
        simp at e10 e20 e11 e21 e12 e22 e13 e23
        replace hr1 := RFrame.keeps hr1 (Keeps.all S1 hbel); replace hr2 := RFrame.keeps hr2 (Keeps.all S2 hbel)
        have hr1 := Lib.hid hr1; have hr2 := Lib.hid hr2
        clear hcell1 hcell2 hn1 hn2
        go_wp2
        go_still_tail 8, (by kernel_rfl)
        go_wp2_with (go_at_call 73; refine (eqFrame _ S1 S2 [x0, x1, x2, x3] [y0, y1, y2, y3] l1[k] l2[k] (RFrame.keeps hr1.out ((Keeps.refl _ _).drew)) (RFrame.keeps hr2.out ((Keeps.refl _ _).drew))).mono ?_; rintro e w' ⟨rfl, hbel'⟩)
        · rename_i hne
          go_ret
          exact ⟨ret_bool (decide_eq_false (ne_of_get hlt hlt2 (by simpa using hne))).symm, below_step hbel.drew (Nat.le_refl _) hbel'⟩
        · rename_i heq
          go_roundw
          case rel => exact ⟨k + 1, by omega, by go_num, take_eq_succ hlt hlt2 HT.out (by simpa using heq), below_step hbel.drew (Nat.le_refl _) hbel'⟩
          case measure => simp [intOf]; omega
      · go_wp2
        go_ret
        exact ⟨ret_bool (decide_eq_true (eq_of_takes HL.out hlt HT.out)).symm, hbel⟩
  · have hb : ((l1.length : Int) != l2.length) = true := by simp; omega
    go_enter Tryd.func49, Tryd.ntmps49
    go_wp2
    go_ret
    exact ⟨ret_bool (decide_eq_false fun h => hl (by rw [h])).symm, Below.refl _ _⟩

theorem R1I.keeps {k S w w' cs} {x : List Int} (h : R1 (fun w v x => RdI k S w v x) w cs x) (hk : Keeps S w w') : R1 (fun w v x => RdI k S w v x) w' cs x := by
  obtain ⟨v, e, hv⟩ := h
  exact ⟨v, e, hv.keeps hk⟩
theorem eqBytes1 (w : World) (S1 S2) (v1 v2 : Value) (l1 l2 : List Int) (h1 : R1 (fun w v x => RdI .u8 S1 w v x) w [v1] l1) (h2 : R1 (fun w v x => RdI .u8 S2 w v x) w [v2] l2) :
   Calls Tryd.prog 11 #[v1, v2] w fun e w' => e = .returned (.bool (decide (l1 = l2))) ∧ Below w.heap.size w w' := by
  obtain ⟨_, e1, h1⟩ := h1; obtain ⟨_, e2, h2⟩ := h2
  simp only [List.cons.injEq, and_true] at e1 e2; subst e1; subst e2
  refine (eqBytes w S1 S2 _ _ l1 l2 h1 h2).mono ?_
  rintro e w' ⟨he, n, rfl⟩
  exact ⟨he, below_drewN (Below.refl _ _) n⟩

set_option maxRecDepth 100000 in
set_option maxHeartbeats 400000 in
theorem eqPages (w : World) (S1 S2) (v1 v2 : Value) (l1 l2 : List (List Int)) (h1 : RdLL .u8 S1 w v1 l1) (h2 : RdLL .u8 S2 w v2 l2) :
    Calls Tryd.prog 51 #[v1, v2] w fun e w' => e = .returned (.bool (decide (l1 = l2))) ∧ Below w.heap.size w w' := by
  obtain ⟨a1, c1, rfl, hc1, hm1, r1⟩ := h1
  obtain ⟨a2, c2, rfl, hc2, hm2, r2⟩ := h2
  have H1 := Lib.hid r1; have H2 := Lib.hid r2; clear r1 r2
  by_cases hl : l1.length = l2.length
  · have HL := Lib.hid hl
    have hb : ((l1.length : Int) != l2.length) = false := by simp [hl]
    clear hl
    go_enter Tryd.func51, Tryd.ntmps51
    go_wp2
    go_loopw [5] (fun i wr => ∃ k : Nat, k ≤ l1.length ∧ i = .int .i64 k ∧ Hid (l1.take k = l2.take k) ∧ Below w.heap.size w wr) (fun i _ => l1.length - (intOf i).toNat)
    case atStart => exact ⟨0, by omega, rfl, by simp [Hid], Below.refl _ _⟩
    case round =>
      obtain ⟨k, hk, rfl, HT, hbel⟩ := hrel
      by_cases hlt : k < l1.length
      · have hlt2 : k < l2.length := by rw [← HL.out]; exact hlt
        obtain ⟨b1, o1, cs1, rfl, _, hn1, hcell1, hr1⟩ := H1.out k hlt
        obtain ⟨b2, o2, cs2, rfl, _, hn2, hcell2, hr2⟩ := H2.out k hlt2
        match cs1, hn1 with
        | [x0], _ =>
        match cs2, hn2 with
        | [y0], _ =>
        have e10 := cell_below hbel (hcell1 0 (by omega))
        have e20 := cell_below hbel (hcell2 0 (by omega))
        simp at e10 e20
        replace hr1 := R1I.keeps hr1 (Keeps.all S1 hbel); replace hr2 := R1I.keeps hr2 (Keeps.all S2 hbel)
        have hr1 := Lib.hid hr1; have hr2 := Lib.hid hr2
        clear hcell1 hcell2 hn1 hn2
        go_wp2
        go_still_tail 8, (by kernel_rfl)
        go_wp2_with (go_at_call 11; refine (eqBytes1 _ S1 S2 x0 y0 l1[k] l2[k] (R1I.keeps hr1.out ((Keeps.refl _ _).drew)) (R1I.keeps hr2.out ((Keeps.refl _ _).drew))).mono ?_; rintro e w' ⟨rfl, hbel'⟩)
        · rename_i hne
          go_ret
          exact ⟨ret_bool (decide_eq_false (ne_of_get hlt hlt2 (by simpa using hne))).symm, below_step hbel.drew (Nat.le_refl _) hbel'⟩
        · rename_i heq
          go_roundw
          case rel => exact ⟨k + 1, by omega, by go_num, take_eq_succ hlt hlt2 HT.out (by simpa using heq), below_step hbel.drew (Nat.le_refl _) hbel'⟩
          case measure => simp [intOf]; omega
      · go_wp2
        go_ret
        exact ⟨ret_bool (decide_eq_true (eq_of_takes HL.out hlt HT.out)).symm, hbel⟩
  · have hb : ((l1.length : Int) != l2.length) = true := by simp; omega
    go_enter Tryd.func51, Tryd.ntmps51
    go_wp2
    go_ret
    exact ⟨ret_bool (decide_eq_false fun h => hl (by rw [h])).symm, Below.refl _ _⟩
/-- EqState -/
theorem state_eq {s t : StateD} (h1 : s.replies = t.replies) (h2 : s.ends = t.ends) (h3 : s.trap = t.trap) (h4 : s.used = t.used) (h5 : s.frames = t.frames) (h6 : s.globals = t.globals) (h7 : s.pages = t.pages) :
    decide (s.results = t.results) = decide (s = t) := by
  rw [decide_eq_decide]; cases s; cases t; simp_all
theorem state_ne {s t : StateD} (h : ¬ s.replies = t.replies ∨ ¬ s.ends = t.ends ∨ ¬ s.trap = t.trap ∨ ¬ s.used = t.used ∨ ¬ s.frames = t.frames ∨ ¬ s.globals = t.globals ∨ ¬ s.pages = t.pages) : false = decide (s = t) := by
  refine (decide_eq_false ?_).symm; rintro rfl; simp at h

set_option maxRecDepth 100000 in
set_option maxHeartbeats 800000 in
theorem eqState (w : World) (S1 S2) (cs1 cs2 : List Value) (s t : StateD) (h1 : RState S1 w cs1 s) (h2 : RState S2 w cs2 t) :
    Calls Tryd.prog 13 #[.agg cs1.toArray, .agg cs2.toArray] w fun e w' => e = .returned (.bool (decide (s = t))) ∧ Below w.heap.size w w' := by
  obtain ⟨fv, gv, pv, rv, rfl, hf, hg, hp, hr⟩ := h1
  obtain ⟨fv', gv', pv', rv', rfl, hf', hg', hp', hr'⟩ := h2
  have hf := Lib.hid hf; have hg := Lib.hid hg; have hp := Lib.hid hp; have hr := Lib.hid hr
  have hf' := Lib.hid hf'; have hg' := Lib.hid hg'; have hp' := Lib.hid hp'; have hr' := Lib.hid hr'
  go_enter Tryd.func13, Tryd.ntmps13
  go_wp2_with (first
    | (go_at_call 49; refine (eqFrames _ S1 S2 fv fv' s.frames t.frames (hf.out.keeps (Keeps.all _ (below_alloc2 _ _ _))) (hf'.out.keeps (Keeps.all _ (below_alloc2 _ _ _)))).mono ?_; rintro e w1 ⟨rfl, hb1⟩; obtain ⟨A1, B1⟩ := boxes_cell hb1; have a1 := A1 1 gv rfl; have a2 := A1 2 pv rfl; have a5 := A1 5 rv rfl; have b1 := B1 1 gv' rfl; have b2 := B1 2 pv' rfl; have b5 := B1 5 rv' rfl; have hbb := below_step (below_alloc2 _ _ _) (Nat.le_refl _) hb1; clear A1 B1 hb1)
    | (go_at_call_of 50 (gv); refine (eqWords _ S1 S2 gv gv' s.globals t.globals (hg.out.keeps (Keeps.all _ hbb)) (hg'.out.keeps (Keeps.all _ hbb))).mono ?_; rintro e w2 ⟨rfl, n2, rfl⟩; have hbb2 := below_drewN hbb n2)
    | (go_at_call 51; refine (eqPages _ S1 S2 pv pv' s.pages t.pages (hp.out.keeps (Keeps.all _ hbb2)) (hp'.out.keeps (Keeps.all _ hbb2))).mono ?_; rintro e w3 ⟨rfl, hb3⟩; have c5 := cell_below hb3 (v := rv) a5; have d5 := cell_below hb3 (v := rv') b5; have hbb3 := below_step hbb2 (Nat.le_refl _) hb3; clear hb3)
    | (go_at_call_of 50 (rv); refine (eqWords _ S1 S2 rv rv' s.results t.results (hr.out.keeps (Keeps.all _ hbb3)) (hr'.out.keeps (Keeps.all _ hbb3))).mono ?_; rintro e w4 ⟨rfl, n4, rfl⟩; have hbb4 := below_drewN hbb3 n4))
  all_goals go_ret
  all_goals (refine ⟨ret_bool ?_, ?_⟩; rotate_left; (with_reducible first | exact hbb4 | exact hbb3 | exact hbb2 | exact hbb | exact below_alloc2 _ _ _))
  all_goals first
    | exact state_eq (by assumption) (by assumption) (by assumption) (by assumption) (by assumption) (by assumption) (by assumption)
    | exact state_ne (.inl (by assumption))
    | exact state_ne (.inr (.inl (by assumption)))
    | exact state_ne (.inr (.inr (.inl (by assumption))))
    | exact state_ne (.inr (.inr (.inr (.inl (by assumption)))))
    | exact state_ne (.inr (.inr (.inr (.inr (.inl (by assumption))))))
    | exact state_ne (.inr (.inr (.inr (.inr (.inr (.inl (by assumption)))))))
    | exact state_ne (.inr (.inr (.inr (.inr (.inr (.inr (by assumption)))))))
end Go.Proofs.YthlkckpadjjbdaaDoor
