/- flagonref22.May. -/
import Derived.Test.YthlkckpadjjbdaaDoorRef22
namespace Go.Proofs.YthlkckpadjjbdaaDoor
open Go Go.RowKit

theorem may_ends {s : StateD} (h : s.ends < 1 ∨ 3 < s.ends ∨ s.trap < 0 ∨ 6 < s.trap ∨ s.used < 0 ∨ 4611686018427387904 < s.used ∨ s.replies < 0) : okState s = false := by
  cases hk : okState s with
  | false => rfl
  | true =>
    simp only [okState, okEnds, okHead, okn, Bool.and_eq_true, decide_eq_true_eq] at hk
    omega
theorem may_lens {s : StateD} (h : 8 < s.results.length ∨ 64 < s.globals.length ∨ 64 < s.pages.length ∨ 64 < s.frames.length) : okState s = false := by
  cases hk : okState s with
  | false => rfl
  | true =>
    simp only [okState, okEnds, okHead, okPages, okn, Bool.and_eq_true, decide_eq_true_eq] at hk
    omega
theorem may_page {s : StateD} {k : Nat} (hk : k < s.pages.length) (h : ¬ s.pages[k].length = 4096) : okState s = false := by
  cases ho : okState s with
  | false => rfl
  | true =>
    simp only [okState, okEnds, okHead, okPages, okn, Bool.and_eq_true, decide_eq_true_eq] at ho
    exact absurd (ho.1.2.1.2.2 _ (List.getElem_mem hk)) h
theorem may_frame {s : StateD} {k : Nat} (hk : k < s.frames.length) (h : okFrame s.frames[k] = false) : okState s = false := by
  cases ho : okState s with
  | false => rfl
  | true =>
    simp only [okState, Bool.and_eq_true, List.all_eq_true] at ho
    rw [ho.2 _ (List.getElem_mem hk)] at h
    simp at h
theorem may_all {s : StateD} (wf : WfState s) (h1 : ¬ s.ends < 1 ∧ ¬ 3 < s.ends ∧ ¬ s.trap < 0 ∧ ¬ 6 < s.trap ∧ ¬ s.used < 0 ∧ ¬ 4611686018427387904 < s.used ∧ ¬ s.replies < 0) (h2 : ¬ 8 < s.results.length ∧ ¬ 64 < s.globals.length ∧ ¬ 64 < s.pages.length ∧ ¬ 64 < s.frames.length)
    (h3 : ∀ x ∈ s.pages.take s.pages.length, x.length = 4096) (h4 : (s.frames.take s.frames.length).all okFrame = true) : okState s = true := by
  have hr := wf.replies
  unfold I64 at hr
  rw [List.take_length] at h3 h4
  simp only [okState, okEnds, okHead, okPages, okn, Bool.and_eq_true, decide_eq_true_eq]
  refine ⟨⟨by omega, ⟨⟨⟨⟨⟨by omega, by omega⟩, by omega⟩, by omega⟩, by omega, h3⟩, by omega⟩⟩, h4⟩
theorem frame_bad {f : FrameD} (h : f.fn < 0 ∨ 128 ≤ f.fn ∨ f.pc < 0 ∨ 2048 ≤ f.pc ∨ 64 < f.loc.length ∨ 256 < f.stk.length) : okFrame f = false := by
  cases hk : okFrame f with
  | false => rfl
  | true =>
    simp only [okFrame, okn, Bool.and_eq_true, decide_eq_true_eq] at hk
    omega
theorem frame_good {f : FrameD} (h : ¬ f.fn < 0 ∧ ¬ 128 ≤ f.fn ∧ ¬ f.pc < 0 ∧ ¬ 2048 ≤ f.pc ∧ ¬ 64 < f.loc.length ∧ ¬ 256 < f.stk.length) : okFrame f = true := by
  simp only [okFrame, okn, Bool.and_eq_true, decide_eq_true_eq]
  omega
set_option maxRecDepth 100000 in
set_option maxHeartbeats 3200000 in
theorem ref22_May (w : World) (S) (cs : List Value) (s : StateD) (h : RState S w cs s) (wf : WfState s) :
    Calls Tryd.prog 28 #[.agg cs.toArray] w fun e w' => e = .returned (.bool (okState s)) ∧ Below w.heap.size w w' := by
  obtain ⟨fv, gv, pv, rv, rfl, hf, hg, hp, hr⟩ := h
  obtain ⟨ga, gc, rfl, _⟩ := hg.len
  obtain ⟨ra, rc, rfl, _⟩ := hr.len
  obtain ⟨pa, pc, rfl, _⟩ := hp.len
  obtain ⟨fa, fc, rfl, _⟩ := hf.len
  have HP := Lib.hid hp; have HF := Lib.hid hf
  have HWf := Lib.hid wf
  clear hf hg hp hr wf
  by_cases h1 : s.ends < 1 ∨ 3 < s.ends ∨ s.trap < 0 ∨ 6 < s.trap ∨ s.used < 0 ∨ 4611686018427387904 < s.used ∨ s.replies < 0
  · rw [may_ends h1]
    go_enter Tryd.func28, Tryd.ntmps28
    go_wp2_with fail
    all_goals go_ret
    all_goals exact ⟨rfl, below_alloc _ _⟩
  have h1' : ¬ s.ends < 1 ∧ ¬ 3 < s.ends ∧ ¬ s.trap < 0 ∧ ¬ 6 < s.trap ∧ ¬ s.used < 0 ∧ ¬ 4611686018427387904 < s.used ∧ ¬ s.replies < 0 := by simpa only [not_or] using h1
  clear h1
  have H1 := Lib.hid h1'
  obtain ⟨q1, q2, q3, q4, q5, q6, q7⟩ := h1'
  by_cases h2 : 8 < s.results.length ∨ 64 < s.globals.length ∨ 64 < s.pages.length ∨ 64 < s.frames.length
  · rw [may_lens h2]
    go_enter Tryd.func28, Tryd.ntmps28
    go_wp2_with fail
    all_goals go_ret
    all_goals exact ⟨rfl, below_alloc _ _⟩
  have h2' : ¬ 8 < s.results.length ∧ ¬ 64 < s.globals.length ∧ ¬ 64 < s.pages.length ∧ ¬ 64 < s.frames.length := by simpa only [not_or] using h2
  clear h2
  have H2 := Lib.hid h2'
  obtain ⟨p1, p2, p3, p4⟩ := h2'
  have hb0 := below_alloc w (.cells #[.slice fa s.frames.length fc, .slice ga s.globals.length gc, .slice pa s.pages.length pc, .int .i64 s.replies, .int .i8 s.ends, .slice ra s.results.length rc, .int .i8 s.trap, .int .i64 s.used] 27)
  have hr0 := heap_alloc_new w (.cells #[.slice fa s.frames.length fc, .slice ga s.globals.length gc, .slice pa s.pages.length pc, .int .i64 s.replies, .int .i8 s.ends, .slice ra s.results.length rc, .int .i8 s.trap, .int .i64 s.used] 27)
  go_enter Tryd.func28, Tryd.ntmps28
  go_upto_region 5 with fail
  generalize w.alloc (.cells #[.slice fa s.frames.length fc, .slice ga s.globals.length gc, .slice pa s.pages.length pc, .int .i64 s.replies, .int .i8 s.ends, .slice ra s.results.length rc, .int .i8 s.trap, .int .i64 s.used] 27) = W at *
  have HK : Hid (∀ wr, Below W.heap.size W wr → wr.cell? ⟨w.heap.size, 0, none⟩ = some (.slice fa s.frames.length fc) ∧ wr.cell? ⟨w.heap.size, 2, none⟩ = some (.slice pa s.pages.length pc)) := Lib.hid fun wr hb => by
    have := (hb.block _ (row_lt hr0)).trans hr0
    exact ⟨row_cell this 0 rfl, row_cell this 2 rfl⟩
  have HB0 := Lib.hid hb0
  have HP0 := Lib.hid (HP.out.keeps (Keeps.all _ hb0)); have HF0 := Lib.hid (HF.out.keeps (Keeps.all _ hb0))
  clear hb0 hr0 HP HF q1 q2 q3 q4 q5 q6 q7 p1 p2
  go_wp2
  go_loopw [3] (fun i wr => ∃ k : Nat, k ≤ s.pages.length ∧ i = .int .i64 k ∧ Hid (Below W.heap.size W wr) ∧ Hid (∀ x ∈ s.pages.take k, x.length = 4096)) (fun i _ => s.pages.length - (intOf i).toNat)
  case atStart => exact ⟨0, by omega, rfl, Lib.hid (Below.refl _ _), Lib.hid (by simp)⟩
  case round =>
    obtain ⟨k, hk, rfl, HB, HA⟩ := hrel
    have c2 := (HK.out _ HB.out).2
    by_cases hlt : k < s.pages.length
    · obtain ⟨_, _, ee, _, _, rr⟩ := HP0.out.keeps (Keeps.all _ HB.out)
      obtain ⟨b, o, cs, ea, _, hn1, hcell, vl, rfl, hrl⟩ := rr k hlt
      rw [← (Value.slice.inj ee).1] at ea
      subst ea
      obtain ⟨la, lc, rfl, _⟩ := hrl.len
      have x0 := hcell 0 (by omega)
      simp at x0
      clear ee rr hcell hn1 hrl
      have HN : Hid (s.pages[k].length = 4096 → ∀ x ∈ s.pages.take (k + 1), x.length = 4096) := Lib.hid fun e x hx => by
        rw [List.take_succ_eq_append_getElem hlt, List.mem_append] at hx
        rcases hx with hx | hx
        · exact HA.out x hx
        · simp at hx; rw [hx]; exact e
      have HBad : Hid (¬ s.pages[k].length = 4096 → okState s = false) := Lib.hid fun e => may_page hlt e
      generalize s.pages[k].length = m at *
      by_cases hm : m = 4096
      · subst hm
        go_wp2
        go_roundw
        case rel => exact ⟨k + 1, by omega, by go_num, HB, Lib.hid (HN.out rfl)⟩
        case measure => simp [intOf]; omega
      · have hm' : ((m : Int) != 4096) = true := by rw [bne_iff_ne]; omega
        go_wp2
        go_ret
        exact ⟨ret_bool (HBad.out hm).symm, below_next HB0.out HB.out⟩
    · obtain rfl : k = s.pages.length := by omega
      have HA4 := HA
      have HBS := HB
      go_wp2
      go_loopw [4] (fun i wr => ∃ k : Nat, k ≤ s.frames.length ∧ i = .int .i64 k ∧ Hid (Below W.heap.size W wr) ∧ Hid ((s.frames.take k).all okFrame = true)) (fun i _ => s.frames.length - (intOf i).toNat)
      case atStart => exact ⟨0, by omega, rfl, HBS, Lib.hid (by simp)⟩
      case round =>
        obtain ⟨k, hk, rfl, HB, HA⟩ := hrel
        have c0 := (HK.out _ HB.out).1
        by_cases hlt : k < s.frames.length
        · obtain ⟨_, _, ee, _, _, rr⟩ := HF0.out.keeps (Keeps.all _ HB.out)
          obtain ⟨b, o, cs, ea, _, hn4, hcell, lv, sv, rfl, hl, hs⟩ := rr k hlt
          rw [← (Value.slice.inj ee).1] at ea
          subst ea
          obtain ⟨la, lc, rfl, _⟩ := hl.len
          obtain ⟨sa, sc, rfl, _⟩ := hs.len
          have x0 := hcell 0 (by omega); have x1 := hcell 1 (by omega); have x2 := hcell 2 (by omega); have x3 := hcell 3 (by omega)
          simp at x0 x1 x2 x3
          clear ee rr hcell hn4 hl hs
          have HN : Hid (okFrame s.frames[k] = true → (s.frames.take (k + 1)).all okFrame = true) := Lib.hid fun e => by rw [all_take_succ _ _ _ hlt, HA.out, e]; rfl
          have HBad : Hid (okFrame s.frames[k] = false → okState s = false) := Lib.hid fun e => may_frame hlt e
          generalize s.frames[k] = f at *
          by_cases hbad : f.fn < 0 ∨ 128 ≤ f.fn ∨ f.pc < 0 ∨ 2048 ≤ f.pc ∨ 64 < f.loc.length ∨ 256 < f.stk.length
          · have HBB := Lib.hid (HBad.out (frame_bad hbad))
            go_wp2_with fail
            all_goals go_ret
            all_goals exact ⟨ret_bool HBB.out.symm, below_next HB0.out (below_next HB.out (below_alloc _ _))⟩
          · have hgood : ¬ f.fn < 0 ∧ ¬ 128 ≤ f.fn ∧ ¬ f.pc < 0 ∧ ¬ 2048 ≤ f.pc ∧ ¬ 64 < f.loc.length ∧ ¬ 256 < f.stk.length := by simpa only [not_or] using hbad
            clear hbad
            have HNX := Lib.hid (HN.out (frame_good hgood))
            obtain ⟨g1, g2, g3, g4, g5, g6⟩ := hgood
            go_wp2_with fail
            go_roundw
            case rel => exact ⟨k + 1, by omega, by go_num, Lib.hid (below_next HB.out (below_alloc _ _)), HNX⟩
            case measure => simp [intOf]; omega
        · obtain rfl : k = s.frames.length := by omega
          go_wp2
          go_ret
          exact ⟨ret_bool (may_all HWf.out (by have := H1.out; omega) (by have := H2.out; omega) HA4.out HA.out).symm, below_next HB0.out HB.out⟩
end Go.Proofs.YthlkckpadjjbdaaDoor
