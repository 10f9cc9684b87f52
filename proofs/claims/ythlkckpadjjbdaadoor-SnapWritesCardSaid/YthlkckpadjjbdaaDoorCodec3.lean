/- The plain law of snap's bytes: the whole. -/
import Derived.Test.YthlkckpadjjbdaaDoorCodec2
namespace Go.Proofs.YthlkckpadjjbdaaDoor
open Go Go.RowKit

theorem magic_enc (s : StateD) : encState s = magic5 ++ ([s.ends] ++ ([s.trap] ++ (uv s.used.toNat ++ (uv s.replies.toNat ++ (encVals s.results ++ (encVals s.globals ++ (encPages s.pages ++ (uv s.frames.length ++ s.frames.flatMap encFrame)))))))) := by
  simp only [encState, encHead, List.append_assoc, magic5]; rfl
theorem okState_parts {s : StateD} (h : okState s = true) : (1 ≤ s.ends ∧ s.ends ≤ 3 ∧ 0 ≤ s.trap ∧ s.trap ≤ 6) ∧ (0 ≤ s.used ∧ s.used ≤ 4611686018427387904) ∧ (0 ≤ s.replies ∧ s.replies ≤ 9223372036854775807) ∧
    s.results.length ≤ 8 ∧ s.globals.length ≤ 64 ∧ (s.pages.length ≤ 64 ∧ ∀ x ∈ s.pages, x.length = 4096) ∧ s.frames.length ≤ 64 ∧ ∀ f ∈ s.frames, okFrame f = true := by
  simp only [okState, okEnds, okHead, okPages, Bool.and_eq_true, okn_iff, decide_eq_true_eq, List.all_eq_true] at h
  obtain ⟨⟨h1, ⟨⟨⟨⟨h2, h3⟩, h4⟩, h5⟩, h6⟩, h7⟩, h8⟩ := h
  exact ⟨h1, ⟨by omega, by omega⟩, ⟨by omega, by omega⟩, h4, h5, h6, h7, h8⟩
theorem okState_of {s : StateD} (h1 : 1 ≤ s.ends ∧ s.ends ≤ 3) (h2 : 0 ≤ s.trap ∧ s.trap ≤ 6) (h3 : 0 ≤ s.used ∧ s.used ≤ 4611686018427387904) (h4 : 0 ≤ s.replies ∧ s.replies ≤ 9223372036854775807)
    (h5 : s.results.length ≤ 8) (h6 : s.globals.length ≤ 64) (h7 : s.pages.length ≤ 64 ∧ ∀ x ∈ s.pages, x.length = 4096) (h8 : s.frames.length ≤ 64) (h9 : ∀ f ∈ s.frames, okFrame f = true) : okState s = true := by
  simp only [okState, okEnds, okHead, okPages, Bool.and_eq_true, okn_iff, decide_eq_true_eq, List.all_eq_true]
  exact ⟨⟨⟨h1.1, h1.2, h2.1, h2.2⟩, ⟨⟨⟨⟨⟨by omega, by omega⟩, ⟨by omega, by omega⟩⟩, h5⟩, h6⟩, h7⟩, h8⟩, h9⟩
def encMid (s : StateD) : List Int := [s.ends] ++ ([s.trap] ++ (uv s.used.toNat ++ (uv s.replies.toNat ++ (encVals s.results ++ (encVals s.globals ++ (encPages s.pages ++ uv s.frames.length))))))
theorem rhead_fwd {b rest : List Int} {s : StateD} (h : okState s = true) (hw : WfState s) (hd : b = encState s ++ rest) :
    rhead b = ({ s with frames := [] }, (⟨5, 0, 0⟩ : RS).by (encMid s), s.frames.length) ∧
    b.drop ((⟨5, 0, 0⟩ : RS).by (encMid s)).at_ = s.frames.flatMap encFrame ++ rest := by
  obtain ⟨h1, h2, h3, h4, h5, h6, h7, h8⟩ := okState_parts h
  have hd0 : b.drop (⟨5, 0, 0⟩ : RS).at_ = [s.ends] ++ ([s.trap] ++ (uv s.used.toNat ++ (uv s.replies.toNat ++ (encVals s.results ++ (encVals s.globals ++ (encPages s.pages ++ (uv s.frames.length ++ (s.frames.flatMap encFrame ++ rest)))))))) := by
    rw [hd, magic_enc]
    simp only [List.append_assoc]
    exact List.drop_left (l₁ := magic5)
  have e1 := roct_fwd (r := ⟨5, 0, 0⟩) rfl hd0 ⟨h1.1, h1.2.1⟩ (by omega) (by omega)
  have d1 := by_drop hd0
  have e2 := roct_fwd (r := (⟨5, 0, 0⟩ : RS).by [s.ends]) rfl d1 ⟨h1.2.2.1, h1.2.2.2⟩ (by omega) (by omega)
  have d2 := by_drop d1
  have e3 := rnum_fwd 17 (r := ((⟨5, 0, 0⟩ : RS).by [s.ends]).by [s.trap]) rfl d2 (most := 4611686018427387904) (by omega) (by omega)
  have d3 := by_drop d2
  have e4 := rnum_fwd 17 (r := (((⟨5, 0, 0⟩ : RS).by [s.ends]).by [s.trap]).by (uv s.used.toNat)) rfl d3 (most := 9223372036854775807) (by omega) (by omega)
  have d4 := by_drop d3
  have e5 := rvals_fwd (r := ((((⟨5, 0, 0⟩ : RS).by [s.ends]).by [s.trap]).by (uv s.used.toNat)).by (uv s.replies.toNat)) rfl hw.results h4 (by omega) d4
  have d5 := by_drop d4
  have e6 := rvals_fwd (r := (((((⟨5, 0, 0⟩ : RS).by [s.ends]).by [s.trap]).by (uv s.used.toNat)).by (uv s.replies.toNat)).by (encVals s.results)) rfl hw.globals h5 (by omega) d5
  have d6 := by_drop d5
  have e7 := rpages_fwd (r := ((((((⟨5, 0, 0⟩ : RS).by [s.ends]).by [s.trap]).by (uv s.used.toNat)).by (uv s.replies.toNat)).by (encVals s.results)).by (encVals s.globals)) rfl h6.1 (fun y hy => ⟨h6.2 y hy, hw.pages y hy⟩) d6
  have d7 := by_drop d6
  have e8 := rnum_fwd 20 (r := (((((((⟨5, 0, 0⟩ : RS).by [s.ends]).by [s.trap]).by (uv s.used.toNat)).by (uv s.replies.toNat)).by (encVals s.results)).by (encVals s.globals)).by (encPages s.pages)) rfl d7 (most := 64) h7 (by omega)
  have d8 := by_drop d7
  refine ⟨?_, ?_⟩
  · simp only [rhead, e1, e2, e3, e4, e5, e6, e7, e8]
    rw [Int.toNat_of_nonneg h2.1, Int.toNat_of_nonneg h3.1]
    simp only [RS.by_by, List.append_assoc, encMid]
  · simp only [RS.by_by, List.append_assoc] at d8
    exact d8
theorem rread_fwd {b rest : List Int} {s : StateD} (h : okState s = true) (hw : WfState s) (hd : b = encState s ++ rest) (hl : b.length ≤ 524288) :
    rread b = if rest = [] then (s, 0, 0) else (emptyS, 19, (encState s).length) := by
  obtain ⟨e1, d1⟩ := rhead_fwd h hw hd
  have hp := okState_parts h
  have e2 := rframesGo_fwd s.frames _ [] (show ((⟨5, 0, 0⟩ : RS).by (encMid s)).e = 0 from rfl) (fun f hf => ⟨hp.2.2.2.2.2.2.2 f hf, hw.frames f hf⟩) d1
  have h5 : ¬ b.length < 5 := by rw [hd, magic_enc]; simp [magic5]
  have h6 : b.take 5 = magic5 := by rw [hd, magic_enc, List.append_assoc]; exact List.take_left (l₁ := magic5)
  have ha : (encState s).length = 5 + (encMid s).length + (s.frames.flatMap encFrame).length := by
    rw [magic_enc, encMid]; simp only [List.length_append, magic5, List.length_cons, List.length_nil]; omega
  rw [rread, if_neg (by omega), if_neg (by rintro (c | c); exact h5 c; exact c h6), e1]
  simp only
  rw [e2]
  simp only [RS.by, List.nil_append]
  simp only [rlast]
  rw [← ha]
  by_cases hr : rest = []
  · rw [if_pos hr, if_neg (by rw [hd, hr]; simp)]
  · have hne : (encState s).length ≠ b.length := by rw [hd, List.length_append]; have := List.length_pos_iff.2 hr; omega
    simp [hr, hne, RS.no]
theorem rread_inv {b : List Int} (hb : Bytes b) (h : (rread b).2.1 = 0) : okState (rread b).1 = true ∧ WfState (rread b).1 ∧ encState (rread b).1 = b := by
  unfold rread at h ⊢
  split at h
  · simp at h
  · rename_i h1
    split at h
    · simp at h
    · rename_i h2
      rw [if_neg h1, if_neg h2]
      have hm : b.take 5 = magic5 := Decidable.byContradiction fun c => h2 (.inr c)
      simp only at h ⊢
      split at h
      · rename_i h3; exact absurd h h3
      · rename_i h3
        rw [if_neg h3]
        obtain ⟨fs, f1, f2, f3, f4⟩ : ∃ l, l.length = (rhead b).2.2 ∧ (rframesGo b (rhead b).2.2 (rhead b).2.1 []).1 = [] ++ l ∧ (∀ f ∈ l, okFrame f = true ∧ WfFrame f) ∧ Step b (rhead b).2.1 (rframesGo b (rhead b).2.2 (rhead b).2.1 []).2 (l.flatMap encFrame) := by
          refine rframesGo_inv hb _ _ _ ?_
          have h4 := Decidable.not_not.1 h3
          unfold rlast at h4
          split at h4
          · exact absurd h4 (no_e _ _ _ (by omega))
          · exact h4
        have hat : (rframesGo b (rhead b).2.2 (rhead b).2.1 []).2.at_ = b.length := by
          have h4 := Decidable.not_not.1 h3
          unfold rlast at h4
          split at h4
          · exact absurd h4 (no_e _ _ _ (by omega))
          · rename_i h5
            exact Decidable.byContradiction fun c => h5 ⟨h4, c⟩
        have k8 := rnum_inv hb (by omega) f4.ok
        have k7 := rpages_inv hb k8.1.ok
        have k6 := rvals_inv hb k7.1.ok
        have k5 := rvals_inv hb k6.1.ok
        have k4 := rnum_inv hb (by omega) k5.1.ok
        have k3 := rnum_inv hb (by omega) k4.1.ok
        have k2 := roct_inv (by omega) (by omega) k3.1.ok
        have k1 := roct_inv (by omega) (by omega) k2.1.ok
        have st := ((((((((k1.1.trans k2.1).trans k3.1).trans k4.1).trans k5.1).trans k6.1).trans k7.1).trans k8.1).trans f4).bs
        rw [hat, List.drop_length, List.append_nil] at st
        have b3 := k3.2; have b4 := k4.2; have b8 := k8.2
        rw [f2, List.nil_append]
        refine ⟨okState_of k1.2 k2.2 ⟨by simp only [rhead]; omega, by simp only [rhead]; omega⟩ ⟨by simp only [rhead]; omega, by simp only [rhead]; omega⟩ k5.2.2 k6.2.2 ⟨k7.2.1, fun x hx => (k7.2.2 x hx).1⟩ (by simp only; rw [f1]; exact b8) (fun f hf => (f3 f hf).1), ?_, ?_⟩
        · exact ⟨⟨by simp only [rhead]; omega, by simp only [rhead]; omega⟩, ⟨by simp only [rhead]; omega, by simp only [rhead]; omega⟩, ⟨by have := k1.2; simp only [rhead]; omega, by have := k1.2; simp only [rhead]; omega⟩, ⟨by have := k2.2; simp only [rhead]; omega, by have := k2.2; simp only [rhead]; omega⟩, k5.2.1, k6.2.1, fun y hy => (k7.2.2 y hy).2, fun f hf => (f3 f hf).2⟩
        · rw [magic_enc, ← hm]
          simp only [f1]
          conv => rhs; rw [← List.take_append_drop 5 b]
          congr 1
          have e : b.drop (⟨5, 0, 0⟩ : RS).at_ = b.drop 5 := rfl
          rw [e] at st
          rw [st]
          simp only [rhead, Int.toNat_natCast, List.append_assoc]
theorem rread_bad {b : List Int} (h : (rread b).2.1 ≠ 0) : (rread b).1 = emptyS := by
  unfold rread at h ⊢
  split
  · rfl
  · rename_i h1
    rw [if_neg h1] at h
    split
    · rfl
    · rename_i h2
      rw [if_neg h2] at h
      simp only at h ⊢
      split
      · rfl
      · rename_i h3
        rw [if_neg h3] at h
        simp at h
end Go.Proofs.YthlkckpadjjbdaaDoor
