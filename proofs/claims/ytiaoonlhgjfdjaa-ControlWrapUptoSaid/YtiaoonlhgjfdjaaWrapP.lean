/- A block put around a code: what opens and ends, plain. -/
import Derived.Test.YtiaoonlhgjfdjaaBrak2
namespace Go.Proofs.Ytiaoonlhgjfdjaa
open Go Go.RowKit

/-- The code with a block around it. -/
def wrO (ops : List Nat) : List Nat := 2 :: (ops ++ [6])
theorem wrO_len (ops : List Nat) : (wrO ops).length = ops.length + 2 := by simp [wrO]
theorem wrO_zero (ops : List Nat) : (wrO ops).getD 0 0 = 2 := rfl
theorem wrO_at {ops : List Nat} {j : Nat} (h : j < ops.length) : (wrO ops).getD (j + 1) 0 = ops.getD j 0 := by
  simp [wrO, List.getElem?_append_left h]
theorem wrO_end (ops : List Nat) : (wrO ops).getD (ops.length + 1) 0 = 6 := by
  simp [wrO]
/-- A place of a code, one further on. -/
def mvI (x : Int) : Int := if x = -1 then -1 else x + 1
theorem mv_neg : mvI (-1) = -1 := rfl
theorem mv_nat (k : Nat) : mvI (k : Int) = k + 1 := by unfold mvI; rw [if_neg (by omega)]
/-- How the two walks stand beside one another. -/
structure WrS (ops : List Nat) (pc : Nat) (s s' : Ms) : Prop where
  le : s'.ends.length = ops.length + 2
  ll : s'.elses.length = ops.length + 2
  lo : s'.owners.length = ops.length + 2
  e0 : gI s'.ends 0 = -1
  e1 : ∀ j, j < ops.length → gI s'.ends (j + 1) = mvI (gI s.ends j)
  e2 : gI s'.ends (ops.length + 1) = -1
  l0 : gI s'.elses 0 = -1
  l1 : ∀ j, j < ops.length → gI s'.elses (j + 1) = mvI (gI s.elses j)
  l2 : gI s'.elses (ops.length + 1) = -1
  o0 : gI s'.owners 0 = -1
  o1 : ∀ j, j < pc → gI s'.owners (j + 1) = gI s.owners j + 1
  opn : s'.open_ = 0 :: s.open_.map (· + 1)
theorem top_snoc {s : Ms} {l : List Nat} {t : Nat} (h : s.open_ = l ++ [t]) : s.top = t := by unfold Ms.top; rw [h]; simp
theorem WrS.top {ops : List Nat} {pc : Nat} {s s' : Ms} (h : WrS ops pc s s') : s'.top = s.top + 1 := by
  by_cases ht : s.top < 0
  · have h1 := top_none.1 ht
    have h2 := top_low s
    have : s'.open_ = [] ++ [0] := by rw [h.opn, h1]; rfl
    rw [top_snoc this]; omega
  · obtain ⟨l, hl⟩ := top_some ht
    have : s'.open_ = (0 :: l.map (· + 1)) ++ [s.top.toNat + 1] := by rw [h.opn, hl]; simp
    rw [top_snoc this]; omega
theorem WrS.openl {ops : List Nat} {pc : Nat} {s s' : Ms} (h : WrS ops pc s s') : s'.open_.length = s.open_.length + 1 := by rw [h.opn]; simp
theorem gI_getD {l : List Int} {j : Nat} (h : j < l.length) : l.getD j 0 = gI l j := by
  rw [gI, List.getD_eq_getElem?_getD, List.getD_eq_getElem?_getD, List.getElem?_eq_getElem h]; rfl
/-- The beginning: the block's opener was met. -/
theorem wrS_start (ops : List Nat) : ∃ s', stepM (wrO ops) 0 (startM (ops.length + 2)) = (0, s', false) ∧ WrS ops 0 (startM ops.length) s' := by
  refine ⟨_, by unfold stepM; rw [if_pos (.inl (wrO_zero ops)), if_neg (by simp [startM])], ?_⟩
  have hr : ∀ n j, gI (List.replicate n (-1)) j = -1 := gI_rep
  refine ⟨by simp [startM], by simp [startM], by simp [startM], hr _ _, fun j _ => by show gI (List.replicate _ _) _ = mvI (gI (List.replicate _ _) _); rw [hr, hr]; rfl, hr _ _, hr _ _, fun j _ => by show gI (List.replicate _ _) _ = mvI (gI (List.replicate _ _) _); rw [hr, hr]; rfl, hr _ _, ?_, fun j h => absurd h (by omega), by simp [startM]⟩
  show gI ((List.replicate (ops.length + 2) (-1)).set 0 (startM (ops.length + 2)).top) 0 = -1
  rw [gI_set (by simp), if_pos rfl]; rfl
section
variable {ops : List Nat} {pc : Nat} {s : Ms}
theorem step_deepB (h : opensP (ops.getD pc 0)) (h2 : s.open_.length = 32) : stepM ops pc s = (35, { s with owners := s.owners.set pc s.top }, false) := by
  unfold opensP at h; unfold stepM; rw [if_pos h, if_pos h2]
theorem step_openB (h : opensP (ops.getD pc 0)) (h2 : ¬ s.open_.length = 32) : stepM ops pc s = (0, { s with owners := s.owners.set pc s.top, open_ := s.open_ ++ [pc] }, false) := by
  unfold opensP at h; unfold stepM; rw [if_pos h, if_neg h2]
theorem step_noelseB (h : ops.getD pc 0 = 5) (h2 : s.top < 0 ∨ ops.getD s.top.toNat 0 ≠ 4 ∨ 0 ≤ s.elses.getD s.top.toNat 0) : stepM ops pc s = (37, { s with owners := s.owners.set pc s.top }, false) := by
  unfold stepM; rw [if_neg (by omega), if_pos h, if_pos h2]
theorem step_elseB (h : ops.getD pc 0 = 5) (h2 : ¬ (s.top < 0 ∨ ops.getD s.top.toNat 0 ≠ 4 ∨ 0 ≤ s.elses.getD s.top.toNat 0)) : stepM ops pc s = (0, { s with owners := s.owners.set pc s.top, elses := s.elses.set s.top.toNat pc }, false) := by
  unfold stepM; rw [if_neg (by omega), if_pos h, if_neg h2]
theorem step_lastB (h : ops.getD pc 0 = 6) (h2 : s.top < 0) : stepM ops pc s = (0, { s with owners := s.owners.set pc s.top }, true) := by
  unfold stepM; rw [if_neg (by omega), if_neg (by omega), if_pos h, if_pos h2]
theorem step_endB (h : ops.getD pc 0 = 6) (h2 : ¬ s.top < 0) (h3 : ¬ 0 ≤ s.elses.getD s.top.toNat 0) : stepM ops pc s = (0, { s with owners := s.owners.set pc s.top, ends := s.ends.set s.top.toNat pc, open_ := s.open_.dropLast }, false) := by
  unfold stepM; rw [if_neg (by omega), if_neg (by omega), if_pos h, if_neg h2, if_neg h3]
theorem step_end2B (h : ops.getD pc 0 = 6) (h2 : ¬ s.top < 0) (h3 : 0 ≤ s.elses.getD s.top.toNat 0) : stepM ops pc s = (0, { s with owners := s.owners.set pc s.top, ends := (s.ends.set s.top.toNat pc).set (s.elses.getD s.top.toNat 0).toNat pc, open_ := s.open_.dropLast }, false) := by
  unfold stepM; rw [if_neg (by omega), if_neg (by omega), if_pos h, if_neg h2, if_pos h3]
theorem step_otherB (h : ¬ opensP (ops.getD pc 0)) (h5 : ¬ ops.getD pc 0 = 5) (h6 : ¬ ops.getD pc 0 = 6) : stepM ops pc s = (0, { s with owners := s.owners.set pc s.top }, false) := by
  unfold opensP at h; unfold stepM; rw [if_neg h, if_neg h5, if_neg h6]
end
section
variable {ops : List Nat} {pc : Nat} {s s' : Ms}
theorem wr_own (h : WrS ops pc s s') (hi : s.In ops pc) (hpc : pc < ops.length) : gI (s'.owners.set (pc + 1) s'.top) 0 = -1 ∧ (∀ j, j < pc + 1 → gI (s'.owners.set (pc + 1) s'.top) (j + 1) = gI (s.owners.set pc s.top) j + 1) := by
  have hl := h.lo; have hl2 := hi.ok.lo
  refine ⟨by rw [gI_set (by omega), if_neg (by omega)]; exact h.o0, fun j hj => ?_⟩
  rw [gI_set (by omega), gI_set (by omega)]
  by_cases e : j = pc
  · rw [if_pos (by omega), if_pos e, h.top]
  · rw [if_neg (by omega), if_neg e]; exact h.o1 j (by omega)
/-- One instruction in both. -/
theorem wr_step (h : WrS ops pc s s') (hi : s.In ops pc) (hpc : pc < ops.length) {s1 : Ms} (hs : stepM ops pc s = (0, s1, false)) :
    (stepM (wrO ops) (pc + 1) s').1 = 35 ∧ opensP (ops.getD pc 0) ∧ s.open_.length = 31 ∨ ∃ s1', stepM (wrO ops) (pc + 1) s' = (0, s1', false) ∧ WrS ops (pc + 1) s1 s1' := by
  have htop := h.top
  have hopl := h.openl
  have hat := wrO_at hpc
  obtain ⟨w0, w1⟩ := wr_own h hi hpc
  have hll := h.ll; have hle := h.le
  have hll2 := hi.ok.ll; have hle2 := hi.ok.le
  by_cases ho : opensP (ops.getD pc 0)
  · have ho' : opensP ((wrO ops).getD (pc + 1) 0) := by rw [hat]; exact ho
    by_cases hd : s.open_.length = 32
    · rw [step_deepB ho hd] at hs; simp at hs
    · rw [step_openB ho hd] at hs
      simp only [Prod.mk.injEq, and_true, true_and] at hs
      subst hs
      by_cases hd' : s.open_.length = 31
      · left
        rw [step_deepB ho' (by omega)]
        exact ⟨rfl, ho, hd'⟩
      · right
        refine ⟨_, step_openB ho' (by omega), h.le, h.ll, by rw [List.length_set]; exact h.lo, h.e0, h.e1, h.e2, h.l0, h.l1, h.l2, w0, w1, ?_⟩
        show s'.open_ ++ [pc + 1] = 0 :: (s.open_ ++ [pc]).map (· + 1)
        rw [h.opn]; simp
  · have ho' : ¬ opensP ((wrO ops).getD (pc + 1) 0) := by rw [hat]; exact ho
    by_cases h5 : ops.getD pc 0 = 5
    · have h5' : (wrO ops).getD (pc + 1) 0 = 5 := by rw [hat]; exact h5
      by_cases hc : s.top < 0 ∨ ops.getD s.top.toNat 0 ≠ 4 ∨ 0 ≤ s.elses.getD s.top.toNat 0
      · rw [step_noelseB h5 hc] at hs; simp at hs
      · rw [step_elseB h5 hc] at hs
        simp only [Prod.mk.injEq, and_true, true_and] at hs
        subst hs
        have ht : ¬ s.top < 0 := fun e => hc (.inl e)
        obtain ⟨l, hl⟩ := top_some ht
        have htp : s.top.toNat < pc := hi.ok.open_ _ (by rw [hl]; simp)
        have e1 : s'.top.toNat = s.top.toNat + 1 := by omega
        have hel : s.elses.getD s.top.toNat 0 < 0 := by have : ¬ 0 ≤ s.elses.getD s.top.toNat 0 := fun e => hc (.inr (.inr e)); omega
        rw [gI_getD (by omega)] at hel
        have hel' : gI s.elses s.top.toNat = -1 := by
          have := hi.low s.top.toNat (gI s.elses s.top.toNat) (by rw [gI, List.getD_eq_getElem?_getD, List.getElem?_eq_getElem (by omega)]; rfl)
          omega
        have hc' : ¬ (s'.top < 0 ∨ (wrO ops).getD s'.top.toNat 0 ≠ 4 ∨ 0 ≤ s'.elses.getD s'.top.toNat 0) := by
          rw [e1, wrO_at (by omega), gI_getD (by omega), h.l1 _ (by omega), hel']
          rintro (e | e | e)
          · omega
          · exact hc (.inr (.inl e))
          · rw [mv_neg] at e; omega
        right
        refine ⟨_, step_elseB h5' hc', h.le, by rw [List.length_set]; exact h.ll, by rw [List.length_set]; exact h.lo, h.e0, h.e1, h.e2, ?_, fun j hj => ?_, ?_, w0, w1, h.opn⟩
        · show gI (s'.elses.set s'.top.toNat _) 0 = -1
          rw [gI_set (by omega), if_neg (by omega)]; exact h.l0
        · show gI (s'.elses.set s'.top.toNat _) (j + 1) = mvI (gI (s.elses.set s.top.toNat _) j)
          rw [gI_set (by omega), gI_set (by omega)]
          by_cases e : j = s.top.toNat
          · rw [if_pos (by omega), if_pos e, mv_nat]; simp
          · rw [if_neg (by omega), if_neg e]; exact h.l1 j hj
        · show gI (s'.elses.set s'.top.toNat _) (ops.length + 1) = -1
          rw [gI_set (by omega), if_neg (by omega)]; exact h.l2
    · by_cases h6 : ops.getD pc 0 = 6
      · have h6' : (wrO ops).getD (pc + 1) 0 = 6 := by rw [hat]; exact h6
        by_cases ht : s.top < 0
        · rw [step_lastB h6 ht] at hs; simp at hs
        · obtain ⟨l, hl⟩ := top_some ht
          have htp : s.top.toNat < pc := hi.ok.open_ _ (by rw [hl]; simp)
          have e1 : s'.top.toNat = s.top.toNat + 1 := by omega
          have hop : s'.open_.dropLast = 0 :: s.open_.dropLast.map (· + 1) := by
            rw [h.opn, hl]
            simp [List.dropLast_cons_of_ne_nil]
          have hlo := hi.low s.top.toNat (gI s.elses s.top.toNat) (by rw [gI, List.getD_eq_getElem?_getD, List.getElem?_eq_getElem (by omega)]; rfl)
          have hell := hi.ok.els s.top.toNat (gI s.elses s.top.toNat) (by rw [gI, List.getD_eq_getElem?_getD, List.getElem?_eq_getElem (by omega)]; rfl)
          have hmv : gI s'.elses s'.top.toNat = mvI (gI s.elses s.top.toNat) := by rw [e1]; exact h.l1 _ (by omega)
          right
          by_cases hL : 0 ≤ s.elses.getD s.top.toNat 0
          · rw [step_end2B h6 ht hL] at hs
            simp only [Prod.mk.injEq, and_true, true_and] at hs
            subst hs
            rw [gI_getD (by omega)] at hL
            obtain ⟨k, hk⟩ : ∃ k : Nat, gI s.elses s.top.toNat = k := ⟨(gI s.elses s.top.toNat).toNat, by omega⟩
            rw [hk, mv_nat] at hmv
            have hg1 : s'.elses.getD s'.top.toNat 0 = (k : Int) + 1 := by rw [gI_getD (by omega), hmv]
            have hg2 : s.elses.getD s.top.toNat 0 = (k : Int) := by rw [gI_getD (by omega), hk]
            have hkp : k < pc := by rw [hk] at hell; omega
            have hk1 : ((k : Int) + 1).toNat = k + 1 := by omega
            refine ⟨_, step_end2B h6' (by omega) (by rw [hg1]; omega), by rw [List.length_set, List.length_set]; exact h.le, h.ll, by rw [List.length_set]; exact h.lo, ?_, fun j hj => ?_, ?_, h.l0, h.l1, h.l2, w0, w1, hop⟩
            · show gI ((s'.ends.set s'.top.toNat _).set (s'.elses.getD s'.top.toNat 0).toNat _) 0 = -1
              rw [hg1, hk1, gI_set (by rw [List.length_set]; omega), if_neg (by omega), gI_set (by omega), if_neg (by omega)]; exact h.e0
            · show gI ((s'.ends.set s'.top.toNat _).set (s'.elses.getD s'.top.toNat 0).toNat _) (j + 1) = mvI (gI ((s.ends.set s.top.toNat _).set (s.elses.getD s.top.toNat 0).toNat _) j)
              rw [hg1, hg2, hk1, Int.toNat_natCast, gI_set (by rw [List.length_set]; omega), gI_set (by omega), gI_set (by rw [List.length_set]; omega), gI_set (by omega)]
              by_cases e : j = k
              · rw [if_pos (show j + 1 = k + 1 by omega), if_pos e, mv_nat]; simp
              · rw [if_neg (show ¬ j + 1 = k + 1 by omega), if_neg e]
                by_cases e' : j = s.top.toNat
                · rw [if_pos (show j + 1 = s'.top.toNat by omega), if_pos e', mv_nat]; simp
                · rw [if_neg (show ¬ j + 1 = s'.top.toNat by omega), if_neg e']; exact h.e1 j hj
            · show gI ((s'.ends.set s'.top.toNat _).set (s'.elses.getD s'.top.toNat 0).toNat _) (ops.length + 1) = -1
              rw [hg1, hk1, gI_set (by rw [List.length_set]; omega), if_neg (by omega), gI_set (by omega), if_neg (by omega)]; exact h.e2
          · rw [step_endB h6 ht hL] at hs
            simp only [Prod.mk.injEq, and_true, true_and] at hs
            subst hs
            rw [gI_getD (by omega)] at hL
            have hk : gI s.elses s.top.toNat = -1 := by omega
            rw [hk, mv_neg] at hmv
            have hg1 : s'.elses.getD s'.top.toNat 0 = -1 := by rw [gI_getD (by omega), hmv]
            refine ⟨_, step_endB h6' (by omega) (by rw [hg1]; omega), by rw [List.length_set]; exact h.le, h.ll, by rw [List.length_set]; exact h.lo, ?_, fun j hj => ?_, ?_, h.l0, h.l1, h.l2, w0, w1, hop⟩
            · show gI (s'.ends.set s'.top.toNat _) 0 = -1
              rw [gI_set (by omega), if_neg (by omega)]; exact h.e0
            · show gI (s'.ends.set s'.top.toNat _) (j + 1) = mvI (gI (s.ends.set s.top.toNat _) j)
              rw [gI_set (by omega), gI_set (by omega)]
              by_cases e' : j = s.top.toNat
              · rw [if_pos (by omega), if_pos e', mv_nat]; simp
              · rw [if_neg (by omega), if_neg e']; exact h.e1 j hj
            · show gI (s'.ends.set s'.top.toNat _) (ops.length + 1) = -1
              rw [gI_set (by omega), if_neg (by omega)]; exact h.e2
      · rw [step_otherB ho h5 h6] at hs
        simp only [Prod.mk.injEq, and_true, true_and] at hs
        subst hs
        right
        exact ⟨_, step_otherB ho' (by rw [hat]; exact h5) (by rw [hat]; exact h6), h.le, h.ll, by rw [List.length_set]; exact h.lo, h.e0, h.e1, h.e2, h.l0, h.l1, h.l2, w0, w1, h.opn⟩
end
end Go.Proofs.Ytiaoonlhgjfdjaa
