/- A block put around a code: the whole walk, plain. -/
import Derived.Test.YtiaoonlhgjfdjaaWrapP
import Derived.Test.YtiaoonlhgjfdjaaCtl4
namespace Go.Proofs.Ytiaoonlhgjfdjaa
open Go Go.RowKit

/-- What is told of the code and of the one with the block. -/
structure WrF (n : Nat) (r r' : Ms) : Prop where
  le : r'.ends.length = n + 2
  ll : r'.elses.length = n + 2
  lo : r'.owners.length = n + 2
  e0 : gI r'.ends 0 = n
  e1 : ∀ j, j < n → gI r'.ends (j + 1) = mvI (gI r.ends j)
  e2 : gI r'.ends (n + 1) = -1
  l0 : gI r'.elses 0 = -1
  l1 : ∀ j, j < n → gI r'.elses (j + 1) = mvI (gI r.elses j)
  l2 : gI r'.elses (n + 1) = -1
  o0 : gI r'.owners 0 = -1
  o1 : ∀ j, j < n → gI r'.owners (j + 1) = gI r.owners j + 1
  o2 : gI r'.owners (n + 1) = -1
def opL (s : Ms) : List Int := s.open_.reverse.map Int.ofNat ++ [-1]
theorem opL_len (s : Ms) : (opL s).length = s.open_.length + 1 := by simp [opL]
theorem opL_head (s : Ms) : ∃ r, opL s = s.top :: r := by
  unfold opL
  by_cases ht : s.top < 0
  · have h1 := top_none.1 ht
    have h2 := top_low s
    rw [h1]
    exact ⟨[], by simp; omega⟩
  · obtain ⟨l, hl⟩ := top_some ht
    rw [hl]
    refine ⟨l.reverse.map Int.ofNat ++ [-1], ?_⟩
    rw [top_snoc hl]
    simp
theorem labL_head {o : List Int} (h : ∀ (j : Nat) (v : Int), o[j]? = some v → -1 ≤ v ∧ v < j) {x : Int} (h0 : -1 ≤ x) : ∃ r, labL o x = x :: r := by
  by_cases hx : 0 ≤ x
  · exact ⟨_, labL_next h hx⟩
  · obtain rfl : x = -1 := by omega
    exact ⟨[], labL_end o⟩
section
variable {ops : List Nat}
theorem step_owners {pc : Nat} {s s1 : Ms} {b : Bool} (h : stepM ops pc s = (0, s1, b)) : s1.owners = s.owners.set pc s.top := by
  have h1 : s1 = (stepM ops pc s).2.1 := by rw [h]
  rw [h1]
  unfold stepM
  split
  · split <;> rfl
  split
  · split <;> rfl
  split
  · split <;> rfl
  · rfl
theorem goM_own : ∀ (f pc : Nat) (s : Ms), s.In ops pc → pc + f = ops.length → (goM ops f pc s).2.1 = 0 → (∀ j, j < pc → gI (goM ops f pc s).1.owners j = gI s.owners j) ∧ gI (goM ops f pc s).1.owners pc = s.top ∧ pc < ops.length
  | 0, pc, s, _, _, h0 => by simp [goM] at h0
  | f + 1, pc, s, hi, hf, h0 => by
    have hlo := hi.ok.lo
    rw [goM] at h0 ⊢
    by_cases h1 : (stepM ops pc s).1 ≠ 0
    · rw [if_pos h1] at h0; exact absurd h0 h1
    · rw [if_neg h1] at h0 ⊢
      have h1' := Decidable.not_not.1 h1
      obtain ⟨s1, hs1⟩ : ∃ s1, (stepM ops pc s).2.1 = s1 := ⟨_, rfl⟩
      have hst : stepM ops pc s = (0, s1, (stepM ops pc s).2.2) := by rw [← h1', ← hs1]
      have how := step_owners hst
      have key : (∀ j, j < pc → gI s1.owners j = gI s.owners j) ∧ gI s1.owners pc = s.top := by
        rw [how]
        refine ⟨fun j hj => ?_, ?_⟩
        · rw [gI_set (by omega), if_neg (by omega)]
        · rw [gI_set (by omega), if_pos rfl]
      rw [hs1] at h0 ⊢
      by_cases h2 : (stepM ops pc s).2.2 = true
      · rw [if_pos h2] at h0 ⊢
        by_cases h3 : pc + 1 < ops.length
        · rw [if_pos h3] at h0; simp at h0
        · rw [if_neg h3]
          exact ⟨key.1, key.2, by omega⟩
      · rw [if_neg h2] at h0 ⊢
        have hin := stepM_in hi (by omega) h1'
        rw [hs1] at hin
        obtain ⟨g1, _, _⟩ := goM_own f (pc + 1) s1 hin (by omega) h0
        exact ⟨fun j hj => (g1 j (by omega)).trans (key.1 j hj), (g1 pc (by omega)).trans key.2, by omega⟩
/-- The stack is the labels. -/
theorem lab_step {O : List Int} {pc : Nat} {s s1 : Ms} (ho : ∀ (j : Nat) (v : Int), O[j]? = some v → -1 ≤ v ∧ v < j) (h : stepM ops pc s = (0, s1, false)) (hO : gI O pc = s.top) (hl : labL O s.top = opL s) : labL O s1.top = opL s1 := by
  by_cases hop : opensP (ops.getD pc 0)
  · by_cases hd : s.open_.length = 32
    · rw [step_deepB hop hd] at h; simp at h
    · rw [step_openB hop hd] at h
      simp only [Prod.mk.injEq, and_true, true_and] at h
      subst h
      have ht : (({ s with owners := s.owners.set pc s.top, open_ := s.open_ ++ [pc] } : Ms)).top = pc := top_snoc rfl
      rw [ht, labL_next ho (by omega), Int.toNat_natCast]
      have hO' : O.getD pc (-1) = s.top := hO
      rw [hO', hl]
      simp [opL]
  · by_cases h5 : ops.getD pc 0 = 5
    · by_cases hc : s.top < 0 ∨ ops.getD s.top.toNat 0 ≠ 4 ∨ 0 ≤ s.elses.getD s.top.toNat 0
      · rw [step_noelseB h5 hc] at h; simp at h
      · rw [step_elseB h5 hc] at h
        simp only [Prod.mk.injEq, and_true, true_and] at h
        subst h
        exact hl
    · by_cases h6 : ops.getD pc 0 = 6
      · by_cases ht : s.top < 0
        · rw [step_lastB h6 ht] at h; simp at h
        · have h7 : s1.open_ = s.open_.dropLast := by
            by_cases hL : 0 ≤ s.elses.getD s.top.toNat 0
            · rw [step_end2B h6 ht hL] at h
              simp only [Prod.mk.injEq, and_true, true_and] at h
              rw [← h]
            · rw [step_endB h6 ht hL] at h
              simp only [Prod.mk.injEq, and_true, true_and] at h
              rw [← h]
          obtain ⟨l, hl'⟩ := top_some ht
          have h8 : s1.open_ = l := by rw [h7, hl']; simp
          have e1 : labL O (O.getD s.top.toNat (-1)) = opL s1 := by
            rw [labL_next ho (by omega)] at hl
            have : opL s = s.top :: opL s1 := by
              unfold opL
              rw [hl', h8]
              simp
              omega
            rw [this] at hl
            exact (List.cons.inj hl).2
          obtain ⟨r1, hr1⟩ := opL_head s1
          have hx : -1 ≤ O.getD s.top.toNat (-1) := by
            rw [List.getD_eq_getElem?_getD]
            cases hv : O[s.top.toNat]? with
            | none => simp
            | some v => exact (ho _ _ hv).1
          obtain ⟨r2, hr2⟩ := labL_head ho hx
          have e2 : O.getD s.top.toNat (-1) = s1.top := by
            rw [hr2, hr1] at e1
            exact (List.cons.inj e1).1
          rw [← e2]; exact e1
      · rw [step_otherB hop h5 h6] at h
        simp only [Prod.mk.injEq, and_true, true_and] at h
        subst h
        exact hl
theorem wr_go : ∀ (f pc : Nat) (s s' : Ms), WrS ops pc s s' → s.In ops pc → pc + f = ops.length → (goM ops f pc s).2.1 = 0 →
    (∀ (j : Nat) (v : Int), (goM ops f pc s).1.owners[j]? = some v → -1 ≤ v ∧ v < j) → labL (goM ops f pc s).1.owners s.top = opL s →
    (∀ i, pc ≤ i → i < ops.length → (labP (goM ops f pc s).1.owners i).length ≤ 33) ∧
    ((goM (wrO ops) (f + 1) (pc + 1) s').2.1 = 35 ∧ (∃ i, i < ops.length ∧ (labP (goM ops f pc s).1.owners i).length = 33) ∨
     (goM (wrO ops) (f + 1) (pc + 1) s').2.1 = 0 ∧ WrF ops.length (goM ops f pc s).1 (goM (wrO ops) (f + 1) (pc + 1) s').1)
  | 0, pc, s, s', _, _, _, h0, _, _ => by simp [goM] at h0
  | f + 1, pc, s, s', hw, hi, hf, h0, ho, hl => by
    have hown := goM_own (f + 1) pc s hi hf h0
    have hpcO := hown.2.1
    have hlen : (labP (goM ops (f + 1) pc s).1.owners pc).length ≤ 33 := by
      unfold labP
      have e : (goM ops (f + 1) pc s).1.owners.getD pc (-1) = s.top := hpcO
      rw [e, hl, opL_len]
      have := hi.ok.deep
      omega
    have hpc : pc < ops.length := by omega
    by_cases h1 : (stepM ops pc s).1 ≠ 0
    · rw [goM, if_pos h1] at h0; exact absurd h0 h1
    have h1' := Decidable.not_not.1 h1
    obtain ⟨s1, hs1⟩ : ∃ s1, (stepM ops pc s).2.1 = s1 := ⟨_, rfl⟩
    by_cases h2 : (stepM ops pc s).2.2 = true
    · have hst : stepM ops pc s = (0, s1, true) := by rw [← h1', ← hs1, ← h2]
      rw [goM, if_neg h1, if_pos h2] at h0
      by_cases h3 : pc + 1 < ops.length
      · rw [if_pos h3] at h0; simp at h0
      have hg : goM ops (f + 1) pc s = (s1, 0, 0) := by rw [goM, if_neg h1, if_pos h2, if_neg h3, hs1]
      refine ⟨fun i hi1 hi2 => (by rw [show i = pc by omega]; exact hlen), .inr ?_⟩
      rw [hg]
      have hopen : s.open_ = [] ∧ ops.getD pc 0 = 6 ∧ s1 = { s with owners := s.owners.set pc s.top } := by
        revert hst
        unfold stepM
        split
        · split <;> intro h <;> simp at h
        split
        · split <;> intro h <;> simp at h
        split
        · rename_i h6
          split
          · rename_i ht; intro h; simp only [Prod.mk.injEq, and_true, true_and] at h; exact ⟨top_none.1 ht, h6, h.symm⟩
          · intro h; simp at h
        · intro h; simp at h
      obtain ⟨hop0, h6, hs1e⟩ := hopen
      have hn : ops.length = pc + 1 := by omega
      have hf0 : f = 0 := by omega
      subst hf0
      have htop : s.top = -1 := by have := top_none.2 hop0; have := top_low s; omega
      have htop' : s'.top = 0 := by rw [hw.top, htop]; rfl
      have hat := wrO_at hpc
      have hll := hw.ll; have hle := hw.le; have hlo := hw.lo
      have hel : s'.elses.getD s'.top.toNat 0 = -1 := by rw [htop', gI_getD (by show (0 : Int).toNat < _; omega)]; exact hw.l0
      have hstep := step_endB (ops := wrO ops) (pc := pc + 1) (s := s') (by rw [hat]; exact h6) (by omega) (by rw [hel]; omega)
      obtain ⟨s2, hs2⟩ : ∃ s2, ({ s' with owners := s'.owners.set (pc + 1) s'.top, ends := s'.ends.set s'.top.toNat ((pc + 1 : Nat) : Int), open_ := s'.open_.dropLast } : Ms) = s2 := ⟨_, rfl⟩
      rw [hs2] at hstep
      have hop2 : s2.open_ = [] := by rw [← hs2]; show s'.open_.dropLast = []; rw [hw.opn, hop0]; rfl
      have htop2 : s2.top = -1 := by have := top_none.2 hop2; have := top_low s2; omega
      have hlast := step_lastB (ops := wrO ops) (pc := pc + 1 + 1) (s := s2) (by rw [show pc + 1 + 1 = ops.length + 1 by omega]; exact wrO_end ops) (by omega)
      have hgo : goM (wrO ops) (0 + 1 + 1) (pc + 1) s' = ({ s2 with owners := s2.owners.set (pc + 1 + 1) s2.top }, 0, 0) := by
        rw [goM, hstep, if_neg (by simp), if_neg (by simp), goM, hlast, if_neg (by simp), if_pos rfl, if_neg (by rw [wrO_len]; omega)]
      rw [hgo]
      refine ⟨rfl, ?_⟩
      obtain ⟨w0, w1⟩ := wr_own hw hi hpc
      have ho2 : s2.owners = s'.owners.set (pc + 1) s'.top := by rw [← hs2]
      have he2 : s2.ends = s'.ends.set 0 ((pc + 1 : Nat) : Int) := by rw [← hs2, htop']; rfl
      have hl2 : s2.elses = s'.elses := by rw [← hs2]
      rw [← ho2] at w0 w1
      have hlo2 : s2.owners.length = ops.length + 2 := by rw [ho2, List.length_set]; exact hlo
      refine ⟨by show s2.ends.length = _; rw [he2, List.length_set]; exact hle, by show s2.elses.length = _; rw [hl2]; exact hll, by show (s2.owners.set _ _).length = _; rw [List.length_set]; exact hlo2, ?_, fun j hj => ?_, ?_, ?_, fun j hj => ?_, ?_, ?_, fun j hj => ?_, ?_⟩
      · show gI s2.ends 0 = _
        rw [he2, gI_set (by omega), if_pos rfl]; omega
      · show gI s2.ends (j + 1) = mvI (gI s1.ends j)
        rw [he2, gI_set (by omega), if_neg (by omega), hs1e]; exact hw.e1 j hj
      · show gI s2.ends (ops.length + 1) = -1
        rw [he2, gI_set (by omega), if_neg (by omega)]; exact hw.e2
      · show gI s2.elses 0 = -1
        rw [hl2]; exact hw.l0
      · show gI s2.elses (j + 1) = mvI (gI s1.elses j)
        rw [hl2, hs1e]; exact hw.l1 j hj
      · show gI s2.elses (ops.length + 1) = -1
        rw [hl2]; exact hw.l2
      · show gI (s2.owners.set (pc + 1 + 1) s2.top) 0 = -1
        rw [gI_set (by omega), if_neg (by omega)]; exact w0
      · show gI (s2.owners.set (pc + 1 + 1) s2.top) (j + 1) = gI s1.owners j + 1
        rw [gI_set (by omega), if_neg (by omega), hs1e]; exact w1 j (by omega)
      · show gI (s2.owners.set (pc + 1 + 1) s2.top) (ops.length + 1) = -1
        rw [gI_set (by omega), if_pos (by omega), htop2]
    · have h2' : (stepM ops pc s).2.2 = false := by simpa using h2
      have hst : stepM ops pc s = (0, s1, false) := by rw [← h1', ← hs1, ← h2']
      have hg : goM ops (f + 1) pc s = goM ops f (pc + 1) s1 := by rw [goM, if_neg h1, if_neg h2, hs1]
      rw [hg] at h0 ho hl hpcO hlen ⊢
      have hin := stepM_in hi hpc h1'
      rw [hs1] at hin
      have hl1 := lab_step ho hst hpcO hl
      have hown1 := goM_own f (pc + 1) s1 hin (by omega) h0
      rcases wr_step hw hi hpc hst with ⟨e35, hopn, h31⟩ | ⟨s1', hst', hw'⟩
      · have hgo : (goM (wrO ops) (f + 1 + 1) (pc + 1) s').2.1 = 35 := by rw [goM, if_pos (by rw [e35]; decide)]; exact e35
        have hb : ∀ (f pc : Nat) (s : Ms), s.In ops pc → pc + f = ops.length → (goM ops f pc s).2.1 = 0 → (∀ (j : Nat) (v : Int), (goM ops f pc s).1.owners[j]? = some v → -1 ≤ v ∧ v < j) → labL (goM ops f pc s).1.owners s.top = opL s → ∀ i, pc ≤ i → i < ops.length → (labP (goM ops f pc s).1.owners i).length ≤ 33 := by
          intro f
          induction f with
          | zero => intro pc s _ _ h0; simp [goM] at h0
          | succ f ih =>
            intro pc s hi hf h0 ho hl i h3 h4
            have hown := goM_own (f + 1) pc s hi hf h0
            by_cases e : i = pc
            · subst e
              unfold labP
              have e : (goM ops (f + 1) i s).1.owners.getD i (-1) = s.top := hown.2.1
              rw [e, hl, opL_len]
              have := hi.ok.deep
              omega
            · by_cases h1 : (stepM ops pc s).1 ≠ 0
              · rw [goM, if_pos h1] at h0; exact absurd h0 h1
              have h1' := Decidable.not_not.1 h1
              by_cases h2 : (stepM ops pc s).2.2 = true
              · rw [goM, if_neg h1, if_pos h2] at h0
                by_cases h3 : pc + 1 < ops.length
                · rw [if_pos h3] at h0; simp at h0
                · omega
              · obtain ⟨s1, hs1⟩ : ∃ s1, (stepM ops pc s).2.1 = s1 := ⟨_, rfl⟩
                have h2' : (stepM ops pc s).2.2 = false := by simpa using h2
                have hst : stepM ops pc s = (0, s1, false) := by rw [← h1', ← hs1, ← h2']
                have hg : goM ops (f + 1) pc s = goM ops f (pc + 1) s1 := by rw [goM, if_neg h1, if_neg h2, hs1]
                rw [hg] at h0 ho hl hown ⊢
                have hin := stepM_in hi (by omega) h1'
                rw [hs1] at hin
                exact ih (pc + 1) s1 hin (by omega) h0 ho (lab_step ho hst hown.2.1 hl) i (by omega) h4
        refine ⟨fun i h3 h4 => ?_, .inl ⟨hgo, pc + 1, hown1.2.2, ?_⟩⟩
        · by_cases e : i = pc
          · rw [e]; exact hlen
          · exact hb f (pc + 1) s1 hin (by omega) h0 ho hl1 i (by omega) h4
        · unfold labP
          have e : (goM ops f (pc + 1) s1).1.owners.getD (pc + 1) (-1) = s1.top := hown1.2.1
          rw [e, hl1, opL_len]
          rw [step_openB hopn (by omega)] at hst
          simp only [Prod.mk.injEq, and_true, true_and] at hst
          rw [← hst]
          simp; omega
      · have hgo : goM (wrO ops) (f + 1 + 1) (pc + 1) s' = goM (wrO ops) (f + 1) (pc + 1 + 1) s1' := by rw [goM, hst', if_neg (by simp), if_neg (by simp)]
        obtain ⟨r1, r2⟩ := wr_go f (pc + 1) s1 s1' hw' hin (by omega) h0 ho hl1
        rw [hgo]
        refine ⟨fun i h3 h4 => ?_, r2⟩
        by_cases e : i = pc
        · rw [e]; exact hlen
        · exact r1 i (by omega) h4
end
end Go.Proofs.Ytiaoonlhgjfdjaa
