/- Openers and their ends lie as brackets do: of every code that is taken, plain. -/
import Derived.Test.YtiaoonlhgjfdjaaDoorBrak
namespace Go.Proofs.YtiaoonlhgjfdjaaDoor
open Go Go.RowKit

theorem stepM_br {ops : List Nat} {pc : Nat} {s : Ms} (h : s.In ops pc) (b : s.Br ops pc) (hpc : pc < ops.length) (h0 : (stepM ops pc s).1 = 0) (hd : (stepM ops pc s).2.2 = false) : (stepM ops pc s).2.1.Br ops (pc + 1) := by
  revert h0 hd
  unfold stepM
  split
  · rename_i ho
    split
    · intro h0; simp at h0
    · intro _ _; exact br_open h b hpc ho
  split
  · rename_i hno h5
    split
    · intro h0; simp at h0
    · rename_i hc
      intro _ _
      obtain ⟨t, ht⟩ : ∃ t : Nat, s.top = t := ⟨s.top.toNat, by have : ¬ s.top < 0 := fun e => hc (.inl e); omega⟩
      rw [ht, Int.toNat_natCast] at hc
      have h4 : ops.getD t 0 = 4 := Decidable.not_not.1 fun e => hc (.inr (.inl e))
      have hL : ¬ 0 ≤ s.elses.getD t 0 := fun e => hc (.inr (.inr e))
      have hm : t ∈ s.open_ := by obtain ⟨l, hl⟩ := top_some (s := s) (by omega); rw [hl, ht]; simp
      have htl : t < s.elses.length := by have := h.ok.open_ t hm; rw [h.ok.ll]; omega
      have e : gI s.elses t = s.elses.getD t 0 := by
        rw [gI, List.getD_eq_getElem?_getD, List.getD_eq_getElem?_getD, List.getElem?_eq_getElem htl]; rfl
      have hb := br_else h b hpc h5 ht h4 (by rw [e]; omega)
      have e2 : s.top.toNat = t := by omega
      rw [e2]
      exact hb
  split
  · rename_i hno h5 h6
    split
    · intro _ hd; simp at hd
    · rename_i htt
      intro _ _
      obtain ⟨t, ht⟩ : ∃ t : Nat, s.top = t := ⟨s.top.toNat, by omega⟩
      have hm : t ∈ s.open_ := by obtain ⟨l, hl⟩ := top_some (s := s) (by omega); rw [hl, ht]; simp
      have htp := h.ok.open_ t hm
      have htl : t < s.elses.length := by rw [h.ok.ll]; omega
      have htE : t < s.ends.length := by rw [h.ok.le]; omega
      have e : s.elses.getD t 0 = gI s.elses t := by
        rw [gI, List.getD_eq_getElem?_getD, List.getD_eq_getElem?_getD, List.getElem?_eq_getElem htl]; rfl
      have e2 : s.top.toNat = t := by omega
      refine br_end h b hpc h6 ht fun j => ?_
      rw [e2, e]
      by_cases hL : 0 ≤ gI s.elses t
      · rw [if_pos hL]
        obtain ⟨_, _, j0, f1, _, f2, _⟩ := b.els t hL
        rw [gI_set (by rw [List.length_set, h.ok.le]; omega), gI_set htE, f1, Int.toNat_natCast]
        by_cases ej : j = j0
        · rw [if_pos ej, if_pos (.inr (by rw [ej]))]
        · rw [if_neg ej]
          by_cases ejt : j = t
          · rw [if_pos ejt, if_pos (.inl ejt)]
          · rw [if_neg ejt, if_neg (fun e => e.elim ejt fun e => ej (by omega))]
      · rw [if_neg hL, gI_set htE]
        by_cases ejt : j = t
        · rw [if_pos ejt, if_pos (.inl ejt)]
        · rw [if_neg ejt, if_neg (fun e => e.elim ejt fun e => by omega)]
  · rename_i hno h5 h6
    intro _ _
    exact br_other h b hpc hno h5 h6
theorem goM_br {ops : List Nat} : ∀ (f pc : Nat) (s : Ms), s.In ops pc → s.Br ops pc → pc + f = ops.length → (goM ops f pc s).2.1 = 0 →
    ∃ s' : Ms, s'.In ops (ops.length - 1) ∧ s'.Br ops (ops.length - 1) ∧ s'.open_ = [] ∧ 0 < ops.length ∧ ops.getD (ops.length - 1) 0 = 6 ∧ (goM ops f pc s).1 = { s' with owners := s'.owners.set (ops.length - 1) s'.top }
  | 0, pc, s, _, _, _, h0 => by simp [goM] at h0
  | f + 1, pc, s, h, b, hf, h0 => by
    rw [goM] at h0 ⊢
    by_cases h1 : (stepM ops pc s).1 ≠ 0
    · rw [if_pos h1] at h0; exact absurd h0 h1
    · rw [if_neg h1] at h0 ⊢
      have h1' := Decidable.not_not.1 h1
      by_cases h2 : (stepM ops pc s).2.2 = true
      · rw [if_pos h2] at h0 ⊢
        by_cases h3 : pc + 1 < ops.length
        · rw [if_pos h3] at h0; simp at h0
        · rw [if_neg h3]
          have e : ops.length - 1 = pc := by omega
          have hs : ops.getD pc 0 = 6 ∧ s.open_ = [] ∧ (stepM ops pc s).2.1 = { s with owners := s.owners.set pc s.top } := by
            revert h2
            unfold stepM
            split
            · split <;> intro h2 <;> simp at h2
            split
            · split <;> intro h2 <;> simp at h2
            split
            · rename_i h6
              split
              · rename_i ht; intro _; exact ⟨h6, top_none.1 ht, rfl⟩
              · intro h2; simp at h2
            · intro h2; simp at h2
          rw [e]
          exact ⟨s, h, b, hs.2.1, by omega, hs.1, hs.2.2⟩
      · rw [if_neg h2] at h0 ⊢
        have hin := stepM_in h (by omega) h1'
        exact goM_br f (pc + 1) _ hin (stepM_br h b (by omega) h1' (by simpa using h2)) (by omega) h0
/-- Of a code that is taken. -/
structure MapBr (ops : List Nat) (E L O : List Int) : Prop where
  pos : 0 < ops.length
  last : ops.getD (ops.length - 1) 0 = 6
  plain : ∀ j, ¬ opensP (ops.getD j 0) → ops.getD j 0 ≠ 5 → gI E j = -1 ∧ gI L j = -1
  closed : ∀ j, j < ops.length → opensP (ops.getD j 0) → ∃ e : Nat, gI E j = e ∧ j < e ∧ e < ops.length - 1 ∧ ops.getD e 0 = 6
  els : ∀ t, 0 ≤ gI L t → ops.getD t 0 = 4 ∧ ∃ j : Nat, gI L t = j ∧ t < j ∧ ops.getD j 0 = 5 ∧ gI E j = gI E t ∧ (j : Int) < gI E t
  els5 : ∀ j, j < ops.length → ops.getD j 0 = 5 → gI L j = -1 ∧ ∃ e : Nat, gI E j = e ∧ j < e ∧ e < ops.length - 1 ∧ ops.getD e 0 = 6
  nest : ∀ i k, i < k → k < ops.length → opensP (ops.getD i 0) → opensP (ops.getD k 0) → (k : Int) < gI E i → gI E k < gI E i
  one : ∀ i k, i < ops.length → k < ops.length → opensP (ops.getD i 0) → opensP (ops.getD k 0) → gI E i = gI E k → i = k
  used : ∀ e : Nat, e < ops.length - 1 → ops.getD e 0 = 6 → ∃ k, k < e ∧ opensP (ops.getD k 0) ∧ gI E k = e
  own : ∀ j, j < ops.length → gI O j = -1 ∨ ∃ t : Nat, gI O j = t ∧ t < j ∧ opensP (ops.getD t 0) ∧ (j : Int) ≤ gI E t
  else_ : ∀ j, j < ops.length → ops.getD j 0 = 5 → ∃ t : Nat, t < j ∧ ops.getD t 0 = 4 ∧ gI L t = j ∧ gI E j = gI E t
theorem mapP_br {ops : List Nat} (h : (mapP ops).2.2.2.1 = 0) : MapBr ops (mapP ops).1 (mapP ops).2.1 (mapP ops).2.2.1 := by
  have h0 : (goM ops ops.length 0 (startM ops.length)).2.1 = 0 := by
    unfold mapP at h
    split at h
    · assumption
    · exact h
  obtain ⟨s, hi, b, ho, hp, h6, hs⟩ := goM_br _ _ _ (startM_in ops) (startM_br ops) (by omega) h0
  unfold mapP
  rw [if_pos h0, hs]
  have hno : ∀ t, t ∉ s.open_ := by rw [ho]; simp
  have hlt : ∀ j, j < ops.length → opensP (ops.getD j 0) → j < ops.length - 1 := fun j hj ho => by
    rcases Nat.lt_or_ge j (ops.length - 1) with h1 | h1
    · exact h1
    · obtain rfl : j = ops.length - 1 := by omega
      unfold opensP at ho; omega
  have hcl : ∀ j, j < ops.length → opensP (ops.getD j 0) → ∃ e : Nat, gI s.ends j = e ∧ j < e ∧ e < ops.length - 1 ∧ ops.getD e 0 = 6 := fun j hj hoj => b.closed j (hlt j hj hoj) hoj (hno j)
  have htop : s.top = -1 := by have := top_none.2 ho; have := top_low s; omega
  refine ⟨hp, h6, b.plain, hcl, fun t ht => ?_, fun j hj h5 => ?_, fun i k hik hk h1 h2 h3 => (b.nest i k hik (hlt k hk h2) h1 h2 (hno i) h3).2, fun i k hi' hk h1 h2 => b.one i k (hlt i hi' h1) (hlt k hk h2) h1 h2 (hno i) (hno k), b.used, fun j hj => ?_, fun j hj h5 => ?_⟩
  · obtain ⟨e1, _, j, e3, e4, _, e6, _, e8⟩ := b.els t ht
    exact ⟨e1, j, e3, e4, e6, e8 (hno t)⟩
  · have hj' : j < ops.length - 1 := by
      rcases Nat.lt_or_ge j (ops.length - 1) with h1 | h1
      · exact h1
      · obtain rfl : j = ops.length - 1 := by omega
        omega
    obtain ⟨e1, t, e2⟩ := b.els5 j hj' h5
    obtain ⟨f1, f0, j', f3, f4, _, f6, _, f8⟩ := b.els t (by omega)
    obtain rfl : j' = j := by omega
    obtain ⟨g1, g2⟩ := f8 (hno t)
    obtain ⟨e, k1, k2, k3, k4⟩ := hcl t (by omega) (by rw [f1]; exact .inr (.inr rfl))
    exact ⟨e1, e, g1.trans k1, by omega, k3, k4⟩
  · show gI (s.owners.set (ops.length - 1) s.top) j = -1 ∨ ∃ t : Nat, gI (s.owners.set (ops.length - 1) s.top) j = t ∧ _
    rw [gI_set (by rw [hi.ok.lo]; omega)]
    by_cases e : j = ops.length - 1
    · rw [if_pos e, htop]; exact .inl rfl
    · rw [if_neg e]
      rcases b.own j (by omega) with h1 | ⟨t, h1, h2, h3, h4⟩
      · exact .inl h1
      · exact .inr ⟨t, h1, h2, h3, h4.resolve_left (hno t)⟩
  · have hj' : j < ops.length - 1 := by
      rcases Nat.lt_or_ge j (ops.length - 1) with h1 | h1
      · exact h1
      · obtain rfl : j = ops.length - 1 := by omega
        omega
    obtain ⟨_, t, e2⟩ := b.els5 j hj' h5
    obtain ⟨f1, _, j', f3, f4, _, _, _, f8⟩ := b.els t (by omega)
    obtain rfl : j' = j := by omega
    exact ⟨t, f4, f1, f3, (f8 (hno t)).1⟩
end Go.Proofs.YtiaoonlhgjfdjaaDoor
