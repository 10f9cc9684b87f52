/- Openers and their ends lie as brackets do: what control.Map's walk keeps, plain. -/
import Derived.Test.YtiaoonlhgjfdjaaDoorCtl4
namespace Go.Proofs.YtiaoonlhgjfdjaaDoor
open Go Go.RowKit

/-- A place of a list, or -1. -/
abbrev gI (l : List Int) (j : Nat) : Int := l.getD j (-1)
theorem gI_set {l : List Int} {k : Nat} {x : Int} (hk : k < l.length) (j : Nat) : gI (l.set k x) j = if j = k then x else gI l j := by
  unfold gI
  rw [List.getD_eq_getElem?_getD, List.getD_eq_getElem?_getD, List.getElem?_set]
  by_cases e : k = j
  · subst e; simp [hk]
  · rw [if_neg e, if_neg (Ne.symm e)]
theorem gI_of {l : List Int} {j : Nat} {v : Int} (h : l[j]? = some v) : gI l j = v := by rw [gI, List.getD_eq_getElem?_getD, h]; rfl
/-- Brackets: what holds at every step. -/
structure Ms.Br (ops : List Nat) (pc : Nat) (s : Ms) : Prop where
  plain : ∀ j, ¬ opensP (ops.getD j 0) → ops.getD j 0 ≠ 5 → gI s.ends j = -1 ∧ gI s.elses j = -1
  openE : ∀ t ∈ s.open_, gI s.ends t = -1
  closed : ∀ j, j < pc → opensP (ops.getD j 0) → j ∉ s.open_ → ∃ e : Nat, gI s.ends j = e ∧ j < e ∧ e < pc ∧ ops.getD e 0 = 6
  els : ∀ t, 0 ≤ gI s.elses t → ops.getD t 0 = 4 ∧ t < pc ∧ ∃ j : Nat, gI s.elses t = j ∧ t < j ∧ j < pc ∧ ops.getD j 0 = 5 ∧ (t ∈ s.open_ → gI s.ends j = -1) ∧ (t ∉ s.open_ → gI s.ends j = gI s.ends t ∧ (j : Int) < gI s.ends t)
  els5 : ∀ j, j < pc → ops.getD j 0 = 5 → gI s.elses j = -1 ∧ ∃ t : Nat, gI s.elses t = j
  inj : ∀ t u, 0 ≤ gI s.elses t → gI s.elses t = gI s.elses u → t = u
  nest : ∀ i k, i < k → k < pc → opensP (ops.getD i 0) → opensP (ops.getD k 0) → i ∉ s.open_ → (k : Int) < gI s.ends i → k ∉ s.open_ ∧ gI s.ends k < gI s.ends i
  one : ∀ i k, i < pc → k < pc → opensP (ops.getD i 0) → opensP (ops.getD k 0) → i ∉ s.open_ → k ∉ s.open_ → gI s.ends i = gI s.ends k → i = k
  used : ∀ e : Nat, e < pc → ops.getD e 0 = 6 → ∃ k, k < e ∧ opensP (ops.getD k 0) ∧ gI s.ends k = e
  own : ∀ j, j < pc → gI s.owners j = -1 ∨ ∃ t : Nat, gI s.owners j = t ∧ t < j ∧ opensP (ops.getD t 0) ∧ (t ∈ s.open_ ∨ (j : Int) ≤ gI s.ends t)
theorem gI_rep (n j : Nat) : gI (List.replicate n (-1)) j = -1 := by
  rw [gI, List.getD_eq_getElem?_getD, List.getElem?_replicate]
  split <;> rfl
theorem startM_br (ops : List Nat) : (startM ops.length).Br ops 0 := by
  refine ⟨fun j _ _ => ⟨gI_rep _ _, gI_rep _ _⟩, fun t h => by simp [startM] at h, fun j h => absurd h (by omega), fun t h => ?_, fun j h => absurd h (by omega), fun t u h => ?_, fun i k _ h => absurd h (by omega), fun i k h => absurd h (by omega), fun e h => absurd h (by omega), fun j h => absurd h (by omega)⟩
  · have := gI_rep ops.length t
    simp only [startM] at h
    omega
  · have := gI_rep ops.length t
    simp only [startM] at h
    omega
theorem top_own {ops : List Nat} {pc : Nat} {s : Ms} (h : s.In ops pc) : s.top = -1 ∨ ∃ t : Nat, s.top = t ∧ t < pc ∧ opensP (ops.getD t 0) ∧ t ∈ s.open_ := by
  by_cases ht : s.top < 0
  · left; have := top_low s; omega
  · right
    obtain ⟨l, hl⟩ := top_some ht
    have hm : s.top.toNat ∈ s.open_ := by rw [hl]; simp
    exact ⟨s.top.toNat, by omega, h.ok.open_ _ hm, h.isop _ hm, hm⟩
section
variable {ops : List Nat} {pc : Nat} {s : Ms}
theorem br_other (h : s.In ops pc) (b : s.Br ops pc) (hpc : pc < ops.length) (hno : ¬ opensP (ops.getD pc 0)) (h5 : ¬ ops.getD pc 0 = 5) (h6 : ¬ ops.getD pc 0 = 6) : ({ s with owners := s.owners.set pc s.top } : Ms).Br ops (pc + 1) := by
  have hlt : ∀ j, j < pc + 1 → opensP (ops.getD j 0) → j < pc := fun j hj ho => by
    rcases Nat.lt_or_ge j pc with h1 | h1
    · exact h1
    · obtain rfl : j = pc := by omega
      exact absurd ho hno
  refine ⟨b.plain, b.openE, fun j hj ho hn => ?_, fun t ht => ?_, fun j hj ho => ?_, b.inj, fun i k hik hk h1 h2 h3 h4 => b.nest i k hik (hlt k hk h2) h1 h2 h3 h4, fun i k hi hk h1 h2 => b.one i k (hlt i hi h1) (hlt k hk h2) h1 h2, fun e he ho => ?_, fun j hj => ?_⟩
  · obtain ⟨e, h1, h2, h3, h4⟩ := b.closed j (hlt j hj ho) ho hn
    exact ⟨e, h1, h2, by omega, h4⟩
  · obtain ⟨h1, h2, j, h3, h4, h5, h6⟩ := b.els t ht
    exact ⟨h1, by omega, j, h3, h4, by omega, h6⟩
  · have : j ≠ pc := fun e => h5 (by rw [← e]; exact ho)
    exact b.els5 j (by omega) ho
  · have : e ≠ pc := fun e' => h6 (by rw [← e']; exact ho)
    exact b.used e (by omega) ho
  · show gI (s.owners.set pc s.top) j = -1 ∨ ∃ t : Nat, gI (s.owners.set pc s.top) j = t ∧ _
    rw [gI_set (by rw [h.ok.lo]; exact hpc)]
    by_cases e : j = pc
    · rw [if_pos e]
      subst e
      rcases top_own h with h1 | ⟨t, h1, h2, h3, h4⟩
      · exact .inl h1
      · exact .inr ⟨t, h1, h2, h3, .inl h4⟩
    · rw [if_neg e]
      exact b.own j (by omega)
theorem br_open (h : s.In ops pc) (b : s.Br ops pc) (hpc : pc < ops.length) (ho : opensP (ops.getD pc 0)) : ({ s with owners := s.owners.set pc s.top, open_ := s.open_ ++ [pc] } : Ms).Br ops (pc + 1) := by
  have hop : ∀ t, t < pc → (t ∈ s.open_ ++ [pc] ↔ t ∈ s.open_) := fun t ht => by simp; omega
  have hE : gI s.ends pc = -1 := gI_of (h.restE pc (Nat.le_refl _) hpc)
  have h56 : ops.getD pc 0 ≠ 5 ∧ ops.getD pc 0 ≠ 6 := by unfold opensP at ho; omega
  refine ⟨b.plain, fun t ht => ?_, fun j hj ho' hn => ?_, fun t ht => ?_, fun j hj ho' => ?_, b.inj, fun i k hik hk h1 h2 h3 h4 => ?_, fun i k hi hk h1 h2 h3 h4 => ?_, fun e he ho' => ?_, fun j hj => ?_⟩
  · rcases List.mem_append.1 ht with h1 | h1
    · exact b.openE t h1
    · simp at h1; subst h1; exact hE
  · have hj' : j ≠ pc := fun e => hn (by simp [e])
    obtain ⟨e, h1, h2, h3, h4⟩ := b.closed j (by omega) ho' (fun e => hn (List.mem_append_left _ e))
    exact ⟨e, h1, h2, by omega, h4⟩
  · obtain ⟨h1, h2, j, h3, h4, h5, h6, h7, h8⟩ := b.els t ht
    exact ⟨h1, by omega, j, h3, h4, by omega, h6, fun e => h7 ((hop t h2).1 e), fun e => h8 (fun e' => e ((hop t h2).2 e'))⟩
  · have : j ≠ pc := fun e => h56.1 (by rw [← e]; exact ho')
    exact b.els5 j (by omega) ho'
  · have hi : i ≠ pc := fun e => h3 (by simp [e])
    have hi' : i ∉ s.open_ := fun e => h3 (List.mem_append_left _ e)
    obtain ⟨e, e1, e2, e3, _⟩ := b.closed i (by omega) h1 hi'
    have h4' : (k : Int) < gI s.ends i := h4
    have hk' : k < pc := by omega
    obtain ⟨n1, n2⟩ := b.nest i k hik hk' h1 h2 hi' h4'
    exact ⟨fun e => n1 ((hop k hk').1 e), n2⟩
  · have hi' : i ≠ pc := fun e => h3 (by simp [e])
    have hk' : k ≠ pc := fun e => h4 (by simp [e])
    exact b.one i k (by omega) (by omega) h1 h2 (fun e => h3 (List.mem_append_left _ e)) (fun e => h4 (List.mem_append_left _ e))
  · have : e ≠ pc := fun e' => h56.2 (by rw [← e']; exact ho')
    exact b.used e (by omega) ho'
  · show gI (s.owners.set pc s.top) j = -1 ∨ ∃ t : Nat, gI (s.owners.set pc s.top) j = t ∧ t < j ∧ _ ∧ (t ∈ s.open_ ++ [pc] ∨ _)
    rw [gI_set (by rw [h.ok.lo]; exact hpc)]
    by_cases e : j = pc
    · rw [if_pos e]
      subst e
      rcases top_own h with h1 | ⟨t, h1, h2, h3, h4⟩
      · exact .inl h1
      · exact .inr ⟨t, h1, h2, h3, .inl (List.mem_append_left _ h4)⟩
    · rw [if_neg e]
      rcases b.own j (by omega) with h1 | ⟨t, h1, h2, h3, h4⟩
      · exact .inl h1
      · exact .inr ⟨t, h1, h2, h3, h4.imp (fun h => List.mem_append_left _ h) id⟩
theorem br_else (h : s.In ops pc) (b : s.Br ops pc) (hpc : pc < ops.length) (h5 : ops.getD pc 0 = 5) {t : Nat} (ht : s.top = t) (h4 : ops.getD t 0 = 4) (hL : gI s.elses t < 0) : ({ s with owners := s.owners.set pc s.top, elses := s.elses.set t pc } : Ms).Br ops (pc + 1) := by
  have hno : ¬ opensP (ops.getD pc 0) := by unfold opensP; omega
  obtain ⟨l, hl⟩ := top_some (s := s) (by omega)
  have hm : t ∈ s.open_ := by rw [hl, ht]; simp
  have htp : t < pc := h.ok.open_ t hm
  have hEp : gI s.ends pc = -1 := gI_of (h.restE pc (Nat.le_refl _) hpc)
  have hLp : gI s.elses pc = -1 := gI_of (h.rest pc (Nat.le_refl _) hpc)
  have hset : ∀ j, gI (s.elses.set t (pc : Int)) j = if j = t then (pc : Int) else gI s.elses j := gI_set (by rw [h.ok.ll]; omega)
  have hlt : ∀ j, j < pc + 1 → opensP (ops.getD j 0) → j < pc := fun j hj ho => by
    rcases Nat.lt_or_ge j pc with h1 | h1
    · exact h1
    · obtain rfl : j = pc := by omega
      exact absurd ho hno
  have hLlt : ∀ u, gI s.elses u < pc := fun u => by
    by_cases hu : 0 ≤ gI s.elses u
    · obtain ⟨_, _, j, e1, _, e2, _⟩ := b.els u hu; omega
    · omega
  refine ⟨fun j hn h5' => ?_, b.openE, fun j hj ho hn => ?_, fun u hu => ?_, fun j hj ho => ?_, fun u v hu huv => ?_, fun i k hik hk h1 h2 h3 h4 => b.nest i k hik (hlt k hk h2) h1 h2 h3 h4, fun i k hi hk h1 h2 => b.one i k (hlt i hi h1) (hlt k hk h2) h1 h2, fun e he ho => ?_, fun j hj => ?_⟩
  · show _ ∧ gI (s.elses.set t (pc : Int)) j = -1
    rw [hset, if_neg (fun e => hn (by rw [e, h4]; exact .inr (.inr rfl)))]
    exact b.plain j hn h5'
  · obtain ⟨e, e1, e2, e3, e4⟩ := b.closed j (hlt j hj ho) ho hn
    exact ⟨e, e1, e2, by omega, e4⟩
  · have hu' : 0 ≤ gI (s.elses.set t (pc : Int)) u := hu
    show _ ∧ _ ∧ ∃ j : Nat, gI (s.elses.set t (pc : Int)) u = j ∧ _
    rw [hset] at hu' ⊢
    by_cases e : u = t
    · subst e
      rw [if_pos rfl]
      exact ⟨h4, by omega, pc, rfl, htp, by omega, h5, fun _ => hEp, fun e => absurd hm e⟩
    · rw [if_neg e] at hu' ⊢
      obtain ⟨e1, e2, j, e3, e4, e5, e6⟩ := b.els u hu'
      exact ⟨e1, by omega, j, e3, e4, by omega, e6⟩
  · show gI (s.elses.set t (pc : Int)) j = -1 ∧ ∃ t' : Nat, gI (s.elses.set t (pc : Int)) t' = j
    have hjt : j ≠ t := fun e => by rw [e, h4] at ho; omega
    by_cases e : j = pc
    · subst e
      exact ⟨by rw [hset, if_neg hjt]; exact hLp, t, by rw [hset, if_pos rfl]⟩
    · obtain ⟨e1, u, e2⟩ := b.els5 j (by omega) ho
      exact ⟨by rw [hset, if_neg hjt]; exact e1, u, by rw [hset, if_neg (fun e => by subst e; omega)]; exact e2⟩
  · have hu' : 0 ≤ gI (s.elses.set t (pc : Int)) u := hu
    have huv' : gI (s.elses.set t (pc : Int)) u = gI (s.elses.set t (pc : Int)) v := huv
    rw [hset, hset] at huv'
    rw [hset] at hu'
    have := hLlt u; have := hLlt v
    by_cases e1 : u = t
    · by_cases e2 : v = t
      · omega
      · rw [if_pos e1, if_neg e2] at huv'; omega
    · by_cases e2 : v = t
      · rw [if_neg e1, if_pos e2] at huv'; omega
      · rw [if_neg e1, if_neg e2] at huv'
        rw [if_neg e1] at hu'
        exact b.inj u v hu' huv'
  · have : e ≠ pc := fun e' => by rw [e', h5] at ho; omega
    exact b.used e (by omega) ho
  · show gI (s.owners.set pc s.top) j = -1 ∨ ∃ t : Nat, gI (s.owners.set pc s.top) j = t ∧ _
    rw [gI_set (by rw [h.ok.lo]; exact hpc)]
    by_cases e : j = pc
    · rw [if_pos e]
      subst e
      exact .inr ⟨t, ht, htp, h.isop t hm, .inl hm⟩
    · rw [if_neg e]
      exact b.own j (by omega)
theorem br_end (h : s.In ops pc) (b : s.Br ops pc) (hpc : pc < ops.length) (h6 : ops.getD pc 0 = 6) {t : Nat} {E' : List Int} (ht : s.top = t) (hE' : ∀ j, gI E' j = if j = t ∨ gI s.elses t = (j : Int) then (pc : Int) else gI s.ends j) :
    ({ s with owners := s.owners.set pc s.top, ends := E', open_ := s.open_.dropLast } : Ms).Br ops (pc + 1) := by
  have hno : ¬ opensP (ops.getD pc 0) := by unfold opensP; omega
  obtain ⟨l, hl⟩ := top_some (s := s) (by omega)
  rw [ht, Int.toNat_natCast] at hl
  have hdl : s.open_.dropLast = l := by rw [hl]; simp
  have hm : t ∈ s.open_ := by rw [hl]; simp
  have htp : t < pc := h.ok.open_ t hm
  have hto : opensP (ops.getD t 0) := h.isop t hm
  have hso := h.sorted
  rw [hl] at hso
  have hmax : ∀ x ∈ l, x < t := fun x hx => (List.pairwise_append.1 hso).2.2 x hx t (by simp)
  have hmem : ∀ x, x ∈ s.open_ ↔ x ∈ l ∨ x = t := fun x => by rw [hl]; simp
  have hL5 : ∀ j : Nat, gI s.elses t = (j : Int) → ops.getD j 0 = 5 := fun j e => by
    obtain ⟨_, _, j', e1, _, _, e2, _⟩ := b.els t (by omega)
    obtain rfl : j' = j := by omega
    exact e2
  have hLo : ∀ j : Nat, opensP (ops.getD j 0) → ¬ gI s.elses t = (j : Int) := fun j ho e => by have := hL5 j e; unfold opensP at ho; omega
  have hEo : ∀ j, opensP (ops.getD j 0) → j ≠ t → gI E' j = gI s.ends j := fun j ho hj => by rw [hE', if_neg (fun e => e.elim hj (hLo j ho))]
  have hEt : gI E' t = pc := by rw [hE', if_pos (.inl rfl)]
  have hlt : ∀ j, j < pc + 1 → opensP (ops.getD j 0) → j < pc := fun j hj ho => by
    rcases Nat.lt_or_ge j pc with h1 | h1
    · exact h1
    · obtain rfl : j = pc := by omega
      exact absurd ho hno
  have hcl : ∀ j, j < pc + 1 → opensP (ops.getD j 0) → j ∉ l → ∃ e : Nat, gI E' j = e ∧ j < e ∧ e < pc + 1 ∧ ops.getD e 0 = 6 ∧ (j ≠ t → e < pc) := fun j hj ho hn => by
    by_cases e : j = t
    · subst e; exact ⟨pc, hEt, htp, by omega, h6, fun h => absurd rfl h⟩
    · obtain ⟨e', e1, e2, e3, e4⟩ := b.closed j (hlt j hj ho) ho (fun e' => ((hmem j).1 e').elim hn e)
      exact ⟨e', by rw [hEo j ho e]; exact e1, e2, by omega, e4, fun _ => e3⟩
  have hown : ∀ j, j < pc + 1 → gI (s.owners.set pc s.top) j = -1 ∨ ∃ u : Nat, gI (s.owners.set pc s.top) j = u ∧ u < j ∧ opensP (ops.getD u 0) ∧ (u ∈ l ∨ (j : Int) ≤ gI E' u) := fun j hj => by
    rw [gI_set (by rw [h.ok.lo]; exact hpc)]
    by_cases e : j = pc
    · rw [if_pos e]
      subst e
      exact .inr ⟨t, ht, htp, hto, .inr (by rw [hEt]; omega)⟩
    · rw [if_neg e]
      rcases b.own j (by omega) with h1 | ⟨u, h1, h2, h3, h4⟩
      · exact .inl h1
      · refine .inr ⟨u, h1, h2, h3, ?_⟩
        by_cases e' : u = t
        · subst e'; exact .inr (by rw [hEt]; omega)
        · rcases h4 with h4 | h4
          · exact .inl (((hmem u).1 h4).resolve_right e')
          · exact .inr (by rw [hEo u h3 e']; exact h4)
  rw [hdl]
  refine ⟨fun j hn h5 => ?_, fun u hu => ?_, fun j hj ho hn => ?_, fun u hu => ?_, fun j hj ho => ?_, b.inj, fun i k hik hk h1 h2 h3 h4 => ?_, fun i k hi hk h1 h2 h3 h4 h5 => ?_, fun e he ho => ?_, hown⟩
  · refine ⟨?_, (b.plain j hn h5).2⟩
    show gI E' j = -1
    rw [hE', if_neg (fun e => e.elim (fun e => hn (by rw [e]; exact hto)) fun e => h5 (hL5 j e))]
    exact (b.plain j hn h5).1
  · have hu' : u ∈ s.open_ := (hmem u).2 (.inl hu)
    show gI E' u = -1
    rw [hEo u (h.isop u hu') (fun e => by have := hmax u hu; omega)]
    exact b.openE u hu'
  · obtain ⟨e, e1, e2, e3, e4, _⟩ := hcl j hj ho hn
    exact ⟨e, e1, e2, e3, e4⟩
  · obtain ⟨e1, e2, j, e3, e4, e5, e6, e7, e8⟩ := b.els u hu
    refine ⟨e1, by omega, j, e3, e4, by omega, e6, fun hul => ?_, fun hul => ?_⟩
    · have hut : u ≠ t := fun e => by have := hmax u hul; omega
      show gI E' j = -1
      rw [hE', if_neg (fun e => e.elim (fun e => by rw [e] at e6; unfold opensP at hto; omega) fun e => hut (b.inj u t hu (e3.trans e.symm)))]
      exact e7 ((hmem u).2 (.inl hul))
    · show gI E' j = gI E' u ∧ (j : Int) < gI E' u
      by_cases e : u = t
      · subst e
        rw [hEt, hE', if_pos (.inr e3)]
        exact ⟨rfl, by omega⟩
      · have hun : u ∉ s.open_ := fun e' => ((hmem u).1 e').elim hul e
        obtain ⟨f1, f2⟩ := e8 hun
        rw [hEo u (by rw [e1]; exact .inr (.inr rfl)) e, hE', if_neg (fun e' => e'.elim (fun e' => by rw [e'] at e6; unfold opensP at hto; omega) fun e' => e (b.inj u t hu (e3.trans e'.symm)))]
        exact ⟨f1, f2⟩
  · have : j ≠ pc := fun e => by rw [e, h6] at ho; omega
    exact b.els5 j (by omega) ho
  · have hk' := hlt k hk h2
    have h4' : (k : Int) < gI E' i := h4
    show k ∉ l ∧ gI E' k < gI E' i
    by_cases e : i = t
    · subst e
      have hkl : k ∉ l := fun e => by have := hmax k e; omega
      obtain ⟨e', f1, _, _, _, f2⟩ := hcl k hk h2 hkl
      exact ⟨hkl, by have := f2 (by omega); rw [hEt, f1]; omega⟩
    · have hio : i ∉ s.open_ := fun e' => ((hmem i).1 e').elim h3 e
      rw [hEo i h1 e] at h4' ⊢
      obtain ⟨n1, n2⟩ := b.nest i k hik hk' h1 h2 hio h4'
      have hkt : k ≠ t := fun e => n1 (by rw [e]; exact hm)
      exact ⟨fun e => n1 ((hmem k).2 (.inl e)), by rw [hEo k h2 hkt]; exact n2⟩
  · have h5' : gI E' i = gI E' k := h5
    obtain ⟨ei, f1, _, _, _, f2⟩ := hcl i hi h1 h3
    obtain ⟨ek, g1, _, _, _, g2⟩ := hcl k hk h2 h4
    by_cases e1 : i = t
    · by_cases e2 : k = t
      · omega
      · have := g2 e2; rw [e1, hEt] at h5'; omega
    · by_cases e2 : k = t
      · have := f2 e1; rw [e2, hEt] at h5'; omega
      · rw [hEo i h1 e1, hEo k h2 e2] at h5'
        exact b.one i k (hlt i hi h1) (hlt k hk h2) h1 h2 (fun e' => ((hmem i).1 e').elim h3 e1) (fun e' => ((hmem k).1 e').elim h4 e2) h5'
  · show ∃ k, k < e ∧ opensP (ops.getD k 0) ∧ gI E' k = e
    by_cases e' : e = pc
    · subst e'; exact ⟨t, htp, hto, hEt⟩
    · obtain ⟨k, f1, f2, f3⟩ := b.used e (by omega) ho
      have hkt : k ≠ t := fun e' => by have := b.openE t hm; rw [e'] at f3; omega
      exact ⟨k, f1, f2, by rw [hEo k f2 hkt]; exact f3⟩
end
end Go.Proofs.YtiaoonlhgjfdjaaDoor
