/- What opens and ends in a code, plain: what holds of the walk at every step, labels, and the places where control can go. -/
import Derived.Test.YtiaoonlhgjfdjaaDoorCtl
namespace Go.Proofs.YtiaoonlhgjfdjaaDoor
open Go Go.RowKit

/-- What opens. -/
def opensP (op : Nat) : Prop := op = 2 ∨ op = 3 ∨ op = 4
instance (op : Nat) : Decidable (opensP op) := by unfold opensP; infer_instance
/-- What holds at every step. -/
structure Ms.In (ops : List Nat) (pc : Nat) (s : Ms) : Prop where
  ok : s.Ok ops.length pc
  sorted : s.open_.Pairwise (· < ·)
  isop : ∀ t ∈ s.open_, opensP (ops.getD t 0)
  rest : ∀ j, pc ≤ j → j < ops.length → s.elses[j]? = some (-1)
  restE : ∀ j, pc ≤ j → j < ops.length → s.ends[j]? = some (-1)
  low : ∀ (j : Nat) (v : Int), s.elses[j]? = some v → -1 ≤ v
  own : ∀ (j : Nat) (v : Int), s.owners[j]? = some v → -1 ≤ v ∧ v < j
  ends : ∀ (j : Nat) (v : Int), s.ends[j]? = some v → -1 ≤ v ∧ v < pc
  done : ∀ j, j < pc → opensP (ops.getD j 0) → j ∈ s.open_ ∨ ∃ v, s.ends[j]? = some v ∧ 0 ≤ v
  doneE : ∀ j, j < pc → ops.getD j 0 = 5 → (∃ t ∈ s.open_, s.elses[t]? = some (j : Int)) ∨ ∃ v, s.ends[j]? = some v ∧ 0 ≤ v
theorem startM_in (ops : List Nat) : (startM ops.length).In ops 0 := by
  have hr : ∀ j v, (List.replicate ops.length (-1 : Int))[j]? = some v → v = -1 := fun j v h => by
    rw [List.getElem?_replicate] at h
    split at h
    · exact (Option.some.inj h).symm
    · cases h
  have hs : ∀ j, 0 ≤ j → j < ops.length → (List.replicate ops.length (-1 : Int))[j]? = some (-1) := fun j _ h => by
    rw [List.getElem?_replicate, if_pos h]
  exact ⟨startM_ok _, List.Pairwise.nil, fun t h => by simp [startM] at h, hs, hs, fun j v h => by have := hr j v h; omega, fun j v h => by have := hr j v h; omega, fun j v h => by have := hr j v h; omega, fun j h => absurd h (by omega), fun j h => absurd h (by omega)⟩
theorem top_none {s : Ms} : s.top < 0 ↔ s.open_ = [] := by
  unfold Ms.top
  cases h : s.open_.getLast? with
  | none => simp [List.getLast?_eq_none_iff.1 h]
  | some t =>
    simp only
    constructor
    · intro h'; omega
    · intro h'; rw [h'] at h; simp at h
theorem top_low (s : Ms) : -1 ≤ s.top := by
  unfold Ms.top; split <;> omega
theorem top_some {s : Ms} (h : ¬ s.top < 0) : ∃ l, s.open_ = l ++ [s.top.toNat] := by
  rw [top_none] at h
  refine ⟨s.open_.dropLast, ?_⟩
  have := (List.dropLast_concat_getLast h).symm
  unfold Ms.top
  rw [List.getLast?_eq_some_getLast h]
  simpa using this
theorem get_set {l : List Int} {k j : Nat} {x v : Int} (h : (l.set k x)[j]? = some v) : (j = k ∧ v = x) ∨ (j ≠ k ∧ l[j]? = some v) := by
  rw [List.getElem?_set] at h
  split at h
  · split at h
    · exact .inl ⟨by omega, (Option.some.inj h).symm⟩
    · cases h
  · exact .inr ⟨by omega, h⟩
theorem set_get {l : List Int} {k j : Nat} {x v : Int} (h : l[j]? = some v) (hn : j ≠ k) : (l.set k x)[j]? = some v := by
  rw [List.getElem?_set, if_neg (by omega)]; exact h
theorem set_at {l : List Int} {k : Nat} {x : Int} (h : k < l.length) : (l.set k x)[k]? = some x := by
  rw [List.getElem?_set, if_pos rfl, if_pos h]
/-- The stack of pairs that control.Map has: what has not ended, its else's. -/
def Ms.stk (s : Ms) : List (Int × Int) := (-1, -1) :: s.open_.map fun (t : Nat) => ((t : Int), s.elses.getD t (-1))
theorem stk_len (s : Ms) : s.stk.length = s.open_.length + 1 := by simp [Ms.stk]
theorem stk_last (s : Ms) : s.stk[s.open_.length]? = some (s.top, if s.top < 0 then -1 else s.elses.getD s.top.toNat (-1)) := by
  by_cases h : s.top < 0
  · have h' := top_none.1 h
    have : s.top = -1 := by have := top_low s; omega
    simp [Ms.stk, h', this]
  · obtain ⟨l, hl⟩ := top_some h
    rw [if_neg h]
    have e : (s.top.toNat : Int) = s.top := by omega
    rw [Ms.stk, hl]
    simp only [List.length_append, List.length_cons, List.length_nil, List.map_append, List.map_cons, List.map_nil]
    rw [List.getElem?_cons_succ, List.getElem?_append_right (by simp)]
    simp [e]
theorem stk_push {s s' : Ms} {pc : Nat} (ho : s'.open_ = s.open_ ++ [pc]) (he : s'.elses = s.elses) (hp : s.elses[pc]? = some (-1)) : s'.stk = s.stk ++ [((pc : Int), -1)] := by
  simp [Ms.stk, ho, he, List.getD_eq_getElem?_getD, hp]
theorem stk_same {s s' : Ms} (ho : s'.open_ = s.open_) (he : s'.elses = s.elses) : s'.stk = s.stk := by simp [Ms.stk, ho, he]
theorem stk_pop {s s' : Ms} (ho : s'.open_ = s.open_.dropLast) (he : s'.elses = s.elses) (hn : s.open_ ≠ []) : s'.stk = s.stk.take s.open_.length := by
  rw [Ms.stk, Ms.stk, ho, he]
  cases h : s.open_ with
  | nil => exact absurd h hn
  | cons t l =>
    rw [List.dropLast_eq_take]
    simp [List.map_take]
theorem stk_else {ops : List Nat} {s s' : Ms} {pc : Nat} (h : s.In ops pc) (ht : ¬ s.top < 0) (ho : s'.open_ = s.open_) (he : s'.elses = s.elses.set s.top.toNat (pc : Int)) (hpc : pc < ops.length) :
    s'.stk = s.stk.set s.open_.length (s.top, (pc : Int)) := by
  obtain ⟨l, hl⟩ := top_some ht
  have hlt : ∀ t ∈ l, t < s.top.toNat := by
    have := h.sorted
    rw [hl] at this
    intro t hm
    exact (List.pairwise_append.1 this).2.2 t hm _ (by simp)
  have htn : s.top.toNat < s.elses.length := by
    have := h.ok.open_ s.top.toNat (by rw [hl]; simp)
    rw [h.ok.ll]; omega
  have e : (s.top.toNat : Int) = s.top := by omega
  rw [Ms.stk, Ms.stk, ho, he, hl]
  simp only [List.length_append, List.length_cons, List.length_nil, List.map_append, List.map_cons, List.map_nil, List.set_cons_succ]
  rw [List.set_append_right _ _ (by simp)]
  simp only [List.length_map, Nat.sub_self, List.set_cons_zero]
  have e1 : l.map (fun (t : Nat) => ((t : Int), (s.elses.set s.top.toNat (pc : Int)).getD t (-1))) = l.map (fun (t : Nat) => ((t : Int), s.elses.getD t (-1))) := by
    apply List.map_congr_left
    intro t hm
    have := hlt t hm
    rw [List.getD_eq_getElem?_getD, List.getElem?_set, if_neg (by omega), List.getD_eq_getElem?_getD]
  rw [e1, List.getD_eq_getElem?_getD, set_at htn, e]
  rfl
theorem stepM_in {ops : List Nat} {pc : Nat} {s : Ms} (h : s.In ops pc) (hpc : pc < ops.length) (h0 : (stepM ops pc s).1 = 0) : (stepM ops pc s).2.1.In ops (pc + 1) := by
  have hok := stepM_ok (ops := ops) h.ok
  have hlo := h.ok.lo; have hle := h.ok.le; have hll := h.ok.ll
  have htl := top_low s
  have htop : s.top < pc := by
    by_cases ht : s.top < 0
    · omega
    · obtain ⟨l, hl⟩ := top_some ht
      have := h.ok.open_ s.top.toNat (by rw [hl]; simp)
      omega
  have hown : ∀ (j : Nat) (v : Int), (s.owners.set pc s.top)[j]? = some v → -1 ≤ v ∧ v < j := fun j v hj => by
    rcases get_set hj with ⟨rfl, rfl⟩ | ⟨_, hj⟩
    · exact ⟨htl, htop⟩
    · exact h.own j v hj
  have hr : ∀ j, pc + 1 ≤ j → j < ops.length → s.elses[j]? = some (-1) := fun j a b => h.rest j (by omega) b
  have hrE : ∀ j, pc + 1 ≤ j → j < ops.length → s.ends[j]? = some (-1) := fun j a b => h.restE j (by omega) b
  have hen : ∀ (j : Nat) (v : Int), s.ends[j]? = some v → -1 ≤ v ∧ v < (pc + 1 : Nat) := fun j v hj => by have := h.ends j v hj; omega
  revert hok h0
  unfold stepM
  split
  · rename_i hop
    split
    · intro h0; simp at h0
    · intro _ hok
      refine ⟨hok, ?_, ?_, hr, hrE, h.low, hown, hen, ?_, ?_⟩
      · exact List.pairwise_append.2 ⟨h.sorted, by simp, fun a ha b hb => by simp at hb; subst hb; exact h.ok.open_ a ha⟩
      · intro t ht
        rcases List.mem_append.1 ht with h1 | h1
        · exact h.isop t h1
        · simp at h1; subst h1; exact hop
      · intro j hj ho
        by_cases e : j = pc
        · subst e; exact .inl (by simp)
        · rcases h.done j (by omega) ho with h1 | h1
          · exact .inl (List.mem_append_left _ h1)
          · exact .inr h1
      · intro j hj ho
        by_cases e : j = pc
        · subst e; omega
        · rcases h.doneE j (by omega) ho with ⟨t, h1, h2⟩ | h1
          · exact .inl ⟨t, List.mem_append_left _ h1, h2⟩
          · exact .inr h1
  split
  · rename_i hno hop
    split
    · intro h0; simp at h0
    · rename_i hc
      intro _ hok
      have ht : ¬ s.top < 0 := fun h' => hc (.inl h')
      have hel : ¬ 0 ≤ s.elses.getD s.top.toNat 0 := fun h' => hc (.inr (.inr h'))
      obtain ⟨l, hl⟩ := top_some ht
      have hmem : s.top.toNat ∈ s.open_ := by rw [hl]; simp
      have htn : s.top.toNat < s.elses.length := by have := h.ok.open_ _ hmem; rw [hll]; omega
      refine ⟨hok, h.sorted, h.isop, fun j a b => set_get (hr j a b) (by omega), hrE, ?_, hown, hen, ?_, ?_⟩
      · intro j v hj
        rcases get_set hj with ⟨_, rfl⟩ | ⟨_, hj⟩
        · omega
        · exact h.low j v hj
      · intro j hj ho
        by_cases e : j = pc
        · subst e; unfold opensP at ho; omega
        · exact h.done j (by omega) ho
      · intro j hj ho
        by_cases e : j = pc
        · subst e; exact .inl ⟨s.top.toNat, hmem, set_at htn⟩
        · rcases h.doneE j (by omega) ho with ⟨t, h1, h2⟩ | h1
          · refine .inl ⟨t, h1, set_get h2 ?_⟩
            rintro rfl
            apply hel
            rw [List.getD_eq_getElem?_getD, h2]
            simp
          · exact .inr h1
  split
  · rename_i hno1 hno hop
    have hns : ∀ j, j < pc + 1 → opensP (ops.getD j 0) → j < pc := fun j hj ho => by
      by_cases e : j = pc
      · subst e; unfold opensP at ho; omega
      · omega
    have hns5 : ∀ j, j < pc + 1 → ops.getD j 0 = 5 → j < pc := fun j hj ho => by
      by_cases e : j = pc
      · subst e; omega
      · omega
    split
    · intro _ hok
      exact ⟨hok, h.sorted, h.isop, hr, hrE, h.low, hown, hen, fun j hj ho => h.done j (hns j hj ho) ho, fun j hj ho => h.doneE j (hns5 j hj ho) ho⟩
    · rename_i ht
      intro _ hok
      obtain ⟨l, hl⟩ := top_some ht
      have hmem : s.top.toNat ∈ s.open_ := by rw [hl]; simp
      have htn : s.top.toNat < pc := h.ok.open_ _ hmem
      have hdl : s.open_.dropLast = l := by rw [hl]; simp
      have hsub : ∀ t ∈ s.open_, t ∈ s.open_.dropLast ∨ t = s.top.toNat := fun t hm => by
        rw [hdl]; rw [hl] at hm; simpa using hm
      -- the list of ends, told apart
      have hE : ∀ (j : Nat) (v : Int), (if 0 ≤ s.elses.getD s.top.toNat 0 then (s.ends.set s.top.toNat (pc : Int)).set (s.elses.getD s.top.toNat 0).toNat (pc : Int) else s.ends.set s.top.toNat (pc : Int))[j]? = some v → v = pc ∨ s.ends[j]? = some v := by
        intro j v hj
        split at hj
        · rcases get_set hj with ⟨_, rfl⟩ | ⟨_, hj⟩
          · exact .inl rfl
          · rcases get_set hj with ⟨_, rfl⟩ | ⟨_, hj⟩
            · exact .inl rfl
            · exact .inr hj
        · rcases get_set hj with ⟨_, rfl⟩ | ⟨_, hj⟩
          · exact .inl rfl
          · exact .inr hj
      have hkeep : ∀ (j : Nat), (∃ (v : Int), s.ends[j]? = some v ∧ 0 ≤ v) → ∃ (v : Int), (if 0 ≤ s.elses.getD s.top.toNat 0 then (s.ends.set s.top.toNat (pc : Int)).set (s.elses.getD s.top.toNat 0).toNat (pc : Int) else s.ends.set s.top.toNat (pc : Int))[j]? = some v ∧ 0 ≤ v := by
        rintro j ⟨v, hv, hv0⟩
        have hjl : j < s.ends.length := (List.getElem?_eq_some_iff.1 hv).1
        have key : ∀ (m : List Int) (k : Nat), j < m.length → (∃ v, m[j]? = some v ∧ 0 ≤ v) → ∃ v, (m.set k (pc : Int))[j]? = some v ∧ 0 ≤ v := by
          rintro m k hm ⟨v, hv, hv0⟩
          by_cases e : j = k
          · subst e; exact ⟨_, set_at hm, by omega⟩
          · exact ⟨v, set_get hv e, hv0⟩
        split
        · exact key _ _ (by simpa using hjl) (key _ _ hjl ⟨v, hv, hv0⟩)
        · exact key _ _ hjl ⟨v, hv, hv0⟩
      have htopE : ∃ (v : Int), (if 0 ≤ s.elses.getD s.top.toNat 0 then (s.ends.set s.top.toNat (pc : Int)).set (s.elses.getD s.top.toNat 0).toNat (pc : Int) else s.ends.set s.top.toNat (pc : Int))[s.top.toNat]? = some v ∧ 0 ≤ v := by
        have h1 : (s.ends.set s.top.toNat (pc : Int))[s.top.toNat]? = some (pc : Int) := set_at (by omega)
        split
        · by_cases e : s.top.toNat = (s.elses.getD s.top.toNat 0).toNat
          · refine ⟨(pc : Int), ?_, by omega⟩
            rw [← e]; exact set_at (by simp; omega)
          · exact ⟨_, set_get h1 e, by omega⟩
        · exact ⟨_, h1, by omega⟩
      refine ⟨hok, h.sorted.sublist (List.dropLast_sublist _), fun t ht' => h.isop t (List.dropLast_subset _ ht'), hr, ?_, h.low, hown, ?_, ?_, ?_⟩
      · intro j a b
        have h1 := hrE j a b
        have h2 : (s.ends.set s.top.toNat (pc : Int))[j]? = some (-1) := set_get h1 (by omega)
        show (if 0 ≤ s.elses.getD s.top.toNat 0 then (s.ends.set s.top.toNat (pc : Int)).set (s.elses.getD s.top.toNat 0).toNat (pc : Int) else s.ends.set s.top.toNat (pc : Int))[j]? = _
        split
        · rename_i hge
          refine set_get h2 ?_
          have : s.elses[s.top.toNat]? = some (s.elses.getD s.top.toNat 0) := by
            rw [List.getD_eq_getElem?_getD, List.getElem?_eq_getElem (by omega)]; simp
          have := h.ok.els _ _ this
          omega
        · exact h2
      · intro j v hj
        rcases hE j v hj with rfl | h1
        · omega
        · exact hen j v h1
      · intro j hj ho
        rcases h.done j (hns j hj ho) ho with h1 | h1
        · rcases hsub j h1 with h2 | rfl
          · exact .inl h2
          · exact .inr htopE
        · exact .inr (hkeep j h1)
      · intro j hj ho
        have hj' := hns5 j hj ho
        rcases h.doneE j hj' ho with ⟨t, h1, h2⟩ | h1
        · rcases hsub t h1 with h3 | rfl
          · exact .inl ⟨t, h3, h2⟩
          · have e : s.elses.getD s.top.toNat 0 = (j : Int) := by rw [List.getD_eq_getElem?_getD, h2]; rfl
            refine .inr ⟨(pc : Int), ?_, by omega⟩
            show (if 0 ≤ s.elses.getD s.top.toNat 0 then (s.ends.set s.top.toNat (pc : Int)).set (s.elses.getD s.top.toNat 0).toNat (pc : Int) else s.ends.set s.top.toNat (pc : Int))[j]? = _
            rw [e, if_pos (by omega)]
            exact set_at (by simp; omega)
        · exact .inr (hkeep j h1)
  · rename_i h1 h2 h3
    intro _ hok
    refine ⟨hok, h.sorted, h.isop, hr, hrE, h.low, hown, hen, fun j hj ho => ?_, fun j hj ho => ?_⟩
    · by_cases e : j = pc
      · subst e; exact absurd ho h1
      · exact h.done j (by omega) ho
    · by_cases e : j = pc
      · subst e; exact absurd ho h2
      · exact h.doneE j (by omega) ho
end Go.Proofs.YtiaoonlhgjfdjaaDoor
