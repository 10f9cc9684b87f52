/- What opens and ends in a code, plain: control.Map and flagonref09.Map, as one walk over the opcodes. What opens and ends in a code, plain: what holds of the walk at every step, labels, and the places where control can go. Labels, and the places where control can go, plain: what control.Map's answer gives; sorted lists without doubles. Three rows of ints, each a block of its own, and a stack beside them. The walk over a code, told step by step: what the program's loops go by. -/
import Derived.WalkKit
import Derived.Lib.SlicesCompact
import Derived.Test.YtfhkjahjenpbgaaDoorMHead0
import Derived.Test.YtfhkjahjenpbgaaDoorMLib
namespace Go.Proofs.YtfhkjahjenpbgaaDoor
open Go Go.RowKit

/-- How the walk stands: the three lists told so far, what has not ended (the innermost last). -/
structure Ms where
  ends : List Int
  elses : List Int
  owners : List Int
  open_ : List Nat
def Ms.top (s : Ms) : Int := match s.open_.getLast? with | none => -1 | some t => t
/-- One instruction: an error, or 0; the state; is the body's end met? -/
def stepM (ops : List Nat) (pc : Nat) (s : Ms) : Int × Ms × Bool :=
  if ops.getD pc 0 = 2 ∨ ops.getD pc 0 = 3 ∨ ops.getD pc 0 = 4 then
    (if s.open_.length = 32 then (35, { s with owners := s.owners.set pc s.top }, false) else (0, { s with owners := s.owners.set pc s.top, open_ := s.open_ ++ [pc] }, false))
  else if ops.getD pc 0 = 5 then
    (if s.top < 0 ∨ ops.getD s.top.toNat 0 ≠ 4 ∨ 0 ≤ s.elses.getD s.top.toNat 0 then (37, { s with owners := s.owners.set pc s.top }, false)
     else (0, { s with owners := s.owners.set pc s.top, elses := s.elses.set s.top.toNat pc }, false))
  else if ops.getD pc 0 = 6 then
    (if s.top < 0 then (0, { s with owners := s.owners.set pc s.top }, true)
     else (0, { s with owners := s.owners.set pc s.top, ends := if 0 ≤ s.elses.getD s.top.toNat 0 then (s.ends.set s.top.toNat pc).set (s.elses.getD s.top.toNat 0).toNat pc else s.ends.set s.top.toNat pc, open_ := s.open_.dropLast }, false))
  else (0, { s with owners := s.owners.set pc s.top }, false)
/-- From pc on, f instructions: the state, the error, the place. -/
def goM (ops : List Nat) : Nat → Nat → Ms → Ms × Int × Nat
  | 0, pc, s => (s, 38, pc)
  | f + 1, pc, s =>
    if (stepM ops pc s).1 ≠ 0 then ((stepM ops pc s).2.1, (stepM ops pc s).1, pc)
    else if (stepM ops pc s).2.2 = true then (if pc + 1 < ops.length then ((stepM ops pc s).2.1, 19, pc + 1) else ((stepM ops pc s).2.1, 0, 0))
    else goM ops f (pc + 1) (stepM ops pc s).2.1
def startM (n : Nat) : Ms := ⟨List.replicate n (-1), List.replicate n (-1), List.replicate n (-1), []⟩
/-- What Map answers: the three lists (none where it is refused), the error, the place. -/
def mapP (ops : List Nat) : List Int × List Int × List Int × Int × Nat :=
  if (goM ops ops.length 0 (startM ops.length)).2.1 = 0 then
    ((goM ops ops.length 0 (startM ops.length)).1.ends, (goM ops ops.length 0 (startM ops.length)).1.elses, (goM ops ops.length 0 (startM ops.length)).1.owners, 0, 0)
  else ([], [], [], (goM ops ops.length 0 (startM ops.length)).2.1, (goM ops ops.length 0 (startM ops.length)).2.2)
example : mapP [4, 5, 6, 6] = ([2, 2, -1, -1], [1, -1, -1, -1], [-1, 0, 0, -1], 0, 0) := by decide
example : mapP [4, 5, 6] = ([], [], [], 38, 3) := by decide
example : mapP [6, 1] = ([], [], [], 19, 1) := by decide
/-- The lists keep their length; places lie below the pc. -/
structure Ms.Ok (n pc : Nat) (s : Ms) : Prop where
  le : s.ends.length = n
  ll : s.elses.length = n
  lo : s.owners.length = n
  open_ : ∀ t ∈ s.open_, t < pc
  deep : s.open_.length ≤ 32
  els : ∀ (j : Nat) (v : Int), s.elses[j]? = some v → v < pc
theorem startM_ok (n : Nat) : (startM n).Ok n 0 := by
  refine ⟨by simp [startM], by simp [startM], by simp [startM], fun t h => by simp [startM] at h, by simp [startM], fun j v h => ?_⟩
  have h' : (List.replicate n (-1 : Int))[j]? = some v := h
  rw [List.getElem?_replicate] at h'
  split at h'
  · have := Option.some.inj h'; omega
  · cases h'
theorem els_set {l : List Int} {pc : Nat} (h : ∀ (j : Nat) (v : Int), l[j]? = some v → v < pc) (k : Nat) : ∀ (j : Nat) (v : Int), (l.set k (pc : Int))[j]? = some v → v < ((pc + 1 : Nat) : Int) := by
  intro j v hj
  rw [List.getElem?_set] at hj
  split at hj
  · split at hj
    · have := Option.some.inj hj; omega
    · cases hj
  · have := h j v hj; omega
theorem stepM_ok {ops : List Nat} {n pc : Nat} {s : Ms} (h : s.Ok n pc) : (stepM ops pc s).2.1.Ok n (pc + 1) := by
  have ho : ∀ t ∈ s.open_, t < pc + 1 := fun t ht => by have := h.open_ t ht; omega
  have he : ∀ (j : Nat) (v : Int), s.elses[j]? = some v → v < ((pc + 1 : Nat) : Int) := fun j v hj => by have := h.els j v hj; omega
  have hd := h.deep
  have b1 : ∀ x, (s.owners.set pc x).length = n := fun x => by rw [List.length_set]; exact h.lo
  unfold stepM
  split
  · split
    · exact ⟨h.le, h.ll, b1 _, ho, hd, he⟩
    · rename_i hn
      exact ⟨h.le, h.ll, b1 _, fun t ht => by rcases List.mem_append.1 ht with h1 | h1; exact ho t h1; simp at h1; omega, by simp; omega, he⟩
  split
  · split
    · exact ⟨h.le, h.ll, b1 _, ho, hd, he⟩
    · exact ⟨h.le, by rw [← h.ll]; exact List.length_set, b1 _, ho, hd, els_set h.els _⟩
  split
  · split
    · exact ⟨h.le, h.ll, b1 _, ho, hd, he⟩
    · exact ⟨by simp only; split <;> simp [h.le], h.ll, b1 _, fun t ht => ho t (List.dropLast_subset _ ht), by show s.open_.dropLast.length ≤ 32; rw [List.length_dropLast]; omega, he⟩
  · exact ⟨h.le, h.ll, b1 _, ho, hd, he⟩
end Go.Proofs.YtfhkjahjenpbgaaDoor
namespace Go.Proofs.YtfhkjahjenpbgaaDoor
open Go Go.RowKit

/-- What opens. -/
def opensP (op : Nat) : Prop := op = 2 ∨ op = 3 ∨ op = 4
instance (op : Nat) : Decidable (opensP op) := by unfold opensP; infer_instance
/-- What holds at every step. -/
structure Ms.In (ops : List Nat) (pc : Nat) (s : Ms) : Prop where
  ok : s.Ok ops.length pc
  sorted : s.open_.Pairwise (· < ·)
  isop : ∀ t ∈ s.open_, opensP (ops.getD t 0)
  rest : ∀ j, pc ≤ j → j < ops.length → s.elses[j]? = some (-1)
  restE : ∀ j, pc ≤ j → j < ops.length → s.ends[j]? = some (-1)
  low : ∀ (j : Nat) (v : Int), s.elses[j]? = some v → -1 ≤ v
  own : ∀ (j : Nat) (v : Int), s.owners[j]? = some v → -1 ≤ v ∧ v < j
  ends : ∀ (j : Nat) (v : Int), s.ends[j]? = some v → -1 ≤ v ∧ v < pc
  done : ∀ j, j < pc → opensP (ops.getD j 0) → j ∈ s.open_ ∨ ∃ v, s.ends[j]? = some v ∧ 0 ≤ v
  doneE : ∀ j, j < pc → ops.getD j 0 = 5 → (∃ t ∈ s.open_, s.elses[t]? = some (j : Int)) ∨ ∃ v, s.ends[j]? = some v ∧ 0 ≤ v
theorem startM_in (ops : List Nat) : (startM ops.length).In ops 0 := by
  have hr : ∀ j v, (List.replicate ops.length (-1 : Int))[j]? = some v → v = -1 := fun j v h => by
    rw [List.getElem?_replicate] at h
    split at h
    · exact (Option.some.inj h).symm
    · cases h
  have hs : ∀ j, 0 ≤ j → j < ops.length → (List.replicate ops.length (-1 : Int))[j]? = some (-1) := fun j _ h => by
    rw [List.getElem?_replicate, if_pos h]
  exact ⟨startM_ok _, List.Pairwise.nil, fun t h => by simp [startM] at h, hs, hs, fun j v h => by have := hr j v h; omega, fun j v h => by have := hr j v h; omega, fun j v h => by have := hr j v h; omega, fun j h => absurd h (by omega), fun j h => absurd h (by omega)⟩
theorem top_none {s : Ms} : s.top < 0 ↔ s.open_ = [] := by
  unfold Ms.top
  cases h : s.open_.getLast? with
  | none => simp [List.getLast?_eq_none_iff.1 h]
  | some t =>
    simp only
    constructor
    · intro h'; omega
    · intro h'; rw [h'] at h; simp at h
theorem top_low (s : Ms) : -1 ≤ s.top := by
  unfold Ms.top; split <;> omega
theorem top_some {s : Ms} (h : ¬ s.top < 0) : ∃ l, s.open_ = l ++ [s.top.toNat] := by
  rw [top_none] at h
  refine ⟨s.open_.dropLast, ?_⟩
  have := (List.dropLast_concat_getLast h).symm
  unfold Ms.top
  rw [List.getLast?_eq_some_getLast h]
  simpa using this
theorem get_set {l : List Int} {k j : Nat} {x v : Int} (h : (l.set k x)[j]? = some v) : (j = k ∧ v = x) ∨ (j ≠ k ∧ l[j]? = some v) := by
  rw [List.getElem?_set] at h
  split at h
  · split at h
    · exact .inl ⟨by omega, (Option.some.inj h).symm⟩
    · cases h
  · exact .inr ⟨by omega, h⟩
theorem set_get {l : List Int} {k j : Nat} {x v : Int} (h : l[j]? = some v) (hn : j ≠ k) : (l.set k x)[j]? = some v := by
  rw [List.getElem?_set, if_neg (by omega)]; exact h
theorem set_at {l : List Int} {k : Nat} {x : Int} (h : k < l.length) : (l.set k x)[k]? = some x := by
  rw [List.getElem?_set, if_pos rfl, if_pos h]
/-- The stack of pairs that control.Map has: what has not ended, its else's. -/
def Ms.stk (s : Ms) : List (Int × Int) := (-1, -1) :: s.open_.map fun (t : Nat) => ((t : Int), s.elses.getD t (-1))
theorem stk_len (s : Ms) : s.stk.length = s.open_.length + 1 := by simp [Ms.stk]
theorem stk_last (s : Ms) : s.stk[s.open_.length]? = some (s.top, if s.top < 0 then -1 else s.elses.getD s.top.toNat (-1)) := by
  by_cases h : s.top < 0
  · have h' := top_none.1 h
    have : s.top = -1 := by have := top_low s; omega
    simp [Ms.stk, h', this]
  · obtain ⟨l, hl⟩ := top_some h
    rw [if_neg h]
    have e : (s.top.toNat : Int) = s.top := by omega
    rw [Ms.stk, hl]
    simp only [List.length_append, List.length_cons, List.length_nil, List.map_append, List.map_cons, List.map_nil]
    rw [List.getElem?_cons_succ, List.getElem?_append_right (by simp)]
    simp [e]
theorem stk_push {s s' : Ms} {pc : Nat} (ho : s'.open_ = s.open_ ++ [pc]) (he : s'.elses = s.elses) (hp : s.elses[pc]? = some (-1)) : s'.stk = s.stk ++ [((pc : Int), -1)] := by
  simp [Ms.stk, ho, he, List.getD_eq_getElem?_getD, hp]
theorem stk_same {s s' : Ms} (ho : s'.open_ = s.open_) (he : s'.elses = s.elses) : s'.stk = s.stk := by simp [Ms.stk, ho, he]
theorem stk_pop {s s' : Ms} (ho : s'.open_ = s.open_.dropLast) (he : s'.elses = s.elses) (hn : s.open_ ≠ []) : s'.stk = s.stk.take s.open_.length := by
  rw [Ms.stk, Ms.stk, ho, he]
  cases h : s.open_ with
  | nil => exact absurd h hn
  | cons t l =>
    rw [List.dropLast_eq_take]
    simp [List.map_take]
theorem stk_else {ops : List Nat} {s s' : Ms} {pc : Nat} (h : s.In ops pc) (ht : ¬ s.top < 0) (ho : s'.open_ = s.open_) (he : s'.elses = s.elses.set s.top.toNat (pc : Int)) (hpc : pc < ops.length) :
    s'.stk = s.stk.set s.open_.length (s.top, (pc : Int)) := by
  obtain ⟨l, hl⟩ := top_some ht
  have hlt : ∀ t ∈ l, t < s.top.toNat := by
    have := h.sorted
    rw [hl] at this
    intro t hm
    exact (List.pairwise_append.1 this).2.2 t hm _ (by simp)
  have htn : s.top.toNat < s.elses.length := by
    have := h.ok.open_ s.top.toNat (by rw [hl]; simp)
    rw [h.ok.ll]; omega
  have e : (s.top.toNat : Int) = s.top := by omega
  rw [Ms.stk, Ms.stk, ho, he, hl]
  simp only [List.length_append, List.length_cons, List.length_nil, List.map_append, List.map_cons, List.map_nil, List.set_cons_succ]
  rw [List.set_append_right _ _ (by simp)]
  simp only [List.length_map, Nat.sub_self, List.set_cons_zero]
  have e1 : l.map (fun (t : Nat) => ((t : Int), (s.elses.set s.top.toNat (pc : Int)).getD t (-1))) = l.map (fun (t : Nat) => ((t : Int), s.elses.getD t (-1))) := by
    apply List.map_congr_left
    intro t hm
    have := hlt t hm
    rw [List.getD_eq_getElem?_getD, List.getElem?_set, if_neg (by omega), List.getD_eq_getElem?_getD]
  rw [e1, List.getD_eq_getElem?_getD, set_at htn, e]
  rfl
theorem stepM_in {ops : List Nat} {pc : Nat} {s : Ms} (h : s.In ops pc) (hpc : pc < ops.length) (h0 : (stepM ops pc s).1 = 0) : (stepM ops pc s).2.1.In ops (pc + 1) := by
  have hok := stepM_ok (ops := ops) h.ok
  have hlo := h.ok.lo; have hle := h.ok.le; have hll := h.ok.ll
  have htl := top_low s
  have htop : s.top < pc := by
    by_cases ht : s.top < 0
    · omega
    · obtain ⟨l, hl⟩ := top_some ht
      have := h.ok.open_ s.top.toNat (by rw [hl]; simp)
      omega
  have hown : ∀ (j : Nat) (v : Int), (s.owners.set pc s.top)[j]? = some v → -1 ≤ v ∧ v < j := fun j v hj => by
    rcases get_set hj with ⟨rfl, rfl⟩ | ⟨_, hj⟩
    · exact ⟨htl, htop⟩
    · exact h.own j v hj
  have hr : ∀ j, pc + 1 ≤ j → j < ops.length → s.elses[j]? = some (-1) := fun j a b => h.rest j (by omega) b
  have hrE : ∀ j, pc + 1 ≤ j → j < ops.length → s.ends[j]? = some (-1) := fun j a b => h.restE j (by omega) b
  have hen : ∀ (j : Nat) (v : Int), s.ends[j]? = some v → -1 ≤ v ∧ v < (pc + 1 : Nat) := fun j v hj => by have := h.ends j v hj; omega
  revert hok h0
  unfold stepM
  split
  · rename_i hop
    split
    · intro h0; simp at h0
    · intro _ hok
      refine ⟨hok, ?_, ?_, hr, hrE, h.low, hown, hen, ?_, ?_⟩
      · exact List.pairwise_append.2 ⟨h.sorted, by simp, fun a ha b hb => by simp at hb; subst hb; exact h.ok.open_ a ha⟩
      · intro t ht
        rcases List.mem_append.1 ht with h1 | h1
        · exact h.isop t h1
        · simp at h1; subst h1; exact hop
      · intro j hj ho
        by_cases e : j = pc
        · subst e; exact .inl (by simp)
        · rcases h.done j (by omega) ho with h1 | h1
          · exact .inl (List.mem_append_left _ h1)
          · exact .inr h1
      · intro j hj ho
        by_cases e : j = pc
        · subst e; omega
        · rcases h.doneE j (by omega) ho with ⟨t, h1, h2⟩ | h1
          · exact .inl ⟨t, List.mem_append_left _ h1, h2⟩
          · exact .inr h1
  split
  · rename_i hno hop
    split
    · intro h0; simp at h0
    · rename_i hc
      intro _ hok
      have ht : ¬ s.top < 0 := fun h' => hc (.inl h')
      have hel : ¬ 0 ≤ s.elses.getD s.top.toNat 0 := fun h' => hc (.inr (.inr h'))
      obtain ⟨l, hl⟩ := top_some ht
      have hmem : s.top.toNat ∈ s.open_ := by rw [hl]; simp
      have htn : s.top.toNat < s.elses.length := by have := h.ok.open_ _ hmem; rw [hll]; omega
      refine ⟨hok, h.sorted, h.isop, fun j a b => set_get (hr j a b) (by omega), hrE, ?_, hown, hen, ?_, ?_⟩
      · intro j v hj
        rcases get_set hj with ⟨_, rfl⟩ | ⟨_, hj⟩
        · omega
        · exact h.low j v hj
      · intro j hj ho
        by_cases e : j = pc
        · subst e; unfold opensP at ho; omega
        · exact h.done j (by omega) ho
      · intro j hj ho
        by_cases e : j = pc
        · subst e; exact .inl ⟨s.top.toNat, hmem, set_at htn⟩
        · rcases h.doneE j (by omega) ho with ⟨t, h1, h2⟩ | h1
          · refine .inl ⟨t, h1, set_get h2 ?_⟩
            rintro rfl
            apply hel
            rw [List.getD_eq_getElem?_getD, h2]
            simp
          · exact .inr h1
  split
  · rename_i hno1 hno hop
    have hns : ∀ j, j < pc + 1 → opensP (ops.getD j 0) → j < pc := fun j hj ho => by
      by_cases e : j = pc
      · subst e; unfold opensP at ho; omega
      · omega
    have hns5 : ∀ j, j < pc + 1 → ops.getD j 0 = 5 → j < pc := fun j hj ho => by
      by_cases e : j = pc
      · subst e; omega
      · omega
    split
    · intro _ hok
      exact ⟨hok, h.sorted, h.isop, hr, hrE, h.low, hown, hen, fun j hj ho => h.done j (hns j hj ho) ho, fun j hj ho => h.doneE j (hns5 j hj ho) ho⟩
    · rename_i ht
      intro _ hok
      obtain ⟨l, hl⟩ := top_some ht
      have hmem : s.top.toNat ∈ s.open_ := by rw [hl]; simp
      have htn : s.top.toNat < pc := h.ok.open_ _ hmem
      have hdl : s.open_.dropLast = l := by rw [hl]; simp
      have hsub : ∀ t ∈ s.open_, t ∈ s.open_.dropLast ∨ t = s.top.toNat := fun t hm => by
        rw [hdl]; rw [hl] at hm; simpa using hm
      -- the list of ends, told apart
      have hE : ∀ (j : Nat) (v : Int), (if 0 ≤ s.elses.getD s.top.toNat 0 then (s.ends.set s.top.toNat (pc : Int)).set (s.elses.getD s.top.toNat 0).toNat (pc : Int) else s.ends.set s.top.toNat (pc : Int))[j]? = some v → v = pc ∨ s.ends[j]? = some v := by
        intro j v hj
        split at hj
        · rcases get_set hj with ⟨_, rfl⟩ | ⟨_, hj⟩
          · exact .inl rfl
          · rcases get_set hj with ⟨_, rfl⟩ | ⟨_, hj⟩
            · exact .inl rfl
            · exact .inr hj
        · rcases get_set hj with ⟨_, rfl⟩ | ⟨_, hj⟩
          · exact .inl rfl
          · exact .inr hj
      have hkeep : ∀ (j : Nat), (∃ (v : Int), s.ends[j]? = some v ∧ 0 ≤ v) → ∃ (v : Int), (if 0 ≤ s.elses.getD s.top.toNat 0 then (s.ends.set s.top.toNat (pc : Int)).set (s.elses.getD s.top.toNat 0).toNat (pc : Int) else s.ends.set s.top.toNat (pc : Int))[j]? = some v ∧ 0 ≤ v := by
        rintro j ⟨v, hv, hv0⟩
        have hjl : j < s.ends.length := (List.getElem?_eq_some_iff.1 hv).1
        have key : ∀ (m : List Int) (k : Nat), j < m.length → (∃ v, m[j]? = some v ∧ 0 ≤ v) → ∃ v, (m.set k (pc : Int))[j]? = some v ∧ 0 ≤ v := by
          rintro m k hm ⟨v, hv, hv0⟩
          by_cases e : j = k
          · subst e; exact ⟨_, set_at hm, by omega⟩
          · exact ⟨v, set_get hv e, hv0⟩
        split
        · exact key _ _ (by simpa using hjl) (key _ _ hjl ⟨v, hv, hv0⟩)
        · exact key _ _ hjl ⟨v, hv, hv0⟩
      have htopE : ∃ (v : Int), (if 0 ≤ s.elses.getD s.top.toNat 0 then (s.ends.set s.top.toNat (pc : Int)).set (s.elses.getD s.top.toNat 0).toNat (pc : Int) else s.ends.set s.top.toNat (pc : Int))[s.top.toNat]? = some v ∧ 0 ≤ v := by
        have h1 : (s.ends.set s.top.toNat (pc : Int))[s.top.toNat]? = some (pc : Int) := set_at (by omega)
        split
        · by_cases e : s.top.toNat = (s.elses.getD s.top.toNat 0).toNat
          · refine ⟨(pc : Int), ?_, by omega⟩
            rw [← e]; exact set_at (by simp; omega)
          · exact ⟨_, set_get h1 e, by omega⟩
        · exact ⟨_, h1, by omega⟩
      refine ⟨hok, h.sorted.sublist (List.dropLast_sublist _), fun t ht' => h.isop t (List.dropLast_subset _ ht'), hr, ?_, h.low, hown, ?_, ?_, ?_⟩
      · intro j a b
        have h1 := hrE j a b
        have h2 : (s.ends.set s.top.toNat (pc : Int))[j]? = some (-1) := set_get h1 (by omega)
        show (if 0 ≤ s.elses.getD s.top.toNat 0 then (s.ends.set s.top.toNat (pc : Int)).set (s.elses.getD s.top.toNat 0).toNat (pc : Int) else s.ends.set s.top.toNat (pc : Int))[j]? = _
        split
        · rename_i hge
          refine set_get h2 ?_
          have : s.elses[s.top.toNat]? = some (s.elses.getD s.top.toNat 0) := by
            rw [List.getD_eq_getElem?_getD, List.getElem?_eq_getElem (by omega)]; simp
          have := h.ok.els _ _ this
          omega
        · exact h2
      · intro j v hj
        rcases hE j v hj with rfl | h1
        · omega
        · exact hen j v h1
      · intro j hj ho
        rcases h.done j (hns j hj ho) ho with h1 | h1
        · rcases hsub j h1 with h2 | rfl
          · exact .inl h2
          · exact .inr htopE
        · exact .inr (hkeep j h1)
      · intro j hj ho
        have hj' := hns5 j hj ho
        rcases h.doneE j hj' ho with ⟨t, h1, h2⟩ | h1
        · rcases hsub t h1 with h3 | rfl
          · exact .inl ⟨t, h3, h2⟩
          · have e : s.elses.getD s.top.toNat 0 = (j : Int) := by rw [List.getD_eq_getElem?_getD, h2]; rfl
            refine .inr ⟨(pc : Int), ?_, by omega⟩
            show (if 0 ≤ s.elses.getD s.top.toNat 0 then (s.ends.set s.top.toNat (pc : Int)).set (s.elses.getD s.top.toNat 0).toNat (pc : Int) else s.ends.set s.top.toNat (pc : Int))[j]? = _
            rw [e, if_pos (by omega)]
            exact set_at (by simp; omega)
        · exact .inr (hkeep j h1)
  · rename_i h1 h2 h3
    intro _ hok
    refine ⟨hok, h.sorted, h.isop, hr, hrE, h.low, hown, hen, fun j hj ho => ?_, fun j hj ho => ?_⟩
    · by_cases e : j = pc
      · subst e; exact absurd ho h1
      · exact h.done j (by omega) ho
    · by_cases e : j = pc
      · subst e; exact absurd ho h2
      · exact h.doneE j (by omega) ho
end Go.Proofs.YtfhkjahjenpbgaaDoor
namespace Go.Proofs.YtfhkjahjenpbgaaDoor
open Go Go.RowKit

/-- What is true of the lists that are told. -/
structure MapOk (ops : List Nat) (ends elses owners : List Int) : Prop where
  le : ends.length = ops.length
  ll : elses.length = ops.length
  lo : owners.length = ops.length
  own : ∀ (j : Nat) (v : Int), owners[j]? = some v → -1 ≤ v ∧ v < j
  end_ : ∀ (j : Nat) (v : Int), ends[j]? = some v → -1 ≤ v ∧ v < ops.length
  els : ∀ (j : Nat) (v : Int), elses[j]? = some v → -1 ≤ v ∧ v < ops.length
  opn : ∀ j, j < ops.length → opensP (ops.getD j 0) → ∃ v, ends[j]? = some v ∧ 0 ≤ v
  opnE : ∀ j, j < ops.length → ops.getD j 0 = 5 → ∃ v, ends[j]? = some v ∧ 0 ≤ v
theorem stepM_true {ops : List Nat} {pc : Nat} {s : Ms} (h : (stepM ops pc s).2.2 = true) : (stepM ops pc s).2.1.open_ = [] := by
  revert h
  unfold stepM
  split
  · split <;> intro h <;> simp at h
  split
  · split <;> intro h <;> simp at h
  split
  · split
    · rename_i ht; intro _; exact top_none.1 ht
    · intro h; simp at h
  · intro h; simp at h
theorem goM_in {ops : List Nat} : ∀ (f pc : Nat) (s : Ms), s.In ops pc → pc + f = ops.length → (goM ops f pc s).2.1 = 0 → (goM ops f pc s).1.In ops ops.length ∧ (goM ops f pc s).1.open_ = []
  | 0, pc, s, _, _, h0 => by simp [goM] at h0
  | f + 1, pc, s, h, hf, h0 => by
    rw [goM] at h0 ⊢
    by_cases h1 : (stepM ops pc s).1 ≠ 0
    · rw [if_pos h1] at h0; exact absurd h0 h1
    · rw [if_neg h1] at h0 ⊢
      have hin := stepM_in h (by omega) (Decidable.not_not.1 h1)
      by_cases h2 : (stepM ops pc s).2.2 = true
      · rw [if_pos h2] at h0 ⊢
        by_cases h3 : pc + 1 < ops.length
        · rw [if_pos h3] at h0; simp at h0
        · rw [if_neg h3]
          have e : pc + 1 = ops.length := by omega
          rw [e] at hin
          exact ⟨hin, stepM_true h2⟩
      · rw [if_neg h2] at h0 ⊢
        exact goM_in f (pc + 1) _ hin (by omega) h0
theorem mapP_ok {ops : List Nat} (h : (mapP ops).2.2.2.1 = 0) : MapOk ops (mapP ops).1 (mapP ops).2.1 (mapP ops).2.2.1 := by
  have h0 : (goM ops ops.length 0 (startM ops.length)).2.1 = 0 := by
    unfold mapP at h
    split at h
    · assumption
    · exact h
  obtain ⟨hi, ho⟩ := goM_in _ _ _ (startM_in ops) (by omega) h0
  unfold mapP
  rw [if_pos h0]
  refine ⟨hi.ok.le, hi.ok.ll, hi.ok.lo, hi.own, hi.ends, fun j v hj => ⟨hi.low j v hj, hi.ok.els j v hj⟩, fun j hj h1 => ?_, fun j hj h1 => ?_⟩
  · rcases hi.done j hj h1 with h2 | h2
    · rw [ho] at h2; simp at h2
    · exact h2
  · rcases hi.doneE j hj h1 with ⟨t, h2, _⟩ | h2
    · rw [ho] at h2; simp at h2
    · exact h2
theorem mapP_no {ops : List Nat} (h : (mapP ops).2.2.2.1 ≠ 0) : (mapP ops).1 = [] ∧ (mapP ops).2.1 = [] ∧ (mapP ops).2.2.1 = [] := by
  unfold mapP at h ⊢
  split
  · rename_i h0; rw [if_pos h0] at h; exact absurd rfl h
  · exact ⟨rfl, rfl, rfl⟩
/-- Owners of owners. -/
def labF (o : List Int) : Nat → Int → List Int
  | 0, _ => []
  | f + 1, x => x :: if x < 0 then [] else labF o f (o.getD x.toNat (-1))
def labL (o : List Int) (x : Int) : List Int := labF o (x + 2).toNat x
theorem labL_end (o : List Int) : labL o (-1) = [-1] := rfl
theorem labF_fuel {o : List Int} (h : ∀ (j : Nat) (v : Int), o[j]? = some v → -1 ≤ v ∧ v < j) : ∀ (f g : Nat) (x : Int), -1 ≤ x → (x + 2).toNat ≤ f → (x + 2).toNat ≤ g → labF o f x = labF o g x
  | 0, _, x, h1, h2, _ => by omega
  | _ + 1, 0, x, h1, _, h3 => by omega
  | f + 1, g + 1, x, h1, h2, h3 => by
    rw [labF, labF]
    split
    · rfl
    · congr 1
      have hx : -1 ≤ o.getD x.toNat (-1) ∧ o.getD x.toNat (-1) < x := by
        rw [List.getD_eq_getElem?_getD]
        cases e : o[x.toNat]? with
        | none => simp only [Option.getD_none]; omega
        | some v => have := h _ _ e; simp only [Option.getD_some]; omega
      exact labF_fuel h f g _ hx.1 (by omega) (by omega)
theorem labL_next {o : List Int} (h : ∀ (j : Nat) (v : Int), o[j]? = some v → -1 ≤ v ∧ v < j) {x : Int} (h0 : 0 ≤ x) : labL o x = x :: labL o (o.getD x.toNat (-1)) := by
  unfold labL
  obtain ⟨f, hf⟩ : ∃ f, (x + 2).toNat = f + 1 := ⟨(x + 1).toNat, by omega⟩
  rw [hf, labF, if_neg (by omega)]
  congr 1
  have hx : -1 ≤ o.getD x.toNat (-1) ∧ o.getD x.toNat (-1) < x := by
    rw [List.getD_eq_getElem?_getD]
    cases e : o[x.toNat]? with
    | none => simp only [Option.getD_none]; omega
    | some v => have := h _ _ e; simp only [Option.getD_some]; omega
  exact labF_fuel h _ _ _ hx.1 (by omega) (Nat.le_refl _)
/-- The labels at a pc. -/
def labP (o : List Int) (pc : Nat) : List Int := labL o (o.getD pc (-1))
theorem labL_range {o : List Int} (h : ∀ (j : Nat) (v : Int), o[j]? = some v → -1 ≤ v ∧ v < j) : ∀ (n : Nat) (x : Int), -1 ≤ x → x < n → (∀ v ∈ labL o x, -1 ≤ v ∧ v ≤ x) ∧ (labL o x).length ≤ n + 1
  | n, x, h1, h2 => by
    by_cases hx : x < 0
    · obtain rfl : x = -1 := by omega
      rw [labL_end]
      exact ⟨fun v hv => by simp at hv; omega, by simp⟩
    · rw [labL_next h (by omega)]
      have hy : -1 ≤ o.getD x.toNat (-1) ∧ o.getD x.toNat (-1) < x := by
        rw [List.getD_eq_getElem?_getD]
        cases e : o[x.toNat]? with
        | none => simp only [Option.getD_none]; omega
        | some v => have := h _ _ e; simp only [Option.getD_some]; omega
      match n, h2 with
      | 0, h2 => omega
      | n + 1, h2 =>
        obtain ⟨a, b⟩ := labL_range h n (o.getD x.toNat (-1)) hy.1 (by omega)
        refine ⟨fun v hv => ?_, by simp; exact b⟩
        rcases List.mem_cons.1 hv with rfl | hv
        · omega
        · have := a v hv; omega
theorem MapOk.at_ {ops : List Nat} {ends elses owners : List Int} (h : MapOk ops ends elses owners) {pc : Nat} (hp : pc < ops.length) : -1 ≤ owners.getD pc (-1) ∧ owners.getD pc (-1) < pc := by
  have hl : pc < owners.length := by rw [h.lo]; exact hp
  have := h.own pc owners[pc] (List.getElem?_eq_getElem hl)
  rw [List.getD_eq_getElem?_getD, List.getElem?_eq_getElem hl]
  exact this
theorem MapOk.lab {ops : List Nat} {ends elses owners : List Int} (h : MapOk ops ends elses owners) {pc : Nat} (hp : pc < ops.length) : (∀ v ∈ labP owners pc, -1 ≤ v ∧ v < pc) ∧ (labP owners pc).length ≤ pc + 1 := by
  have ha := h.at_ hp
  obtain ⟨a, b⟩ := labL_range h.own pc _ ha.1 ha.2
  exact ⟨fun v hv => by have := a v hv; omega, b⟩

/-- The place of a label number; -1: none. -/
def placeP (ops : List Nat) (ends lab : List Int) (n : Int) : Int :=
  if n < 0 ∨ (lab.length : Int) ≤ n then -1
  else if lab.getD n.toNat (-1) < 0 then ops.length
  else if ops.getD (lab.getD n.toNat (-1)).toNat 0 = 3 then lab.getD n.toNat (-1) + 1
  else ends.getD (lab.getD n.toNat (-1)).toNat (-1) + 1
/-- The places where control can go, as they are told, none: -1. -/
def someP (ops : List Nat) (ends elses lab : List Int) (pc : Nat) (a : Int) (l : List Int) : List Int :=
  if ops.getD pc 0 = 0 then []
  else if ops.getD pc 0 = 4 then [(pc : Int) + 1, if 0 ≤ elses.getD pc (-1) then elses.getD pc (-1) + 1 else ends.getD pc (-1)]
  else if ops.getD pc 0 = 5 then [ends.getD pc (-1)]
  else if ops.getD pc 0 = 7 then [placeP ops ends lab a]
  else if ops.getD pc 0 = 8 then [(pc : Int) + 1, placeP ops ends lab a]
  else if ops.getD pc 0 = 9 then l.map (placeP ops ends lab)
  else if ops.getD pc 0 = 10 then [(ops.length : Int)]
  else [(pc : Int) + 1]
/-- Rising, without doubles. -/
def rise (n : Nat) (l : List Int) : List Int := ((List.range (n + 1)).filter fun (j : Nat) => decide ((j : Int) ∈ l)).map fun (j : Nat) => (j : Int)
def keepP (l : List Int) : List Int := l.filter fun v => decide (0 ≤ v)
theorem rise_keep (n : Nat) (l : List Int) : rise n (keepP l) = rise n l := by
  unfold rise keepP
  congr 1
  apply List.filter_congr
  intro j _
  simp
theorem sorted_ext : ∀ (l m : List Int), l.Pairwise (· < ·) → m.Pairwise (· < ·) → (∀ x, x ∈ l ↔ x ∈ m) → l = m
  | [], [], _, _, _ => rfl
  | [], y :: m, _, _, h => absurd ((h y).2 List.mem_cons_self) (by simp)
  | x :: l, [], _, _, h => absurd ((h x).1 List.mem_cons_self) (by simp)
  | x :: l, y :: m, h1, h2, h => by
    have a1 := List.pairwise_cons.1 h1; have a2 := List.pairwise_cons.1 h2
    have e : x = y := by
      rcases List.mem_cons.1 ((h x).1 List.mem_cons_self) with h3 | h3
      · exact h3
      · rcases List.mem_cons.1 ((h y).2 List.mem_cons_self) with h4 | h4
        · exact h4.symm
        · have := a2.1 x h3; have := a1.1 y h4; omega
    subst e
    congr 1
    refine sorted_ext l m a1.2 a2.2 fun z => ?_
    constructor
    · intro hz
      rcases List.mem_cons.1 ((h z).1 (List.mem_cons_of_mem _ hz)) with rfl | h3
      · have := a1.1 _ hz; omega
      · exact h3
    · intro hz
      rcases List.mem_cons.1 ((h z).2 (List.mem_cons_of_mem _ hz)) with rfl | h3
      · have := a2.1 _ hz; omega
      · exact h3
theorem rise_sorted (n : Nat) (l : List Int) : (rise n l).Pairwise (· < ·) := by
  unfold rise
  rw [List.pairwise_map]
  refine List.Pairwise.filter _ (List.pairwise_lt_range.imp fun h => by omega)
theorem rise_mem {n : Nat} {l : List Int} (h : ∀ x ∈ l, 0 ≤ x ∧ x ≤ n) (x : Int) : x ∈ rise n l ↔ x ∈ l := by
  unfold rise
  simp only [List.mem_map, List.mem_filter, List.mem_range, decide_eq_true_eq]
  constructor
  · rintro ⟨j, ⟨_, h1⟩, rfl⟩; exact h1
  · intro hx
    have := h x hx
    exact ⟨x.toNat, ⟨by omega, by rwa [show (x.toNat : Int) = x by omega]⟩, by omega⟩
theorem compact_upto (d : Array Int) : ∀ (m : Nat), m ≤ d.size → (∀ i j : Nat, i < j → j < m → d[i]! ≤ d[j]!) → (Lib.compactUpTo d m).Pairwise (· < ·) ∧ ∀ x, x ∈ Lib.compactUpTo d m ↔ ∃ j : Nat, j < m ∧ d[j]! = x
  | 0, _, _ => by simp [Lib.compactUpTo]
  | m + 1, hm, h => by
    obtain ⟨a, b⟩ := compact_upto d m (by omega) fun i j h1 h2 => h i j h1 (by omega)
    rw [Lib.compactUpTo_succ]
    have hone : ∀ x, (∃ j : Nat, j < m + 1 ∧ d[j]! = x) ↔ (∃ j : Nat, j < m ∧ d[j]! = x) ∨ d[m]! = x := fun x => by
      constructor
      · rintro ⟨j, h1, h2⟩
        by_cases e : j = m
        · subst e; exact .inr h2
        · exact .inl ⟨j, by omega, h2⟩
      · rintro (⟨j, h1, h2⟩ | h2)
        · exact ⟨j, by omega, h2⟩
        · exact ⟨m, by omega, h2⟩
    by_cases hk : Lib.keeps d m = true
    · rw [if_pos hk]
      refine ⟨List.pairwise_append.2 ⟨a, by simp, fun x hx y hy => ?_⟩, fun x => ?_⟩
      · simp at hy; subst hy
        obtain ⟨j, h1, rfl⟩ := (b x).1 hx
        have hne : d[m]! ≠ d[m - 1]! := by
          unfold Lib.keeps at hk
          rcases of_decide_eq_true hk with h0 | h0
          · omega
          · exact h0
        have l1 : d[m - 1]! ≤ d[m]! := h (m - 1) m (by omega) (by omega)
        by_cases e : j = m - 1
        · subst e; omega
        · have := h j (m - 1) (by omega) (by omega); omega
      · rw [List.mem_append, b x, hone x]; simp [eq_comm]
    · rw [if_neg hk]
      rw [List.append_nil]
      refine ⟨a, fun x => ?_⟩
      rw [b x, hone x]
      constructor
      · exact .inl
      · rintro (h1 | h1)
        · exact h1
        · unfold Lib.keeps at hk
          have h2 := of_decide_eq_false (Bool.not_eq_true _ ▸ hk)
          have h3 : ¬ m = 0 := fun e => h2 (.inl e)
          have h4 : d[m]! = d[m - 1]! := Decidable.not_not.1 fun e => h2 (.inr e)
          exact ⟨m - 1, by omega, h4 ▸ h1⟩
/-- Sorted, then without doubles. -/
theorem compact_sort {n : Nat} {l : List Int} (h : ∀ x ∈ l, 0 ≤ x ∧ x ≤ n) : Lib.compact (l.mergeSort fun x y => decide (x ≤ y)) = rise n l := by
  have hs : (l.mergeSort fun x y => decide (x ≤ y)).Pairwise fun a b => decide (a ≤ b) = true := List.pairwise_mergeSort (fun a b c h1 h2 => by simp at *; omega) (fun a b => by simp; omega) l
  have hp := List.mergeSort_perm l fun x y => decide (x ≤ y)
  generalize (l.mergeSort fun x y => decide (x ≤ y)) = z at *
  have hd : ∀ i j : Nat, i < j → j < z.length → z.toArray[i]! ≤ z.toArray[j]! := fun i j h1 h2 => by
    have := List.pairwise_iff_getElem.1 hs i j (by omega) h2 h1
    rw [getElem!_pos _ i (by simp; omega), getElem!_pos _ j (by simpa using h2)]
    simpa using this
  obtain ⟨a, b⟩ := compact_upto z.toArray z.length (by simp) hd
  refine sorted_ext _ _ a (rise_sorted _ _) fun x => ?_
  rw [rise_mem h, ← hp.mem_iff]
  show x ∈ Lib.compactUpTo z.toArray z.length ↔ _
  rw [b x, List.mem_iff_getElem]
  constructor
  · rintro ⟨j, h1, h2⟩
    rw [getElem!_pos _ j (by simpa using h1)] at h2
    exact ⟨j, h1, by simpa using h2⟩
  · rintro ⟨j, h1, h2⟩
    exact ⟨j, h1, by rw [getElem!_pos _ j (by simpa using h1)]; simpa using h2⟩
end Go.Proofs.YtfhkjahjenpbgaaDoor
namespace Go.Proofs.YtfhkjahjenpbgaaDoor
open Go Go.RowKit

abbrev ints (l : List Int) : List Value := l.map (Value.int .i64)
theorem ints_set (l : List Int) (k : Nat) (x : Int) : (ints l).set k (.int .i64 x) = ints (l.set k x) := by simp [ints, List.map_set]
/-- A row of ints of its own. -/
abbrev OwnI (B T : Nat) (w : World) (v : Value) (l : List Int) : Prop := w.ownsRow B T 1 v l.length (ints l)
theorem OwnI.at_ {B T : Nat} {w : World} {v : Value} {l : List Int} (h : OwnI B T w v l) {k : Nat} (hk : k < l.length) :
    ∃ g c, v = .slice (some ⟨g, 0, none⟩) l.length c ∧ B ≤ g ∧ g < w.heap.size ∧ w.cell? ⟨g, k, none⟩ = some (.int .i64 l[k]) ∧ w.frozen? ⟨g, k, none⟩ = false := by
  have h' := h
  rcases h.2 with ⟨_, h0⟩ | ⟨g, c, cur, rfl, hb, hg, _⟩
  · omega
  · exact ⟨g, c, rfl, hb, row_lt hg, own_at h' rfl (by simp [hk]), World.ownsRow.frozenAt h' k⟩
theorem OwnI.set {B T g c n k : Nat} {w : World} {l : List Int} (h : OwnI B T w (.slice (some ⟨g, 0, none⟩) n c) l) (x : Int) :
    OwnI B T (w.setCell ⟨g, k, none⟩ (.int .i64 x)) (.slice (some ⟨g, 0, none⟩) n c) (l.set k x) := by
  obtain ⟨a, c', e, _⟩ := own_slice h
  simp only [Value.slice.injEq] at e
  obtain ⟨_, rfl, _⟩ := e
  have := (World.ownsRow.stored h k (.int .i64 x)).1
  rw [ints_set] at this
  simpa [OwnI] using this
theorem OwnI.far {B T g k : Nat} {w : World} {v : Value} {l : List Int} (h : OwnI B T w v l) (hg : v.ownBlock ≠ some g) (u : Value) : OwnI B T (w.setCell ⟨g, k, none⟩ u) v l :=
  own_keeps (S := fun b => b ≠ g) h ((Keeps.refl _ w).setCell (a := ⟨g, k, none⟩) (by simp) u) fun b hb e => hg (by rw [hb, e])
/-- Three rows of ints, each a block of its own. -/
structure R3 (B T : Nat) (w : World) (v1 v2 v3 : Value) (E L O : List Int) : Prop where
  r1 : OwnI B T w v1 E
  r2 : OwnI B T w v2 L
  r3 : OwnI B T w v3 O
  d12 : ∀ g, v1.ownBlock = some g → v2.ownBlock ≠ some g
  d13 : ∀ g, v1.ownBlock = some g → v3.ownBlock ≠ some g
  d23 : ∀ g, v2.ownBlock = some g → v3.ownBlock ≠ some g
section
variable {B T : Nat} {w wr wy : World} {v1 v2 v3 : Value} {E L O : List Int}
theorem R3.kept {S : Nat → Prop} (h : R3 B T wr v1 v2 v3 E L O) (hk : Keeps S wr wy) (h1 : ∀ g, v1.ownBlock = some g → S g) (h2 : ∀ g, v2.ownBlock = some g → S g) (h3 : ∀ g, v3.ownBlock = some g → S g) : R3 B T wy v1 v2 v3 E L O :=
  ⟨own_keeps h.r1 hk h1, own_keeps h.r2 hk h2, own_keeps h.r3 hk h3, h.d12, h.d13, h.d23⟩
theorem R3.on (h : R3 B T wr v1 v2 v3 E L O) (hb : Below wr.heap.size wr wy) : R3 B T wy v1 v2 v3 E L O :=
  h.kept (Keeps.all (fun _ => True) hb) (fun _ _ => trivial) (fun _ _ => trivial) fun _ _ => trivial
theorem R3.set1 {g n c : Nat} (h : R3 B T wr (.slice (some ⟨g, 0, none⟩) n c) v2 v3 E L O) (k : Nat) (x : Int) : R3 B T (wr.setCell ⟨g, k, none⟩ (.int .i64 x)) (.slice (some ⟨g, 0, none⟩) n c) v2 v3 (E.set k x) L O :=
  ⟨h.r1.set x, h.r2.far (h.d12 g rfl) _, h.r3.far (h.d13 g rfl) _, h.d12, h.d13, h.d23⟩
theorem R3.set2 {g n c : Nat} (h : R3 B T wr v1 (.slice (some ⟨g, 0, none⟩) n c) v3 E L O) (k : Nat) (x : Int) : R3 B T (wr.setCell ⟨g, k, none⟩ (.int .i64 x)) v1 (.slice (some ⟨g, 0, none⟩) n c) v3 E (L.set k x) O :=
  ⟨h.r1.far (fun e => h.d12 g e rfl) _, h.r2.set x, h.r3.far (h.d23 g rfl) _, h.d12, h.d13, h.d23⟩
theorem R3.set3 {g n c : Nat} (h : R3 B T wr v1 v2 (.slice (some ⟨g, 0, none⟩) n c) E L O) (k : Nat) (x : Int) : R3 B T (wr.setCell ⟨g, k, none⟩ (.int .i64 x)) v1 v2 (.slice (some ⟨g, 0, none⟩) n c) E L (O.set k x) :=
  ⟨h.r1.far (fun e => h.d13 g e rfl) _, h.r2.far (fun e => h.d23 g e rfl) _, h.r3.set x, h.d12, h.d13, h.d23⟩
end
/-- The three rows and a stack. -/
structure Mh (w : World) (T TS sz : Nat) (v1 v2 v3 : Value) (wr : World) (ov : Value) (m : Nat) (E L O : List Int) (K : List Value) : Prop where
  bel : Below w.heap.size w wr
  rows : R3 w.heap.size T wr v1 v2 v3 E L O
  stk : wr.ownsRow w.heap.size TS sz ov m K
  ds : ∀ g, ov.ownBlock = some g → v1.ownBlock ≠ some g ∧ v2.ownBlock ≠ some g ∧ v3.ownBlock ≠ some g
section
variable {T TS sz m : Nat} {w wr wy : World} {v1 v2 v3 ov ov' : Value} {E L O : List Int} {K : List Value}
theorem Mh.on (h : Mh w T TS sz v1 v2 v3 wr ov m E L O K) (hb : Below wr.heap.size wr wy) : Mh w T TS sz v1 v2 v3 wy ov m E L O K :=
  ⟨below_next h.bel hb, h.rows.on hb, own_below h.stk hb, h.ds⟩
theorem stk_far {g k : Nat} (h : wr.ownsRow w.heap.size TS sz ov m K) (hg : ov.ownBlock ≠ some g) (u : Value) : (wr.setCell ⟨g, k, none⟩ u).ownsRow w.heap.size TS sz ov m K :=
  own_keeps (S := fun b => b ≠ g) h ((Keeps.refl _ wr).setCell (a := ⟨g, k, none⟩) (by simp) u) fun b hb e => hg (by rw [hb, e])
theorem Mh.set1 {g n c : Nat} (h : Mh w T TS sz (.slice (some ⟨g, 0, none⟩) n c) v2 v3 wr ov m E L O K) (k : Nat) (x : Int) : Mh w T TS sz (.slice (some ⟨g, 0, none⟩) n c) v2 v3 (wr.setCell ⟨g, k, none⟩ (.int .i64 x)) ov m (E.set k x) L O K :=
  ⟨h.bel.setCell (p := ⟨g, k, none⟩) (h.rows.r1.lt g rfl).1 _, h.rows.set1 k x, stk_far h.stk (fun e => (h.ds g e).1 rfl) _, h.ds⟩
theorem Mh.set2 {g n c : Nat} (h : Mh w T TS sz v1 (.slice (some ⟨g, 0, none⟩) n c) v3 wr ov m E L O K) (k : Nat) (x : Int) : Mh w T TS sz v1 (.slice (some ⟨g, 0, none⟩) n c) v3 (wr.setCell ⟨g, k, none⟩ (.int .i64 x)) ov m E (L.set k x) O K :=
  ⟨h.bel.setCell (p := ⟨g, k, none⟩) (h.rows.r2.lt g rfl).1 _, h.rows.set2 k x, stk_far h.stk (fun e => (h.ds g e).2.1 rfl) _, h.ds⟩
theorem Mh.set3 {g n c : Nat} (h : Mh w T TS sz v1 v2 (.slice (some ⟨g, 0, none⟩) n c) wr ov m E L O K) (k : Nat) (x : Int) : Mh w T TS sz v1 v2 (.slice (some ⟨g, 0, none⟩) n c) (wr.setCell ⟨g, k, none⟩ (.int .i64 x)) ov m E L (O.set k x) K :=
  ⟨h.bel.setCell (p := ⟨g, k, none⟩) (h.rows.r3.lt g rfl).1 _, h.rows.set3 k x, stk_far h.stk (fun e => (h.ds g e).2.2 rfl) _, h.ds⟩
theorem Mh.top {g c : Nat} (h : Mh w T TS sz v1 v2 v3 wr (.slice (some ⟨g, 0, none⟩) m c) m E L O K) (k : Nat) (x : Int) : Mh w T TS sz v1 v2 v3 (wr.setCell ⟨g, k, none⟩ (.int .i64 x)) (.slice (some ⟨g, 0, none⟩) m c) m E L O (K.set k (.int .i64 x)) :=
  ⟨h.bel.setCell (p := ⟨g, k, none⟩) (h.stk.lt g rfl).1 _, h.rows.kept (S := fun b => b ≠ g) ((Keeps.refl _ wr).setCell (a := ⟨g, k, none⟩) (by simp) _) (fun b hb e => (h.ds g rfl).1 (by rw [hb, e])) (fun b hb e => (h.ds g rfl).2.1 (by rw [hb, e])) (fun b hb e => (h.ds g rfl).2.2 (by rw [hb, e])),
    (World.ownsRow.stored h.stk k _).1, h.ds⟩
theorem Mh.push {m' : Nat} {K' : List Value} (h : Mh w T TS sz v1 v2 v3 wr ov m E L O K) (ho : wy.ownsRow w.heap.size TS sz ov' m' K') (hg : wr.grownBy wy ov.ownBlock) (hn : ∀ g, ov'.ownBlock = some g → ov.ownBlock = some g ∨ wr.heap.size ≤ g) : Mh w T TS sz v1 v2 v3 wy ov' m' E L O K' := by
  have hk : Keeps (fun b => ov.ownBlock ≠ some b) wr wy := (Keeps.refl _ wr).grown hg fun k hk _ h' => h' hk
  refine ⟨h.bel.grown hg (by have := h.bel.size; omega) fun j hj => (h.stk.lt j hj).1, h.rows.kept hk (fun b hb e => (h.ds b e).1 hb) (fun b hb e => (h.ds b e).2.1 hb) (fun b hb e => (h.ds b e).2.2 hb), ho, fun g hg' => ?_⟩
  rcases hn g hg' with h1 | h1
  · exact h.ds g h1
  · refine ⟨fun e => ?_, fun e => ?_, fun e => ?_⟩
    · have := h.rows.r1.lt g e; omega
    · have := h.rows.r2.lt g e; omega
    · have := h.rows.r3.lt g e; omega
theorem own_cut {B e size g n c : Nat} {xs : List Value} (h : wr.ownsRow B e size (.slice (some ⟨g, 0, none⟩) n c) n xs) (k : Nat) (hk : k ≤ n) : wr.ownsRow B e size (.slice (some ⟨g, 0, none⟩) k c) k (xs.take (k * size)) := by
  rcases h.2 with ⟨h', _⟩ | ⟨g', cap', cur, h', hb, hg, h1, h2, h3, h4⟩
  · simp at h'
  · simp only [Value.slice.injEq, Option.some.injEq, Addr.mk.injEq, and_true, true_and] at h'
    obtain ⟨rfl, rfl⟩ := h'
    have hm : k * size ≤ n * size := Nat.mul_le_mul_right _ hk
    refine ⟨by rw [List.length_take, h.1]; omega, .inr ⟨g, c, cur, rfl, hb, hg, by omega, h2, h3, ?_⟩⟩
    rw [← h4, List.take_take, Nat.min_eq_left hm]
theorem Mh.cut {g c : Nat} (h : Mh w T TS sz v1 v2 v3 wr (.slice (some ⟨g, 0, none⟩) m c) m E L O K) (k : Nat) (hk : k ≤ m) : Mh w T TS sz v1 v2 v3 wr (.slice (some ⟨g, 0, none⟩) k c) k E L O (K.take (k * sz)) :=
  ⟨h.bel, h.rows, own_cut h.stk k hk, h.ds⟩
end
/-- A stack of pairs, as cells. -/
def pairC : List (Int × Int) → List Value
  | [] => []
  | p :: l => .int .i64 p.1 :: .int .i64 p.2 :: pairC l
theorem pairC_len : ∀ l, (pairC l).length = l.length * 2
  | [] => rfl
  | p :: l => by rw [pairC, List.length_cons, List.length_cons, pairC_len l, List.length_cons]; omega
theorem pairC_app : ∀ l l', pairC (l ++ l') = pairC l ++ pairC l'
  | [], _ => rfl
  | p :: l, l' => by rw [List.cons_append, pairC, pairC_app l l', pairC]; rfl
theorem pairC_at : ∀ (l : List (Int × Int)) (k : Nat) (p), l[k]? = some p → (pairC l)[k * 2]? = some (.int .i64 p.1) ∧ (pairC l)[k * 2 + 1]? = some (.int .i64 p.2)
  | [], k, p, h => by simp at h
  | q :: l, 0, p, h => by simp at h; subst h; exact ⟨rfl, rfl⟩
  | q :: l, k + 1, p, h => by
    have := pairC_at l k p (by simpa using h)
    rw [show (k + 1) * 2 = k * 2 + 1 + 1 by omega]
    exact this
theorem pairC_set : ∀ (l : List (Int × Int)) (k : Nat) (p : Int × Int) (y : Int), l[k]? = some p → (pairC l).set (k * 2 + 1) (.int .i64 y) = pairC (l.set k (p.1, y))
  | [], k, p, y, h => by simp at h
  | q :: l, 0, p, y, h => by simp at h; subst h; rfl
  | q :: l, k + 1, p, y, h => by
    have := pairC_set l k p y (by simpa using h)
    rw [show (k + 1) * 2 + 1 = k * 2 + 1 + 1 + 1 by omega, pairC, List.set_cons_succ, List.set_cons_succ, this, List.set_cons_succ, pairC]
theorem pairC_take : ∀ (l : List (Int × Int)) (k : Nat), (pairC l).take (k * 2) = pairC (l.take k)
  | [], k => by simp [pairC]
  | q :: l, 0 => rfl
  | q :: l, k + 1 => by rw [show (k + 1) * 2 = k * 2 + 1 + 1 by omega, pairC, List.take_succ_cons, List.take_succ_cons, pairC_take l k, List.take_succ_cons, pairC]
end Go.Proofs.YtfhkjahjenpbgaaDoor
namespace Go.Proofs.YtfhkjahjenpbgaaDoor
open Go Go.RowKit

section
variable {ops : List Nat} {n pc q : Nat} {s s' : Ms} {e : Int}
theorem goM_err {b : Bool} (hpc : pc < n) (h : stepM ops pc s = (e, s', b)) (he : e ≠ 0) : goM ops (n - pc) pc s = (s', e, pc) := by
  rw [show n - pc = (n - (pc + 1)) + 1 by omega, goM, h, if_pos he]
theorem goM_next (hpc : pc < n) (h : stepM ops pc s = (0, s', false)) : goM ops (n - pc) pc s = goM ops (n - (pc + 1)) (pc + 1) s' := by
  rw [show n - pc = (n - (pc + 1)) + 1 by omega, goM, h, if_neg (by simp), if_neg (by simp)]
theorem goM_rest (hpc : pc < n) (h : stepM ops pc s = (0, s', true)) (hr : pc + 1 < ops.length) : goM ops (n - pc) pc s = (s', 19, pc + 1) := by
  rw [show n - pc = (n - (pc + 1)) + 1 by omega, goM, h, if_neg (by simp), if_pos rfl, if_pos hr]
theorem goM_last (hpc : pc < n) (h : stepM ops pc s = (0, s', true)) (hr : ¬ pc + 1 < ops.length) : goM ops (n - pc) pc s = (s', 0, 0) := by
  rw [show n - pc = (n - (pc + 1)) + 1 by omega, goM, h, if_neg (by simp), if_pos rfl, if_neg hr]
theorem mapP_err (h : goM ops ops.length 0 (startM ops.length) = (s', e, q)) (he : e ≠ 0) : mapP ops = ([], [], [], e, q) := by
  rw [mapP, h, if_neg he]
theorem mapP_take (h : goM ops ops.length 0 (startM ops.length) = (s', 0, q)) : mapP ops = (s'.ends, s'.elses, s'.owners, 0, 0) := by
  rw [mapP, h, if_pos rfl]
theorem step_deep (h : opensP (ops.getD pc 0)) (h2 : s.open_.length = 32) : stepM ops pc s = (35, { s with owners := s.owners.set pc s.top }, false) := by
  unfold opensP at h; unfold stepM; rw [if_pos h, if_pos h2]
theorem step_open (h : opensP (ops.getD pc 0)) (h2 : ¬ s.open_.length = 32) : stepM ops pc s = (0, { s with owners := s.owners.set pc s.top, open_ := s.open_ ++ [pc] }, false) := by
  unfold opensP at h; unfold stepM; rw [if_pos h, if_neg h2]
theorem step_noelse (h : ops.getD pc 0 = 5) (h2 : s.top < 0 ∨ ops.getD s.top.toNat 0 ≠ 4 ∨ 0 ≤ s.elses.getD s.top.toNat 0) : stepM ops pc s = (37, { s with owners := s.owners.set pc s.top }, false) := by
  unfold stepM; rw [if_neg (by omega), if_pos h, if_pos h2]
theorem step_else (h : ops.getD pc 0 = 5) (h2 : ¬ (s.top < 0 ∨ ops.getD s.top.toNat 0 ≠ 4 ∨ 0 ≤ s.elses.getD s.top.toNat 0)) : stepM ops pc s = (0, { s with owners := s.owners.set pc s.top, elses := s.elses.set s.top.toNat pc }, false) := by
  unfold stepM; rw [if_neg (by omega), if_pos h, if_neg h2]
theorem step_last (h : ops.getD pc 0 = 6) (h2 : s.top < 0) : stepM ops pc s = (0, { s with owners := s.owners.set pc s.top }, true) := by
  unfold stepM; rw [if_neg (by omega), if_neg (by omega), if_pos h, if_pos h2]
theorem step_end (h : ops.getD pc 0 = 6) (h2 : ¬ s.top < 0) (h3 : ¬ 0 ≤ s.elses.getD s.top.toNat 0) : stepM ops pc s = (0, { s with owners := s.owners.set pc s.top, ends := s.ends.set s.top.toNat pc, open_ := s.open_.dropLast }, false) := by
  unfold stepM; rw [if_neg (by omega), if_neg (by omega), if_pos h, if_neg h2, if_neg h3]
theorem step_end2 (h : ops.getD pc 0 = 6) (h2 : ¬ s.top < 0) (h3 : 0 ≤ s.elses.getD s.top.toNat 0) : stepM ops pc s = (0, { s with owners := s.owners.set pc s.top, ends := (s.ends.set s.top.toNat pc).set (s.elses.getD s.top.toNat 0).toNat pc, open_ := s.open_.dropLast }, false) := by
  unfold stepM; rw [if_neg (by omega), if_neg (by omega), if_pos h, if_neg h2, if_pos h3]
theorem step_other (h : ¬ opensP (ops.getD pc 0)) (h5 : ¬ ops.getD pc 0 = 5) (h6 : ¬ ops.getD pc 0 = 6) : stepM ops pc s = (0, { s with owners := s.owners.set pc s.top }, false) := by
  unfold opensP at h; unfold stepM; rw [if_neg h, if_neg h5, if_neg h6]
theorem in_next {b : Bool} (hi : s.In ops pc) (hpc : pc < ops.length) (h : stepM ops pc s = (0, s', b)) : s'.In ops (pc + 1) := by
  have := stepM_in hi hpc (by rw [h]); rw [h] at this; exact this
end
/-- How the walk of a code l stands at pc: the rows, the stack (its elements told by K), the plain walk. -/
structure Mw (w : World) (T TS sz : Nat) (K : Ms → List Value) (d : Nat) (l : List InsD) (v1 v2 v3 : Value) (wr : World) (ov : Value) (pc : Nat) (s : Ms) : Prop where
  mh : Mh w T TS sz v1 v2 v3 wr ov (s.open_.length + d) s.ends s.elses s.owners (K s)
  inn : s.In (opsOf l) pc
  go : goM (opsOf l) (l.length - pc) pc s = goM (opsOf l) (opsOf l).length 0 (startM (opsOf l).length)
/-- What a Map answers. -/
structure MapA (w : World) (T : Nat) (ops : List Nat) (v1 v2 v3 : Value) (w' : World) : Prop where
  bel : Below w.heap.size w w'
  rows : R3 w.heap.size T w' v1 v2 v3 (mapP ops).1 (mapP ops).2.1 (mapP ops).2.2.1
theorem mapA_none {w w' : World} {T : Nat} {ops : List Nat} {e : Int} {q : Nat} (hb : Below w.heap.size w w') (h : mapP ops = ([], [], [], e, q)) : MapA w T ops (.slice none 0 0) (.slice none 0 0) (.slice none 0 0) w' :=
  ⟨hb, by rw [h]; exact ⟨World.ownsRow_nil _ _ _ _, World.ownsRow_nil _ _ _ _, World.ownsRow_nil _ _ _ _, by simp [Value.ownBlock], by simp [Value.ownBlock], by simp [Value.ownBlock]⟩⟩
section
variable {w wr wy : World} {T TS sz d : Nat} {K : Ms → List Value} {l : List InsD} {v1 v2 v3 ov : Value} {pc q : Nat} {s s' : Ms} {e : Int}
theorem Mw.on (h : Mw w T TS sz K d l v1 v2 v3 wr ov pc s) (hb : Below wr.heap.size wr wy) : Mw w T TS sz K d l v1 v2 v3 wy ov pc s := ⟨h.mh.on hb, h.inn, h.go⟩
theorem Mw.le (h : Mw w T TS sz K d l v1 v2 v3 wr ov pc s) : s.ends.length = l.length ∧ s.elses.length = l.length ∧ s.owners.length = l.length := by
  have := h.inn.ok; rw [opsOf_len] at this; exact ⟨this.le, this.ll, this.lo⟩
theorem Mw.refuse {b : Bool} (h : Mw w T TS sz K d l v1 v2 v3 wr ov pc s) (hpc : pc < l.length) (hs : stepM (opsOf l) pc s = (e, s', b)) (he : e ≠ 0) : mapP (opsOf l) = ([], [], [], e, pc) :=
  mapP_err (h.go.symm.trans (goM_err hpc hs he)) he
theorem Mw.rest (h : Mw w T TS sz K d l v1 v2 v3 wr ov pc s) (hpc : pc < l.length) (hs : stepM (opsOf l) pc s = (0, s', true)) (hr : pc + 1 < l.length) : mapP (opsOf l) = ([], [], [], 19, pc + 1) :=
  mapP_err (h.go.symm.trans (goM_rest hpc hs (by rw [opsOf_len]; exact hr))) (by decide)
theorem Mw.last (h : Mw w T TS sz K d l v1 v2 v3 wr ov pc s) (hpc : pc < l.length) (hs : stepM (opsOf l) pc s = (0, s', true)) (hr : ¬ pc + 1 < l.length) : mapP (opsOf l) = (s'.ends, s'.elses, s'.owners, 0, 0) :=
  mapP_take (h.go.symm.trans (goM_last hpc hs (by rw [opsOf_len]; exact hr)))
theorem Mw.cut (h : Mw w T TS sz K d l v1 v2 v3 wr ov pc s) (hpc : ¬ pc < l.length) : mapP (opsOf l) = ([], [], [], 38, pc) := by
  refine mapP_err (s' := s) (h.go.symm.trans ?_) (by decide)
  rw [show l.length - pc = 0 by omega]; rfl
theorem Mw.next {ov' : Value} (h : Mw w T TS sz K d l v1 v2 v3 wr ov pc s) (hpc : pc < l.length) (hs : stepM (opsOf l) pc s = (0, s', false)) (hm : Mh w T TS sz v1 v2 v3 wy ov' (s'.open_.length + d) s'.ends s'.elses s'.owners (K s')) : Mw w T TS sz K d l v1 v2 v3 wy ov' (pc + 1) s' :=
  ⟨hm, in_next h.inn (by rw [opsOf_len]; exact hpc) hs, (goM_next hpc hs).symm.trans h.go⟩
theorem mapA_done {E L O : List Int} (hb : Below w.heap.size w wy) (h : mapP (opsOf l) = (E, L, O, 0, 0)) (hr : R3 w.heap.size T wy v1 v2 v3 E L O) : MapA w T (opsOf l) v1 v2 v3 wy := ⟨hb, by rw [h]; exact hr⟩
end
/-- The stack's elements: pairs. -/
abbrev Kp : Ms → List Value := fun s => pairC s.stk
/-- The stack's elements: places. -/
abbrev Ki : Ms → List Value := fun s => ints (s.open_.map Int.ofNat)
theorem OwnI.form {B T n k : Nat} {w : World} {v : Value} {l : List Int} (h : OwnI B T w v l) (hn : l.length = n) (hk : k < n) :
    ∃ g c, v = .slice (some ⟨g, 0, none⟩) n c ∧ (∃ x, l[k]? = some x ∧ w.cell? ⟨g, k, none⟩ = some (.int .i64 x)) ∧ w.frozen? ⟨g, k, none⟩ = false := by
  subst hn
  obtain ⟨g, c, e, _, _, h1, h2⟩ := h.at_ hk
  exact ⟨g, c, e, ⟨_, List.getElem?_eq_getElem hk, h1⟩, h2⟩
theorem results_tmp5 {fn : Func} {t u v x y : Tmp} (h : fn.results = #[.tmp t, .tmp u, .tmp v, .tmp x, .tmp y]) (tmps : Array Value) (P : Program) (w : World) :
    (results fn tmps).run P w = .ok (.tuple #[tmps.getD t undef, tmps.getD u undef, tmps.getD v undef, tmps.getD x undef, tmps.getD y undef]) w := by
  simp [results, h]
/-- The else's of the innermost that has not ended. -/
def othP (s : Ms) : Int := if s.top < 0 then -1 else s.elses.getD s.top.toNat (-1)
theorem Mh.tops {w : World} {T TS g c m : Nat} {v1 v2 v3 : Value} {wr : World} {E L O : List Int} {s : Ms} (h : Mh w T TS 2 v1 v2 v3 wr (.slice (some ⟨g, 0, none⟩) m c) m E L O (Kp s)) :
    wr.cell? ⟨g, s.open_.length * 2, none⟩ = some (.int .i64 s.top) ∧ wr.cell? ⟨g, s.open_.length * 2 + 1, none⟩ = some (.int .i64 (othP s)) := by
  have hy := pairC_at _ _ _ (stk_last s)
  exact ⟨own_at h.stk rfl hy.1, own_at h.stk rfl hy.2⟩
theorem top_lt {ops : List Nat} {pc : Nat} {s : Ms} (h : s.In ops pc) (ht : ¬ s.top < 0) : s.top.toNat < pc := by
  obtain ⟨l, hl⟩ := top_some ht
  exact h.ok.open_ _ (by rw [hl]; simp)
theorem oth_eq {ops : List Nat} {pc : Nat} {s : Ms} (h : s.In ops pc) (hpc : pc ≤ ops.length) (ht : ¬ s.top < 0) : othP s = s.elses.getD s.top.toNat 0 := by
  have := top_lt h ht
  have := h.ok.ll
  unfold othP
  rw [if_neg ht, List.getD_eq_getElem?_getD, List.getD_eq_getElem?_getD, List.getElem?_eq_getElem (by omega)]
  rfl
theorem oth_lt {ops : List Nat} {pc : Nat} {s : Ms} (h : s.In ops pc) (hpc : pc ≤ ops.length) (ht : ¬ s.top < 0) : othP s < pc := by
  have h1 := top_lt h ht
  have h2 := h.ok.ll
  rw [oth_eq h hpc ht, List.getD_eq_getElem?_getD, List.getElem?_eq_getElem (by omega)]
  exact h.ok.els s.top.toNat _ (List.getElem?_eq_getElem (by omega))
theorem open_ne {s : Ms} (ht : ¬ s.top < 0) : s.open_ ≠ [] := fun e => ht (top_none.2 e)
theorem drop_len {s : Ms} (ht : ¬ s.top < 0) : s.open_.dropLast.length + 1 = s.open_.length := by
  have := open_ne ht
  rw [List.length_dropLast]
  have : s.open_.length ≠ 0 := fun e => this (List.eq_nil_of_length_eq_zero e)
  omega
end Go.Proofs.YtfhkjahjenpbgaaDoor
