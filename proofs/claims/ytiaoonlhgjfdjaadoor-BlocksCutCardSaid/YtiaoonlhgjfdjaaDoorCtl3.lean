/- Labels, and the places where control can go, plain: what control.Map's answer gives; sorted lists without doubles. -/
import Derived.Test.YtiaoonlhgjfdjaaDoorCtl2
import Derived.Lib.SlicesCompact
namespace Go.Proofs.YtiaoonlhgjfdjaaDoor
open Go Go.RowKit

/-- What is true of the lists that are told. -/
structure MapOk (ops : List Nat) (ends elses owners : List Int) : Prop where
  le : ends.length = ops.length
  ll : elses.length = ops.length
  lo : owners.length = ops.length
  own : ∀ (j : Nat) (v : Int), owners[j]? = some v → -1 ≤ v ∧ v < j
  end_ : ∀ (j : Nat) (v : Int), ends[j]? = some v → -1 ≤ v ∧ v < ops.length
  els : ∀ (j : Nat) (v : Int), elses[j]? = some v → -1 ≤ v ∧ v < ops.length
  opn : ∀ j, j < ops.length → opensP (ops.getD j 0) → ∃ v, ends[j]? = some v ∧ 0 ≤ v
  opnE : ∀ j, j < ops.length → ops.getD j 0 = 5 → ∃ v, ends[j]? = some v ∧ 0 ≤ v
theorem stepM_true {ops : List Nat} {pc : Nat} {s : Ms} (h : (stepM ops pc s).2.2 = true) : (stepM ops pc s).2.1.open_ = [] := by
  revert h
  unfold stepM
  split
  · split <;> intro h <;> simp at h
  split
  · split <;> intro h <;> simp at h
  split
  · split
    · rename_i ht; intro _; exact top_none.1 ht
    · intro h; simp at h
  · intro h; simp at h
theorem goM_in {ops : List Nat} : ∀ (f pc : Nat) (s : Ms), s.In ops pc → pc + f = ops.length → (goM ops f pc s).2.1 = 0 → (goM ops f pc s).1.In ops ops.length ∧ (goM ops f pc s).1.open_ = []
  | 0, pc, s, _, _, h0 => by simp [goM] at h0
  | f + 1, pc, s, h, hf, h0 => by
    rw [goM] at h0 ⊢
    by_cases h1 : (stepM ops pc s).1 ≠ 0
    · rw [if_pos h1] at h0; exact absurd h0 h1
    · rw [if_neg h1] at h0 ⊢
      have hin := stepM_in h (by omega) (Decidable.not_not.1 h1)
      by_cases h2 : (stepM ops pc s).2.2 = true
      · rw [if_pos h2] at h0 ⊢
        by_cases h3 : pc + 1 < ops.length
        · rw [if_pos h3] at h0; simp at h0
        · rw [if_neg h3]
          have e : pc + 1 = ops.length := by omega
          rw [e] at hin
          exact ⟨hin, stepM_true h2⟩
      · rw [if_neg h2] at h0 ⊢
        exact goM_in f (pc + 1) _ hin (by omega) h0
theorem mapP_ok {ops : List Nat} (h : (mapP ops).2.2.2.1 = 0) : MapOk ops (mapP ops).1 (mapP ops).2.1 (mapP ops).2.2.1 := by
  have h0 : (goM ops ops.length 0 (startM ops.length)).2.1 = 0 := by
    unfold mapP at h
    split at h
    · assumption
    · exact h
  obtain ⟨hi, ho⟩ := goM_in _ _ _ (startM_in ops) (by omega) h0
  unfold mapP
  rw [if_pos h0]
  refine ⟨hi.ok.le, hi.ok.ll, hi.ok.lo, hi.own, hi.ends, fun j v hj => ⟨hi.low j v hj, hi.ok.els j v hj⟩, fun j hj h1 => ?_, fun j hj h1 => ?_⟩
  · rcases hi.done j hj h1 with h2 | h2
    · rw [ho] at h2; simp at h2
    · exact h2
  · rcases hi.doneE j hj h1 with ⟨t, h2, _⟩ | h2
    · rw [ho] at h2; simp at h2
    · exact h2
theorem mapP_no {ops : List Nat} (h : (mapP ops).2.2.2.1 ≠ 0) : (mapP ops).1 = [] ∧ (mapP ops).2.1 = [] ∧ (mapP ops).2.2.1 = [] := by
  unfold mapP at h ⊢
  split
  · rename_i h0; rw [if_pos h0] at h; exact absurd rfl h
  · exact ⟨rfl, rfl, rfl⟩
/-- Owners of owners. -/
def labF (o : List Int) : Nat → Int → List Int
  | 0, _ => []
  | f + 1, x => x :: if x < 0 then [] else labF o f (o.getD x.toNat (-1))
def labL (o : List Int) (x : Int) : List Int := labF o (x + 2).toNat x
theorem labL_end (o : List Int) : labL o (-1) = [-1] := rfl
theorem labF_fuel {o : List Int} (h : ∀ (j : Nat) (v : Int), o[j]? = some v → -1 ≤ v ∧ v < j) : ∀ (f g : Nat) (x : Int), -1 ≤ x → (x + 2).toNat ≤ f → (x + 2).toNat ≤ g → labF o f x = labF o g x
  | 0, _, x, h1, h2, _ => by omega
  | _ + 1, 0, x, h1, _, h3 => by omega
  | f + 1, g + 1, x, h1, h2, h3 => by
    rw [labF, labF]
    split
    · rfl
    · congr 1
      have hx : -1 ≤ o.getD x.toNat (-1) ∧ o.getD x.toNat (-1) < x := by
        rw [List.getD_eq_getElem?_getD]
        cases e : o[x.toNat]? with
        | none => simp only [Option.getD_none]; omega
        | some v => have := h _ _ e; simp only [Option.getD_some]; omega
      exact labF_fuel h f g _ hx.1 (by omega) (by omega)
theorem labL_next {o : List Int} (h : ∀ (j : Nat) (v : Int), o[j]? = some v → -1 ≤ v ∧ v < j) {x : Int} (h0 : 0 ≤ x) : labL o x = x :: labL o (o.getD x.toNat (-1)) := by
  unfold labL
  obtain ⟨f, hf⟩ : ∃ f, (x + 2).toNat = f + 1 := ⟨(x + 1).toNat, by omega⟩
  rw [hf, labF, if_neg (by omega)]
  congr 1
  have hx : -1 ≤ o.getD x.toNat (-1) ∧ o.getD x.toNat (-1) < x := by
    rw [List.getD_eq_getElem?_getD]
    cases e : o[x.toNat]? with
    | none => simp only [Option.getD_none]; omega
    | some v => have := h _ _ e; simp only [Option.getD_some]; omega
  exact labF_fuel h _ _ _ hx.1 (by omega) (Nat.le_refl _)
/-- The labels at a pc. -/
def labP (o : List Int) (pc : Nat) : List Int := labL o (o.getD pc (-1))
theorem labL_range {o : List Int} (h : ∀ (j : Nat) (v : Int), o[j]? = some v → -1 ≤ v ∧ v < j) : ∀ (n : Nat) (x : Int), -1 ≤ x → x < n → (∀ v ∈ labL o x, -1 ≤ v ∧ v ≤ x) ∧ (labL o x).length ≤ n + 1
  | n, x, h1, h2 => by
    by_cases hx : x < 0
    · obtain rfl : x = -1 := by omega
      rw [labL_end]
      exact ⟨fun v hv => by simp at hv; omega, by simp⟩
    · rw [labL_next h (by omega)]
      have hy : -1 ≤ o.getD x.toNat (-1) ∧ o.getD x.toNat (-1) < x := by
        rw [List.getD_eq_getElem?_getD]
        cases e : o[x.toNat]? with
        | none => simp only [Option.getD_none]; omega
        | some v => have := h _ _ e; simp only [Option.getD_some]; omega
      match n, h2 with
      | 0, h2 => omega
      | n + 1, h2 =>
        obtain ⟨a, b⟩ := labL_range h n (o.getD x.toNat (-1)) hy.1 (by omega)
        refine ⟨fun v hv => ?_, by simp; exact b⟩
        rcases List.mem_cons.1 hv with rfl | hv
        · omega
        · have := a v hv; omega
theorem MapOk.at_ {ops : List Nat} {ends elses owners : List Int} (h : MapOk ops ends elses owners) {pc : Nat} (hp : pc < ops.length) : -1 ≤ owners.getD pc (-1) ∧ owners.getD pc (-1) < pc := by
  have hl : pc < owners.length := by rw [h.lo]; exact hp
  have := h.own pc owners[pc] (List.getElem?_eq_getElem hl)
  rw [List.getD_eq_getElem?_getD, List.getElem?_eq_getElem hl]
  exact this
theorem MapOk.lab {ops : List Nat} {ends elses owners : List Int} (h : MapOk ops ends elses owners) {pc : Nat} (hp : pc < ops.length) : (∀ v ∈ labP owners pc, -1 ≤ v ∧ v < pc) ∧ (labP owners pc).length ≤ pc + 1 := by
  have ha := h.at_ hp
  obtain ⟨a, b⟩ := labL_range h.own pc _ ha.1 ha.2
  exact ⟨fun v hv => by have := a v hv; omega, b⟩

/-- The place of a label number; -1: none. -/
def placeP (ops : List Nat) (ends lab : List Int) (n : Int) : Int :=
  if n < 0 ∨ (lab.length : Int) ≤ n then -1
  else if lab.getD n.toNat (-1) < 0 then ops.length
  else if ops.getD (lab.getD n.toNat (-1)).toNat 0 = 3 then lab.getD n.toNat (-1) + 1
  else ends.getD (lab.getD n.toNat (-1)).toNat (-1) + 1
/-- The places where control can go, as they are told, none: -1. -/
def someP (ops : List Nat) (ends elses lab : List Int) (pc : Nat) (a : Int) (l : List Int) : List Int :=
  if ops.getD pc 0 = 0 then []
  else if ops.getD pc 0 = 4 then [(pc : Int) + 1, if 0 ≤ elses.getD pc (-1) then elses.getD pc (-1) + 1 else ends.getD pc (-1)]
  else if ops.getD pc 0 = 5 then [ends.getD pc (-1)]
  else if ops.getD pc 0 = 7 then [placeP ops ends lab a]
  else if ops.getD pc 0 = 8 then [(pc : Int) + 1, placeP ops ends lab a]
  else if ops.getD pc 0 = 9 then l.map (placeP ops ends lab)
  else if ops.getD pc 0 = 10 then [(ops.length : Int)]
  else [(pc : Int) + 1]
/-- Rising, without doubles. -/
def rise (n : Nat) (l : List Int) : List Int := ((List.range (n + 1)).filter fun (j : Nat) => decide ((j : Int) ∈ l)).map fun (j : Nat) => (j : Int)
def keepP (l : List Int) : List Int := l.filter fun v => decide (0 ≤ v)
theorem rise_keep (n : Nat) (l : List Int) : rise n (keepP l) = rise n l := by
  unfold rise keepP
  congr 1
  apply List.filter_congr
  intro j _
  simp
theorem sorted_ext : ∀ (l m : List Int), l.Pairwise (· < ·) → m.Pairwise (· < ·) → (∀ x, x ∈ l ↔ x ∈ m) → l = m
  | [], [], _, _, _ => rfl
  | [], y :: m, _, _, h => absurd ((h y).2 List.mem_cons_self) (by simp)
  | x :: l, [], _, _, h => absurd ((h x).1 List.mem_cons_self) (by simp)
  | x :: l, y :: m, h1, h2, h => by
    have a1 := List.pairwise_cons.1 h1; have a2 := List.pairwise_cons.1 h2
    have e : x = y := by
      rcases List.mem_cons.1 ((h x).1 List.mem_cons_self) with h3 | h3
      · exact h3
      · rcases List.mem_cons.1 ((h y).2 List.mem_cons_self) with h4 | h4
        · exact h4.symm
        · have := a2.1 x h3; have := a1.1 y h4; omega
    subst e
    congr 1
    refine sorted_ext l m a1.2 a2.2 fun z => ?_
    constructor
    · intro hz
      rcases List.mem_cons.1 ((h z).1 (List.mem_cons_of_mem _ hz)) with rfl | h3
      · have := a1.1 _ hz; omega
      · exact h3
    · intro hz
      rcases List.mem_cons.1 ((h z).2 (List.mem_cons_of_mem _ hz)) with rfl | h3
      · have := a2.1 _ hz; omega
      · exact h3
theorem rise_sorted (n : Nat) (l : List Int) : (rise n l).Pairwise (· < ·) := by
  unfold rise
  rw [List.pairwise_map]
  refine List.Pairwise.filter _ (List.pairwise_lt_range.imp fun h => by omega)
theorem rise_mem {n : Nat} {l : List Int} (h : ∀ x ∈ l, 0 ≤ x ∧ x ≤ n) (x : Int) : x ∈ rise n l ↔ x ∈ l := by
  unfold rise
  simp only [List.mem_map, List.mem_filter, List.mem_range, decide_eq_true_eq]
  constructor
  · rintro ⟨j, ⟨_, h1⟩, rfl⟩; exact h1
  · intro hx
    have := h x hx
    exact ⟨x.toNat, ⟨by omega, by rwa [show (x.toNat : Int) = x by omega]⟩, by omega⟩
theorem compact_upto (d : Array Int) : ∀ (m : Nat), m ≤ d.size → (∀ i j : Nat, i < j → j < m → d[i]! ≤ d[j]!) → (Lib.compactUpTo d m).Pairwise (· < ·) ∧ ∀ x, x ∈ Lib.compactUpTo d m ↔ ∃ j : Nat, j < m ∧ d[j]! = x
  | 0, _, _ => by simp [Lib.compactUpTo]
  | m + 1, hm, h => by
    obtain ⟨a, b⟩ := compact_upto d m (by omega) fun i j h1 h2 => h i j h1 (by omega)
    rw [Lib.compactUpTo_succ]
    have hone : ∀ x, (∃ j : Nat, j < m + 1 ∧ d[j]! = x) ↔ (∃ j : Nat, j < m ∧ d[j]! = x) ∨ d[m]! = x := fun x => by
      constructor
      · rintro ⟨j, h1, h2⟩
        by_cases e : j = m
        · subst e; exact .inr h2
        · exact .inl ⟨j, by omega, h2⟩
      · rintro (⟨j, h1, h2⟩ | h2)
        · exact ⟨j, by omega, h2⟩
        · exact ⟨m, by omega, h2⟩
    by_cases hk : Lib.keeps d m = true
    · rw [if_pos hk]
      refine ⟨List.pairwise_append.2 ⟨a, by simp, fun x hx y hy => ?_⟩, fun x => ?_⟩
      · simp at hy; subst hy
        obtain ⟨j, h1, rfl⟩ := (b x).1 hx
        have hne : d[m]! ≠ d[m - 1]! := by
          unfold Lib.keeps at hk
          rcases of_decide_eq_true hk with h0 | h0
          · omega
          · exact h0
        have l1 : d[m - 1]! ≤ d[m]! := h (m - 1) m (by omega) (by omega)
        by_cases e : j = m - 1
        · subst e; omega
        · have := h j (m - 1) (by omega) (by omega); omega
      · rw [List.mem_append, b x, hone x]; simp [eq_comm]
    · rw [if_neg hk]
      rw [List.append_nil]
      refine ⟨a, fun x => ?_⟩
      rw [b x, hone x]
      constructor
      · exact .inl
      · rintro (h1 | h1)
        · exact h1
        · unfold Lib.keeps at hk
          have h2 := of_decide_eq_false (Bool.not_eq_true _ ▸ hk)
          have h3 : ¬ m = 0 := fun e => h2 (.inl e)
          have h4 : d[m]! = d[m - 1]! := Decidable.not_not.1 fun e => h2 (.inr e)
          exact ⟨m - 1, by omega, h4 ▸ h1⟩
/-- Sorted, then without doubles. -/
theorem compact_sort {n : Nat} {l : List Int} (h : ∀ x ∈ l, 0 ≤ x ∧ x ≤ n) : Lib.compact (l.mergeSort fun x y => decide (x ≤ y)) = rise n l := by
  have hs : (l.mergeSort fun x y => decide (x ≤ y)).Pairwise fun a b => decide (a ≤ b) = true := List.pairwise_mergeSort (fun a b c h1 h2 => by simp at *; omega) (fun a b => by simp; omega) l
  have hp := List.mergeSort_perm l fun x y => decide (x ≤ y)
  generalize (l.mergeSort fun x y => decide (x ≤ y)) = z at *
  have hd : ∀ i j : Nat, i < j → j < z.length → z.toArray[i]! ≤ z.toArray[j]! := fun i j h1 h2 => by
    have := List.pairwise_iff_getElem.1 hs i j (by omega) h2 h1
    rw [getElem!_pos _ i (by simp; omega), getElem!_pos _ j (by simpa using h2)]
    simpa using this
  obtain ⟨a, b⟩ := compact_upto z.toArray z.length (by simp) hd
  refine sorted_ext _ _ a (rise_sorted _ _) fun x => ?_
  rw [rise_mem h, ← hp.mem_iff]
  show x ∈ Lib.compactUpTo z.toArray z.length ↔ _
  rw [b x, List.mem_iff_getElem]
  constructor
  · rintro ⟨j, h1, h2⟩
    rw [getElem!_pos _ j (by simpa using h1)] at h2
    exact ⟨j, h1, by simpa using h2⟩
  · rintro ⟨j, h1, h2⟩
    exact ⟨j, h1, by rw [getElem!_pos _ j (by simpa using h1)]; simpa using h2⟩
end Go.Proofs.YtiaoonlhgjfdjaaDoor
