/- The places where control can go, plain: what control.Next gathers, and what it answers. -/
import Derived.Test.YtiaoonlhgjfdjaaDoorCtl3
namespace Go.Proofs.YtiaoonlhgjfdjaaDoor
open Go Go.RowKit

section
variable {ops : List Nat} {ends elses owners : List Int} {pc : Nat}
theorem getD_at {l : List Int} {j : Nat} (h : j < l.length) : l[j]? = some (l.getD j (-1)) := by
  rw [List.getD_eq_getElem?_getD, List.getElem?_eq_getElem h]; rfl
theorem MapOk.endD (h : MapOk ops ends elses owners) (j : Nat) : -1 ≤ ends.getD j (-1) ∧ ends.getD j (-1) < ops.length ∨ ends.getD j (-1) = -1 := by
  by_cases hj : j < ends.length
  · exact .inl (h.end_ j _ (getD_at hj))
  · rw [List.getD_eq_getElem?_getD, List.getElem?_eq_none (by omega)]; exact .inr rfl
theorem MapOk.elsD (h : MapOk ops ends elses owners) (j : Nat) : -1 ≤ elses.getD j (-1) ∧ elses.getD j (-1) < ops.length ∨ elses.getD j (-1) = -1 := by
  by_cases hj : j < elses.length
  · exact .inl (h.els j _ (getD_at hj))
  · rw [List.getD_eq_getElem?_getD, List.getElem?_eq_none (by omega)]; exact .inr rfl
theorem MapOk.end4 (h : MapOk ops ends elses owners) (hp : pc < ops.length) (ho : ops.getD pc 0 = 4 ∨ ops.getD pc 0 = 5) : 0 ≤ ends.getD pc (-1) ∧ ends.getD pc (-1) < ops.length := by
  have : ∃ v, ends[pc]? = some v ∧ 0 ≤ v := by
    rcases ho with ho | ho
    · exact h.opn pc hp (.inr (.inr ho))
    · exact h.opnE pc hp ho
  obtain ⟨v, hv, h0⟩ := this
  have := h.end_ pc v hv
  rw [List.getD_eq_getElem?_getD, hv]
  exact ⟨h0, this.2⟩
theorem lab_at {lab : List Int} {n : Int} (h : (∀ v ∈ lab, -1 ≤ v ∧ v < pc)) (h0 : ¬ (n < 0 ∨ (lab.length : Int) ≤ n)) : -1 ≤ lab.getD n.toNat (-1) ∧ lab.getD n.toNat (-1) < pc := by
  have hn : n.toNat < lab.length := by omega
  rw [List.getD_eq_getElem?_getD, List.getElem?_eq_getElem hn]
  exact h _ (List.getElem_mem hn)
/-- The place of a label that is there. -/
def placeQ (ops : List Nat) (ends : List Int) (o : Int) : Int :=
  if o < 0 then ops.length else if ops.getD o.toNat 0 = 3 then o + 1 else ends.getD o.toNat (-1) + 1
theorem placeP_in {lab : List Int} {n : Int} (h : ¬ (n < 0 ∨ (lab.length : Int) ≤ n)) : placeP ops ends lab n = placeQ ops ends (lab.getD n.toNat (-1)) := by
  rw [placeP, if_neg h, placeQ]
theorem placeP_out {lab : List Int} {n : Int} (h : n < 0 ∨ (lab.length : Int) ≤ n) : placeP ops ends lab n = -1 := by
  rw [placeP, if_pos h]
theorem MapOk.placeQ (h : MapOk ops ends elses owners) {o : Int} (ho : o < ops.length) : 0 ≤ placeQ ops ends o ∧ placeQ ops ends o ≤ ops.length := by
  unfold Go.Proofs.YtiaoonlhgjfdjaaDoor.placeQ
  have := h.endD o.toNat
  split
  · omega
  split <;> omega
theorem MapOk.place (h : MapOk ops ends elses owners) (hp : pc < ops.length) (n : Int) : -1 ≤ placeP ops ends (labP owners pc) n ∧ placeP ops ends (labP owners pc) n ≤ ops.length := by
  by_cases hn : n < 0 ∨ ((labP owners pc).length : Int) ≤ n
  · rw [placeP_out hn]; omega
  · rw [placeP_in hn]
    have h1 := lab_at (h.lab hp).1 hn
    have h2 := h.placeQ (o := (labP owners pc).getD n.toNat (-1)) (by omega)
    omega
theorem someP_range (h : MapOk ops ends elses owners) (hp : pc < ops.length) (a : Int) (l : List Int) : ∀ x ∈ someP ops ends elses (labP owners pc) pc a l, -1 ≤ x ∧ x ≤ ops.length := by
  intro x hx
  have hpl := h.place hp
  have he := h.endD pc; have hl := h.elsD pc
  unfold someP at hx
  split at hx
  · simp at hx
  split at hx
  · simp only [List.mem_cons, List.not_mem_nil, or_false] at hx
    rcases hx with rfl | rfl
    · omega
    · split <;> omega
  split at hx
  · simp only [List.mem_cons, List.not_mem_nil, or_false] at hx; omega
  split at hx
  · simp only [List.mem_cons, List.not_mem_nil, or_false] at hx; subst hx; exact hpl a
  split at hx
  · simp only [List.mem_cons, List.not_mem_nil, or_false] at hx
    rcases hx with rfl | rfl
    · omega
    · exact hpl a
  split at hx
  · obtain ⟨n, _, rfl⟩ := List.mem_map.1 hx; exact hpl n
  split at hx
  · simp only [List.mem_cons, List.not_mem_nil, or_false] at hx; omega
  · simp only [List.mem_cons, List.not_mem_nil, or_false] at hx; omega
theorem keepP_range (h : MapOk ops ends elses owners) (hp : pc < ops.length) (a : Int) (l : List Int) : ∀ x ∈ keepP (someP ops ends elses (labP owners pc) pc a l), 0 ≤ x ∧ x ≤ (ops.length : Int) := by
  intro x hx
  obtain ⟨h1, h2⟩ := List.mem_filter.1 hx
  exact ⟨of_decide_eq_true h2, (someP_range h hp a l x h1).2⟩
/-- What the program gathers, sorted, without doubles. -/
theorem next_rise (h : MapOk ops ends elses owners) (hp : pc < ops.length) (a : Int) (l : List Int) :
    Lib.compact ((keepP (someP ops ends elses (labP owners pc) pc a l)).mergeSort fun x y => decide (x ≤ y)) = rise ops.length (someP ops ends elses (labP owners pc) pc a l) := by
  rw [compact_sort (n := ops.length) (keepP_range h hp a l), rise_keep]
theorem keepP_one {x : Int} (h : 0 ≤ x) : keepP [x] = [x] := by simp [keepP, h]
theorem keepP_none : keepP [-1] = [] := by simp [keepP]
theorem keepP_cons {x : Int} {l : List Int} (h : 0 ≤ x) : keepP (x :: l) = x :: keepP l := by simp [keepP, h]
theorem keepP_app (l m : List Int) : keepP (l ++ m) = keepP l ++ keepP m := by simp [keepP]
end
/-- The labels at a pc, or none. -/
def labelsP (ops : List Nat) (pc : Int) : List Int := if (mapP ops).2.2.2.1 ≠ 0 ∨ pc < 0 ∨ (ops.length : Int) ≤ pc then [] else labP (mapP ops).2.2.1 pc.toNat
/-- The places where control can go, or none. -/
def nextsP (ops : List Nat) (pc a : Int) (l : List Int) : List Int :=
  if (mapP ops).2.2.2.1 ≠ 0 ∨ pc < 0 ∨ (ops.length : Int) ≤ pc then [] else rise ops.length (someP ops (mapP ops).1 (mapP ops).2.1 (labP (mapP ops).2.2.1 pc.toNat) pc.toNat a l)
example : labelsP [4, 5, 6, 6] 1 = [0, -1] := by decide
example : nextsP [4, 5, 6, 6] 0 0 [] = [1, 2] := by decide
end Go.Proofs.YtiaoonlhgjfdjaaDoor
