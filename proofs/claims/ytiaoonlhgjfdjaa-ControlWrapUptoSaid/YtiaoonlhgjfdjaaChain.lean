/- The labels at a pc are owners of owners, open there: plain. -/
import Derived.Test.YtiaoonlhgjfdjaaBrak2
namespace Go.Proofs.Ytiaoonlhgjfdjaa
open Go Go.RowKit

/-- A label at a pc. -/
structure LabG (ops : List Nat) (E : List Int) (pc : Nat) (a : Int) : Prop where
  lo : -1 ≤ a
  lt : a < pc
  op : 0 ≤ a → opensP (ops.getD a.toNat 0) ∧ (pc : Int) ≤ gI E a.toNat
theorem MapBr.lab0 {ops : List Nat} {E L O : List Int} {pc : Nat} (m : MapBr ops E L O) (hp : pc < ops.length) : LabG ops E pc (gI O pc) := by
  rcases m.own pc hp with h | ⟨t, h, h1, h2, h3⟩
  · rw [h]; exact ⟨by omega, by omega, fun h => by omega⟩
  · rw [h]; exact ⟨by omega, by omega, fun _ => by rw [Int.toNat_natCast]; exact ⟨h2, h3⟩⟩
theorem MapBr.labS {ops : List Nat} {E L O : List Int} {pc : Nat} {a : Int} (m : MapBr ops E L O) (hp : pc < ops.length) (h : LabG ops E pc a) (h0 : 0 ≤ a) : LabG ops E pc (gI O a.toNat) := by
  obtain ⟨t, rfl⟩ : ∃ t : Nat, a = t := ⟨a.toNat, by omega⟩
  rw [Int.toNat_natCast]
  have hlt := h.lt
  obtain ⟨ho, he⟩ := h.op h0
  rw [Int.toNat_natCast] at ho he
  rcases m.own t (by omega) with h1 | ⟨u, h1, h2, h3, h4⟩
  · rw [h1]; exact ⟨by omega, by omega, fun h => by omega⟩
  · rw [h1]
    refine ⟨by omega, by omega, fun _ => ?_⟩
    rw [Int.toNat_natCast]
    refine ⟨h3, ?_⟩
    obtain ⟨e, e1, _, _, e4⟩ := m.closed u (by omega) h3
    have hne : (t : Int) ≠ gI E u := fun hh => by
      obtain rfl : t = e := by omega
      unfold opensP at ho; omega
    have := m.nest u t h2 (by omega) h3 ho (by omega)
    omega
theorem labL_pos {o : List Int} (h : ∀ (j : Nat) (v : Int), o[j]? = some v → -1 ≤ v ∧ v < j) {x : Int} (h0 : -1 ≤ x) : 0 < (labL o x).length := by
  by_cases hx : 0 ≤ x
  · rw [labL_next h hx]; simp
  · obtain rfl : x = -1 := by omega
    rw [labL_end]; simp
/-- How the walk over the labels stands at k: the next one is a. -/
structure LabAt (ops : List Nat) (E O lab : List Int) (pc k : Nat) (a : Int) : Prop where
  rest : lab.drop k = labL O a
  good : LabG ops E pc a
theorem LabAt.head {ops : List Nat} {E O lab : List Int} {pc k : Nat} {a : Int} (h : LabAt ops E O lab pc k a) (ho : ∀ (j : Nat) (v : Int), O[j]? = some v → -1 ≤ v ∧ v < j) (hk : k < lab.length) : lab[k] = a := by
  have h1 := h.rest
  rw [List.drop_eq_getElem_cons hk] at h1
  by_cases h0 : 0 ≤ a
  · rw [labL_next ho h0] at h1; exact (List.cons.inj h1).1
  · have : a = -1 := by have := h.good.lo; omega
    rw [this, labL_end] at h1
    rw [(List.cons.inj h1).1, this]
theorem LabAt.last {ops : List Nat} {E O lab : List Int} {pc k : Nat} (h : LabAt ops E O lab pc k (-1)) (hk : k < lab.length) : lab.length = k + 1 := by
  have h1 := h.rest
  rw [labL_end] at h1
  have := congrArg List.length h1
  rw [List.length_drop] at this
  simp at this
  omega
theorem LabAt.next {ops : List Nat} {E L O lab : List Int} {pc k : Nat} {a : Int} (h : LabAt ops E O lab pc k a) (m : MapBr ops E L O) (ho : ∀ (j : Nat) (v : Int), O[j]? = some v → -1 ≤ v ∧ v < j) (hp : pc < ops.length) (hk : k < lab.length) (h0 : 0 ≤ a) :
    LabAt ops E O lab pc (k + 1) (gI O a.toNat) ∧ k + 1 < lab.length := by
  have h1 := h.rest
  rw [List.drop_eq_getElem_cons hk, labL_next ho h0] at h1
  have h2 := (List.cons.inj h1).2
  have hg := m.labS hp h.good h0
  refine ⟨⟨h2, hg⟩, ?_⟩
  have h3 := congrArg List.length h2
  have h4 := labL_pos ho (x := gI O a.toNat) hg.lo
  rw [List.length_drop] at h3
  have h5 : (labL O (O.getD a.toNat (-1))).length = (labL O (gI O a.toNat)).length := rfl
  omega
theorem LabAt.start {ops : List Nat} {E L O : List Int} {pc : Nat} (m : MapBr ops E L O) (hp : pc < ops.length) : LabAt ops E O (labP O pc) pc 0 (gI O pc) := ⟨rfl, m.lab0 hp⟩
theorem rise_at {n : Nat} {l : List Int} {k : Nat} (hk : k < (rise n l).length) : 0 ≤ (rise n l)[k] ∧ (rise n l)[k] ≤ n ∧ ∀ (_ : 0 < k), (rise n l)[k - 1] < (rise n l)[k] := by
  have hm : (rise n l)[k] ∈ rise n l := List.getElem_mem hk
  unfold rise at hm
  obtain ⟨j, hj, he⟩ := List.mem_map.1 hm
  have hj2 := List.mem_range.1 (List.mem_filter.1 hj).1
  refine ⟨?_, ?_, fun h0 => ?_⟩
  · have : (rise n l)[k] = (j : Int) := he.symm
    omega
  · have : (rise n l)[k] = (j : Int) := he.symm
    omega
  · have hs := rise_sorted n l
    exact List.pairwise_iff_getElem.1 hs (k - 1) k (by omega) hk (by omega)
end Go.Proofs.Ytiaoonlhgjfdjaa
