/- What opens and ends in a code, plain: control.Map and flagonref09.Map, as one walk over the opcodes. -/
import Derived.WalkKit
namespace Go.Proofs.YtiaoonlhgjfdjaaDoor
open Go Go.RowKit

/-- How the walk stands: the three lists told so far, what has not ended (the innermost last). -/
structure Ms where
  ends : List Int
  elses : List Int
  owners : List Int
  open_ : List Nat
def Ms.top (s : Ms) : Int := match s.open_.getLast? with | none => -1 | some t => t
/-- One instruction: an error, or 0; the state; is the body's end met? -/
def stepM (ops : List Nat) (pc : Nat) (s : Ms) : Int × Ms × Bool :=
  if ops.getD pc 0 = 2 ∨ ops.getD pc 0 = 3 ∨ ops.getD pc 0 = 4 then
    (if s.open_.length = 32 then (35, { s with owners := s.owners.set pc s.top }, false) else (0, { s with owners := s.owners.set pc s.top, open_ := s.open_ ++ [pc] }, false))
  else if ops.getD pc 0 = 5 then
    (if s.top < 0 ∨ ops.getD s.top.toNat 0 ≠ 4 ∨ 0 ≤ s.elses.getD s.top.toNat 0 then (37, { s with owners := s.owners.set pc s.top }, false)
     else (0, { s with owners := s.owners.set pc s.top, elses := s.elses.set s.top.toNat pc }, false))
  else if ops.getD pc 0 = 6 then
    (if s.top < 0 then (0, { s with owners := s.owners.set pc s.top }, true)
     else (0, { s with owners := s.owners.set pc s.top, ends := if 0 ≤ s.elses.getD s.top.toNat 0 then (s.ends.set s.top.toNat pc).set (s.elses.getD s.top.toNat 0).toNat pc else s.ends.set s.top.toNat pc, open_ := s.open_.dropLast }, false))
  else (0, { s with owners := s.owners.set pc s.top }, false)
/-- From pc on, f instructions: the state, the error, the place. -/
def goM (ops : List Nat) : Nat → Nat → Ms → Ms × Int × Nat
  | 0, pc, s => (s, 38, pc)
  | f + 1, pc, s =>
    if (stepM ops pc s).1 ≠ 0 then ((stepM ops pc s).2.1, (stepM ops pc s).1, pc)
    else if (stepM ops pc s).2.2 = true then (if pc + 1 < ops.length then ((stepM ops pc s).2.1, 19, pc + 1) else ((stepM ops pc s).2.1, 0, 0))
    else goM ops f (pc + 1) (stepM ops pc s).2.1
def startM (n : Nat) : Ms := ⟨List.replicate n (-1), List.replicate n (-1), List.replicate n (-1), []⟩
/-- What Map answers: the three lists (none where it is refused), the error, the place. -/
def mapP (ops : List Nat) : List Int × List Int × List Int × Int × Nat :=
  if (goM ops ops.length 0 (startM ops.length)).2.1 = 0 then
    ((goM ops ops.length 0 (startM ops.length)).1.ends, (goM ops ops.length 0 (startM ops.length)).1.elses, (goM ops ops.length 0 (startM ops.length)).1.owners, 0, 0)
  else ([], [], [], (goM ops ops.length 0 (startM ops.length)).2.1, (goM ops ops.length 0 (startM ops.length)).2.2)
example : mapP [4, 5, 6, 6] = ([2, 2, -1, -1], [1, -1, -1, -1], [-1, 0, 0, -1], 0, 0) := by decide
example : mapP [4, 5, 6] = ([], [], [], 38, 3) := by decide
example : mapP [6, 1] = ([], [], [], 19, 1) := by decide
/-- The lists keep their length; places lie below the pc. -/
structure Ms.Ok (n pc : Nat) (s : Ms) : Prop where
  le : s.ends.length = n
  ll : s.elses.length = n
  lo : s.owners.length = n
  open_ : ∀ t ∈ s.open_, t < pc
  deep : s.open_.length ≤ 32
  els : ∀ (j : Nat) (v : Int), s.elses[j]? = some v → v < pc
theorem startM_ok (n : Nat) : (startM n).Ok n 0 := by
  refine ⟨by simp [startM], by simp [startM], by simp [startM], fun t h => by simp [startM] at h, by simp [startM], fun j v h => ?_⟩
  have h' : (List.replicate n (-1 : Int))[j]? = some v := h
  rw [List.getElem?_replicate] at h'
  split at h'
  · have := Option.some.inj h'; omega
  · cases h'
theorem els_set {l : List Int} {pc : Nat} (h : ∀ (j : Nat) (v : Int), l[j]? = some v → v < pc) (k : Nat) : ∀ (j : Nat) (v : Int), (l.set k (pc : Int))[j]? = some v → v < ((pc + 1 : Nat) : Int) := by
  intro j v hj
  rw [List.getElem?_set] at hj
  split at hj
  · split at hj
    · have := Option.some.inj hj; omega
    · cases hj
  · have := h j v hj; omega
theorem stepM_ok {ops : List Nat} {n pc : Nat} {s : Ms} (h : s.Ok n pc) : (stepM ops pc s).2.1.Ok n (pc + 1) := by
  have ho : ∀ t ∈ s.open_, t < pc + 1 := fun t ht => by have := h.open_ t ht; omega
  have he : ∀ (j : Nat) (v : Int), s.elses[j]? = some v → v < ((pc + 1 : Nat) : Int) := fun j v hj => by have := h.els j v hj; omega
  have hd := h.deep
  have b1 : ∀ x, (s.owners.set pc x).length = n := fun x => by rw [List.length_set]; exact h.lo
  unfold stepM
  split
  · split
    · exact ⟨h.le, h.ll, b1 _, ho, hd, he⟩
    · rename_i hn
      exact ⟨h.le, h.ll, b1 _, fun t ht => by rcases List.mem_append.1 ht with h1 | h1; exact ho t h1; simp at h1; omega, by simp; omega, he⟩
  split
  · split
    · exact ⟨h.le, h.ll, b1 _, ho, hd, he⟩
    · exact ⟨h.le, by rw [← h.ll]; exact List.length_set, b1 _, ho, hd, els_set h.els _⟩
  split
  · split
    · exact ⟨h.le, h.ll, b1 _, ho, hd, he⟩
    · exact ⟨by simp only; split <;> simp [h.le], h.ll, b1 _, fun t ht => ho t (List.dropLast_subset _ ht), by show s.open_.dropLast.length ≤ 32; rw [List.length_dropLast]; omega, he⟩
  · exact ⟨h.le, h.ll, b1 _, ho, hd, he⟩
end Go.Proofs.YtiaoonlhgjfdjaaDoor
