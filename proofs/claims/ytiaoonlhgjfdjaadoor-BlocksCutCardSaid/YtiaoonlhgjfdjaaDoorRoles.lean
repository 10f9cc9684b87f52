/- Which list of a bag a block belongs to. -/
import Derived.Test.YtiaoonlhgjfdjaaDoorBag0
namespace Go.Proofs.YtiaoonlhgjfdjaaDoor
open Go Go.RowKit

/-- The list of which a block is the own block: its number. -/
def roleOf (vs : List Value) (b : Nat) : Nat := (vs.findIdx? fun v => v.ownBlock == some b).elim 0 (· + 3)
theorem role_none {vs : List Value} {b : Nat} (h : ∀ (k : Nat) v, vs[k]? = some v → v.ownBlock ≠ some b) : roleOf vs b = 0 := by
  unfold roleOf
  rw [List.findIdx?_eq_none_iff.2]
  · rfl
  · intro v hv
    obtain ⟨k, hk, rfl⟩ := List.mem_iff_getElem.1 hv
    have := h k _ (List.getElem?_eq_getElem hk)
    simpa using this
theorem role_some {vs : List Value} {k b : Nat} {v : Value} (hv : vs[k]? = some v) (hb : v.ownBlock = some b) (h : ∀ (j : Nat) u, vs[j]? = some u → u.ownBlock = some b → j = k) : roleOf vs b = k + 3 := by
  obtain ⟨hk, rfl⟩ := List.getElem?_eq_some_iff.1 hv
  unfold roleOf
  cases he : vs.findIdx? fun v => v.ownBlock == some b with
  | none =>
    have := List.findIdx?_eq_none_iff.1 he vs[k] (List.getElem_mem hk)
    simp [hb] at this
  | some j =>
    obtain ⟨hj, h1, _⟩ := List.findIdx?_eq_some_iff_getElem.1 he
    have := h j _ (List.getElem?_eq_getElem hj) (by simpa using h1)
    subst this
    rfl
end Go.Proofs.YtiaoonlhgjfdjaaDoor
