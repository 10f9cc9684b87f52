/- Slices of values, one cell each: bools, strings; flagonref00.EqBools, EqTexts. -/
import Derived.Test.YtfhkjahjenpbgaaDoorMLib
namespace Go.Proofs.YtfhkjahjenpbgaaDoor
open Go Go.RowKit

/-- The slice v reads as the values xs, one cell each; what it reads lies in the blocks S. -/
def RdV (S : Nat → Prop) (w : World) (v : Value) (xs : List Value) : Prop :=
  ∃ a cap, v = .slice a xs.length cap ∧ xs.length ≤ cap ∧ xs.length ≤ 140737488355328 ∧
    ∀ j (h : j < xs.length), ∃ b off, a = some ⟨b, off, none⟩ ∧ S b ∧ w.cell? ⟨b, off + j, none⟩ = some xs[j]
theorem RdV.nil (S : Nat → Prop) (w : World) : RdV S w (.slice none 0 0) [] := ⟨none, 0, rfl, by simp, by simp, fun j h => absurd h (by simp)⟩
theorem RdV.mono {S w v l} {T : Nat → Prop} (h : RdV S w v l) (hs : ∀ b, b < w.heap.size → S b → T b) : RdV T w v l := by
  obtain ⟨a, cap, e, h1, h2, h3⟩ := h
  refine ⟨a, cap, e, h1, h2, fun j hj => ?_⟩
  obtain ⟨b, off, ha, hb, hc⟩ := h3 j hj
  exact ⟨b, off, ha, hs b (World.block_lt_of_cell? w _ hc) hb, hc⟩
theorem RdV.keeps {S w w' v l} (h : RdV S w v l) (hk : Keeps S w w') : RdV S w' v l := by
  obtain ⟨a, cap, e, h1, h2, h3⟩ := h
  refine ⟨a, cap, e, h1, h2, fun j hj => ?_⟩
  obtain ⟨b, off, ha, hb, hc⟩ := h3 j hj
  exact ⟨b, off, ha, hb, hk.cell hc hb⟩
theorem RdV.any {S : Nat → Prop} {w : World} {v : Value} {l : List Value} (h : RdV S w v l) : RdV (· < w.heap.size) w v l := h.mono fun _ hb _ => hb
theorem RdV.bel {w w' : World} {v : Value} {l : List Value} (h : RdV (· < w.heap.size) w v l) (hb : Below w.heap.size w w') : RdV (· < w'.heap.size) w' v l :=
  (h.keeps (Keeps.all _ hb)).mono fun _ hb' _ => hb'
theorem RdV.lenc {S w v l} (h : RdV S w v l) : ∃ a cap, v = .slice a l.length cap ∧ l.length ≤ cap := by
  obtain ⟨a, cap, e, h1, _⟩ := h; exact ⟨a, cap, e, h1⟩
theorem RdV.ofI {k : IntKind} {S : Nat → Prop} {w : World} {v : Value} {l : List Int} (h : RdI k S w v l) : RdV S w v (l.map (Value.int k)) := by
  obtain ⟨a, cap, e, h1, h2, h3⟩ := h
  refine ⟨a, cap, by simpa using e, by simpa using h1, by simpa using h2, fun j hj => ?_⟩
  obtain ⟨b, off, ha, hb, hc⟩ := h3 j (by simpa using hj)
  exact ⟨b, off, ha, hb, by simpa using hc⟩
/-- A list of bools, of strings, as values. -/
abbrev bools' (l : List Bool) : List Value := l.map Value.bool
theorem ba_inj {a b : ByteArray} (h : a.toList = b.toList) : a = b := by
  rw [ByteArray.toList_eq, ByteArray.toList_eq] at h
  obtain ⟨⟨x⟩⟩ := a
  obtain ⟨⟨y⟩⟩ := b
  simp at h
  rw [h]
abbrev texts (l : List ByteArray) : List Value := l.map Value.string
end Go.Proofs.YtfhkjahjenpbgaaDoor
