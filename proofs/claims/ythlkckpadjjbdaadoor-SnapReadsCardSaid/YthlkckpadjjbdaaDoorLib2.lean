/- More small facts on memory: what lies below stays, blocks of numbers, hidden chains. -/
import Derived.Test.YthlkckpadjjbdaaDoorLib
namespace Go.Proofs.YthlkckpadjjbdaaDoor
open Go Go.RowKit

/-- What lies below stays read. -/
theorem RdI.bel {k : IntKind} {w w' : World} {v : Value} {l : List Int} (h : RdI k (· < w.heap.size) w v l) (hb : Below w.heap.size w w') : RdI k (· < w'.heap.size) w' v l :=
  (h.keeps (Keeps.all _ hb)).mono fun _ hb' _ => hb'
theorem RdI.any {k : IntKind} {S : Nat → Prop} {w : World} {v : Value} {l : List Int} (h : RdI k S w v l) : RdI k (· < w.heap.size) w v l := h.mono fun _ hb _ => hb
theorem drewN_below (w : World) (n : Nat) : Below w.heap.size w (w.drewN n) := ⟨rfl, rfl, rfl, Nat.le_refl _, fun _ _ => rfl⟩
theorem below_next {w0 w w' : World} (h : Below w0.heap.size w0 w) (hb : Below w.heap.size w w') : Below w0.heap.size w0 w' := h.trans (hb.mono h.size)
/-- Bytes laid in one block, read. -/
theorem rdI_block {k : IntKind} {w : World} {g : Nat} {l : List Int} {T : Nat} {fr : Nat × Nat} (h : w.heap[g]? = some (.cells (l.map (Value.int k)).toArray T fr)) (hl : l.length ≤ 140737488355328) (c : Nat) (hc : l.length ≤ c) :
    RdI k (· = g) w (.slice (some ⟨g, 0, none⟩) l.length c) l :=
  ⟨_, c, rfl, hc, hl, fun j hj => ⟨g, 0, rfl, rfl, by rw [Nat.zero_add]; exact row_cell h j (by simp [hj])⟩⟩
theorem hid_drewN {w w' : World} (h : Hid (Below w.heap.size w w')) (n : Nat) : Hid (Below w.heap.size w (w'.drewN n)) := Lib.hid (below_next h.out (drewN_below _ _))
theorem hid_drew {w w' : World} (h : Hid (Below w.heap.size w w')) : Hid (Below w.heap.size w w'.drew) := Lib.hid (below_next h.out (drewN_below _ 1))
theorem hid_next {w w' w'' : World} (h : Hid (Below w.heap.size w w')) (k : Hid (Below w'.heap.size w' w'')) : Hid (Below w.heap.size w w'') := Lib.hid (below_next h.out k.out)
theorem heldOf {A B C : Prop} (h : A ∧ B ∧ C) : C := h.2.2
theorem hid_refl (w : World) : Hid (Below w.heap.size w w) := Lib.hid (Below.refl _ _)
theorem RdI.take {k : IntKind} {S : Nat → Prop} {w : World} {a : Option Addr} {n c : Nat} {l : List Int} (h : RdI k S w (.slice a n c) l) (m : Nat) (hm : m ≤ l.length) : RdI k S w (.slice a m c) (l.take m) := by
  obtain ⟨a', c', e, h1, h2, h3⟩ := h
  simp only [Value.slice.injEq] at e
  obtain ⟨rfl, rfl, rfl⟩ := e
  have hl : (l.take m).length = m := by simp; omega
  refine ⟨a, c, by rw [hl], by omega, by omega, fun j hj => ?_⟩
  obtain ⟨b, o, ea, hs, hc⟩ := h3 j (by omega)
  exact ⟨b, o, ea, hs, by rw [hc]; simp⟩

theorem RdI.lenc {k S w v l} (h : RdI k S w v l) : ∃ a cap, v = .slice a l.length cap ∧ l.length ≤ cap := by
  obtain ⟨a, cap, e, h1, _⟩ := h; exact ⟨a, cap, e, h1⟩
end Go.Proofs.YthlkckpadjjbdaaDoor
