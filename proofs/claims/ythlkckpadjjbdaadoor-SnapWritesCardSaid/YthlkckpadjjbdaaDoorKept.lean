/- Append, lists of bytes: rows, marks. -/
import Derived.Test.YthlkckpadjjbdaaDoorKept0
namespace Go.Proofs.YthlkckpadjjbdaaDoor
open Go Go.RowKit

/-- The slice v reads as the bytes l, from the beginning of its block on; its block is in S. -/
def Rd0 (S : Nat → Prop) (w : World) (v : Value) (l : List Int) : Prop :=
  ∃ a cap, v = .slice a l.length cap ∧ l.length ≤ cap ∧ ∀ j (h : j < l.length), ∃ b, a = some ⟨b, 0, none⟩ ∧ S b ∧ w.cell? ⟨b, j, none⟩ = some (.int .u8 l[j])
theorem Rd0.turned {q r : Nat} {R R' : Nat → Nat} {w w' : World} {v : Value} {l : List Int} (h : Rd0 (R · = r) w v l) (ht : Turned q R w R' w') (hr : r ≠ q) : Rd0 (R' · = r) w' v l := by
  obtain ⟨a, cap, e, h1, h2⟩ := h
  refine ⟨a, cap, e, h1, fun j hj => ?_⟩
  obtain ⟨b, ha, hb, hc⟩ := h2 j hj
  exact ⟨b, ha, (ht.same b (World.block_lt_of_cell? w _ hc)).trans hb, ht.keeps.cell hc (by show R b ≠ q; rw [hb]; exact hr)⟩
theorem Rd0.kept {r n q : Nat} {R : Nat → Nat} {w w' : World} {row : Option Nat} {v : Value} {l : List Int} (h : Rd0 (R · = r) w v l) (hk : Kept w w' row n) (hn : l.length ≤ n) : Rd0 (ext R w.heap.size q · = r) w' v l := by
  obtain ⟨a, cap, e, h1, h2⟩ := h
  refine ⟨a, cap, e, h1, fun j hj => ?_⟩
  obtain ⟨b, ha, hb, hc⟩ := h2 j hj
  exact ⟨b, ha, (ext_old (World.block_lt_of_cell? w _ hc)).trans hb, hk.cell hc (by omega)⟩
/-- A row of bytes of its own, of the blocks of role r. -/
structure Row (B : Nat) (R : Nat → Nat) (w : World) (r : Nat) (v : Value) (l : List Int) : Prop where
  own : w.ownsRow B 5 1 v l.length (l.map (Value.int .u8))
  role : ∀ g, v.ownBlock = some g → R g = r
theorem Row.turned {B q r : Nat} {R R' : Nat → Nat} {w w' : World} {v : Value} {l : List Int} (h : Row B R w r v l) (ht : Turned q R w R' w') (hr : r ≠ q) : Row B R' w' r v l :=
  ⟨own_keeps h.own ht.keeps fun b hb => by show R b ≠ q; rw [h.role b hb]; exact hr, fun g hg => (ht.same g (h.own.lt g hg).2).trans (h.role g hg)⟩
theorem Row.rd {B r : Nat} {R : Nat → Nat} {w : World} {v : Value} {l : List Int} (h : Row B R w r v l) : Rd0 (R · = r) w v l := by
  have ho := h.own
  rcases ho.2 with ⟨rfl, h0⟩ | ⟨g, cap, cur, rfl, _, _, hn, _⟩
  · obtain rfl : l = [] := List.eq_nil_of_length_eq_zero h0
    exact ⟨none, 0, by simp, by simp, fun j h => absurd h (by simp)⟩
  · exact ⟨_, cap, rfl, hn, fun j hj => ⟨g, rfl, h.role g rfl, own_at ho rfl (by simp [hj])⟩⟩
/-- A list of slices of its own, of the blocks of role r. -/
structure Lst (B : Nat) (R : Nat → Nat) (w : World) (r : Nat) (v : Value) (l : List Value) : Prop where
  own : w.ownsRow B 31 1 v l.length l
  role : ∀ g, v.ownBlock = some g → R g = r
theorem Lst.turned {B q r : Nat} {R R' : Nat → Nat} {w w' : World} {v : Value} {l : List Value} (h : Lst B R w r v l) (ht : Turned q R w R' w') (hr : r ≠ q) : Lst B R' w' r v l :=
  ⟨own_keeps h.own ht.keeps fun b hb => by show R b ≠ q; rw [h.role b hb]; exact hr, fun g hg => (ht.same g (h.own.lt g hg).2).trans (h.role g hg)⟩
theorem Row.grown {B q : Nat} {R : Nat → Nat} {w w' : World} {v v' : Value} {l : List Int} {x : Int} (h : Row B R w q v l) (ho : w'.ownsRow B 5 1 v' (l.length + 1) (l.map (Value.int .u8) ++ [.int .u8 x]))
    (hg : ∀ g, v'.ownBlock = some g → v.ownBlock = some g ∨ w.heap.size ≤ g) : Row B (ext R w.heap.size q) w' q v' (l ++ [x]) := by
  refine ⟨by simpa using ho, fun g hg' => ?_⟩
  rcases hg g hg' with h1 | h1
  · rw [ext_old (h.own.lt g h1).2]; exact h.role g h1
  · exact ext_new h1
theorem Lst.grown {B q : Nat} {R : Nat → Nat} {w w' : World} {v v' : Value} {l : List Value} {x : Value} (h : Lst B R w q v l) (ho : w'.ownsRow B 31 1 v' (l.length + 1) (l ++ [x]))
    (hg : ∀ g, v'.ownBlock = some g → v.ownBlock = some g ∨ w.heap.size ≤ g) : Lst B (ext R w.heap.size q) w' q v' (l ++ [x]) := by
  refine ⟨by simpa using ho, fun g hg' => ?_⟩
  rcases hg g hg' with h1 | h1
  · rw [ext_old (h.own.lt g h1).2]; exact h.role g h1
  · exact ext_new h1
/-- The mark of a place of a list of bytes. -/
def mkB (n i : Nat) : Int := ((31 * n + 7 * i + 3) % 256 : Nat)
def marks (n : Nat) : Nat → List Int
  | 0 => []
  | i + 1 => marks n i ++ [mkB n i]
theorem marks_len (n : Nat) : ∀ i, (marks n i).length = i
  | 0 => rfl
  | i + 1 => by rw [marks, List.length_append, marks_len n i]; rfl
theorem marks_at (n : Nat) : ∀ (i j : Nat), j < i → (marks n i)[j]? = some (mkB n j)
  | 0, _, h => absurd h (by omega)
  | i + 1, j, h => by
    rw [marks]
    by_cases hj : j < i
    · rw [List.getElem?_append_left (by rw [marks_len]; exact hj)]; exact marks_at n i j hj
    · obtain rfl : j = i := by omega
      rw [List.getElem?_append_right (by rw [marks_len]; exact Nat.le_refl _), marks_len, Nat.sub_self]; rfl
end Go.Proofs.YthlkckpadjjbdaaDoor
