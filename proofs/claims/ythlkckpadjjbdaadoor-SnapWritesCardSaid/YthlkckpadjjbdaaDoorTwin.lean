/- Two rows of bytes that lie apart. -/
import Derived.Test.YthlkckpadjjbdaaDoorBag
namespace Go.Proofs.YthlkckpadjjbdaaDoor
open Go Go.RowKit

/-- Two rows of bytes, of the same bytes, apart, below G. -/
structure Twin (B0 G : Nat) (w : World) (va vb : Value) (l : List Int) : Prop where
  a : w.ownsRow B0 5 1 va l.length (l.map (Value.int .u8))
  b : w.ownsRow B0 5 1 vb l.length (l.map (Value.int .u8))
  alt : ∀ g, va.ownBlock = some g → g < G
  blt : ∀ g, vb.ownBlock = some g → g < G
  ne : ∀ g, va.ownBlock = some g → vb.ownBlock ≠ some g
  len : l.length ≤ 1073741824
theorem Twin.on {B0 G : Nat} {w w' : World} {va vb : Value} {l : List Int} (h : Twin B0 G w va vb l) (hb : Below G w w') : Twin B0 G w' va vb l :=
  ⟨own_keeps h.a (Keeps.of_below hb) h.alt, own_keeps h.b (Keeps.of_below hb) h.blt, h.alt, h.blt, h.ne, h.len⟩
theorem Twin.up {B0 G G' : Nat} {w : World} {va vb : Value} {l : List Int} (h : Twin B0 G w va vb l) (hG : G ≤ G') : Twin B0 G' w va vb l :=
  ⟨h.a, h.b, fun g hg => Nat.lt_of_lt_of_le (h.alt g hg) hG, fun g hg => Nat.lt_of_lt_of_le (h.blt g hg) hG, h.ne, h.len⟩
theorem Twin.rows {B0 G : Nat} {w : World} {va vb : Value} {m : List Int} (h : Twin B0 G w va vb m) :
    (∀ (k : Nat) v l, [va, vb][k]? = some v → [m, m][k]? = some l → w.ownsRow B0 5 1 v l.length (l.map (Value.int .u8)) ∧ l.length ≤ 1073741824) ∧
    (∀ (k : Nat) v g, [va, vb][k]? = some v → v.ownBlock = some g → g < G) ∧
    (∀ (k j : Nat) v u g, [va, vb][k]? = some v → [va, vb][j]? = some u → v.ownBlock = some g → u.ownBlock = some g → j = k) := by
  refine ⟨fun k v l h1 h2 => ?_, fun k v g h1 h2 => ?_, fun k j v u g h1 h2 h3 h4 => ?_⟩
  · match k, h1, h2 with
    | 0, h1, h2 => obtain rfl := Option.some.inj h1; obtain rfl := Option.some.inj h2; exact ⟨h.a, h.len⟩
    | 1, h1, h2 => obtain rfl := Option.some.inj h1; obtain rfl := Option.some.inj h2; exact ⟨h.b, h.len⟩
    | k + 2, h1, _ => simp at h1
  · match k, h1 with
    | 0, h1 => obtain rfl := Option.some.inj h1; exact h.alt g h2
    | 1, h1 => obtain rfl := Option.some.inj h1; exact h.blt g h2
    | k + 2, h1 => simp at h1
  · match k, j, h1, h2 with
    | 0, 0, _, _ => rfl
    | 1, 1, _, _ => rfl
    | 0, 1, h1, h2 => obtain rfl := Option.some.inj h1; obtain rfl := Option.some.inj h2; exact absurd h4 (h.ne g h3)
    | 1, 0, h1, h2 => obtain rfl := Option.some.inj h1; obtain rfl := Option.some.inj h2; exact absurd h3 (h.ne g h4)
    | k + 2, _, h1, _ => simp at h1
    | _, j + 2, _, h2 => simp at h2
end Go.Proofs.YthlkckpadjjbdaaDoor
