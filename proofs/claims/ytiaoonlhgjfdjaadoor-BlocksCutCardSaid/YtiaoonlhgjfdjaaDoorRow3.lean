/- Three rows of ints, each a block of its own, and a stack beside them. -/
import Derived.Test.YtiaoonlhgjfdjaaDoorKept0
import Derived.Test.YtiaoonlhgjfdjaaDoorCtl3
namespace Go.Proofs.YtiaoonlhgjfdjaaDoor
open Go Go.RowKit

abbrev ints (l : List Int) : List Value := l.map (Value.int .i64)
theorem ints_set (l : List Int) (k : Nat) (x : Int) : (ints l).set k (.int .i64 x) = ints (l.set k x) := by simp [ints, List.map_set]
/-- A row of ints of its own. -/
abbrev OwnI (B T : Nat) (w : World) (v : Value) (l : List Int) : Prop := w.ownsRow B T 1 v l.length (ints l)
theorem OwnI.at_ {B T : Nat} {w : World} {v : Value} {l : List Int} (h : OwnI B T w v l) {k : Nat} (hk : k < l.length) :
    ∃ g c, v = .slice (some ⟨g, 0, none⟩) l.length c ∧ B ≤ g ∧ g < w.heap.size ∧ w.cell? ⟨g, k, none⟩ = some (.int .i64 l[k]) ∧ w.frozen? ⟨g, k, none⟩ = false := by
  have h' := h
  rcases h.2 with ⟨_, h0⟩ | ⟨g, c, cur, rfl, hb, hg, _⟩
  · omega
  · exact ⟨g, c, rfl, hb, row_lt hg, own_at h' rfl (by simp [hk]), World.ownsRow.frozenAt h' k⟩
theorem OwnI.set {B T g c n k : Nat} {w : World} {l : List Int} (h : OwnI B T w (.slice (some ⟨g, 0, none⟩) n c) l) (x : Int) :
    OwnI B T (w.setCell ⟨g, k, none⟩ (.int .i64 x)) (.slice (some ⟨g, 0, none⟩) n c) (l.set k x) := by
  obtain ⟨a, c', e, _⟩ := own_slice h
  simp only [Value.slice.injEq] at e
  obtain ⟨_, rfl, _⟩ := e
  have := (World.ownsRow.stored h k (.int .i64 x)).1
  rw [ints_set] at this
  simpa [OwnI] using this
theorem OwnI.far {B T g k : Nat} {w : World} {v : Value} {l : List Int} (h : OwnI B T w v l) (hg : v.ownBlock ≠ some g) (u : Value) : OwnI B T (w.setCell ⟨g, k, none⟩ u) v l :=
  own_keeps (S := fun b => b ≠ g) h ((Keeps.refl _ w).setCell (a := ⟨g, k, none⟩) (by simp) u) fun b hb e => hg (by rw [hb, e])
/-- Three rows of ints, each a block of its own. -/
structure R3 (B T : Nat) (w : World) (v1 v2 v3 : Value) (E L O : List Int) : Prop where
  r1 : OwnI B T w v1 E
  r2 : OwnI B T w v2 L
  r3 : OwnI B T w v3 O
  d12 : ∀ g, v1.ownBlock = some g → v2.ownBlock ≠ some g
  d13 : ∀ g, v1.ownBlock = some g → v3.ownBlock ≠ some g
  d23 : ∀ g, v2.ownBlock = some g → v3.ownBlock ≠ some g
section
variable {B T : Nat} {w wr wy : World} {v1 v2 v3 : Value} {E L O : List Int}
theorem R3.kept {S : Nat → Prop} (h : R3 B T wr v1 v2 v3 E L O) (hk : Keeps S wr wy) (h1 : ∀ g, v1.ownBlock = some g → S g) (h2 : ∀ g, v2.ownBlock = some g → S g) (h3 : ∀ g, v3.ownBlock = some g → S g) : R3 B T wy v1 v2 v3 E L O :=
  ⟨own_keeps h.r1 hk h1, own_keeps h.r2 hk h2, own_keeps h.r3 hk h3, h.d12, h.d13, h.d23⟩
theorem R3.on (h : R3 B T wr v1 v2 v3 E L O) (hb : Below wr.heap.size wr wy) : R3 B T wy v1 v2 v3 E L O :=
  h.kept (Keeps.all (fun _ => True) hb) (fun _ _ => trivial) (fun _ _ => trivial) fun _ _ => trivial
theorem R3.set1 {g n c : Nat} (h : R3 B T wr (.slice (some ⟨g, 0, none⟩) n c) v2 v3 E L O) (k : Nat) (x : Int) : R3 B T (wr.setCell ⟨g, k, none⟩ (.int .i64 x)) (.slice (some ⟨g, 0, none⟩) n c) v2 v3 (E.set k x) L O :=
  ⟨h.r1.set x, h.r2.far (h.d12 g rfl) _, h.r3.far (h.d13 g rfl) _, h.d12, h.d13, h.d23⟩
theorem R3.set2 {g n c : Nat} (h : R3 B T wr v1 (.slice (some ⟨g, 0, none⟩) n c) v3 E L O) (k : Nat) (x : Int) : R3 B T (wr.setCell ⟨g, k, none⟩ (.int .i64 x)) v1 (.slice (some ⟨g, 0, none⟩) n c) v3 E (L.set k x) O :=
  ⟨h.r1.far (fun e => h.d12 g e rfl) _, h.r2.set x, h.r3.far (h.d23 g rfl) _, h.d12, h.d13, h.d23⟩
theorem R3.set3 {g n c : Nat} (h : R3 B T wr v1 v2 (.slice (some ⟨g, 0, none⟩) n c) E L O) (k : Nat) (x : Int) : R3 B T (wr.setCell ⟨g, k, none⟩ (.int .i64 x)) v1 v2 (.slice (some ⟨g, 0, none⟩) n c) E L (O.set k x) :=
  ⟨h.r1.far (fun e => h.d13 g e rfl) _, h.r2.far (fun e => h.d23 g e rfl) _, h.r3.set x, h.d12, h.d13, h.d23⟩
end
/-- The three rows and a stack. -/
structure Mh (w : World) (T TS sz : Nat) (v1 v2 v3 : Value) (wr : World) (ov : Value) (m : Nat) (E L O : List Int) (K : List Value) : Prop where
  bel : Below w.heap.size w wr
  rows : R3 w.heap.size T wr v1 v2 v3 E L O
  stk : wr.ownsRow w.heap.size TS sz ov m K
  ds : ∀ g, ov.ownBlock = some g → v1.ownBlock ≠ some g ∧ v2.ownBlock ≠ some g ∧ v3.ownBlock ≠ some g
section
variable {T TS sz m : Nat} {w wr wy : World} {v1 v2 v3 ov ov' : Value} {E L O : List Int} {K : List Value}
theorem Mh.on (h : Mh w T TS sz v1 v2 v3 wr ov m E L O K) (hb : Below wr.heap.size wr wy) : Mh w T TS sz v1 v2 v3 wy ov m E L O K :=
  ⟨below_next h.bel hb, h.rows.on hb, own_below h.stk hb, h.ds⟩
theorem stk_far {g k : Nat} (h : wr.ownsRow w.heap.size TS sz ov m K) (hg : ov.ownBlock ≠ some g) (u : Value) : (wr.setCell ⟨g, k, none⟩ u).ownsRow w.heap.size TS sz ov m K :=
  own_keeps (S := fun b => b ≠ g) h ((Keeps.refl _ wr).setCell (a := ⟨g, k, none⟩) (by simp) u) fun b hb e => hg (by rw [hb, e])
theorem Mh.set1 {g n c : Nat} (h : Mh w T TS sz (.slice (some ⟨g, 0, none⟩) n c) v2 v3 wr ov m E L O K) (k : Nat) (x : Int) : Mh w T TS sz (.slice (some ⟨g, 0, none⟩) n c) v2 v3 (wr.setCell ⟨g, k, none⟩ (.int .i64 x)) ov m (E.set k x) L O K :=
  ⟨h.bel.setCell (p := ⟨g, k, none⟩) (h.rows.r1.lt g rfl).1 _, h.rows.set1 k x, stk_far h.stk (fun e => (h.ds g e).1 rfl) _, h.ds⟩
theorem Mh.set2 {g n c : Nat} (h : Mh w T TS sz v1 (.slice (some ⟨g, 0, none⟩) n c) v3 wr ov m E L O K) (k : Nat) (x : Int) : Mh w T TS sz v1 (.slice (some ⟨g, 0, none⟩) n c) v3 (wr.setCell ⟨g, k, none⟩ (.int .i64 x)) ov m E (L.set k x) O K :=
  ⟨h.bel.setCell (p := ⟨g, k, none⟩) (h.rows.r2.lt g rfl).1 _, h.rows.set2 k x, stk_far h.stk (fun e => (h.ds g e).2.1 rfl) _, h.ds⟩
theorem Mh.set3 {g n c : Nat} (h : Mh w T TS sz v1 v2 (.slice (some ⟨g, 0, none⟩) n c) wr ov m E L O K) (k : Nat) (x : Int) : Mh w T TS sz v1 v2 (.slice (some ⟨g, 0, none⟩) n c) (wr.setCell ⟨g, k, none⟩ (.int .i64 x)) ov m E L (O.set k x) K :=
  ⟨h.bel.setCell (p := ⟨g, k, none⟩) (h.rows.r3.lt g rfl).1 _, h.rows.set3 k x, stk_far h.stk (fun e => (h.ds g e).2.2 rfl) _, h.ds⟩
theorem Mh.top {g c : Nat} (h : Mh w T TS sz v1 v2 v3 wr (.slice (some ⟨g, 0, none⟩) m c) m E L O K) (k : Nat) (x : Int) : Mh w T TS sz v1 v2 v3 (wr.setCell ⟨g, k, none⟩ (.int .i64 x)) (.slice (some ⟨g, 0, none⟩) m c) m E L O (K.set k (.int .i64 x)) :=
  ⟨h.bel.setCell (p := ⟨g, k, none⟩) (h.stk.lt g rfl).1 _, h.rows.kept (S := fun b => b ≠ g) ((Keeps.refl _ wr).setCell (a := ⟨g, k, none⟩) (by simp) _) (fun b hb e => (h.ds g rfl).1 (by rw [hb, e])) (fun b hb e => (h.ds g rfl).2.1 (by rw [hb, e])) (fun b hb e => (h.ds g rfl).2.2 (by rw [hb, e])),
    (World.ownsRow.stored h.stk k _).1, h.ds⟩
theorem Mh.push {m' : Nat} {K' : List Value} (h : Mh w T TS sz v1 v2 v3 wr ov m E L O K) (ho : wy.ownsRow w.heap.size TS sz ov' m' K') (hg : wr.grownBy wy ov.ownBlock) (hn : ∀ g, ov'.ownBlock = some g → ov.ownBlock = some g ∨ wr.heap.size ≤ g) : Mh w T TS sz v1 v2 v3 wy ov' m' E L O K' := by
  have hk : Keeps (fun b => ov.ownBlock ≠ some b) wr wy := (Keeps.refl _ wr).grown hg fun k hk _ h' => h' hk
  refine ⟨h.bel.grown hg (by have := h.bel.size; omega) fun j hj => (h.stk.lt j hj).1, h.rows.kept hk (fun b hb e => (h.ds b e).1 hb) (fun b hb e => (h.ds b e).2.1 hb) (fun b hb e => (h.ds b e).2.2 hb), ho, fun g hg' => ?_⟩
  rcases hn g hg' with h1 | h1
  · exact h.ds g h1
  · refine ⟨fun e => ?_, fun e => ?_, fun e => ?_⟩
    · have := h.rows.r1.lt g e; omega
    · have := h.rows.r2.lt g e; omega
    · have := h.rows.r3.lt g e; omega
theorem own_cut {B e size g n c : Nat} {xs : List Value} (h : wr.ownsRow B e size (.slice (some ⟨g, 0, none⟩) n c) n xs) (k : Nat) (hk : k ≤ n) : wr.ownsRow B e size (.slice (some ⟨g, 0, none⟩) k c) k (xs.take (k * size)) := by
  rcases h.2 with ⟨h', _⟩ | ⟨g', cap', cur, h', hb, hg, h1, h2, h3, h4⟩
  · simp at h'
  · simp only [Value.slice.injEq, Option.some.injEq, Addr.mk.injEq, and_true, true_and] at h'
    obtain ⟨rfl, rfl⟩ := h'
    have hm : k * size ≤ n * size := Nat.mul_le_mul_right _ hk
    refine ⟨by rw [List.length_take, h.1]; omega, .inr ⟨g, c, cur, rfl, hb, hg, by omega, h2, h3, ?_⟩⟩
    rw [← h4, List.take_take, Nat.min_eq_left hm]
theorem Mh.cut {g c : Nat} (h : Mh w T TS sz v1 v2 v3 wr (.slice (some ⟨g, 0, none⟩) m c) m E L O K) (k : Nat) (hk : k ≤ m) : Mh w T TS sz v1 v2 v3 wr (.slice (some ⟨g, 0, none⟩) k c) k E L O (K.take (k * sz)) :=
  ⟨h.bel, h.rows, own_cut h.stk k hk, h.ds⟩
end
/-- A stack of pairs, as cells. -/
def pairC : List (Int × Int) → List Value
  | [] => []
  | p :: l => .int .i64 p.1 :: .int .i64 p.2 :: pairC l
theorem pairC_len : ∀ l, (pairC l).length = l.length * 2
  | [] => rfl
  | p :: l => by rw [pairC, List.length_cons, List.length_cons, pairC_len l, List.length_cons]; omega
theorem pairC_app : ∀ l l', pairC (l ++ l') = pairC l ++ pairC l'
  | [], _ => rfl
  | p :: l, l' => by rw [List.cons_append, pairC, pairC_app l l', pairC]; rfl
theorem pairC_at : ∀ (l : List (Int × Int)) (k : Nat) (p), l[k]? = some p → (pairC l)[k * 2]? = some (.int .i64 p.1) ∧ (pairC l)[k * 2 + 1]? = some (.int .i64 p.2)
  | [], k, p, h => by simp at h
  | q :: l, 0, p, h => by simp at h; subst h; exact ⟨rfl, rfl⟩
  | q :: l, k + 1, p, h => by
    have := pairC_at l k p (by simpa using h)
    rw [show (k + 1) * 2 = k * 2 + 1 + 1 by omega]
    exact this
theorem pairC_set : ∀ (l : List (Int × Int)) (k : Nat) (p : Int × Int) (y : Int), l[k]? = some p → (pairC l).set (k * 2 + 1) (.int .i64 y) = pairC (l.set k (p.1, y))
  | [], k, p, y, h => by simp at h
  | q :: l, 0, p, y, h => by simp at h; subst h; rfl
  | q :: l, k + 1, p, y, h => by
    have := pairC_set l k p y (by simpa using h)
    rw [show (k + 1) * 2 + 1 = k * 2 + 1 + 1 + 1 by omega, pairC, List.set_cons_succ, List.set_cons_succ, this, List.set_cons_succ, pairC]
theorem pairC_take : ∀ (l : List (Int × Int)) (k : Nat), (pairC l).take (k * 2) = pairC (l.take k)
  | [], k => by simp [pairC]
  | q :: l, 0 => rfl
  | q :: l, k + 1 => by rw [show (k + 1) * 2 = k * 2 + 1 + 1 by omega, pairC, List.take_succ_cons, List.take_succ_cons, pairC_take l k, List.take_succ_cons, pairC]
end Go.Proofs.YtiaoonlhgjfdjaaDoor
