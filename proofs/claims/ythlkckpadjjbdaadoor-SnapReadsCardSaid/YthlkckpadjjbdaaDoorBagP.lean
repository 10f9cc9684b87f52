/- A bag's lists of one kind, whatever the kind: what holds while they are written full, and gone on with. -/
import Derived.Test.YthlkckpadjjbdaaDoorBag0
import Derived.Test.YthlkckpadjjbdaaDoorOwn2
namespace Go.Proofs.YthlkckpadjjbdaaDoor
open Go Go.RowKit

/-- A kind of lists: the element's type, the list's type, the cells of an element, the bag's cell, the marks. -/
structure Kd where
  t : TypeId
  tl : TypeId
  sz : Nat
  ix : Nat
  mark : Nat → Nat → List Value
structure Kd.Ok (K : Kd) : Prop where
  pos : 0 < K.sz
  len : ∀ n i, (K.mark n i).length = K.sz
/-- Cells written one behind the other. -/
def setAll (w : World) (g : Nat) : Nat → List Value → World
  | _, [] => w
  | o, u :: us => setAll (w.setCell ⟨g, o, none⟩ u) g (o + 1) us
def setL (xs : List Value) : Nat → List Value → List Value
  | _, [] => xs
  | o, u :: us => setL (xs.set o u) (o + 1) us
theorem setL_len : ∀ (us : List Value) (xs : List Value) (o : Nat), (setL xs o us).length = xs.length
  | [], _, _ => rfl
  | u :: us, xs, o => by rw [setL, setL_len us]; simp
theorem setL_app : ∀ (us : List Value) (a b : List Value), us.length ≤ b.length → setL (a ++ b) a.length us = a ++ us ++ b.drop us.length
  | [], a, b, _ => by simp [setL]
  | u :: us, a, [], h => by simp at h
  | u :: us, a, x :: b, h => by
    have := setL_app us (a ++ [u]) b (by simpa using h)
    rw [setL, List.set_append_right _ _ (Nat.le_refl _), Nat.sub_self, List.set_cons_zero]
    rw [show a ++ u :: b = (a ++ [u]) ++ b by simp, show a.length + 1 = (a ++ [u]).length by simp, this]
    simp
theorem Own2.setV {w : World} {base e size n : Nat} {v : Value} {xs : List Value} (h : Own2 w base e size v n xs) {j : Nat} (hj : j < xs.length) (u : Value) :
    ∃ g cap, v = .slice (some ⟨g, 0, none⟩) n cap ∧ (∃ u0, w.cell? ⟨g, j, none⟩ = some u0) ∧ w.frozen? ⟨g, j, none⟩ = false ∧ Own2 (w.setCell ⟨g, j, none⟩ u) base e size v n (xs.set j u) := by
  have hlen := h.len
  rcases h with h | ⟨g, cur, rfl, h1, h2, h3, h4⟩
  · have ho := h
    rcases ho.2 with ⟨rfl, h0⟩ | ⟨g, cap, cur, rfl, hb, hg, hn, hm, hs, ht⟩
    · subst h0; omega
    · refine ⟨g, cap, rfl, ⟨_, own_at ho rfl (List.getElem?_eq_getElem hj)⟩, row_free hg j, .inl ⟨by simpa using hlen, .inr ⟨g, cap, _, rfl, hb, row_setCell hg j _, hn, hm, by simpa using hs, ?_⟩⟩⟩
      rw [Array.toList_setIfInBounds, List.take_set, ht]
  · have hc : Clp w base e size (.slice (some ⟨g, 0, none⟩) n n) n xs := ⟨g, cur, rfl, h1, h2, h3, h4⟩
    refine ⟨g, n, rfl, ⟨_, hc.at_ rfl (List.getElem?_eq_getElem hj)⟩, row_free h2 j, .inr ⟨g, _, rfl, h1, row_setCell h2 j _, by simpa using hlen, ?_⟩⟩
    rw [Array.toList_setIfInBounds, List.take_set, h4]
theorem Own2.setAll {base e size n g cap : Nat} : ∀ (us : List Value) {w : World} {xs : List Value} {o : Nat}, Own2 w base e size (.slice (some ⟨g, 0, none⟩) n cap) n xs → o + us.length ≤ xs.length →
    Own2 (setAll w g o us) base e size (.slice (some ⟨g, 0, none⟩) n cap) n (setL xs o us)
  | [], _, _, _, h, _ => h
  | u :: us, w, xs, o, h, hl => by
    obtain ⟨g', cap', e, _, _, hs⟩ := h.setV (j := o) (by simp at hl; omega) u
    simp only [Value.slice.injEq, Option.some.injEq, Addr.mk.injEq, and_true, true_and] at e
    obtain ⟨rfl, rfl⟩ := e
    exact Own2.setAll us hs (by simp at hl ⊢; omega)
theorem Keeps.setAll {S : Nat → Prop} {g : Nat} (hg : ¬ S g) : ∀ (us : List Value) {w0 w : World} {o : Nat}, Keeps S w0 w → Keeps S w0 (setAll w g o us)
  | [], _, _, _, h => h
  | _ :: us, _, _, _, h => Keeps.setAll hg us (h.setCell (a := ⟨g, _, none⟩) (fun _ => hg) _)
namespace P
/-- The slice v reads as n elements, the cells xs, from the beginning of its block on; its block is in S. -/
def Rd0 (S : Nat → Prop) (w : World) (v : Value) (n : Nat) (xs : List Value) : Prop :=
  ∃ a cap, v = .slice a n cap ∧ n ≤ cap ∧ ∀ (j : Nat) u, xs[j]? = some u → ∃ b, a = some ⟨b, 0, none⟩ ∧ S b ∧ w.cell? ⟨b, j, none⟩ = some u
theorem Rd0.turned {q r n : Nat} {R R' : Nat → Nat} {w w' : World} {v : Value} {l : List Value} (h : Rd0 (R · = r) w v n l) (ht : Turned q R w R' w') (hr : r ≠ q) : Rd0 (R' · = r) w' v n l := by
  obtain ⟨a, cap, e, h1, h2⟩ := h
  refine ⟨a, cap, e, h1, fun j u hj => ?_⟩
  obtain ⟨b, ha, hb, hc⟩ := h2 j u hj
  exact ⟨b, ha, (ht.same b (World.block_lt_of_cell? w _ hc)).trans hb, ht.keeps.cell hc (by show R b ≠ q; rw [hb]; exact hr)⟩
theorem Rd0.kept {r n m q : Nat} {R : Nat → Nat} {w w' : World} {row : Option Nat} {v : Value} {l : List Value} (h : Rd0 (R · = r) w v n l) (hk : Kept w w' row m) (hn : l.length ≤ m) : Rd0 (ext R w.heap.size q · = r) w' v n l := by
  obtain ⟨a, cap, e, h1, h2⟩ := h
  refine ⟨a, cap, e, h1, fun j u hj => ?_⟩
  obtain ⟨b, ha, hb, hc⟩ := h2 j u hj
  exact ⟨b, ha, (ext_old (World.block_lt_of_cell? w _ hc)).trans hb, hk.cell hc (by have := (List.getElem?_eq_some_iff.1 hj).1; omega)⟩
section
variable (K : Kd)
/-- A row of its own, of the blocks of role r. -/
structure Row (B : Nat) (R : Nat → Nat) (w : World) (r : Nat) (v : Value) (n : Nat) (xs : List Value) : Prop where
  own : Own2 w B K.t K.sz v n xs
  role : ∀ g, v.ownBlock = some g → R g = r
/-- A list of slices of its own, of the blocks of role r. -/
structure Lst (B : Nat) (R : Nat → Nat) (w : World) (r : Nat) (v : Value) (l : List Value) : Prop where
  own : w.ownsRow B K.tl 1 v l.length l
  role : ∀ g, v.ownBlock = some g → R g = r
def marks (n : Nat) : Nat → List Value
  | 0 => []
  | i + 1 => marks n i ++ K.mark n i
/-- The bag's list of lists. -/
structure Fr (R : Nat → Nat) (w : World) (gb : Nat) (hv : Value) (vs : List Value) : Prop where
  head : w.cell? ⟨gb, K.ix, none⟩ = some hv
  rgb : R gb = 0
  list : ∃ a cap, hv = .slice a vs.length cap ∧ vs.length ≤ cap ∧ ∀ k (h : k < vs.length), ∃ b, a = some ⟨b, 0, none⟩ ∧ R b = 0 ∧ w.cell? ⟨b, k, none⟩ = some vs[k]
/-- A list that is done with: its marks, one more, seventy more. -/
structure Dn (R : Nat → Nat) (w : World) (k L : Nat) (v vo vm : Value) : Prop where
  mine : Rd0 (R · = k + 3) w v L (marks K k L)
  fst : Rd0 (R · = k + 3) w vo (L + 1) (marks K k (L + 1))
  all : Rd0 (R · = k + 3) w vm (L + 70) (marks K k (L + 70))
/-- n lists are written full. -/
structure G1 (B : Nat) (R : Nat → Nat) (w0 : World) (gb : Nat) (hv : Value) (vs : List Value) (L : Nat → Nat) (w : World) (n : Nat) : Prop where
  went : Went R w0 R w
  fr : Fr K R w gb hv vs
  done : ∀ (k : Nat) v, k < n → vs[k]? = some v → Row K B R w (k + 3) v (L k) (marks K k (L k))
  todo : ∀ (k : Nat) v, n ≤ k → vs[k]? = some v → ∃ xs, Row K B R w (k + 3) v (L k) xs
/-- In the list n, i places are written. -/
structure In1 (B : Nat) (R : Nat → Nat) (w0 : World) (gb : Nat) (hv : Value) (vs : List Value) (L : Nat → Nat) (w : World) (n i : Nat) (v : Value) : Prop where
  went : Went R w0 R w
  fr : Fr K R w gb hv vs
  at_ : vs[n]? = some v
  cur : ∃ xs, Row K B R w (n + 3) v (L n) (marks K n i ++ xs)
  done : ∀ (k : Nat) v, k < n → vs[k]? = some v → Row K B R w (k + 3) v (L k) (marks K k (L k))
  todo : ∀ (k : Nat) v, n + 1 ≤ k → vs[k]? = some v → ∃ xs, Row K B R w (k + 3) v (L k) xs
/-- n lists are done with. -/
structure G2 (B : Nat) (R0 : Nat → Nat) (w0 : World) (gb : Nat) (hv : Value) (vs : List Value) (L : Nat → Nat) (R : Nat → Nat) (w : World) (n : Nat) (o m : Value) (os ms : List Value) : Prop where
  went : Went R0 w0 R w
  fr : Fr K R w gb hv vs
  one : Lst K B R w 1 o os
  more : Lst K B R w 2 m ms
  los : os.length = n
  lms : ms.length = n
  done : ∀ (k : Nat) v, k < n → vs[k]? = some v → ∃ vo vm, os[k]? = some vo ∧ ms[k]? = some vm ∧ Dn K R w k (L k) v vo vm
  todo : ∀ (k : Nat) v, n ≤ k → vs[k]? = some v → Row K B R w (k + 3) v (L k) (marks K k (L k))
/-- The list n is gone on with: it has i places; c: the list with one more is told. -/
structure In2 (B : Nat) (R0 : Nat → Nat) (w0 : World) (gb : Nat) (hv : Value) (vs : List Value) (L : Nat → Nat) (R : Nat → Nat) (w : World) (n : Nat) (v : Value) (i c : Nat) (l o m : Value) (os ms : List Value) : Prop where
  went : Went R0 w0 R w
  fr : Fr K R w gb hv vs
  one : Lst K B R w 1 o os
  more : Lst K B R w 2 m ms
  los : os.length = n + c
  lms : ms.length = n
  cur : Row K B R w (n + 3) l i (marks K n i)
  mine : vs[n]? = some v ∧ Rd0 (R · = n + 3) w v (L n) (marks K n (L n)) ∧ L n ≤ i
  fst : c = 0 ∨ (c = 1 ∧ L n < i ∧ ∃ x, os[n]? = some x ∧ Rd0 (R · = n + 3) w x (L n + 1) (marks K n (L n + 1)))
  done : ∀ (k : Nat) v, k < n → vs[k]? = some v → ∃ vo vm, os[k]? = some vo ∧ ms[k]? = some vm ∧ Dn K R w k (L k) v vo vm
  todo : ∀ (k : Nat) v, n + 1 ≤ k → vs[k]? = some v → Row K B R w (k + 3) v (L k) (marks K k (L k))
end
section
variable {K : Kd}
theorem Row.turned {B q r n : Nat} {R R' : Nat → Nat} {w w' : World} {v : Value} {l : List Value} (h : Row K B R w r v n l) (ht : Turned q R w R' w') (hr : r ≠ q) : Row K B R' w' r v n l :=
  ⟨h.own.keeps ht.keeps fun b hb => by show R b ≠ q; rw [h.role b hb]; exact hr, fun g hg => (ht.same g (h.own.lt g hg).2).trans (h.role g hg)⟩
theorem Row.rd {B r n : Nat} {R : Nat → Nat} {w : World} {v : Value} {l : List Value} (hK : K.Ok) (h : Row K B R w r v n l) : Rd0 (R · = r) w v n l := by
  have hl := h.own.len
  obtain ⟨hown, hrole⟩ := h
  obtain ⟨a, cap, rfl, hn, ha⟩ := hown.slice
  refine ⟨a, cap, rfl, hn, fun j u hj => ?_⟩
  have hj' := (List.getElem?_eq_some_iff.1 hj).1
  obtain ⟨g, rfl⟩ := ha (by
    rcases Nat.eq_zero_or_pos n with h0 | h0
    · subst h0; omega
    · exact h0)
  have _ := hK.pos
  exact ⟨g, rfl, hrole g rfl, hown.at_ rfl hj⟩
theorem Lst.turned {B q r : Nat} {R R' : Nat → Nat} {w w' : World} {v : Value} {l : List Value} (h : Lst K B R w r v l) (ht : Turned q R w R' w') (hr : r ≠ q) : Lst K B R' w' r v l :=
  ⟨own_keeps h.own ht.keeps fun b hb => by show R b ≠ q; rw [h.role b hb]; exact hr, fun g hg => (ht.same g (h.own.lt g hg).2).trans (h.role g hg)⟩
theorem Row.grown {B q n : Nat} {R : Nat → Nat} {w w' : World} {v v' : Value} {l l' : List Value} (h : Row K B R w q v n l) (ho : w'.ownsRow B K.t K.sz v' (n + 1) l')
    (hg : ∀ g, v'.ownBlock = some g → v.ownBlock = some g ∨ w.heap.size ≤ g) : Row K B (ext R w.heap.size q) w' q v' (n + 1) l' := by
  refine ⟨.inl ho, fun g hg' => ?_⟩
  rcases hg g hg' with h1 | h1
  · rw [ext_old (h.own.lt g h1).2]; exact h.role g h1
  · exact ext_new h1
theorem Lst.grown {B q : Nat} {R : Nat → Nat} {w w' : World} {v v' : Value} {l : List Value} {x : Value} (h : Lst K B R w q v l) (ho : w'.ownsRow B K.tl 1 v' (l.length + 1) (l ++ [x]))
    (hg : ∀ g, v'.ownBlock = some g → v.ownBlock = some g ∨ w.heap.size ≤ g) : Lst K B (ext R w.heap.size q) w' q v' (l ++ [x]) := by
  refine ⟨by simpa using ho, fun g hg' => ?_⟩
  rcases hg g hg' with h1 | h1
  · rw [ext_old (h.own.lt g h1).2]; exact h.role g h1
  · exact ext_new h1
theorem marks_len (hK : K.Ok) (n : Nat) : ∀ i, (marks K n i).length = i * K.sz
  | 0 => by simp [marks]
  | i + 1 => by rw [marks, List.length_append, marks_len hK n i, hK.len, Nat.add_mul, Nat.one_mul]
theorem marks_at (hK : K.Ok) (n : Nat) : ∀ (i j c : Nat), j < i → c < K.sz → (marks K n i)[j * K.sz + c]? = (K.mark n j)[c]?
  | 0, _, _, h, _ => absurd h (by omega)
  | i + 1, j, c, h, hc => by
    rw [marks]
    by_cases hj : j < i
    · have : (j + 1) * K.sz ≤ i * K.sz := Nat.mul_le_mul_right _ hj
      rw [Nat.add_mul, Nat.one_mul] at this
      rw [List.getElem?_append_left (by rw [marks_len hK]; omega)]; exact marks_at hK n i j c hj hc
    · obtain rfl : j = i := by omega
      rw [List.getElem?_append_right (by rw [marks_len hK]; omega), marks_len hK, Nat.add_sub_cancel_left]
theorem Fr.turned {q gb : Nat} {R R' : Nat → Nat} {w w' : World} {hv : Value} {vs : List Value} (h : Fr K R w gb hv vs) (ht : Turned q R w R' w') (hq : q ≠ 0) : Fr K R' w' gb hv vs := by
  have hk : ∀ b, R b = 0 → R b ≠ q := fun b hb e => hq (by rw [← e, hb])
  obtain ⟨a, cap, e, h1, h2⟩ := h.list
  refine ⟨ht.keeps.cell h.head (hk _ h.rgb), (ht.same gb (World.block_lt_of_cell? w _ h.head)).trans h.rgb, a, cap, e, h1, fun k hk' => ?_⟩
  obtain ⟨b, ha, hb, hc⟩ := h2 k hk'
  exact ⟨b, ha, (ht.same b (World.block_lt_of_cell? w _ hc)).trans hb, ht.keeps.cell hc (hk _ hb)⟩
theorem Fr.at {gb : Nat} {R : Nat → Nat} {w : World} {hv : Value} {vs : List Value} (h : Fr K R w gb hv vs) {k : Nat} {v : Value} (hv' : vs[k]? = some v) : ∃ b cap, hv = .slice (some ⟨b, 0, none⟩) vs.length cap ∧ k < vs.length ∧ w.cell? ⟨b, k, none⟩ = some v := by
  obtain ⟨hk, rfl⟩ := List.getElem?_eq_some_iff.1 hv'
  obtain ⟨a, cap, e, _, h2⟩ := h.list
  obtain ⟨b, rfl, _, hc⟩ := h2 k hk
  exact ⟨b, cap, e, hk, hc⟩
theorem Dn.turned {q k L : Nat} {R R' : Nat → Nat} {w w' : World} {v vo vm : Value} (h : Dn K R w k L v vo vm) (ht : Turned q R w R' w') (hq : q ≠ k + 3) : Dn K R' w' k L v vo vm :=
  ⟨h.mine.turned ht (Ne.symm hq), h.fst.turned ht (Ne.symm hq), h.all.turned ht (Ne.symm hq)⟩
theorem Lst.at {B r n c k : Nat} {R : Nat → Nat} {w : World} {a : Option Addr} {l : List Value} {v : Value} (h : Lst K B R w r (.slice a n c) l) (hv : l[k]? = some v) : ∃ g, a = some ⟨g, 0, none⟩ ∧ w.cell? ⟨g, k, none⟩ = some v := by
  have hk := (List.getElem?_eq_some_iff.1 hv).1
  have ho := h.own
  rcases ho.2 with ⟨_, h0⟩ | ⟨g, cap, cur, e, _⟩
  · omega
  · simp only [Value.slice.injEq] at e
    obtain ⟨rfl, _, _⟩ := e
    exact ⟨g, rfl, own_at ho rfl hv⟩
theorem Rd0.at {S : Nat → Prop} {w : World} {a : Option Addr} {n c k m j : Nat} (hK : K.Ok) (h : Rd0 S w (.slice a n c) m (marks K k m)) (hj : j < m) : ∃ b, a = some ⟨b, 0, none⟩ ∧ ∀ i u, (K.mark k j)[i]? = some u → w.cell? ⟨b, j * K.sz + i, none⟩ = some u := by
  obtain ⟨a', c', e, _, h2⟩ := h
  simp only [Value.slice.injEq] at e
  obtain ⟨rfl, _, _⟩ := e
  have hp := hK.pos; have hl := hK.len k j
  obtain ⟨u, hu⟩ : ∃ u, (K.mark k j)[0]? = some u := ⟨_, List.getElem?_eq_getElem (by omega)⟩
  obtain ⟨b, hb, _, _⟩ := h2 (j * K.sz + 0) u (by rw [marks_at hK k m j 0 hj hp]; exact hu)
  refine ⟨b, hb, fun i u hu => ?_⟩
  have hi := (List.getElem?_eq_some_iff.1 hu).1
  obtain ⟨b', hb', _, hc⟩ := h2 (j * K.sz + i) u (by rw [marks_at hK k m j i hj (by omega)]; exact hu)
  rw [hb] at hb'
  simp only [Option.some.injEq, Addr.mk.injEq, and_true] at hb'
  subst hb'
  exact hc
theorem Rd0.shape {S : Nat → Prop} {w : World} {v : Value} {m : Nat} {xs : List Value} (h : Rd0 S w v m xs) : ∃ a c, v = .slice a m c := by
  obtain ⟨a, c, e, _⟩ := h; exact ⟨a, c, e⟩
section
variable {B gb n i c : Nat} {R0 R R' : Nat → Nat} {w0 w w' : World} {hv v l l' o m : Value} {vs os ms : List Value} {L : Nat → Nat}
theorem G1.still (h : G1 K B R w0 gb hv vs L w n) (hs : Still R w R w') : G1 K B R w0 gb hv vs L w' n :=
  ⟨h.went.turned (hs 1) (by decide), h.fr.turned (hs 1) (by decide), fun k v a b => (h.done k v a b).turned (hs 0) (by omega), fun k v a b => (h.todo k v a b).imp fun _ h => h.turned (hs 0) (by omega)⟩
theorem In1.still (h : In1 K B R w0 gb hv vs L w n i v) (hs : Still R w R w') : In1 K B R w0 gb hv vs L w' n i v :=
  ⟨h.went.turned (hs 1) (by decide), h.fr.turned (hs 1) (by decide), h.at_, h.cur.imp fun _ h => h.turned (hs 0) (by omega), fun k v a b => (h.done k v a b).turned (hs 0) (by omega), fun k v a b => (h.todo k v a b).imp fun _ h => h.turned (hs 0) (by omega)⟩
theorem G1.start (h : G1 K B R w0 gb hv vs L w n) (h1 : vs[n]? = some v) : In1 K B R w0 gb hv vs L w n 0 v :=
  ⟨h.went, h.fr, h1, by simpa [marks] using h.todo n v (Nat.le_refl _) h1, h.done, fun k v hk => h.todo k v (by omega)⟩
theorem In1.slice (h : In1 K B R w0 gb hv vs L w n i v) : ∃ a c, v = .slice a (L n) c := by
  obtain ⟨xs, hr⟩ := h.cur
  obtain ⟨a, c, e, _⟩ := hr.own.slice
  exact ⟨a, c, e⟩
theorem In1.set (hK : K.Ok) (h : In1 K B R w0 gb hv vs L w n i v) (hi : i < L n) :
    ∃ g cap, v = .slice (some ⟨g, 0, none⟩) (L n) cap ∧ (∀ c, c < K.sz → (∃ u, w.cell? ⟨g, i * K.sz + c, none⟩ = some u) ∧ w.frozen? ⟨g, i * K.sz + c, none⟩ = false) ∧ In1 K B R w0 gb hv vs L (setAll w g (i * K.sz) (K.mark n i)) n (i + 1) v := by
  obtain ⟨xs, hr⟩ := h.cur
  have hl := hr.own.len
  rw [List.length_append, marks_len hK] at hl
  have hm : (i + 1) * K.sz ≤ L n * K.sz := Nat.mul_le_mul_right _ hi
  rw [Nat.add_mul, Nat.one_mul] at hm
  have hp := hK.pos; have hk := hK.len n i
  obtain ⟨g, cap, rfl, _, _, _⟩ := hr.own.setV (j := i * K.sz) (by rw [List.length_append, marks_len hK]; omega) (.bool false)
  have hrg := hr.role g rfl
  have hso := Own2.setAll (K.mark n i) hr.own (o := i * K.sz) (by rw [List.length_append, marks_len hK]; omega)
  have hsl := setL_app (K.mark n i) (marks K n i) xs (by omega)
  rw [marks_len hK] at hsl
  rw [hsl] at hso
  have ht : Turned (n + 3) R w R (setAll w g (i * K.sz) (K.mark n i)) := ⟨Keeps.setAll (fun hs => hs hrg) _ (Keeps.refl _ w), fun _ _ => rfl⟩
  refine ⟨g, cap, rfl, fun c hc => ?_, ⟨h.went.turned ht (by omega), h.fr.turned ht (by omega), h.at_, ⟨xs.drop (K.mark n i).length, ?_⟩, fun k v a b => (h.done k v a b).turned ht (by omega), fun k v a b => (h.todo k v a b).imp fun _ h => h.turned ht (by omega)⟩⟩
  · obtain ⟨g', cap', e, hu, hf, _⟩ := hr.own.setV (j := i * K.sz + c) (by rw [List.length_append, marks_len hK]; omega) (.bool false)
    simp only [Value.slice.injEq, Option.some.injEq, Addr.mk.injEq, and_true, true_and] at e
    obtain ⟨rfl, rfl⟩ := e
    exact ⟨hu, hf⟩
  · exact ⟨hso, fun g' hg' => hr.role g' hg'⟩
theorem In1.next (hK : K.Ok) (h : In1 K B R w0 gb hv vs L w n (L n) v) : G1 K B R w0 gb hv vs L w (n + 1) := by
  refine ⟨h.went, h.fr, fun k v' hk h1 => ?_, h.todo⟩
  by_cases hkn : k < n
  · exact h.done k v' hkn h1
  · obtain rfl : k = n := by omega
    obtain rfl : v = v' := Option.some.inj (h.at_.symm.trans h1)
    obtain ⟨xs, hr⟩ := h.cur
    have hl := hr.own.len
    rw [List.length_append, marks_len hK] at hl
    obtain rfl : xs = [] := List.eq_nil_of_length_eq_zero (by omega)
    simpa using hr
/-- From the first loop to the second. -/
theorem G1.go (h : G1 K B R w0 gb hv vs L w vs.length) : G2 K B R w0 gb hv vs L R w 0 (.slice none 0 0) (.slice none 0 0) [] [] :=
  ⟨h.went, h.fr, ⟨World.ownsRow_nil _ _ _ _, fun g hg => by simp [Value.ownBlock] at hg⟩, ⟨World.ownsRow_nil _ _ _ _, fun g hg => by simp [Value.ownBlock] at hg⟩, rfl, rfl, fun k v hk => absurd hk (by omega), fun k v _ hv => h.done k v (List.getElem?_eq_some_iff.1 hv).1 hv⟩
theorem G2.still (h : G2 K B R0 w0 gb hv vs L R w n o m os ms) (hs : Still R w R' w') : G2 K B R0 w0 gb hv vs L R' w' n o m os ms :=
  ⟨h.went.turned (hs 1) (by decide), h.fr.turned (hs 1) (by decide), h.one.turned (hs 0) (by decide), h.more.turned (hs 0) (by decide), h.los, h.lms,
    fun k v hk hv' => by obtain ⟨vo, vm, h1, h2, h3⟩ := h.done k v hk hv'; exact ⟨vo, vm, h1, h2, h3.turned (hs 0) (by omega)⟩, fun k v hk hv' => (h.todo k v hk hv').turned (hs 0) (by omega)⟩
theorem G2.start (hK : K.Ok) (h : G2 K B R0 w0 gb hv vs L R w n o m os ms) (hv' : vs[n]? = some v) : In2 K B R0 w0 gb hv vs L R w n v (L n) 0 v o m os ms :=
  ⟨h.went, h.fr, h.one, h.more, h.los, h.lms, h.todo n v (Nat.le_refl _) hv', ⟨hv', (h.todo n v (Nat.le_refl _) hv').rd hK, Nat.le_refl _⟩, .inl rfl, h.done, fun k v hk => h.todo k v (by omega)⟩
theorem In2.still (h : In2 K B R0 w0 gb hv vs L R w n v i c l o m os ms) (hs : Still R w R' w') : In2 K B R0 w0 gb hv vs L R' w' n v i c l o m os ms :=
  ⟨h.went.turned (hs 1) (by decide), h.fr.turned (hs 1) (by decide), h.one.turned (hs 0) (by decide), h.more.turned (hs 0) (by decide), h.los, h.lms,
    h.cur.turned (hs 0) (by omega), ⟨h.mine.1, h.mine.2.1.turned (hs 0) (by omega), h.mine.2.2⟩, h.fst.imp id fun ⟨h1, h2, x, h3, h4⟩ => ⟨h1, h2, x, h3, h4.turned (hs 0) (by omega)⟩,
    fun k v hk hv' => by obtain ⟨vo, vm, h1, h2, h3⟩ := h.done k v hk hv'; exact ⟨vo, vm, h1, h2, h3.turned (hs 0) (by omega)⟩, fun k v hk hv' => (h.todo k v hk hv').turned (hs 0) (by omega)⟩
/-- One place more. -/
theorem In2.app (hK : K.Ok) (h : In2 K B R0 w0 gb hv vs L R w n v i c l o m os ms) (ho : w'.ownsRow B K.t K.sz l' (i + 1) (marks K n i ++ K.mark n i)) (hk : Kept w w' l.ownBlock (i * K.sz))
    (hg : ∀ g, l'.ownBlock = some g → l.ownBlock = some g ∨ w.heap.size ≤ g) : In2 K B R0 w0 gb hv vs L (ext R w.heap.size (n + 3)) w' n v (i + 1) c l' o m os ms := by
  have ht : Turned (n + 3) R w (ext R w.heap.size (n + 3)) w' := Turned.kept hk h.cur.role
  refine ⟨h.went.turned ht (by omega), h.fr.turned ht (by omega), h.one.turned ht (by omega), h.more.turned ht (by omega), h.los, h.lms, h.cur.grown ho hg,
    ⟨h.mine.1, h.mine.2.1.kept hk (by rw [marks_len hK]; exact Nat.mul_le_mul_right _ h.mine.2.2), by have := h.mine.2.2; omega⟩, ?_, ?_, fun k v hk' hv' => (h.todo k v hk' hv').turned ht (by omega)⟩
  · exact h.fst.imp id fun ⟨h1, h2, x, h3, h4⟩ => ⟨h1, by omega, x, h3, h4.kept hk (by rw [marks_len hK]; exact Nat.mul_le_mul_right _ h2)⟩
  · intro k v hk' hv'
    obtain ⟨vo, vm, h1, h2, h3⟩ := h.done k v hk' hv'
    exact ⟨vo, vm, h1, h2, h3.turned ht (by omega)⟩
/-- The list with one more place is told. -/
theorem In2.tell {o' : Value} (hK : K.Ok) (h : In2 K B R0 w0 gb hv vs L R w n v i 0 l o m os ms) (hi : i = L n + 1) (ho : w'.ownsRow B K.tl 1 o' (n + 1) (os ++ [l])) (hk : Kept w w' o.ownBlock n)
    (hg : ∀ g, o'.ownBlock = some g → o.ownBlock = some g ∨ w.heap.size ≤ g) : In2 K B R0 w0 gb hv vs L (ext R w.heap.size 1) w' n v i 1 l o' m (os ++ [l]) ms := by
  subst hi
  have ht : Turned 1 R w (ext R w.heap.size 1) w' := Turned.kept hk h.one.role
  have hl : os.length = n := by simpa using h.los
  refine ⟨h.went.turned ht (by omega), h.fr.turned ht (by omega), h.one.grown (by rw [hl]; exact ho) hg, h.more.turned ht (by omega), by simp [hl], h.lms, h.cur.turned ht (by omega),
    ⟨h.mine.1, h.mine.2.1.turned ht (by omega), h.mine.2.2⟩, .inr ⟨rfl, by omega, l, ?_, (h.cur.turned ht (by omega)).rd hK⟩, ?_, fun k v hk' hv' => (h.todo k v hk' hv').turned ht (by omega)⟩
  · rw [List.getElem?_append_right (by omega), hl, Nat.sub_self]; rfl
  · intro k v hk' hv'
    obtain ⟨vo, vm, h1, h2, h3⟩ := h.done k v hk' hv'
    exact ⟨vo, vm, by rw [List.getElem?_append_left (by omega)]; exact h1, h2, h3.turned ht (by omega)⟩
/-- The list is done with. -/
theorem In2.next {m' : Value} (hK : K.Ok) (h : In2 K B R0 w0 gb hv vs L R w n v i 1 l o m os ms) (hi : i = L n + 70) (ho : w'.ownsRow B K.tl 1 m' (n + 1) (ms ++ [l])) (hk : Kept w w' m.ownBlock n)
    (hg : ∀ g, m'.ownBlock = some g → m.ownBlock = some g ∨ w.heap.size ≤ g) : G2 K B R0 w0 gb hv vs L (ext R w.heap.size 2) w' (n + 1) o m' os (ms ++ [l]) := by
  subst hi
  have ht : Turned 2 R w (ext R w.heap.size 2) w' := Turned.kept hk h.more.role
  refine ⟨h.went.turned ht (by omega), h.fr.turned ht (by omega), h.one.turned ht (by omega), h.more.grown (by rw [h.lms]; exact ho) hg, h.los, by simp [h.lms], ?_, fun k v hk' hv' => (h.todo k v hk' hv').turned ht (by omega)⟩
  intro k v' hk' hv'
  by_cases hkn : k < n
  · obtain ⟨vo, vm, h1, h2, h3⟩ := h.done k v' hkn hv'
    exact ⟨vo, vm, h1, by rw [List.getElem?_append_left (by have := h.lms; omega)]; exact h2, h3.turned ht (by omega)⟩
  · obtain rfl : k = n := by omega
    obtain rfl : v = v' := Option.some.inj (h.mine.1.symm.trans hv')
    rcases h.fst with h0 | ⟨_, _, x, hx, hx2⟩
    · cases h0
    · exact ⟨x, l, hx, by rw [List.getElem?_append_right (by have := h.lms; omega), h.lms, Nat.sub_self]; rfl, ⟨h.mine.2.1.turned ht (by omega), hx2.turned ht (by omega), (h.cur.turned ht (by omega)).rd hK⟩⟩
end
end
end P
end Go.Proofs.YthlkckpadjjbdaaDoor
