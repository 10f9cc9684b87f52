/- Lists of bytes that are written full, and gone on with: what holds on the way. -/
import Derived.Test.YthlkckpadjjbdaaDoorMKept
namespace Go.Proofs.YthlkckpadjjbdaaDoor
open Go Go.RowKit

/-- Only blocks that had another role than 0 have turned. -/
structure Went (R0 : Nat → Nat) (w0 : World) (R : Nat → Nat) (w : World) : Prop where
  keeps : Keeps (fun b => R0 b = 0) w0 w
  same : ∀ b, b < w0.heap.size → R b = R0 b
theorem Went.refl (R : Nat → Nat) (w : World) : Went R w R w := ⟨Keeps.refl _ _, fun _ _ => rfl⟩
theorem Went.turned {R0 R R' : Nat → Nat} {w0 w w' : World} {q : Nat} (h : Went R0 w0 R w) (ht : Turned q R w R' w') (hq : q ≠ 0) : Went R0 w0 R' w' :=
  ⟨h.keeps.trans' ht.keeps fun b hb h0 => ⟨h0, by rw [h.same b hb, h0]; exact fun e => hq e.symm⟩, fun b hb => (ht.same b (Nat.lt_of_lt_of_le hb h.keeps.size)).trans (h.same b hb)⟩
/-- Nothing that was has turned. -/
def Still (R : Nat → Nat) (w : World) (R' : Nat → Nat) (w' : World) : Prop := ∀ q, Turned q R w R' w'
theorem Still.alloc (R : Nat → Nat) (w : World) (o : Obj) (r : Nat) : Still R w (ext R w.heap.size r) (w.alloc o) := fun q => Turned.alloc R w o q r
theorem Still.drewN (R : Nat → Nat) (w : World) (n : Nat) : Still R w R (w.drewN n) := fun q => Turned.drewN R w n q
theorem Still.drew (R : Nat → Nat) (w : World) : Still R w R w.drew := fun q => Turned.drewN R w 1 q
/-- The bag's list of lists. -/
structure Fr (R : Nat → Nat) (w : World) (gb : Nat) (hv : Value) (vs : List Value) : Prop where
  head : w.cell? ⟨gb, 0, none⟩ = some hv
  rgb : R gb = 0
  list : ∃ a cap, hv = .slice a vs.length cap ∧ vs.length ≤ cap ∧ ∀ k (h : k < vs.length), ∃ b, a = some ⟨b, 0, none⟩ ∧ R b = 0 ∧ w.cell? ⟨b, k, none⟩ = some vs[k]
theorem Fr.turned {q gb : Nat} {R R' : Nat → Nat} {w w' : World} {hv : Value} {vs : List Value} (h : Fr R w gb hv vs) (ht : Turned q R w R' w') (hq : q ≠ 0) : Fr R' w' gb hv vs := by
  have hk : ∀ b, R b = 0 → R b ≠ q := fun b hb e => hq (by rw [← e, hb])
  obtain ⟨a, cap, e, h1, h2⟩ := h.list
  refine ⟨ht.keeps.cell h.head (hk _ h.rgb), (ht.same gb (World.block_lt_of_cell? w _ h.head)).trans h.rgb, a, cap, e, h1, fun k hk' => ?_⟩
  obtain ⟨b, ha, hb, hc⟩ := h2 k hk'
  exact ⟨b, ha, (ht.same b (World.block_lt_of_cell? w _ hc)).trans hb, ht.keeps.cell hc (hk _ hb)⟩
theorem Fr.at {gb : Nat} {R : Nat → Nat} {w : World} {hv : Value} {vs : List Value} (h : Fr R w gb hv vs) {k : Nat} {v : Value} (hv' : vs[k]? = some v) : ∃ b cap, hv = .slice (some ⟨b, 0, none⟩) vs.length cap ∧ k < vs.length ∧ w.cell? ⟨b, k, none⟩ = some v := by
  obtain ⟨hk, rfl⟩ := List.getElem?_eq_some_iff.1 hv'
  obtain ⟨a, cap, e, _, h2⟩ := h.list
  obtain ⟨b, rfl, _, hc⟩ := h2 k hk
  exact ⟨b, cap, e, hk, hc⟩

/-- A list that is done with: its marks, one more, seventy more. -/
structure Dn (R : Nat → Nat) (w : World) (k L : Nat) (v vo vm : Value) : Prop where
  mine : Rd0 (R · = k + 3) w v (marks k L)
  fst : Rd0 (R · = k + 3) w vo (marks k (L + 1))
  all : Rd0 (R · = k + 3) w vm (marks k (L + 70))
theorem Dn.turned {q k L : Nat} {R R' : Nat → Nat} {w w' : World} {v vo vm : Value} (h : Dn R w k L v vo vm) (ht : Turned q R w R' w') (hq : q ≠ k + 3) : Dn R' w' k L v vo vm :=
  ⟨h.mine.turned ht (Ne.symm hq), h.fst.turned ht (Ne.symm hq), h.all.turned ht (Ne.symm hq)⟩
/-- n lists are done with. -/
structure G2 (B : Nat) (R0 : Nat → Nat) (w0 : World) (gb : Nat) (hv : Value) (vs : List Value) (L : Nat → Nat) (R : Nat → Nat) (w : World) (n : Nat) (o m : Value) (os ms : List Value) : Prop where
  went : Went R0 w0 R w
  fr : Fr R w gb hv vs
  one : Lst B R w 1 o os
  more : Lst B R w 2 m ms
  los : os.length = n
  lms : ms.length = n
  done : ∀ k v, k < n → vs[k]? = some v → ∃ vo vm, os[k]? = some vo ∧ ms[k]? = some vm ∧ Dn R w k (L k) v vo vm
  todo : ∀ k v, n ≤ k → vs[k]? = some v → Row B R w (k + 3) v (marks k (L k))
/-- The list n is gone on with: it has i places; c: the list with one more is told. -/
structure In2 (B : Nat) (R0 : Nat → Nat) (w0 : World) (gb : Nat) (hv : Value) (vs : List Value) (L : Nat → Nat) (R : Nat → Nat) (w : World) (n : Nat) (v : Value) (i c : Nat) (l o m : Value) (os ms : List Value) : Prop where
  went : Went R0 w0 R w
  fr : Fr R w gb hv vs
  one : Lst B R w 1 o os
  more : Lst B R w 2 m ms
  los : os.length = n + c
  lms : ms.length = n
  cur : Row B R w (n + 3) l (marks n i)
  mine : vs[n]? = some v ∧ Rd0 (R · = n + 3) w v (marks n (L n)) ∧ L n ≤ i
  fst : c = 0 ∨ (c = 1 ∧ L n < i ∧ ∃ x, os[n]? = some x ∧ Rd0 (R · = n + 3) w x (marks n (L n + 1)))
  done : ∀ k v, k < n → vs[k]? = some v → ∃ vo vm, os[k]? = some vo ∧ ms[k]? = some vm ∧ Dn R w k (L k) v vo vm
  todo : ∀ k v, n + 1 ≤ k → vs[k]? = some v → Row B R w (k + 3) v (marks k (L k))
section
variable {B gb n i c : Nat} {R0 R R' : Nat → Nat} {w0 w w' : World} {hv v l l' o m : Value} {vs os ms : List Value} {L : Nat → Nat}
theorem G2.still (h : G2 B R0 w0 gb hv vs L R w n o m os ms) (hs : Still R w R' w') : G2 B R0 w0 gb hv vs L R' w' n o m os ms :=
  ⟨h.went.turned (hs 1) (by decide), h.fr.turned (hs 1) (by decide), h.one.turned (hs 0) (by decide), h.more.turned (hs 0) (by decide), h.los, h.lms,
    fun k v hk hv' => by obtain ⟨vo, vm, h1, h2, h3⟩ := h.done k v hk hv'; exact ⟨vo, vm, h1, h2, h3.turned (hs 0) (by omega)⟩, fun k v hk hv' => (h.todo k v hk hv').turned (hs 0) (by omega)⟩
theorem G2.start (h : G2 B R0 w0 gb hv vs L R w n o m os ms) (hv' : vs[n]? = some v) : In2 B R0 w0 gb hv vs L R w n v (L n) 0 v o m os ms :=
  ⟨h.went, h.fr, h.one, h.more, h.los, h.lms, h.todo n v (Nat.le_refl _) hv', ⟨hv', (h.todo n v (Nat.le_refl _) hv').rd, Nat.le_refl _⟩, .inl rfl, h.done, fun k v hk => h.todo k v (by omega)⟩
theorem In2.still (h : In2 B R0 w0 gb hv vs L R w n v i c l o m os ms) (hs : Still R w R' w') : In2 B R0 w0 gb hv vs L R' w' n v i c l o m os ms :=
  ⟨h.went.turned (hs 1) (by decide), h.fr.turned (hs 1) (by decide), h.one.turned (hs 0) (by decide), h.more.turned (hs 0) (by decide), h.los, h.lms,
    h.cur.turned (hs 0) (by omega), ⟨h.mine.1, h.mine.2.1.turned (hs 0) (by omega), h.mine.2.2⟩, h.fst.imp id fun ⟨h1, h2, x, h3, h4⟩ => ⟨h1, h2, x, h3, h4.turned (hs 0) (by omega)⟩,
    fun k v hk hv' => by obtain ⟨vo, vm, h1, h2, h3⟩ := h.done k v hk hv'; exact ⟨vo, vm, h1, h2, h3.turned (hs 0) (by omega)⟩, fun k v hk hv' => (h.todo k v hk hv').turned (hs 0) (by omega)⟩
/-- One place more. -/
theorem In2.app (h : In2 B R0 w0 gb hv vs L R w n v i c l o m os ms) (ho : w'.ownsRow B 5 1 l' (i + 1) ((marks n i).map (Value.int .u8) ++ [.int .u8 (mkB n i)])) (hk : Kept w w' l.ownBlock i)
    (hg : ∀ g, l'.ownBlock = some g → l.ownBlock = some g ∨ w.heap.size ≤ g) : In2 B R0 w0 gb hv vs L (ext R w.heap.size (n + 3)) w' n v (i + 1) c l' o m os ms := by
  have ht : Turned (n + 3) R w (ext R w.heap.size (n + 3)) w' := Turned.kept hk h.cur.role
  refine ⟨h.went.turned ht (by omega), h.fr.turned ht (by omega), h.one.turned ht (by omega), h.more.turned ht (by omega), h.los, h.lms, h.cur.grown (by rw [marks_len]; exact ho) hg,
    ⟨h.mine.1, h.mine.2.1.kept hk (by rw [marks_len]; exact h.mine.2.2), by have := h.mine.2.2; omega⟩, ?_, ?_, fun k v hk' hv' => (h.todo k v hk' hv').turned ht (by omega)⟩
  · exact h.fst.imp id fun ⟨h1, h2, x, h3, h4⟩ => ⟨h1, by omega, x, h3, h4.kept hk (by rw [marks_len]; omega)⟩
  · intro k v hk' hv'
    obtain ⟨vo, vm, h1, h2, h3⟩ := h.done k v hk' hv'
    exact ⟨vo, vm, h1, h2, h3.turned ht (by omega)⟩
/-- The list with one more place is told. -/
theorem In2.tell {o' : Value} (h : In2 B R0 w0 gb hv vs L R w n v i 0 l o m os ms) (hi : i = L n + 1) (ho : w'.ownsRow B 31 1 o' (n + 1) (os ++ [l])) (hk : Kept w w' o.ownBlock n)
    (hg : ∀ g, o'.ownBlock = some g → o.ownBlock = some g ∨ w.heap.size ≤ g) : In2 B R0 w0 gb hv vs L (ext R w.heap.size 1) w' n v i 1 l o' m (os ++ [l]) ms := by
  subst hi
  have ht : Turned 1 R w (ext R w.heap.size 1) w' := Turned.kept hk h.one.role
  have hl : os.length = n := by simpa using h.los
  refine ⟨h.went.turned ht (by omega), h.fr.turned ht (by omega), h.one.grown (by rw [hl]; exact ho) hg, h.more.turned ht (by omega), by simp [hl], h.lms, h.cur.turned ht (by omega),
    ⟨h.mine.1, h.mine.2.1.turned ht (by omega), h.mine.2.2⟩, .inr ⟨rfl, by omega, l, ?_, (h.cur.turned ht (by omega)).rd⟩, ?_, fun k v hk' hv' => (h.todo k v hk' hv').turned ht (by omega)⟩
  · rw [List.getElem?_append_right (by omega), hl, Nat.sub_self]; rfl
  · intro k v hk' hv'
    obtain ⟨vo, vm, h1, h2, h3⟩ := h.done k v hk' hv'
    exact ⟨vo, vm, by rw [List.getElem?_append_left (by omega)]; exact h1, h2, h3.turned ht (by omega)⟩
/-- The list is done with. -/
theorem In2.next {m' : Value} (h : In2 B R0 w0 gb hv vs L R w n v i 1 l o m os ms) (hi : i = L n + 70) (ho : w'.ownsRow B 31 1 m' (n + 1) (ms ++ [l])) (hk : Kept w w' m.ownBlock n)
    (hg : ∀ g, m'.ownBlock = some g → m.ownBlock = some g ∨ w.heap.size ≤ g) : G2 B R0 w0 gb hv vs L (ext R w.heap.size 2) w' (n + 1) o m' os (ms ++ [l]) := by
  subst hi
  have ht : Turned 2 R w (ext R w.heap.size 2) w' := Turned.kept hk h.more.role
  refine ⟨h.went.turned ht (by omega), h.fr.turned ht (by omega), h.one.turned ht (by omega), h.more.grown (by rw [h.lms]; exact ho) hg, h.los, by simp [h.lms], ?_, fun k v hk' hv' => (h.todo k v hk' hv').turned ht (by omega)⟩
  intro k v' hk' hv'
  by_cases hkn : k < n
  · obtain ⟨vo, vm, h1, h2, h3⟩ := h.done k v' hkn hv'
    exact ⟨vo, vm, h1, by rw [List.getElem?_append_left (by have := h.lms; omega)]; exact h2, h3.turned ht (by omega)⟩
  · obtain rfl : k = n := by omega
    obtain rfl : v = v' := Option.some.inj (h.mine.1.symm.trans hv')
    rcases h.fst with h0 | ⟨_, _, x, hx, hx2⟩
    · cases h0
    · exact ⟨x, l, hx, by rw [List.getElem?_append_right (by have := h.lms; omega), h.lms, Nat.sub_self]; rfl, ⟨h.mine.2.1.turned ht (by omega), hx2.turned ht (by omega), (h.cur.turned ht (by omega)).rd⟩⟩
end
theorem Lst.at {B r n c k : Nat} {R : Nat → Nat} {w : World} {a : Option Addr} {l : List Value} {v : Value} (h : Lst B R w r (.slice a n c) l) (hv : l[k]? = some v) : ∃ g, a = some ⟨g, 0, none⟩ ∧ w.cell? ⟨g, k, none⟩ = some v := by
  have hk := (List.getElem?_eq_some_iff.1 hv).1
  have ho := h.own
  rcases ho.2 with ⟨_, h0⟩ | ⟨g, cap, cur, e, _⟩
  · omega
  · simp only [Value.slice.injEq] at e
    obtain ⟨rfl, _, _⟩ := e
    exact ⟨g, rfl, own_at ho rfl hv⟩
theorem Rd0.at {S : Nat → Prop} {w : World} {a : Option Addr} {n c k m j : Nat} (h : Rd0 S w (.slice a n c) (marks k m)) (hj : j < m) : ∃ b, a = some ⟨b, 0, none⟩ ∧ w.cell? ⟨b, j, none⟩ = some (.int .u8 (mkB k j)) := by
  obtain ⟨a', c', e, _, h2⟩ := h
  simp only [Value.slice.injEq] at e
  obtain ⟨rfl, _, _⟩ := e
  obtain ⟨b, hb, _, hc⟩ := h2 j (by rw [marks_len]; exact hj)
  have := marks_at k m j hj
  rw [List.getElem?_eq_getElem (by rw [marks_len]; exact hj)] at this
  exact ⟨b, hb, by rw [hc, Option.some.inj this]⟩
theorem Rd0.shape {S : Nat → Prop} {w : World} {v : Value} {k m : Nat} (h : Rd0 S w v (marks k m)) : ∃ a c, v = .slice a m c := by
  obtain ⟨a, c, e, _⟩ := h; rw [marks_len] at e; exact ⟨a, c, e⟩
/-- A place of a row is written. -/
theorem Row.set {B r : Nat} {R : Nat → Nat} {w : World} {v : Value} {l : List Int} (h : Row B R w r v l) {i : Nat} (hi : i < l.length) (x : Int) :
    ∃ g cap, v = .slice (some ⟨g, 0, none⟩) l.length cap ∧ R g = r ∧ (∃ u, w.cell? ⟨g, i, none⟩ = some u) ∧ w.frozen? ⟨g, i, none⟩ = false ∧ Row B R (w.setCell ⟨g, i, none⟩ (.int .u8 x)) r v (l.set i x) ∧ Turned r R w R (w.setCell ⟨g, i, none⟩ (.int .u8 x)) := by
  have ho := h.own
  rcases ho.2 with ⟨rfl, h0⟩ | ⟨g, cap, cur, rfl, hb, hg, hn, hm, hs, ht⟩
  · omega
  · refine ⟨g, cap, rfl, h.role g rfl, ⟨_, own_at ho rfl (j := i) (by rw [List.getElem?_map, List.getElem?_eq_getElem hi]; rfl)⟩, row_free hg i, ⟨⟨by simp, .inr ⟨g, cap, _, by simp, hb, row_setCell hg i _, by simpa using hn, hm, by simpa using hs, ?_⟩⟩, h.role⟩, ⟨(Keeps.refl _ w).setCell (a := ⟨g, i, none⟩) (fun _ hs => hs (h.role g rfl)) _, fun _ _ => rfl⟩⟩
    rw [Array.toList_setIfInBounds, List.take_set, List.length_set, ht, List.map_set]
theorem marks_set {n i : Nat} {l : List Int} (hi : i < l.length) : (marks n i ++ l.drop i).set i (mkB n i) = marks n (i + 1) ++ l.drop (i + 1) := by
  rw [List.set_append_right _ _ (by rw [marks_len]; exact Nat.le_refl _), marks_len, Nat.sub_self, List.drop_eq_getElem_cons hi, List.set_cons_zero, marks, List.append_assoc]; rfl
/-- n lists are written full. -/
structure G1 (B : Nat) (R : Nat → Nat) (w0 : World) (gb : Nat) (hv : Value) (vs : List Value) (ls : List (List Int)) (w : World) (n : Nat) : Prop where
  went : Went R w0 R w
  fr : Fr R w gb hv vs
  done : ∀ k v l, k < n → vs[k]? = some v → ls[k]? = some l → Row B R w (k + 3) v (marks k l.length)
  todo : ∀ k v l, n ≤ k → vs[k]? = some v → ls[k]? = some l → Row B R w (k + 3) v l
/-- In the list n, i places are written. -/
structure In1 (B : Nat) (R : Nat → Nat) (w0 : World) (gb : Nat) (hv : Value) (vs : List Value) (ls : List (List Int)) (w : World) (n i : Nat) (v : Value) (l : List Int) : Prop where
  went : Went R w0 R w
  fr : Fr R w gb hv vs
  at_ : vs[n]? = some v ∧ ls[n]? = some l
  cur : Row B R w (n + 3) v (marks n i ++ l.drop i)
  done : ∀ k v l, k < n → vs[k]? = some v → ls[k]? = some l → Row B R w (k + 3) v (marks k l.length)
  todo : ∀ k v l, n + 1 ≤ k → vs[k]? = some v → ls[k]? = some l → Row B R w (k + 3) v l
section
variable {B gb n i : Nat} {R : Nat → Nat} {w0 w w' : World} {hv v : Value} {vs : List Value} {ls : List (List Int)} {l : List Int}
theorem G1.still (h : G1 B R w0 gb hv vs ls w n) (hs : Still R w R w') : G1 B R w0 gb hv vs ls w' n :=
  ⟨h.went.turned (hs 1) (by decide), h.fr.turned (hs 1) (by decide), fun k v l a b c => (h.done k v l a b c).turned (hs 0) (by omega), fun k v l a b c => (h.todo k v l a b c).turned (hs 0) (by omega)⟩
theorem In1.still (h : In1 B R w0 gb hv vs ls w n i v l) (hs : Still R w R w') : In1 B R w0 gb hv vs ls w' n i v l :=
  ⟨h.went.turned (hs 1) (by decide), h.fr.turned (hs 1) (by decide), h.at_, h.cur.turned (hs 0) (by omega), fun k v l a b c => (h.done k v l a b c).turned (hs 0) (by omega), fun k v l a b c => (h.todo k v l a b c).turned (hs 0) (by omega)⟩
theorem G1.start (h : G1 B R w0 gb hv vs ls w n) (h1 : vs[n]? = some v) (h2 : ls[n]? = some l) : In1 B R w0 gb hv vs ls w n 0 v l :=
  ⟨h.went, h.fr, ⟨h1, h2⟩, by simpa [marks] using h.todo n v l (Nat.le_refl _) h1 h2, h.done, fun k v l hk => h.todo k v l (by omega)⟩
theorem In1.len (h : In1 B R w0 gb hv vs ls w n i v l) (hi : i ≤ l.length) : (marks n i ++ l.drop i).length = l.length := by
  have _ := h.at_
  rw [List.length_append, marks_len, List.length_drop]; omega
theorem In1.set (h : In1 B R w0 gb hv vs ls w n i v l) (hi : i < l.length) :
    ∃ g cap, v = .slice (some ⟨g, 0, none⟩) l.length cap ∧ (∃ u, w.cell? ⟨g, i, none⟩ = some u) ∧ w.frozen? ⟨g, i, none⟩ = false ∧ In1 B R w0 gb hv vs ls (w.setCell ⟨g, i, none⟩ (.int .u8 (mkB n i))) n (i + 1) v l := by
  have hl := h.len (by omega)
  obtain ⟨g, cap, e, _, hu, hf, hr, ht⟩ := h.cur.set (i := i) (by omega) (mkB n i)
  rw [hl] at e
  rw [marks_set hi] at hr
  exact ⟨g, cap, e, hu, hf, ⟨h.went.turned ht (by omega), h.fr.turned ht (by omega), h.at_, hr, fun k v l a b c => (h.done k v l a b c).turned ht (by omega), fun k v l a b c => (h.todo k v l a b c).turned ht (by omega)⟩⟩
theorem In1.next (h : In1 B R w0 gb hv vs ls w n l.length v l) : G1 B R w0 gb hv vs ls w (n + 1) := by
  refine ⟨h.went, h.fr, fun k v' l' hk h1 h2 => ?_, h.todo⟩
  by_cases hkn : k < n
  · exact h.done k v' l' hkn h1 h2
  · obtain rfl : k = n := by omega
    obtain rfl : v = v' := Option.some.inj (h.at_.1.symm.trans h1)
    obtain rfl : l = l' := Option.some.inj (h.at_.2.symm.trans h2)
    simpa using h.cur
/-- From the first loop to the second. -/
theorem G1.go (h : G1 B R w0 gb hv vs ls w n) (hn : n = vs.length) (hl : ls.length = vs.length) : G2 B R w0 gb hv vs (fun k => (ls.getD k []).length) R w 0 (.slice none 0 0) (.slice none 0 0) [] [] := by
  refine ⟨h.went, h.fr, ⟨World.ownsRow_nil _ _ _ _, fun g hg => by simp [Value.ownBlock] at hg⟩, ⟨World.ownsRow_nil _ _ _ _, fun g hg => by simp [Value.ownBlock] at hg⟩, rfl, rfl, fun k v hk => absurd hk (by omega), fun k v _ hv => ?_⟩
  have hk := (List.getElem?_eq_some_iff.1 hv).1
  have hk2 : ls[k]? = some ls[k] := List.getElem?_eq_getElem (by omega)
  rw [show ls.getD k [] = ls[k] by rw [List.getD_eq_getElem?_getD, hk2]; rfl]
  exact h.done k v ls[k] (by omega) hv hk2
end
end Go.Proofs.YthlkckpadjjbdaaDoor
