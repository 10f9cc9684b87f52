/- flagonref00.Bag with lists of ints: rows, marks, apartInts, AddInts, Apart. -/
import Derived.Test.YtmlniifdipeboaaDoorBag0
import Derived.Test.YtmlniifdipeboaaDoorWide
import Derived.StillTailTactics
import Derived.Test.YtmlniifdipeboaaDoorLib2
import Derived.Test.YtmlniifdipeboaaDoorBag
namespace Go.Proofs.YtmlniifdipeboaaDoor
open Go Go.RowKit
namespace J

/-- The slice v reads as the bytes l, from the beginning of its block on; its block is in S. -/
def Rd0 (S : Nat → Prop) (w : World) (v : Value) (l : List Int) : Prop :=
  ∃ a cap, v = .slice a l.length cap ∧ l.length ≤ cap ∧ ∀ j (h : j < l.length), ∃ b, a = some ⟨b, 0, none⟩ ∧ S b ∧ w.cell? ⟨b, j, none⟩ = some (.int .i64 l[j])
theorem Rd0.turned {q r : Nat} {R R' : Nat → Nat} {w w' : World} {v : Value} {l : List Int} (h : Rd0 (R · = r) w v l) (ht : Turned q R w R' w') (hr : r ≠ q) : Rd0 (R' · = r) w' v l := by
  obtain ⟨a, cap, e, h1, h2⟩ := h
  refine ⟨a, cap, e, h1, fun j hj => ?_⟩
  obtain ⟨b, ha, hb, hc⟩ := h2 j hj
  exact ⟨b, ha, (ht.same b (World.block_lt_of_cell? w _ hc)).trans hb, ht.keeps.cell hc (by show R b ≠ q; rw [hb]; exact hr)⟩
theorem Rd0.kept {r n q : Nat} {R : Nat → Nat} {w w' : World} {row : Option Nat} {v : Value} {l : List Int} (h : Rd0 (R · = r) w v l) (hk : Kept w w' row n) (hn : l.length ≤ n) : Rd0 (ext R w.heap.size q · = r) w' v l := by
  obtain ⟨a, cap, e, h1, h2⟩ := h
  refine ⟨a, cap, e, h1, fun j hj => ?_⟩
  obtain ⟨b, ha, hb, hc⟩ := h2 j hj
  exact ⟨b, ha, (ext_old (World.block_lt_of_cell? w _ hc)).trans hb, hk.cell hc (by omega)⟩
/-- A row of bytes of its own, of the blocks of role r. -/
structure Row (B : Nat) (R : Nat → Nat) (w : World) (r : Nat) (v : Value) (l : List Int) : Prop where
  own : w.ownsRow B 3 1 v l.length (l.map (Value.int .i64))
  role : ∀ g, v.ownBlock = some g → R g = r
theorem Row.turned {B q r : Nat} {R R' : Nat → Nat} {w w' : World} {v : Value} {l : List Int} (h : Row B R w r v l) (ht : Turned q R w R' w') (hr : r ≠ q) : Row B R' w' r v l :=
  ⟨own_keeps h.own ht.keeps fun b hb => by show R b ≠ q; rw [h.role b hb]; exact hr, fun g hg => (ht.same g (h.own.lt g hg).2).trans (h.role g hg)⟩
theorem Row.rd {B r : Nat} {R : Nat → Nat} {w : World} {v : Value} {l : List Int} (h : Row B R w r v l) : Rd0 (R · = r) w v l := by
  have ho := h.own
  rcases ho.2 with ⟨rfl, h0⟩ | ⟨g, cap, cur, rfl, _, _, hn, _⟩
  · obtain rfl : l = [] := List.eq_nil_of_length_eq_zero h0
    exact ⟨none, 0, by simp, by simp, fun j h => absurd h (by simp)⟩
  · exact ⟨_, cap, rfl, hn, fun j hj => ⟨g, rfl, h.role g rfl, own_at ho rfl (by simp [hj])⟩⟩
/-- A list of slices of its own, of the blocks of role r. -/
structure Lst (B : Nat) (R : Nat → Nat) (w : World) (r : Nat) (v : Value) (l : List Value) : Prop where
  own : w.ownsRow B 39 1 v l.length l
  role : ∀ g, v.ownBlock = some g → R g = r
theorem Lst.turned {B q r : Nat} {R R' : Nat → Nat} {w w' : World} {v : Value} {l : List Value} (h : Lst B R w r v l) (ht : Turned q R w R' w') (hr : r ≠ q) : Lst B R' w' r v l :=
  ⟨own_keeps h.own ht.keeps fun b hb => by show R b ≠ q; rw [h.role b hb]; exact hr, fun g hg => (ht.same g (h.own.lt g hg).2).trans (h.role g hg)⟩
theorem Row.grown {B q : Nat} {R : Nat → Nat} {w w' : World} {v v' : Value} {l : List Int} {x : Int} (h : Row B R w q v l) (ho : w'.ownsRow B 3 1 v' (l.length + 1) (l.map (Value.int .i64) ++ [.int .i64 x]))
    (hg : ∀ g, v'.ownBlock = some g → v.ownBlock = some g ∨ w.heap.size ≤ g) : Row B (ext R w.heap.size q) w' q v' (l ++ [x]) := by
  refine ⟨by simpa using ho, fun g hg' => ?_⟩
  rcases hg g hg' with h1 | h1
  · rw [ext_old (h.own.lt g h1).2]; exact h.role g h1
  · exact ext_new h1
theorem Lst.grown {B q : Nat} {R : Nat → Nat} {w w' : World} {v v' : Value} {l : List Value} {x : Value} (h : Lst B R w q v l) (ho : w'.ownsRow B 39 1 v' (l.length + 1) (l ++ [x]))
    (hg : ∀ g, v'.ownBlock = some g → v.ownBlock = some g ∨ w.heap.size ≤ g) : Lst B (ext R w.heap.size q) w' q v' (l ++ [x]) := by
  refine ⟨by simpa using ho, fun g hg' => ?_⟩
  rcases hg g hg' with h1 | h1
  · rw [ext_old (h.own.lt g h1).2]; exact h.role g h1
  · exact ext_new h1
/-- The mark of a place of a list of bytes. -/
def mkJ (n i : Nat) : Int := (1048576 * n + i + 1 : Nat)
def marks (n : Nat) : Nat → List Int
  | 0 => []
  | i + 1 => marks n i ++ [mkJ n i]
theorem marks_len (n : Nat) : ∀ i, (marks n i).length = i
  | 0 => rfl
  | i + 1 => by rw [marks, List.length_append, marks_len n i]; rfl
theorem marks_at (n : Nat) : ∀ (i j : Nat), j < i → (marks n i)[j]? = some (mkJ n j)
  | 0, _, h => absurd h (by omega)
  | i + 1, j, h => by
    rw [marks]
    by_cases hj : j < i
    · rw [List.getElem?_append_left (by rw [marks_len]; exact hj)]; exact marks_at n i j hj
    · obtain rfl : j = i := by omega
      rw [List.getElem?_append_right (by rw [marks_len]; exact Nat.le_refl _), marks_len, Nat.sub_self]; rfl
/-- The bag's list of lists. -/
structure Fr (R : Nat → Nat) (w : World) (gb : Nat) (hv : Value) (vs : List Value) : Prop where
  head : w.cell? ⟨gb, 1, none⟩ = some hv
  rgb : R gb = 0
  list : ∃ a cap, hv = .slice a vs.length cap ∧ vs.length ≤ cap ∧ ∀ k (h : k < vs.length), ∃ b, a = some ⟨b, 0, none⟩ ∧ R b = 0 ∧ w.cell? ⟨b, k, none⟩ = some vs[k]
theorem Fr.turned {q gb : Nat} {R R' : Nat → Nat} {w w' : World} {hv : Value} {vs : List Value} (h : Fr R w gb hv vs) (ht : Turned q R w R' w') (hq : q ≠ 0) : Fr R' w' gb hv vs := by
  have hk : ∀ b, R b = 0 → R b ≠ q := fun b hb e => hq (by rw [← e, hb])
  obtain ⟨a, cap, e, h1, h2⟩ := h.list
  refine ⟨ht.keeps.cell h.head (hk _ h.rgb), (ht.same gb (World.block_lt_of_cell? w _ h.head)).trans h.rgb, a, cap, e, h1, fun k hk' => ?_⟩
  obtain ⟨b, ha, hb, hc⟩ := h2 k hk'
  exact ⟨b, ha, (ht.same b (World.block_lt_of_cell? w _ hc)).trans hb, ht.keeps.cell hc (hk _ hb)⟩
theorem Fr.at {gb : Nat} {R : Nat → Nat} {w : World} {hv : Value} {vs : List Value} (h : Fr R w gb hv vs) {k : Nat} {v : Value} (hv' : vs[k]? = some v) : ∃ b cap, hv = .slice (some ⟨b, 0, none⟩) vs.length cap ∧ k < vs.length ∧ w.cell? ⟨b, k, none⟩ = some v := by
  obtain ⟨hk, rfl⟩ := List.getElem?_eq_some_iff.1 hv'
  obtain ⟨a, cap, e, _, h2⟩ := h.list
  obtain ⟨b, rfl, _, hc⟩ := h2 k hk
  exact ⟨b, cap, e, hk, hc⟩

/-- A list that is done with: its marks, one more, seventy more. -/
structure Dn (R : Nat → Nat) (w : World) (k L : Nat) (v vo vm : Value) : Prop where
  mine : Rd0 (R · = k + 3) w v (marks k L)
  fst : Rd0 (R · = k + 3) w vo (marks k (L + 1))
  all : Rd0 (R · = k + 3) w vm (marks k (L + 70))
theorem Dn.turned {q k L : Nat} {R R' : Nat → Nat} {w w' : World} {v vo vm : Value} (h : Dn R w k L v vo vm) (ht : Turned q R w R' w') (hq : q ≠ k + 3) : Dn R' w' k L v vo vm :=
  ⟨h.mine.turned ht (Ne.symm hq), h.fst.turned ht (Ne.symm hq), h.all.turned ht (Ne.symm hq)⟩
/-- n lists are done with. -/
structure G2 (B : Nat) (R0 : Nat → Nat) (w0 : World) (gb : Nat) (hv : Value) (vs : List Value) (L : Nat → Nat) (R : Nat → Nat) (w : World) (n : Nat) (o m : Value) (os ms : List Value) : Prop where
  went : Went R0 w0 R w
  fr : Fr R w gb hv vs
  one : Lst B R w 1 o os
  more : Lst B R w 2 m ms
  los : os.length = n
  lms : ms.length = n
  done : ∀ k v, k < n → vs[k]? = some v → ∃ vo vm, os[k]? = some vo ∧ ms[k]? = some vm ∧ Dn R w k (L k) v vo vm
  todo : ∀ k v, n ≤ k → vs[k]? = some v → Row B R w (k + 3) v (marks k (L k))
/-- The list n is gone on with: it has i places; c: the list with one more is told. -/
structure In2 (B : Nat) (R0 : Nat → Nat) (w0 : World) (gb : Nat) (hv : Value) (vs : List Value) (L : Nat → Nat) (R : Nat → Nat) (w : World) (n : Nat) (v : Value) (i c : Nat) (l o m : Value) (os ms : List Value) : Prop where
  went : Went R0 w0 R w
  fr : Fr R w gb hv vs
  one : Lst B R w 1 o os
  more : Lst B R w 2 m ms
  los : os.length = n + c
  lms : ms.length = n
  cur : Row B R w (n + 3) l (marks n i)
  mine : vs[n]? = some v ∧ Rd0 (R · = n + 3) w v (marks n (L n)) ∧ L n ≤ i
  fst : c = 0 ∨ (c = 1 ∧ L n < i ∧ ∃ x, os[n]? = some x ∧ Rd0 (R · = n + 3) w x (marks n (L n + 1)))
  done : ∀ k v, k < n → vs[k]? = some v → ∃ vo vm, os[k]? = some vo ∧ ms[k]? = some vm ∧ Dn R w k (L k) v vo vm
  todo : ∀ k v, n + 1 ≤ k → vs[k]? = some v → Row B R w (k + 3) v (marks k (L k))
section
variable {B gb n i c : Nat} {R0 R R' : Nat → Nat} {w0 w w' : World} {hv v l l' o m : Value} {vs os ms : List Value} {L : Nat → Nat}
theorem G2.still (h : G2 B R0 w0 gb hv vs L R w n o m os ms) (hs : Still R w R' w') : G2 B R0 w0 gb hv vs L R' w' n o m os ms :=
  ⟨h.went.turned (hs 1) (by decide), h.fr.turned (hs 1) (by decide), h.one.turned (hs 0) (by decide), h.more.turned (hs 0) (by decide), h.los, h.lms,
    fun k v hk hv' => by obtain ⟨vo, vm, h1, h2, h3⟩ := h.done k v hk hv'; exact ⟨vo, vm, h1, h2, h3.turned (hs 0) (by omega)⟩, fun k v hk hv' => (h.todo k v hk hv').turned (hs 0) (by omega)⟩
theorem G2.start (h : G2 B R0 w0 gb hv vs L R w n o m os ms) (hv' : vs[n]? = some v) : In2 B R0 w0 gb hv vs L R w n v (L n) 0 v o m os ms :=
  ⟨h.went, h.fr, h.one, h.more, h.los, h.lms, h.todo n v (Nat.le_refl _) hv', ⟨hv', (h.todo n v (Nat.le_refl _) hv').rd, Nat.le_refl _⟩, .inl rfl, h.done, fun k v hk => h.todo k v (by omega)⟩
theorem In2.still (h : In2 B R0 w0 gb hv vs L R w n v i c l o m os ms) (hs : Still R w R' w') : In2 B R0 w0 gb hv vs L R' w' n v i c l o m os ms :=
  ⟨h.went.turned (hs 1) (by decide), h.fr.turned (hs 1) (by decide), h.one.turned (hs 0) (by decide), h.more.turned (hs 0) (by decide), h.los, h.lms,
    h.cur.turned (hs 0) (by omega), ⟨h.mine.1, h.mine.2.1.turned (hs 0) (by omega), h.mine.2.2⟩, h.fst.imp id fun ⟨h1, h2, x, h3, h4⟩ => ⟨h1, h2, x, h3, h4.turned (hs 0) (by omega)⟩,
    fun k v hk hv' => by obtain ⟨vo, vm, h1, h2, h3⟩ := h.done k v hk hv'; exact ⟨vo, vm, h1, h2, h3.turned (hs 0) (by omega)⟩, fun k v hk hv' => (h.todo k v hk hv').turned (hs 0) (by omega)⟩
/-- One place more. -/
theorem In2.app (h : In2 B R0 w0 gb hv vs L R w n v i c l o m os ms) (ho : w'.ownsRow B 3 1 l' (i + 1) ((marks n i).map (Value.int .i64) ++ [.int .i64 (mkJ n i)])) (hk : Kept w w' l.ownBlock i)
    (hg : ∀ g, l'.ownBlock = some g → l.ownBlock = some g ∨ w.heap.size ≤ g) : In2 B R0 w0 gb hv vs L (ext R w.heap.size (n + 3)) w' n v (i + 1) c l' o m os ms := by
  have ht : Turned (n + 3) R w (ext R w.heap.size (n + 3)) w' := Turned.kept hk h.cur.role
  refine ⟨h.went.turned ht (by omega), h.fr.turned ht (by omega), h.one.turned ht (by omega), h.more.turned ht (by omega), h.los, h.lms, h.cur.grown (by rw [marks_len]; exact ho) hg,
    ⟨h.mine.1, h.mine.2.1.kept hk (by rw [marks_len]; exact h.mine.2.2), by have := h.mine.2.2; omega⟩, ?_, ?_, fun k v hk' hv' => (h.todo k v hk' hv').turned ht (by omega)⟩
  · exact h.fst.imp id fun ⟨h1, h2, x, h3, h4⟩ => ⟨h1, by omega, x, h3, h4.kept hk (by rw [marks_len]; omega)⟩
  · intro k v hk' hv'
    obtain ⟨vo, vm, h1, h2, h3⟩ := h.done k v hk' hv'
    exact ⟨vo, vm, h1, h2, h3.turned ht (by omega)⟩
/-- The list with one more place is told. -/
theorem In2.tell {o' : Value} (h : In2 B R0 w0 gb hv vs L R w n v i 0 l o m os ms) (hi : i = L n + 1) (ho : w'.ownsRow B 39 1 o' (n + 1) (os ++ [l])) (hk : Kept w w' o.ownBlock n)
    (hg : ∀ g, o'.ownBlock = some g → o.ownBlock = some g ∨ w.heap.size ≤ g) : In2 B R0 w0 gb hv vs L (ext R w.heap.size 1) w' n v i 1 l o' m (os ++ [l]) ms := by
  subst hi
  have ht : Turned 1 R w (ext R w.heap.size 1) w' := Turned.kept hk h.one.role
  have hl : os.length = n := by simpa using h.los
  refine ⟨h.went.turned ht (by omega), h.fr.turned ht (by omega), h.one.grown (by rw [hl]; exact ho) hg, h.more.turned ht (by omega), by simp [hl], h.lms, h.cur.turned ht (by omega),
    ⟨h.mine.1, h.mine.2.1.turned ht (by omega), h.mine.2.2⟩, .inr ⟨rfl, by omega, l, ?_, (h.cur.turned ht (by omega)).rd⟩, ?_, fun k v hk' hv' => (h.todo k v hk' hv').turned ht (by omega)⟩
  · rw [List.getElem?_append_right (by omega), hl, Nat.sub_self]; rfl
  · intro k v hk' hv'
    obtain ⟨vo, vm, h1, h2, h3⟩ := h.done k v hk' hv'
    exact ⟨vo, vm, by rw [List.getElem?_append_left (by omega)]; exact h1, h2, h3.turned ht (by omega)⟩
/-- The list is done with. -/
theorem In2.next {m' : Value} (h : In2 B R0 w0 gb hv vs L R w n v i 1 l o m os ms) (hi : i = L n + 70) (ho : w'.ownsRow B 39 1 m' (n + 1) (ms ++ [l])) (hk : Kept w w' m.ownBlock n)
    (hg : ∀ g, m'.ownBlock = some g → m.ownBlock = some g ∨ w.heap.size ≤ g) : G2 B R0 w0 gb hv vs L (ext R w.heap.size 2) w' (n + 1) o m' os (ms ++ [l]) := by
  subst hi
  have ht : Turned 2 R w (ext R w.heap.size 2) w' := Turned.kept hk h.more.role
  refine ⟨h.went.turned ht (by omega), h.fr.turned ht (by omega), h.one.turned ht (by omega), h.more.grown (by rw [h.lms]; exact ho) hg, h.los, by simp [h.lms], ?_, fun k v hk' hv' => (h.todo k v hk' hv').turned ht (by omega)⟩
  intro k v' hk' hv'
  by_cases hkn : k < n
  · obtain ⟨vo, vm, h1, h2, h3⟩ := h.done k v' hkn hv'
    exact ⟨vo, vm, h1, by rw [List.getElem?_append_left (by have := h.lms; omega)]; exact h2, h3.turned ht (by omega)⟩
  · obtain rfl : k = n := by omega
    obtain rfl : v = v' := Option.some.inj (h.mine.1.symm.trans hv')
    rcases h.fst with h0 | ⟨_, _, x, hx, hx2⟩
    · cases h0
    · exact ⟨x, l, hx, by rw [List.getElem?_append_right (by have := h.lms; omega), h.lms, Nat.sub_self]; rfl, ⟨h.mine.2.1.turned ht (by omega), hx2.turned ht (by omega), (h.cur.turned ht (by omega)).rd⟩⟩
end
theorem Lst.at {B r n c k : Nat} {R : Nat → Nat} {w : World} {a : Option Addr} {l : List Value} {v : Value} (h : Lst B R w r (.slice a n c) l) (hv : l[k]? = some v) : ∃ g, a = some ⟨g, 0, none⟩ ∧ w.cell? ⟨g, k, none⟩ = some v := by
  have hk := (List.getElem?_eq_some_iff.1 hv).1
  have ho := h.own
  rcases ho.2 with ⟨_, h0⟩ | ⟨g, cap, cur, e, _⟩
  · omega
  · simp only [Value.slice.injEq] at e
    obtain ⟨rfl, _, _⟩ := e
    exact ⟨g, rfl, own_at ho rfl hv⟩
theorem Rd0.at {S : Nat → Prop} {w : World} {a : Option Addr} {n c k m j : Nat} (h : Rd0 S w (.slice a n c) (marks k m)) (hj : j < m) : ∃ b, a = some ⟨b, 0, none⟩ ∧ w.cell? ⟨b, j, none⟩ = some (.int .i64 (mkJ k j)) := by
  obtain ⟨a', c', e, _, h2⟩ := h
  simp only [Value.slice.injEq] at e
  obtain ⟨rfl, _, _⟩ := e
  obtain ⟨b, hb, _, hc⟩ := h2 j (by rw [marks_len]; exact hj)
  have := marks_at k m j hj
  rw [List.getElem?_eq_getElem (by rw [marks_len]; exact hj)] at this
  exact ⟨b, hb, by rw [hc, Option.some.inj this]⟩
theorem Rd0.shape {S : Nat → Prop} {w : World} {v : Value} {k m : Nat} (h : Rd0 S w v (marks k m)) : ∃ a c, v = .slice a m c := by
  obtain ⟨a, c, e, _⟩ := h; rw [marks_len] at e; exact ⟨a, c, e⟩
/-- A place of a row is written. -/
theorem Row.set {B r : Nat} {R : Nat → Nat} {w : World} {v : Value} {l : List Int} (h : Row B R w r v l) {i : Nat} (hi : i < l.length) (x : Int) :
    ∃ g cap, v = .slice (some ⟨g, 0, none⟩) l.length cap ∧ R g = r ∧ (∃ u, w.cell? ⟨g, i, none⟩ = some u) ∧ w.frozen? ⟨g, i, none⟩ = false ∧ Row B R (w.setCell ⟨g, i, none⟩ (.int .i64 x)) r v (l.set i x) ∧ Turned r R w R (w.setCell ⟨g, i, none⟩ (.int .i64 x)) := by
  have ho := h.own
  rcases ho.2 with ⟨rfl, h0⟩ | ⟨g, cap, cur, rfl, hb, hg, hn, hm, hs, ht⟩
  · omega
  · refine ⟨g, cap, rfl, h.role g rfl, ⟨_, own_at ho rfl (j := i) (by rw [List.getElem?_map, List.getElem?_eq_getElem hi]; rfl)⟩, row_free hg i, ⟨⟨by simp, .inr ⟨g, cap, _, by simp, hb, row_setCell hg i _, by simpa using hn, hm, by simpa using hs, ?_⟩⟩, h.role⟩, ⟨(Keeps.refl _ w).setCell (a := ⟨g, i, none⟩) (fun _ hs => hs (h.role g rfl)) _, fun _ _ => rfl⟩⟩
    rw [Array.toList_setIfInBounds, List.take_set, List.length_set, ht, List.map_set]
theorem marks_set {n i : Nat} {l : List Int} (hi : i < l.length) : (marks n i ++ l.drop i).set i (mkJ n i) = marks n (i + 1) ++ l.drop (i + 1) := by
  rw [List.set_append_right _ _ (by rw [marks_len]; exact Nat.le_refl _), marks_len, Nat.sub_self, List.drop_eq_getElem_cons hi, List.set_cons_zero, marks, List.append_assoc]; rfl
/-- n lists are written full. -/
structure G1 (B : Nat) (R : Nat → Nat) (w0 : World) (gb : Nat) (hv : Value) (vs : List Value) (ls : List (List Int)) (w : World) (n : Nat) : Prop where
  went : Went R w0 R w
  fr : Fr R w gb hv vs
  done : ∀ k v l, k < n → vs[k]? = some v → ls[k]? = some l → Row B R w (k + 3) v (marks k l.length)
  todo : ∀ k v l, n ≤ k → vs[k]? = some v → ls[k]? = some l → Row B R w (k + 3) v l
/-- In the list n, i places are written. -/
structure In1 (B : Nat) (R : Nat → Nat) (w0 : World) (gb : Nat) (hv : Value) (vs : List Value) (ls : List (List Int)) (w : World) (n i : Nat) (v : Value) (l : List Int) : Prop where
  went : Went R w0 R w
  fr : Fr R w gb hv vs
  at_ : vs[n]? = some v ∧ ls[n]? = some l
  cur : Row B R w (n + 3) v (marks n i ++ l.drop i)
  done : ∀ k v l, k < n → vs[k]? = some v → ls[k]? = some l → Row B R w (k + 3) v (marks k l.length)
  todo : ∀ k v l, n + 1 ≤ k → vs[k]? = some v → ls[k]? = some l → Row B R w (k + 3) v l
section
variable {B gb n i : Nat} {R : Nat → Nat} {w0 w w' : World} {hv v : Value} {vs : List Value} {ls : List (List Int)} {l : List Int}
theorem G1.still (h : G1 B R w0 gb hv vs ls w n) (hs : Still R w R w') : G1 B R w0 gb hv vs ls w' n :=
  ⟨h.went.turned (hs 1) (by decide), h.fr.turned (hs 1) (by decide), fun k v l a b c => (h.done k v l a b c).turned (hs 0) (by omega), fun k v l a b c => (h.todo k v l a b c).turned (hs 0) (by omega)⟩
theorem In1.still (h : In1 B R w0 gb hv vs ls w n i v l) (hs : Still R w R w') : In1 B R w0 gb hv vs ls w' n i v l :=
  ⟨h.went.turned (hs 1) (by decide), h.fr.turned (hs 1) (by decide), h.at_, h.cur.turned (hs 0) (by omega), fun k v l a b c => (h.done k v l a b c).turned (hs 0) (by omega), fun k v l a b c => (h.todo k v l a b c).turned (hs 0) (by omega)⟩
theorem G1.start (h : G1 B R w0 gb hv vs ls w n) (h1 : vs[n]? = some v) (h2 : ls[n]? = some l) : In1 B R w0 gb hv vs ls w n 0 v l :=
  ⟨h.went, h.fr, ⟨h1, h2⟩, by simpa [marks] using h.todo n v l (Nat.le_refl _) h1 h2, h.done, fun k v l hk => h.todo k v l (by omega)⟩
theorem In1.len (h : In1 B R w0 gb hv vs ls w n i v l) (hi : i ≤ l.length) : (marks n i ++ l.drop i).length = l.length := by
  have _ := h.at_
  rw [List.length_append, marks_len, List.length_drop]; omega
theorem In1.set (h : In1 B R w0 gb hv vs ls w n i v l) (hi : i < l.length) :
    ∃ g cap, v = .slice (some ⟨g, 0, none⟩) l.length cap ∧ (∃ u, w.cell? ⟨g, i, none⟩ = some u) ∧ w.frozen? ⟨g, i, none⟩ = false ∧ In1 B R w0 gb hv vs ls (w.setCell ⟨g, i, none⟩ (.int .i64 (mkJ n i))) n (i + 1) v l := by
  have hl := h.len (by omega)
  obtain ⟨g, cap, e, _, hu, hf, hr, ht⟩ := h.cur.set (i := i) (by omega) (mkJ n i)
  rw [hl] at e
  rw [marks_set hi] at hr
  exact ⟨g, cap, e, hu, hf, ⟨h.went.turned ht (by omega), h.fr.turned ht (by omega), h.at_, hr, fun k v l a b c => (h.done k v l a b c).turned ht (by omega), fun k v l a b c => (h.todo k v l a b c).turned ht (by omega)⟩⟩
theorem In1.next (h : In1 B R w0 gb hv vs ls w n l.length v l) : G1 B R w0 gb hv vs ls w (n + 1) := by
  refine ⟨h.went, h.fr, fun k v' l' hk h1 h2 => ?_, h.todo⟩
  by_cases hkn : k < n
  · exact h.done k v' l' hkn h1 h2
  · obtain rfl : k = n := by omega
    obtain rfl : v = v' := Option.some.inj (h.at_.1.symm.trans h1)
    obtain rfl : l = l' := Option.some.inj (h.at_.2.symm.trans h2)
    simpa using h.cur
/-- From the first loop to the second. -/
theorem G1.go (h : G1 B R w0 gb hv vs ls w n) (hn : n = vs.length) (hl : ls.length = vs.length) : G2 B R w0 gb hv vs (fun k => (ls.getD k []).length) R w 0 (.slice none 0 0) (.slice none 0 0) [] [] := by
  refine ⟨h.went, h.fr, ⟨World.ownsRow_nil _ _ _ _, fun g hg => by simp [Value.ownBlock] at hg⟩, ⟨World.ownsRow_nil _ _ _ _, fun g hg => by simp [Value.ownBlock] at hg⟩, rfl, rfl, fun k v hk => absurd hk (by omega), fun k v _ hv => ?_⟩
  have hk := (List.getElem?_eq_some_iff.1 hv).1
  have hk2 : ls[k]? = some ls[k] := List.getElem?_eq_getElem (by omega)
  rw [show ls.getD k [] = ls[k] by rw [List.getD_eq_getElem?_getD, hk2]; rfl]
  exact h.done k v ls[k] (by omega) hv hk2
end
end J
end Go.Proofs.YtmlniifdipeboaaDoor

namespace Go.Proofs.YtmlniifdipeboaaDoor
open Go Go.RowKit
namespace J

theorem Tryd.infoSlJ : (Tryd.prog.info? 39).map (fun i => (i.zero, i.size, i.bytes)) = some (some (.slice none 0 0), 1, 24) := by kernel_rfl
theorem num_mk (w : World) (k j : Nat) (hk : k ≤ 300) (hj : j ≤ 1073741924) :
    Calls Tryd.prog 81 #[.int .i64 k, .int .i64 j] w fun e w' => e = .returned (.int .i64 (mkJ k j)) ∧ w' = w := ref_num w k j (by omega) (by omega)
set_option maxRecDepth 100000 in
set_option maxHeartbeats 6400000 in
theorem apart_bytes (w : World) (B : Nat) (R0 : Nat → Nat) (gb : Nat) (hv : Value) (vs : List Value) (ls : List (List Int)) (h : G1 B R0 w gb hv vs ls w 0) (hl : ls.length = vs.length) (hN : vs.length ≤ 300)
    (hB : B ≤ w.heap.size) (hb : ∀ (k : Nat) l, ls[k]? = some l → l.length ≤ 1073741824) :
    Calls Tryd.prog 90 #[.pointer (some ⟨gb, 0, none⟩)] w fun e w' => e = .returned (.bool true) ∧ ∃ R, Went R0 w R w' := by
  obtain ⟨i0, hi, hz0, hz1, hz2⟩ := info_parts Tryd.infoIntB
  obtain ⟨i1, hj, hy0, hy1, hy2⟩ := info_parts Tryd.infoSlJ
  obtain ⟨ha, cap, rfl, hcap, _⟩ := h.fr.list
  have HG0 := Lib.hid h; clear h
  have HBd := Lib.hid hb; clear hb
  go_enter Tryd.func90, Tryd.ntmps90
  go_wp2
  go_loopw [3] (fun n wr => ∃ k : Nat, k ≤ vs.length ∧ n = .int .i64 k ∧ Hid (G1 B R0 w gb (.slice ha vs.length cap) vs ls wr k)) (fun n _ => vs.length - (intOf n).toNat)
  case atStart => exact ⟨0, by omega, rfl, HG0⟩
  case round =>
    obtain ⟨k, hk, rfl, HG⟩ := hrel
    have hd := HG.out.fr.head
    by_cases hlt : k < vs.length
    · obtain ⟨v, hv⟩ : ∃ v, vs[k]? = some v := ⟨vs[k], List.getElem?_eq_getElem hlt⟩
      obtain ⟨l, hl'⟩ : ∃ l, ls[k]? = some l := ⟨ls[k]'(by omega), List.getElem?_eq_getElem (by omega)⟩
      have hlen := HBd.out k l hl'
      have HI := Lib.hid (HG.out.start hv hl')
      clear HG
      go_wp2
      go_loopw [4] (fun i wr' => ∃ j : Nat, j ≤ l.length ∧ i = .int .i64 j ∧ Hid (In1 B R0 w gb (.slice ha vs.length cap) vs ls wr' k j v l)) (fun i _ => l.length - (intOf i).toNat)
      case atStart => exact ⟨0, by omega, rfl, HI⟩
      case round =>
        obtain ⟨j, hj, rfl, HJ⟩ := hrel
        have hd := HJ.out.fr.head
        obtain ⟨b, cap', e1, _, hc⟩ := HJ.out.fr.at hv
        simp only [Value.slice.injEq] at e1
        obtain ⟨rfl, _, rfl⟩ := e1
        by_cases hjl : j < l.length
        · obtain ⟨g, cv, rfl, ⟨u, hu⟩, hf, hI2⟩ := (HJ.out.still (Still.drew R0 wr)).set hjl
          have HI2 := Lib.hid hI2; clear hI2
          have HM := Lib.hid (fun w' => num_mk w' k j (by omega) (by omega))
          generalize mkJ k j = x at *
          clear hv hl'
          go_wp2_with fail
          go_still_tail 12, (by kernel_rfl)
          repeat still_step
          still_call (HM.out _)
          repeat still_step
          refine wpStill_nil ?_
          go_wp2
          go_roundw
          case rel => exact ⟨j + 1, by omega, by go_num, HI2⟩
          case measure => simp [intOf]; omega
        · obtain rfl : j = l.length := by omega
          have HN := Lib.hid HJ.out.next
          have hvv := HJ.out.cur.own
          rw [HJ.out.len (Nat.le_refl _)] at hvv
          obtain ⟨av, cv, rfl, _⟩ := own_slice hvv
          clear hvv
          go_wp2
          go_roundw
          case rel => exact ⟨k + 1, by omega, by go_num, HN⟩
          case measure => simp [intOf]; omega
    · obtain rfl : k = vs.length := by omega
      have H2 := Lib.hid (HG.out.go rfl hl)
      have HLb : Hid (∀ k, (ls.getD k []).length ≤ 1073741824) := by
        intro k
        by_cases hk : k < ls.length
        · have := HBd.out k ls[k] (List.getElem?_eq_getElem hk)
          rw [List.getD_eq_getElem?_getD, List.getElem?_eq_getElem hk]; exact this
        · rw [List.getD_eq_getElem?_getD, List.getElem?_eq_none (by omega)]; simp
      have hL : ∃ L : Nat → Nat, L = fun k => (ls.getD k []).length := ⟨_, rfl⟩
      obtain ⟨L, hL⟩ := hL
      have HLb2 : Hid (∀ k, L k ≤ 1073741824) := by rw [hL]; exact HLb
      rw [← hL] at H2
      clear HG HLb HBd hL hk hlt
      go_wp2
      go_loopw [5, 6, 7] (fun o m n wr => ∃ (k : Nat) (R : Nat → Nat) (os ms : List Value), k ≤ vs.length ∧ n = .int .i64 k ∧ Hid (G2 B R0 w gb (.slice ha vs.length cap) vs L R wr k o m os ms)) (fun _ _ n _ => vs.length - (intOf n).toNat)
      case atStart => exact ⟨0, _, _, _, by omega, rfl, H2⟩
      case round =>
        obtain ⟨k, R, os, ms, hk, rfl, HG⟩ := hrel
        have hd := HG.out.fr.head
        by_cases hlt : k < vs.length
        · obtain ⟨v, hv⟩ : ∃ v, vs[k]? = some v := ⟨vs[k], List.getElem?_eq_getElem hlt⟩
          have HI := Lib.hid (HG.out.start hv)
          obtain ⟨av, cv, ev, _⟩ := HI.out.mine.2.1
          rw [marks_len] at ev
          subst ev
          obtain ⟨b, cap', e1, _, hc⟩ := HI.out.fr.at hv
          simp only [Value.slice.injEq] at e1
          obtain ⟨rfl, _, rfl⟩ := e1
          have hlb := HLb2.out k
          obtain ⟨Lk, hLk⟩ : ∃ x, x = L k := ⟨_, rfl⟩
          rw [← hLk] at hc hlb hv
          have HLk := Lib.hid hLk
          have HI2 : Hid (In2 B R0 w gb (.slice (some ⟨b, 0, none⟩) vs.length cap) vs L R wr k (.slice av Lk cv) Lk 0 (.slice av Lk cv) u5 u6 os ms) := by rw [hLk]; exact HI
          clear hLk HI H2
          clear HG
          go_wp2
          go_loopw [5, 8, 9] (fun o l i wr => ∃ (j c : Nat) (R : Nat → Nat) (os : List Value), Lk ≤ j ∧ j ≤ Lk + 70 ∧ i = .int .i64 j ∧ (j = Lk → c = 0) ∧ (j ≠ Lk → c = 1) ∧ Hid (In2 B R0 w gb (.slice (some ⟨b, 0, none⟩) vs.length cap) vs L R wr k (.slice av Lk cv) j c l o u6 os ms)) (fun _ _ i _ => Lk + 70 - (intOf i).toNat)
          case atStart => exact ⟨Lk, 0, _, _, by omega, by omega, by rw [HLk.out], fun _ => rfl, fun h => absurd rfl h, HI2⟩
          case round =>
            obtain ⟨j, c, R', os', hj1, hj2, rfl, hc0, hc1, HJ⟩ := hrel
            have hd := HJ.out.fr.head
            obtain ⟨b', cap', e1, _, hc⟩ := HJ.out.fr.at hv
            simp only [Value.slice.injEq, Option.some.injEq, Addr.mk.injEq, and_true, true_and] at e1
            obtain ⟨rfl, rfl⟩ := e1
            have hsz : B ≤ wr.heap.size := Nat.le_trans hB HJ.out.went.keeps.size
            by_cases hjl : j < Lk + 70
            · have HM := Lib.hid (fun w' => num_mk w' k j (by omega) (by omega))
              have HA := Lib.hid (HJ.out.still (Still.alloc R' wr (.cells #[.int .i64 (mkJ k j)] 3) 0))
              have hown := HA.out.cur.own
              rw [marks_len] at hown
              obtain ⟨al, cl, rfl, _⟩ := own_slice hown
              by_cases hje : j = Lk
              · obtain rfl := hc0 hje
                obtain rfl : Lk = j := hje.symm
                clear hc0 hc1 hje
                go_wp2_with fail
                refine (HM.out _).mono ?_
                rintro e w' ⟨rfl, hw'⟩
                obtain rfl : wr = w' := hw'.symm
                go_wp2_with (at_builtin; refine wpList_append_kept _ rfl _ _ 39 rfl B 3 i0 (.int .i64 0) 1 8 Tryd.underlying39 hi hz0 hz1 hz2 rfl (by decide) (.slice al Lk cl) Lk ((marks k Lk).map (Value.int .i64)) rfl hown ⟨wr.heap.size, 0, none⟩ 1 1 [.int .i64 (mkJ k Lk)] rfl rfl (cell_one_new _ _ _) (by simp [Value.oneCell']) (by unfold maxLen; omega) (by omega) (by rw [World.size_alloc]; omega) ?_)
                intro l' w3 ho hkk hg
                have HB := Lib.hid (HA.out.app ho hkk (by simp only [World.size_alloc]; exact hg))
                obtain ⟨al', cl', rfl, _⟩ := own_slice ho
                have hd3 := HB.out.fr.head
                obtain ⟨b', cap', e3, _, hc3⟩ := HB.out.fr.at hv
                simp only [Value.slice.injEq, Option.some.injEq, Addr.mk.injEq, and_true, true_and] at e3
                obtain ⟨rfl, rfl⟩ := e3
                generalize ext (ext R' wr.heap.size 0) (wr.alloc (.cells #[.int .i64 (mkJ k Lk)] 3)).heap.size (k + 3) = R3 at *
                have HC := Lib.hid (HB.out.still (Still.alloc R3 w3 (.cells #[.slice al' (Lk + 1) cl'] 39) 0))
                have hown3 := HC.out.one.own
                have hlos := HC.out.los
                rw [Nat.add_zero] at hlos
                rw [hlos] at hown3
                have hsz3 : B ≤ w3.heap.size := Nat.le_trans hB HB.out.went.keeps.size
                clear ho hkk hg hown hd hc
                go_wp2_with (at_builtin; refine wpList_append_kept _ rfl _ _ 53 rfl B 39 i1 (.slice none 0 0) 1 24 Tryd.underlying53 hj hy0 hy1 hy2 rfl (by decide) u5 k os' rfl hown3 ⟨w3.heap.size, 0, none⟩ 1 1 [.slice al' (Lk + 1) cl'] rfl rfl (cell_one_new _ _ _) (by simp [Value.oneCell']) (by unfold maxLen; omega) (by omega) (by rw [World.size_alloc]; omega) ?_)
                intro o' w4 ho4 hkk4 hg4
                have HD := Lib.hid (HC.out.tell (by rw [HLk.out]) ho4 hkk4 (by simp only [World.size_alloc]; exact hg4))
                clear ho4 hkk4 hg4
                go_wp2
                go_roundw
                case rel => exact ⟨Lk + 1, 1, _, _, by omega, by omega, by go_num, fun h => by omega, fun _ => rfl, HD⟩
                case measure => simp [intOf]
              · obtain rfl := hc1 hje
                clear hc0 hc1
                go_wp2_with fail
                refine (HM.out _).mono ?_
                rintro e w' ⟨rfl, hw'⟩
                obtain rfl : wr = w' := hw'.symm
                go_wp2_with (at_builtin; refine wpList_append_kept _ rfl _ _ 39 rfl B 3 i0 (.int .i64 0) 1 8 Tryd.underlying39 hi hz0 hz1 hz2 rfl (by decide) (.slice al j cl) j ((marks k j).map (Value.int .i64)) rfl hown ⟨wr.heap.size, 0, none⟩ 1 1 [.int .i64 (mkJ k j)] rfl rfl (cell_one_new _ _ _) (by simp [Value.oneCell']) (by unfold maxLen; omega) (by omega) (by rw [World.size_alloc]; omega) ?_)
                intro l' w3 ho hkk hg
                have HB := Lib.hid (HA.out.app ho hkk (by simp only [World.size_alloc]; exact hg))
                obtain ⟨al', cl', rfl, _⟩ := own_slice ho
                have hd3 := HB.out.fr.head
                obtain ⟨b', cap', e3, _, hc3⟩ := HB.out.fr.at hv
                simp only [Value.slice.injEq, Option.some.injEq, Addr.mk.injEq, and_true, true_and] at e3
                obtain ⟨rfl, rfl⟩ := e3
                clear ho hkk hg hown hd hc
                go_wp2
                go_roundw
                case rel => exact ⟨j + 1, 1, _, _, by omega, by omega, by go_num, fun h => by omega, fun _ => rfl, HB⟩
                case measure => simp [intOf]; omega
            · obtain rfl : j = Lk + 70 := by omega
              obtain rfl := hc1 (by omega)
              have hown := HJ.out.cur.own
              rw [marks_len] at hown
              obtain ⟨al, cl, rfl, _⟩ := own_slice hown
              have HC := Lib.hid (HJ.out.still (Still.alloc R' wr (.cells #[.slice al (Lk + 70) cl] 39) 0))
              have hownm := HC.out.more.own
              have hlms := HC.out.lms
              rw [hlms] at hownm
              clear hown hc0 hc1
              go_wp2_with (at_builtin; refine wpList_append_kept _ rfl _ _ 53 rfl B 39 i1 (.slice none 0 0) 1 24 Tryd.underlying53 hj hy0 hy1 hy2 rfl (by decide) u6 k ms rfl hownm ⟨wr.heap.size, 0, none⟩ 1 1 [.slice al (Lk + 70) cl] rfl rfl (cell_one_new _ _ _) (by simp [Value.oneCell']) (by unfold maxLen; omega) (by omega) (by rw [World.size_alloc]; omega) ?_)
              intro m' w4 ho4 hkk4 hg4
              have HD := Lib.hid (HC.out.next (by rw [HLk.out]) ho4 hkk4 (by simp only [World.size_alloc]; exact hg4))
              clear ho4 hkk4 hg4
              go_wp2
              go_roundw
              case rel => exact ⟨k + 1, _, _, _, by omega, by go_num, HD⟩
              case measure => simp [intOf]; omega
        · obtain rfl : k = vs.length := by omega
          clear H2
          go_wp2
          have hl5 := own_slice HG.out.one.own
          rw [HG.out.los] at hl5
          have hl6 := own_slice HG.out.more.own
          rw [HG.out.lms] at hl6
          obtain ⟨ao, co, rfl, _⟩ := hl5
          obtain ⟨am, cm, rfl, _⟩ := hl6
          go_wp2
          go_loopw [10] (fun n wr' => ∃ k : Nat, k ≤ vs.length ∧ n = .int .i64 k ∧ Hid (G2 B R0 w gb (.slice ha vs.length cap) vs L R wr' vs.length (.slice ao vs.length co) (.slice am vs.length cm) os ms)) (fun n _ => vs.length - (intOf n).toNat)
          case atStart => exact ⟨0, by omega, rfl, HG⟩
          case round =>
            obtain ⟨k, hk, rfl, HG⟩ := hrel
            by_cases hlt : k < vs.length
            · have hlb := HLb2.out k
              obtain ⟨v, hv⟩ : ∃ v, vs[k]? = some v := ⟨vs[k], List.getElem?_eq_getElem hlt⟩
              obtain ⟨vo, vm, hvo, hvm, hdn⟩ := HG.out.done k v hlt hv
              obtain ⟨Lk, hLk⟩ : ∃ x, x = L k := ⟨_, rfl⟩
              rw [← hLk] at hlb hdn
              have HLk := Lib.hid hLk; clear hLk
              obtain ⟨av, cv, rfl⟩ := hdn.mine.shape
              obtain ⟨avo, cvo, rfl⟩ := hdn.fst.shape
              obtain ⟨avm, cvm, rfl⟩ := hdn.all.shape
              obtain ⟨go_, rfl, hco⟩ := HG.out.one.at hvo
              obtain ⟨gm, rfl, hcm⟩ := HG.out.more.at hvm
              obtain ⟨b, cap', e1, _, hc⟩ := HG.out.fr.at hv
              simp only [Value.slice.injEq] at e1
              obtain ⟨rfl, _, rfl⟩ := e1
              have hd := HG.out.fr.head
              have HD := Lib.hid hdn; clear hdn hvo hvm hv
              go_wp2
              go_loopw [11] (fun i wr' => ∃ j : Nat, j ≤ Lk + 70 ∧ i = .int .i64 j ∧ wr' = wr) (fun i _ => Lk + 70 - (intOf i).toNat)
              case atStart => exact ⟨0, by omega, rfl, rfl⟩
              case round =>
                obtain ⟨j, hj, rfl, rfl⟩ := hrel
                by_cases hjl : j < Lk + 70
                · have HM := Lib.hid (fun w' => num_mk w' k j (by omega) (by omega))
                  obtain ⟨bm, rfl, cm2⟩ := HD.out.all.at hjl
                  by_cases h1 : j < Lk
                  · obtain ⟨bv, rfl, cv2⟩ := HD.out.mine.at h1
                    have hne : ((j : Int) == (Lk : Int)) = false := by rw [beq_eq_false_iff_ne]; omega
                    generalize mkJ k j = x at *
                    go_wp2_with (go_at_call 81; refine (HM.out _).mono ?_; rintro e w' ⟨rfl, rfl⟩)
                    all_goals first | (exfalso; simp_all; done) | skip
                    go_roundw
                    case rel => exact ⟨j + 1, by omega, by go_num, by trivial⟩
                    case measure => simp [intOf]; omega
                  · have h1' : decide ((j : Int) < (Lk : Int)) = false := by rw [decide_eq_false_iff_not]; omega
                    by_cases h2 : j = Lk
                    · obtain rfl : Lk = j := h2.symm
                      obtain ⟨bo, rfl, co2⟩ := HD.out.fst.at (Nat.lt_succ_self _)
                      generalize mkJ k Lk = x at *
                      go_wp2_with (go_at_call 81; refine (HM.out _).mono ?_; rintro e w' ⟨rfl, rfl⟩)
                      all_goals first | (exfalso; simp_all; done) | skip
                      go_roundw
                      case rel => exact ⟨Lk + 1, by omega, by go_num, by trivial⟩
                      case measure => simp [intOf]
                    · have hne : ((j : Int) == (Lk : Int)) = false := by rw [beq_eq_false_iff_ne]; omega
                      generalize mkJ k j = x at *
                      go_wp2_with (go_at_call 81; refine (HM.out _).mono ?_; rintro e w' ⟨rfl, rfl⟩)
                      all_goals first | (exfalso; simp_all; done) | skip
                      go_roundw
                      case rel => exact ⟨j + 1, by omega, by go_num, by trivial⟩
                      case measure => simp [intOf]; omega
                · obtain rfl : j = Lk + 70 := by omega
                  go_wp2
                  go_roundw
                  case rel => exact ⟨k + 1, by omega, by go_num, HG⟩
                  case measure => simp [intOf]; omega
            · obtain rfl : k = vs.length := by omega
              go_wp2
              go_ret
              exact ⟨rfl, _, HG.out.went⟩
end J
end Go.Proofs.YtmlniifdipeboaaDoor

namespace Go.Proofs.YtmlniifdipeboaaDoor
open Go Go.RowKit

set_option maxRecDepth 100000 in
set_option maxHeartbeats 1600000 in
theorem none_Bytes (w : World) (gb : Nat) (hd : w.cell? ⟨gb, 0, none⟩ = some (.slice none 0 0)) :
    Calls Tryd.prog 89 #[.pointer (some ⟨gb, 0, none⟩)] w fun e w' => e = .returned (.bool true) ∧ w' = w := by
  go_enter Tryd.func89, Tryd.ntmps89
  go_wp2
  go_loopw [3] (fun n wr => n = .int .i64 0 ∧ wr = w) (fun _ _ => 0)
  case atStart => exact ⟨rfl, rfl⟩
  case round =>
    obtain ⟨rfl, rfl⟩ := hrel
    go_wp2
    go_loopw [5, 6, 7] (fun o m n wr' => o = .slice none 0 0 ∧ m = .slice none 0 0 ∧ n = .int .i64 0 ∧ wr' = wr) (fun _ _ _ _ => 0)
    case atStart => exact ⟨rfl, rfl, rfl, rfl⟩
    case round =>
      obtain ⟨rfl, rfl, rfl, rfl⟩ := hrel
      go_wp2
      go_loopw [10] (fun n wr'' => n = .int .i64 0 ∧ wr'' = wr) (fun _ _ => 0)
      case atStart => exact ⟨rfl, rfl⟩
      case round =>
        obtain ⟨rfl, rfl⟩ := hrel
        go_wp2
        go_ret
        exact ⟨rfl, rfl⟩
end Go.Proofs.YtmlniifdipeboaaDoor

namespace Go.Proofs.YtmlniifdipeboaaDoor
open Go Go.RowKit
namespace J

/-- The cells of a bag that has lists of bytes alone. -/
def bagCells (hv : Value) : Array Value := #[.slice none 0 0, hv, .slice none 0 0, .slice none 0 0, .slice none 0 0, .slice none 0 0, .slice none 0 0, .slice none 0 0, .slice none 0 0, .slice none 0 0, .slice none 0 0, .slice none 0 0, .slice none 0 0, .slice none 0 0, .slice none 0 0, .slice none 0 0, .slice none 0 0]
/-- A bag with the lists vs; it and its list lie from the block B on. -/
structure Bg (B : Nat) (w : World) (gb : Nat) (hv : Value) (vs : List Value) : Prop where
  row : w.heap[gb]? = some (.cells (bagCells hv) 70 (0, 0))
  own : w.ownsRow B 39 1 hv vs.length vs
  apart : hv.ownBlock ≠ some gb
  hB : B ≤ gb
theorem Bg.on {B gb : Nat} {w w' : World} {hv : Value} {vs : List Value} (h : Bg B w gb hv vs) (hb : Below w.heap.size w w') : Bg B w' gb hv vs :=
  ⟨(hb.block _ (row_lt h.row)).trans h.row, own_below h.own hb, h.apart, h.hB⟩

set_option maxRecDepth 100000 in
set_option maxHeartbeats 3200000 in
theorem add_ints (w : World) (B gb : Nat) (hv v : Value) (vs : List Value) (h : Bg B w gb hv vs) (hn : vs.length < 300) (hvs : ∃ a n c, v = .slice a n c) :
    Calls Tryd.prog 72 #[.pointer (some ⟨gb, 0, none⟩), v] w fun e w' => e = .returned (.tuple #[]) ∧ ∃ hv', Bg B w' gb hv' (vs ++ [v]) ∧ Below B w w' ∧ Keeps (fun b => b ≠ gb ∧ hv.ownBlock ≠ some b) w w' ∧ (∀ g, hv'.ownBlock = some g → hv.ownBlock = some g ∨ w.heap.size ≤ g) := by
  obtain ⟨i1, hj, hy0, hy1, hy2⟩ := info_parts Tryd.infoSlJ
  obtain ⟨va, vn, vc, rfl⟩ := hvs
  have H := Lib.hid h
  obtain ⟨a, c, rfl, _⟩ := own_slice h.own
  have hd : w.cell? ⟨gb, 1, none⟩ = some (.slice a vs.length c) := row_cell h.row 1 rfl
  have hf := row_free h.row 1
  clear h
  go_enter Tryd.func72, Tryd.ntmps72
  have HA := Lib.hid (H.out.own.alloc (.cells #[.slice va vn vc] 39))
  have hBw : B ≤ w.heap.size := Nat.le_trans H.out.hB (Nat.le_of_lt (row_lt H.out.row))
  go_wp2_with (at_builtin; refine wpList_append_kept _ rfl _ _ 53 rfl B 39 i1 (.slice none 0 0) 1 24 Tryd.underlying53 hj hy0 hy1 hy2 rfl (by decide) (.slice a vs.length c) vs.length vs rfl HA.out ⟨w.heap.size, 0, none⟩ 1 1 [.slice va vn vc] rfl rfl (cell_one_new _ _ _) (by simp [Value.oneCell']) (by unfold maxLen; omega) (by omega) (by rw [World.size_alloc]; omega) ?_)
  intro hv' w3 ho hk hg
  have hne : (Value.slice a vs.length c).ownBlock ≠ some gb := H.out.apart
  have hrow3 := grown_block hk.grown ((Below.heap_alloc w _ gb (row_lt H.out.row)).trans H.out.row) hne
  have hd3 : w3.cell? ⟨gb, 1, none⟩ = some (.slice a vs.length c) := row_cell hrow3 1 rfl
  have hf3 := row_free hrow3 1
  have hne3 : hv'.ownBlock ≠ some gb := fun e => by
    have hlt := row_lt H.out.row
    rcases hg gb e with h1 | h1
    · exact hne h1
    · omega
  have hown3 := fun (u : Value) => own_keeps ho ((Keeps.refl (fun b => b ≠ gb) w3).setCell (a := ⟨gb, 1, none⟩) (by simp) u) (fun b hb e => hne3 (by rw [← e]; exact hb))
  have hbel := fun (u : Value) => (((((Keeps.refl (fun b => b < B) w).alloc (.cells #[.slice va vn vc] 39)).grown hk.grown (fun k hk' hlt hB => by have := (HA.out.lt k hk').1; omega)).setCell (a := ⟨gb, 1, none⟩) (fun _ hB => by have := H.out.hB; simp only at hB; omega) u).below hBw fun _ hb => hb)
  have hkp := fun (u : Value) => ((((Keeps.refl (fun b => b ≠ gb ∧ (Value.slice a vs.length c).ownBlock ≠ some b) w).alloc (.cells #[.slice va vn vc] 39)).grown hk.grown (fun k hk' hlt hB => hB.2 hk')).setCell (a := ⟨gb, 1, none⟩) (fun _ hB => hB.1 rfl) u)
  have hgs : ∀ g, hv'.ownBlock = some g → (Value.slice a vs.length c).ownBlock = some g ∨ w.heap.size ≤ g := fun g h => (hg g h).imp id fun h => by have h := h; (try rw [World.size_alloc] at h); omega
  have HK := Lib.hid (And.intro hkp hgs)
  have HX := Lib.hid (And.intro hown3 (And.intro hne3 (And.intro hrow3 hbel)))
  obtain ⟨a', c', rfl, _⟩ := own_slice ho
  clear ho hg hk hrow3 hown3 hbel hne3 hkp hgs
  go_wp2
  exact bodyPost_end (results_none rfl _ _ _) rfl ⟨rfl, _, ⟨by simpa [bagCells] using row_setCell HX.out.2.2.1 1 _, by simpa using HX.out.1 _, HX.out.2.1, H.out.hB⟩, HX.out.2.2.2 _, HK.out.1 _, HK.out.2⟩

set_option maxRecDepth 100000 in
set_option maxHeartbeats 6400000 in
theorem bag_apart (w : World) (B0 B gb : Nat) (hv : Value) (vs : List Value) (ls : List (List Int)) (h : Bg B w gb hv vs) (hn : vs.length ≤ 300) (hl : ls.length = vs.length) (hB : B0 ≤ B)
    (hrows : ∀ (k : Nat) v l, vs[k]? = some v → ls[k]? = some l → w.ownsRow B0 3 1 v l.length (l.map (Value.int .i64)) ∧ l.length ≤ 1073741824)
    (hlt : ∀ (k : Nat) v g, vs[k]? = some v → v.ownBlock = some g → g ≠ gb ∧ hv.ownBlock ≠ some g)
    (hne : ∀ (k j : Nat) v u g, vs[k]? = some v → vs[j]? = some u → v.ownBlock = some g → u.ownBlock = some g → j = k) :
    Calls Tryd.prog 38 #[.pointer (some ⟨gb, 0, none⟩)] w fun e w' => e = .returned (.bool true) ∧ Keeps (fun b => ∀ (k : Nat) v, vs[k]? = some v → v.ownBlock ≠ some b) w w' := by
  have hsz : B0 ≤ w.heap.size := Nat.le_trans hB (Nat.le_trans h.hB (Nat.le_of_lt (row_lt h.row)))
  have hgb : roleOf vs gb = 0 := role_none fun k v hk e => (hlt k v gb hk e).1 rfl
  have hG : G1 B0 (roleOf vs) w gb hv vs ls w 0 := by
    refine ⟨Went.refl _ _, ⟨row_cell h.row 1 rfl, hgb, ?_⟩, fun k v l hk => absurd hk (by omega), fun k v l _ h1 h2 => ⟨(hrows k v l h1 h2).1, fun g hg => role_some h1 hg fun j u hu hb => hne k j v u g h1 hu hg hb⟩⟩
    have ho := h.own
    rcases ho.2 with ⟨rfl, h0⟩ | ⟨g, cap, cur, rfl, hg, _, hc, _⟩
    · exact ⟨none, 0, by rw [h0], by omega, fun k hk => absurd hk (by omega)⟩
    · refine ⟨_, cap, rfl, hc, fun k hk => ⟨g, rfl, role_none fun j v hj e => (hlt j v g hj e).2 rfl, own_at ho rfl (List.getElem?_eq_getElem hk)⟩⟩
  have HA := Lib.hid (apart_bytes w B0 (roleOf vs) gb hv vs ls hG hl hn hsz (fun k l hk => by
    have hkl := (List.getElem?_eq_some_iff.1 hk).1
    exact (hrows k vs[k] l (List.getElem?_eq_getElem (by omega)) hk).2))
  have HF := Lib.hid (fun (w' : World) (R : Nat → Nat) (hW : Went (roleOf vs) w R w') => (hW.keeps.block gb (row_lt h.row) hgb).trans h.row)
  have HK := Lib.hid (fun (b : Nat) (hb : ∀ (k : Nat) v, vs[k]? = some v → v.ownBlock ≠ some b) => role_none hb)
  have cB : w.cell? ⟨gb, 0, none⟩ = some (.slice none 0 0) := row_cell h.row 0 rfl
  clear hG hgb hne hlt hrows h
  go_enter Tryd.func38, Tryd.ntmps38
  go_wp2_with fail
  refine (none_Bytes _ gb cB).mono ?_
  rintro e w1 ⟨rfl, hw1⟩
  obtain rfl : w = w1 := hw1.symm
  go_wp2_with fail
  refine HA.out.mono ?_
  rintro e w1 ⟨rfl, R, hW⟩
  have hrow := HF.out w1 R hW
  have HW := Lib.hid hW; clear hW
  have c2 : w1.cell? ⟨gb, 2, none⟩ = some (.slice none 0 0) := row_cell hrow 2 rfl
  have c3 : w1.cell? ⟨gb, 3, none⟩ = some (.slice none 0 0) := row_cell hrow 3 rfl
  have c4 : w1.cell? ⟨gb, 4, none⟩ = some (.slice none 0 0) := row_cell hrow 4 rfl
  have c5 : w1.cell? ⟨gb, 5, none⟩ = some (.slice none 0 0) := row_cell hrow 5 rfl
  have c6 : w1.cell? ⟨gb, 6, none⟩ = some (.slice none 0 0) := row_cell hrow 6 rfl
  have c7 : w1.cell? ⟨gb, 7, none⟩ = some (.slice none 0 0) := row_cell hrow 7 rfl
  have c8 : w1.cell? ⟨gb, 8, none⟩ = some (.slice none 0 0) := row_cell hrow 8 rfl
  have c9 : w1.cell? ⟨gb, 9, none⟩ = some (.slice none 0 0) := row_cell hrow 9 rfl
  have c10 : w1.cell? ⟨gb, 10, none⟩ = some (.slice none 0 0) := row_cell hrow 10 rfl
  have c11 : w1.cell? ⟨gb, 11, none⟩ = some (.slice none 0 0) := row_cell hrow 11 rfl
  have c12 : w1.cell? ⟨gb, 12, none⟩ = some (.slice none 0 0) := row_cell hrow 12 rfl
  have c13 : w1.cell? ⟨gb, 13, none⟩ = some (.slice none 0 0) := row_cell hrow 13 rfl
  have c14 : w1.cell? ⟨gb, 14, none⟩ = some (.slice none 0 0) := row_cell hrow 14 rfl
  have c15 : w1.cell? ⟨gb, 15, none⟩ = some (.slice none 0 0) := row_cell hrow 15 rfl
  have c16 : w1.cell? ⟨gb, 16, none⟩ = some (.slice none 0 0) := row_cell hrow 16 rfl
  clear hrow
  go_wp2_with (first
    | (go_at_call 91; refine (none_Longs _ gb (by assumption)).mono ?_; rintro e w' ⟨rfl, rfl⟩)
    | (go_at_call 92; refine (none_Words _ gb (by assumption)).mono ?_; rintro e w' ⟨rfl, rfl⟩)
    | (go_at_call 93; refine (none_Bools _ gb (by assumption)).mono ?_; rintro e w' ⟨rfl, rfl⟩)
    | (go_at_call 94; refine (none_Texts _ gb (by assumption)).mono ?_; rintro e w' ⟨rfl, rfl⟩)
    | (go_at_call 95; refine (none_Sigs _ gb (by assumption)).mono ?_; rintro e w' ⟨rfl, rfl⟩)
    | (go_at_call 96; refine (none_Globals _ gb (by assumption)).mono ?_; rintro e w' ⟨rfl, rfl⟩)
    | (go_at_call 97; refine (none_Exports _ gb (by assumption)).mono ?_; rintro e w' ⟨rfl, rfl⟩)
    | (go_at_call 98; refine (none_Code _ gb (by assumption)).mono ?_; rintro e w' ⟨rfl, rfl⟩)
    | (go_at_call 99; refine (none_Functions _ gb (by assumption)).mono ?_; rintro e w' ⟨rfl, rfl⟩)
    | (go_at_call 100; refine (none_Datas _ gb (by assumption)).mono ?_; rintro e w' ⟨rfl, rfl⟩)
    | (go_at_call 101; refine (none_Tables _ gb (by assumption)).mono ?_; rintro e w' ⟨rfl, rfl⟩)
    | (go_at_call 102; refine (none_Frames _ gb (by assumption)).mono ?_; rintro e w' ⟨rfl, rfl⟩)
    | (go_at_call 103; refine (none_Replies _ gb (by assumption)).mono ?_; rintro e w' ⟨rfl, rfl⟩)
    | (go_at_call 104; refine (none_Pages _ gb (by assumption)).mono ?_; rintro e w' ⟨rfl, rfl⟩)
    | (go_at_call 105; refine (none_Rows _ gb (by assumption)).mono ?_; rintro e w' ⟨rfl, rfl⟩))
  go_ret
  exact ⟨rfl, HW.out.keeps.mono fun b _ hb => HK.out b hb⟩
end J
end Go.Proofs.YtmlniifdipeboaaDoor

