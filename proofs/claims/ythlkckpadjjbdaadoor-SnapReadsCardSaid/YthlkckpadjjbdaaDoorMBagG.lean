/- Small lemmas for the lists of a bag. Which list of a bag a block belongs to. A bag with lists of any kinds: what lies apart, and what an Add does. -/
import Derived.Test.YthlkckpadjjbdaaDoorBagP
import Derived.Deep.QuietTactic
import Derived.Test.YthlkckpadjjbdaaDoorBag0
namespace Go.Proofs.YthlkckpadjjbdaaDoor
open Go Go.RowKit
theorem Still.below (R : Nat → Nat) {w w' : World} (hb : Below w.heap.size w w') : Still R w (ext R w.heap.size 0) w' := fun _ => ⟨Keeps.all _ hb, fun _ h => ext_old h⟩
theorem cells_new (w : World) (xs : List Value) (T : TypeId) : ∀ (j : Nat) u, xs[j]? = some u → (w.alloc (.cells xs.toArray T)).cell? ((⟨w.heap.size, 0, none⟩ : Addr).add j) = some u := by
  intro j u hu
  have := row_cell (heap_alloc_new w (.cells xs.toArray T)) j (u := u) (by simpa using hu)
  unfold Addr.add
  split
  · rename_i e0; subst e0; exact this
  · simpa using this
theorem base4 {wB w : World} {p1 p2 p3 p4 : Addr} {v1 v2 v3 v4 : Value} (H : Hid (wB.cell? p1 = some v1 ∧ wB.cell? p2 = some v2 ∧ wB.cell? p3 = some v3 ∧ wB.cell? p4 = some v4)) (hb : Hid (Below wB.heap.size wB w)) :
    w.cell? p1 = some v1 ∧ w.cell? p2 = some v2 ∧ w.cell? p3 = some v3 ∧ w.cell? p4 = some v4 :=
  ⟨cell_below hb.out H.out.1, cell_below hb.out H.out.2.1, cell_below hb.out H.out.2.2.1, cell_below hb.out H.out.2.2.2⟩
theorem setCell_same {w : World} {b o : Nat} {v : Value} (h : w.cell? ⟨b, o, none⟩ = some v) : w.setCell ⟨b, o, none⟩ v = w := by
  have e : (w.setCell ⟨b, o, none⟩ v).heap = w.heap := by
    unfold World.setCell
    refine Array.ext (by simp) fun i hi hj => ?_
    simp only [Array.getElem_modify]
    split
    · rename_i e; subst e
      unfold World.cell? at h
      rw [Array.getElem?_eq_getElem hj] at h
      cases hx : w.heap[b] with
      | cells c T fr =>
        rw [hx] at h
        simp only [Option.isSome_none, Bool.false_eq_true, if_false] at h ⊢
        congr 1
        refine Array.ext (by simp) fun k hk hk2 => ?_
        rw [Array.getElem_setIfInBounds]
        split
        · rename_i e; subst e; exact (Option.some.inj ((Array.getElem?_eq_getElem hk2).symm.trans h)).symm
        · rfl
      | _ => rfl
    · rfl
  have e2 : w.setCell ⟨b, o, none⟩ v = { w with heap := (w.setCell ⟨b, o, none⟩ v).heap } := rfl
  rw [e2, e]
theorem quiet_add_same {P : Program} {f : FuncId} {args : Array Value} {w : World} {a n : Nat} {v : Value}
    (h : Calls P f args (w.drewN (a + n)) fun e w' => e = .returned v ∧ w' = w.drewN (a + n)) :
    Calls P f args (w.drewN (a + n)) fun e w'' => e = .returned v ∧ ∃ m, w'' = w.drewN (a + m) :=
  h.mono fun _ _ ⟨he, hm⟩ => ⟨he, n, hm⟩
end Go.Proofs.YthlkckpadjjbdaaDoor
namespace Go.Proofs.YthlkckpadjjbdaaDoor
open Go Go.RowKit

/-- The list of which a block is the own block: its number. -/
def roleOf (vs : List Value) (b : Nat) : Nat := (vs.findIdx? fun v => v.ownBlock == some b).elim 0 (· + 3)
theorem role_none {vs : List Value} {b : Nat} (h : ∀ (k : Nat) v, vs[k]? = some v → v.ownBlock ≠ some b) : roleOf vs b = 0 := by
  unfold roleOf
  rw [List.findIdx?_eq_none_iff.2]
  · rfl
  · intro v hv
    obtain ⟨k, hk, rfl⟩ := List.mem_iff_getElem.1 hv
    have := h k _ (List.getElem?_eq_getElem hk)
    simpa using this
theorem role_some {vs : List Value} {k b : Nat} {v : Value} (hv : vs[k]? = some v) (hb : v.ownBlock = some b) (h : ∀ (j : Nat) u, vs[j]? = some u → u.ownBlock = some b → j = k) : roleOf vs b = k + 3 := by
  obtain ⟨hk, rfl⟩ := List.getElem?_eq_some_iff.1 hv
  unfold roleOf
  cases he : vs.findIdx? fun v => v.ownBlock == some b with
  | none =>
    have := List.findIdx?_eq_none_iff.1 he vs[k] (List.getElem_mem hk)
    simp [hb] at this
  | some j =>
    obtain ⟨hj, h1, _⟩ := List.findIdx?_eq_some_iff_getElem.1 he
    have := h j _ (List.getElem?_eq_getElem hj) (by simpa using h1)
    subst this
    rfl
end Go.Proofs.YthlkckpadjjbdaaDoor
namespace Go.Proofs.YthlkckpadjjbdaaDoor
open Go Go.RowKit
namespace G
/-- The kinds of a bag's lists: the element's type, the list's type, the cells of an element. -/
def tE : Nat → TypeId
  | 0 => 5 | 1 => 3 | 2 => 2 | 3 => 63 | 4 => 4 | 5 => 9 | 6 => 109 | 7 => 112 | 8 => 115 | 9 => 118
  | 10 => 121 | 11 => 124 | 12 => 127 | 13 => 66 | 14 => 130 | 15 => 31 | _ => 101
def tL : Nat → TypeId
  | 0 => 31 | 1 => 101 | 2 => 104 | 3 => 23 | 4 => 105 | 5 => 106 | 6 => 107 | 7 => 110 | 8 => 113 | 9 => 116
  | 10 => 119 | 11 => 122 | 12 => 125 | 13 => 22 | 14 => 128 | 15 => 24 | _ => 36
def sz : Nat → Nat
  | 0 => 1 | 1 => 1 | 2 => 1 | 3 => 1 | 4 => 1 | 5 => 1 | 6 => 2 | 7 => 3 | 8 => 2 | 9 => 3 | 10 => 3 | 11 => 2 | 12 => 5 | 13 => 4 | 14 => 2 | 15 => 1 | _ => 1
def cells17 (hs : Nat → Value) : Array Value := #[hs 0, hs 1, hs 2, hs 3, hs 4, hs 5, hs 6, hs 7, hs 8, hs 9, hs 10, hs 11, hs 12, hs 13, hs 14, hs 15, hs 16]
def up {α : Type} (f : Nat → α) (i : Nat) (x : α) : Nat → α := fun j => if j = i then x else f j
theorem up_at {α : Type} (f : Nat → α) (i : Nat) (x : α) : up f i x i = x := if_pos rfl
theorem up_ne {α : Type} (f : Nat → α) {i j : Nat} (x : α) (h : j ≠ i) : up f i x j = f j := if_neg h
/-- A bag: what each list lies in is apart from all else; K: the kinds whose lists are as they were handed in. -/
structure Bg (K : Nat → Prop) (B0 : Nat) (w : World) (gb : Nat) (hs : Nat → Value) (vs : Nat → List Value) (ns : Nat → List Nat) : Prop where
  row : w.heap[gb]? = some (.cells (cells17 hs) 53 (0, 0))
  b0 : B0 ≤ gb
  hd : ∀ i, i < 17 → w.ownsRow gb (tL i) 1 (hs i) (vs i).length (vs i)
  em : ∀ i, i < 17 → vs i = [] → hs i = .slice none 0 0
  ln : ∀ i, (ns i).length = (vs i).length
  mx : ∀ i, (vs i).length ≤ 300
  rows : ∀ i, i < 17 → K i → ∀ (k : Nat) v n, (vs i)[k]? = some v → (ns i)[k]? = some n → n ≤ 1073741824 ∧ ∃ xs, Own2 w B0 (tE i) (sz i) v n xs
  lt : ∀ i (k : Nat) v g, (vs i)[k]? = some v → v.ownBlock = some g → B0 ≤ g ∧ g < gb
  hgb : ∀ i, i < 17 → (hs i).ownBlock ≠ some gb
  hne : ∀ i j g, i < 17 → j < 17 → (hs i).ownBlock = some g → (hs j).ownBlock = some g → i = j
  ne : ∀ i j (k l : Nat) v u g, (vs i)[k]? = some v → (vs j)[l]? = some u → v.ownBlock = some g → u.ownBlock = some g → i = j ∧ k = l
section
variable {K : Nat → Prop} {B0 gb : Nat} {w w' : World} {hs : Nat → Value} {vs : Nat → List Value} {ns : Nat → List Nat}
theorem Bg.glt (h : Bg K B0 w gb hs vs ns) : gb < w.heap.size := row_lt h.row
theorem Bg.keeps {S K' : Nat → Prop} (h : Bg K B0 w gb hs vs ns) (hk : Keeps S w w') (h0 : S gb) (h1 : ∀ i g, i < 17 → (hs i).ownBlock = some g → S g) (hK : ∀ i, K' i → K i)
    (h2 : ∀ i, i < 17 → K' i → ∀ (k : Nat) v g, (vs i)[k]? = some v → v.ownBlock = some g → S g) : Bg K' B0 w' gb hs vs ns :=
  ⟨(hk.block gb h.glt h0).trans h.row, h.b0, fun i hi => own_keeps (h.hd i hi) hk fun g hg => h1 i g hi hg, h.em, h.ln, h.mx,
    fun i hi hki k v n a c => ⟨(h.rows i hi (hK i hki) k v n a c).1, by obtain ⟨xs, o⟩ := (h.rows i hi (hK i hki) k v n a c).2; exact ⟨xs, o.keeps hk fun g hg => h2 i hi hki k v g a hg⟩⟩, h.lt, h.hgb, h.hne, h.ne⟩
theorem Bg.on (h : Bg K B0 w gb hs vs ns) (hb : Below w.heap.size w w') : Bg K B0 w' gb hs vs ns :=
  h.keeps (Keeps.all (fun _ => True) hb) trivial (fun _ _ _ _ => trivial) (fun _ h => h) fun _ _ _ _ _ _ _ _ => trivial
theorem Bg.start (h : w.heap[gb]? = some (.cells (cells17 fun _ => .slice none 0 0) 53 (0, 0))) (hB : B0 ≤ gb) : Bg K B0 w gb (fun _ => .slice none 0 0) (fun _ => []) (fun _ => []) :=
  ⟨h, hB, fun _ _ => World.ownsRow_nil _ _ _ _, fun _ _ _ => rfl, fun _ => rfl, fun _ => Nat.zero_le _, fun i _ _ k v n h => by simp at h, fun i k v g h => by simp at h, fun i _ => by simp [Value.ownBlock], fun i j g _ _ h => by simp [Value.ownBlock] at h, fun i j k l v u g h => by simp at h⟩
/-- A new list is apart from all that the bag has. -/
def New (vs : Nat → List Value) (v : Value) : Prop := ∀ g, v.ownBlock = some g → ∀ j (k : Nat) u, (vs j)[k]? = some u → u.ownBlock ≠ some g
theorem last_of {l : List Value} {v : Value} {k : Nat} {u : Value} (hk : (l ++ [v])[k]? = some u) : (k < l.length ∧ l[k]? = some u) ∨ (k = l.length ∧ u = v) := by
  by_cases hk' : k < l.length
  · rw [List.getElem?_append_left hk'] at hk; exact .inl ⟨hk', hk⟩
  · rw [List.getElem?_append_right (by omega)] at hk
    have : k - l.length = 0 := by have := (List.getElem?_eq_some_iff.1 hk).1; simp at this; omega
    rw [this] at hk
    exact .inr ⟨by omega, (Option.some.inj hk).symm⟩
theorem Bg.add {i n : Nat} {v h' : Value} {xs : List Value} (h : Bg K B0 w gb hs vs ns) (hi : i < 17) (hroom : (vs i).length < 300) (ho : Own2 w B0 (tE i) (sz i) v n xs) (hl : n ≤ 1073741824) (hv : ∀ g, v.ownBlock = some g → g < gb) (hn : New vs v)
    (hrow : w'.heap[gb]? = some (.cells (cells17 (up hs i h')) 53 (0, 0))) (hoi : w'.ownsRow gb (tL i) 1 h' ((vs i) ++ [v]).length ((vs i) ++ [v])) (hk : Keeps (fun b => b ≠ gb ∧ (hs i).ownBlock ≠ some b) w w')
    (hg : ∀ g, h'.ownBlock = some g → (hs i).ownBlock = some g ∨ w.heap.size ≤ g) (hgb : h'.ownBlock ≠ some gb) :
    Bg K B0 w' gb (up hs i h') (up vs i (vs i ++ [v])) (up ns i (ns i ++ [n])) := by
  have hge : ∀ j g, j < 17 → (hs j).ownBlock = some g → gb ≤ g := fun j g hj e => ((h.hd j hj).lt g e).1
  have old : ∀ g, g < gb → g ≠ gb ∧ (hs i).ownBlock ≠ some g := fun g hlt => ⟨by omega, fun e => by have := hge i g hi e; omega⟩
  have ht : ∀ j (k : Nat) u, (up vs i (vs i ++ [v]) j)[k]? = some u → (∃ hj : (vs j)[k]? = some u, True) ∨ (j = i ∧ k = (vs i).length ∧ u = v) := fun j k u hku => by
    by_cases e : j = i
    · subst e
      rw [up_at] at hku
      rcases last_of hku with ⟨_, h1⟩ | ⟨h1, h2⟩
      · exact .inl ⟨h1, trivial⟩
      · exact .inr ⟨rfl, h1, h2⟩
    · rw [up_ne _ _ e] at hku
      exact .inl ⟨hku, trivial⟩
  refine ⟨hrow, h.b0, fun j hj => ?_, fun j hj hv0 => ?_, fun j => ?_, fun j => ?_, fun j hj hkj k u m hku hkm => ?_, fun j k u g hku hug => ?_, fun j hj => ?_, fun j l g hj hlj e1 e2 => ?_, fun j l a b u u' g h1 h2 h3 h4 => ?_⟩
  · by_cases e : j = i
    · subst e; rw [up_at, up_at]; exact hoi
    · rw [up_ne _ _ e, up_ne _ _ e]
      exact own_keeps (h.hd j hj) hk fun g hgj => ⟨fun e' => h.hgb j hj (by rw [hgj, e']), fun e' => e (h.hne j i g hj hi hgj e')⟩
  · by_cases e : j = i
    · subst e; rw [up_at] at hv0; simp at hv0
    · rw [up_ne _ _ e] at hv0 ⊢; exact h.em j hj hv0
  · by_cases e : j = i
    · subst e; rw [up_at, up_at]; simp [h.ln]
    · rw [up_ne _ _ e, up_ne _ _ e]; exact h.ln j
  · by_cases e : j = i
    · subst e; rw [up_at]; simp; omega
    · rw [up_ne _ _ e]; exact h.mx j
  · by_cases e : j = i
    · subst e
      rw [up_at] at hku hkm
      rcases last_of hku with ⟨hlt, h1⟩ | ⟨rfl, rfl⟩
      · rw [List.getElem?_append_left (by rw [h.ln]; exact hlt)] at hkm
        obtain ⟨h2, xs', o⟩ := h.rows j hj hkj k u m h1 hkm
        exact ⟨h2, xs', o.keeps hk fun g hu => old g (h.lt j k u g h1 hu).2⟩
      · rw [List.getElem?_append_right (by rw [h.ln]; exact Nat.le_refl _), h.ln, Nat.sub_self] at hkm
        obtain rfl := Option.some.inj hkm
        exact ⟨hl, xs, ho.keeps hk fun g hu => old g (hv g hu)⟩
    · rw [up_ne _ _ e] at hku hkm
      obtain ⟨h2, xs', o⟩ := h.rows j hj hkj k u m hku hkm
      exact ⟨h2, xs', o.keeps hk fun g hu => old g (h.lt j k u g hku hu).2⟩
  · rcases ht j k u hku with ⟨h1, _⟩ | ⟨_, _, rfl⟩
    · exact h.lt j k u g h1 hug
    · exact ⟨(ho.lt g hug).1, hv g hug⟩
  · by_cases e : j = i
    · subst e; rw [up_at]; exact hgb
    · rw [up_ne _ _ e]; exact h.hgb j hj
  · by_cases ej : j = i
    · subst ej
      by_cases el : l = j
      · exact el.symm
      · rw [up_at] at e1; rw [up_ne _ _ el] at e2
        rcases hg g e1 with h1 | h1
        · exact h.hne j l g hj hlj h1 e2
        · have := ((h.hd l hlj).lt g e2).2; omega
    · rw [up_ne _ _ ej] at e1
      by_cases el : l = i
      · subst el
        rw [up_at] at e2
        rcases hg g e2 with h1 | h1
        · exact h.hne j l g hj hlj e1 h1
        · have := ((h.hd j hj).lt g e1).2; omega
      · rw [up_ne _ _ el] at e2; exact h.hne j l g hj hlj e1 e2
  · rcases ht j a u h1 with ⟨q1, _⟩ | ⟨rfl, rfl, rfl⟩
    · rcases ht l b u' h2 with ⟨q2, _⟩ | ⟨rfl, rfl, rfl⟩
      · exact h.ne j l a b u u' g q1 q2 h3 h4
      · exact absurd h3 (hn g h4 j a u q1)
    · rcases ht l b u' h2 with ⟨q2, _⟩ | ⟨rfl, rfl, _⟩
      · exact absurd h4 (hn g h3 l b u' q2)
      · exact ⟨rfl, rfl⟩
/-- The bag as the text of one kind's Apart asks for it. -/
theorem Bg.g1 {i : Nat} (h : Bg K B0 w gb hs vs ns) (hi : i < 17) (hK : K i) (kd : Kd) (e1 : kd.t = tE i) (e2 : kd.sz = sz i) (e3 : kd.ix = i) :
    P.G1 kd B0 (roleOf (vs i)) w gb (hs i) (vs i) (fun k => (ns i).getD k 0) w 0 := by
  have hgb : roleOf (vs i) gb = 0 := role_none fun k v hk e => by have := (h.lt i k v gb hk e).2; omega
  have hrow : w.cell? ⟨gb, i, none⟩ = some (hs i) := by
    refine row_cell h.row i ?_
    match i, hi with
    | 0, _ => rfl | 1, _ => rfl | 2, _ => rfl | 3, _ => rfl | 4, _ => rfl | 5, _ => rfl | 6, _ => rfl | 7, _ => rfl | 8, _ => rfl | 9, _ => rfl | 10, _ => rfl | 11, _ => rfl | 12, _ => rfl | 13, _ => rfl | 14, _ => rfl | 15, _ => rfl | 16, _ => rfl
    | n + 17, hn => omega
  refine ⟨Went.refl _ _, ⟨by rw [e3]; exact hrow, hgb, ?_⟩, fun k v hk => absurd hk (by omega), fun k v _ h1 => ?_⟩
  · have ho := h.hd i hi
    have hge : ∀ g, (hs i).ownBlock = some g → gb ≤ g := fun g e => (ho.lt g e).1
    rcases ho.2 with ⟨e, h0⟩ | ⟨g, cap, cur, e, hg, _, hc, _⟩
    · exact ⟨none, 0, by rw [e, h0], by omega, fun k hk => absurd hk (by omega)⟩
    · refine ⟨_, cap, e, hc, fun k hk => ⟨g, rfl, role_none fun j v hj e' => ?_, own_at ho (by rw [e]; rfl) (List.getElem?_eq_getElem hk)⟩⟩
      have := (h.lt i j v g hj e').2; omega
  · have hlt := (List.getElem?_eq_some_iff.1 h1).1
    have hn : (ns i)[k]? = some ((ns i)[k]'(by rw [h.ln]; exact hlt)) := List.getElem?_eq_getElem (by rw [h.ln]; exact hlt)
    obtain ⟨_, xs, o⟩ := h.rows i hi hK k v _ h1 hn
    refine ⟨xs, ⟨?_, fun g hg => role_some h1 hg fun j u hu hb => (h.ne i i j k u v g hu h1 hb hg).2⟩⟩
    show Own2 w B0 kd.t kd.sz v ((ns i).getD k 0) xs
    rw [List.getD_eq_getElem?_getD, hn, e1, e2]
    exact o
theorem Bg.nmx {i : Nat} (h : Bg K B0 w gb hs vs ns) (hi : i < 17) (hK : K i) (k : Nat) : (ns i).getD k 0 ≤ 1073741824 := by
  by_cases hk : k < (ns i).length
  · rw [List.getD_eq_getElem?_getD, List.getElem?_eq_getElem hk]
    exact (h.rows i hi hK k ((vs i)[k]'(by rw [← h.ln]; exact hk)) _ (List.getElem?_eq_getElem (by rw [← h.ln]; exact hk)) (List.getElem?_eq_getElem hk)).1
  · rw [List.getD_eq_getElem?_getD, List.getElem?_eq_none (by omega)]; simp
/-- Behind one kind's Apart: the others' lists are as they were. -/
theorem Bg.went {i : Nat} {R : Nat → Nat} (h : Bg K B0 w gb hs vs ns) (hW : Went (roleOf (vs i)) w R w') : Bg (fun j => K j ∧ j ≠ i) B0 w' gb hs vs ns := by
  refine h.keeps hW.keeps (role_none fun k v hk e => by have := (h.lt i k v gb hk e).2; omega) (fun j g hj e => role_none fun k v hk e' => ?_) (fun _ h => h.1) fun j hj hK k v g hk hg => role_none fun l u hu e' => hK.2 (h.ne j i k l v u g hk hu hg e').1
  have h1 := ((h.hd j hj).lt g e).1
  have h2 := (h.lt i k v g hk e').2
  omega
/-- What a bag's Apart turns lies in its lists alone. -/
def Apr (vs : Nat → List Value) (b : Nat) : Prop := ∀ i (k : Nat) v, (vs i)[k]? = some v → v.ownBlock ≠ some b
theorem Went.apr {i : Nat} {R : Nat → Nat} (hW : Went (roleOf (vs i)) w R w') : Keeps (Apr vs) w w' := hW.keeps.mono fun _ _ hb => role_none fun k v hk => hb i k v hk
/-- A list more; where a kind has 300 lists none is added. -/
def addv (vs : Nat → List Value) (i : Nat) (v : Value) : Nat → List Value := if (vs i).length < 300 then up vs i (vs i ++ [v]) else vs
/-- The lists of a bag are among these. -/
def Sub (vs : Nat → List Value) (l : List Value) : Prop := ∀ j (k : Nat) u, (vs j)[k]? = some u → u ∈ l
theorem Sub.add {l : List Value} {i : Nat} {v : Value} (h : Sub vs l) : Sub (addv vs i v) (l ++ [v]) := fun j k u hu => by
  unfold addv at hu
  split at hu
  · by_cases e : j = i
    · subst e
      rw [up_at] at hu
      rcases last_of hu with ⟨_, h1⟩ | ⟨_, rfl⟩
      · exact List.mem_append_left _ (h j k u h1)
      · simp
    · rw [up_ne _ _ e] at hu; exact List.mem_append_left _ (h j k u hu)
  · exact List.mem_append_left _ (h j k u hu)
/-- The own blocks of lists; lists that lie apart. -/
def blks (l : List Value) : List Nat := l.filterMap Value.ownBlock
def Dj (l : List Value) : Prop := (blks l).Nodup
theorem blks_app (a b : List Value) : blks (a ++ b) = blks a ++ blks b := List.filterMap_append
theorem mem_blks {l : List Value} {g : Nat} : g ∈ blks l ↔ ∃ v ∈ l, v.ownBlock = some g := List.mem_filterMap
theorem New.of {l : List Value} {v : Value} (hS : Sub vs l) (hD : Dj (l ++ [v])) : New vs v := fun g hg j k u hu e => by
  unfold Dj at hD
  rw [blks_app, List.nodup_append] at hD
  exact hD.2.2 g (mem_blks.2 ⟨u, hS j k u hu, e⟩) g (mem_blks.2 ⟨v, by simp, hg⟩) rfl
theorem Dj.left {a b : List Value} (h : Dj (a ++ b)) : Dj a := by unfold Dj at *; rw [blks_app] at h; exact (List.nodup_append.1 h).1
theorem Dj.right {a b : List Value} (h : Dj (a ++ b)) : Dj b := by unfold Dj at *; rw [blks_app] at h; exact (List.nodup_append.1 h).2.1
theorem Dj.perm {a b : List Value} (h : Dj a) (hp : a.Perm b) : Dj b := by unfold Dj at *; exact ((hp.filterMap _).nodup_iff).1 h
theorem Dj.join {a b : List Value} {n : Nat} (ha : Dj a) (hb : Dj b) (h1 : ∀ v ∈ a, ∀ g, v.ownBlock = some g → g < n) (h2 : ∀ v ∈ b, ∀ g, v.ownBlock = some g → n ≤ g) : Dj (a ++ b) := by
  unfold Dj at *
  rw [blks_app, List.nodup_append]
  refine ⟨ha, hb, fun x hx y hy e => ?_⟩
  obtain ⟨v, hv, e1⟩ := mem_blks.1 hx
  obtain ⟨u, hu, e2⟩ := mem_blks.1 hy
  have := h1 v hv x e1
  have := h2 u hu y e2
  omega
end
end G
end Go.Proofs.YthlkckpadjjbdaaDoor
