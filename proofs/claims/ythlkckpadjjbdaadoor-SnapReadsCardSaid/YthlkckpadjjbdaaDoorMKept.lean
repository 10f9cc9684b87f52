/- Append, and what it leaves as it was: other blocks, and of its own block the elements that it had. Append, lists of bytes: rows, marks. -/
import Derived.Test.YthlkckpadjjbdaaDoorLib2
import Derived.ArgAppend
namespace Go.Proofs.YthlkckpadjjbdaaDoor
open Go Go.RowKit

/-- What an append leaves: other blocks as they were; of its own block the cells ahead of n. -/
structure Kept (w w' : World) (row : Option Nat) (n : Nat) : Prop where
  grown : w.grownBy w' row
  old : ∀ g, row = some g → ∀ j, j < n → w'.cell? ⟨g, j, none⟩ = w.cell? ⟨g, j, none⟩
theorem Kept.cell {w w' : World} {row : Option Nat} {n : Nat} (h : Kept w w' row n) {b j : Nat} {u : Value} (hu : w.cell? ⟨b, j, none⟩ = some u) (hj : j < n) : w'.cell? ⟨b, j, none⟩ = some u := by
  by_cases hb : some b = row
  · rw [h.old b hb.symm j hj]; exact hu
  · exact h.grown.cell hu hb
theorem own_base {w : World} {base base' e size : Nat} {v : Value} {n : Nat} {xs : List Value} (h : w.ownsRow base e size v n xs) (hb : base' ≤ base) : w.ownsRow base' e size v n xs := by
  refine ⟨h.1, ?_⟩
  rcases h.2 with h0 | ⟨g, cap, cur, h1, h2, h3⟩
  · exact .inl h0
  · exact .inr ⟨g, cap, cur, h1, by omega, h3⟩
theorem own_at {w : World} {base e size g : Nat} {v : Value} {n : Nat} {xs : List Value} (h : w.ownsRow base e size v n xs) (hg : v.ownBlock = some g) {j : Nat} {u : Value} (hu : xs[j]? = some u) : w.cell? ⟨g, j, none⟩ = some u := by
  have := h.cells hg j u hu
  unfold Addr.add at this
  split at this
  · rename_i e0; subst e0; exact this
  · simpa using this

theorem run_append_kept {P : Program} (w : World) (base : Nat) (t ty e : TypeId) (i : TypeInfo) (z : Value) (size bytes : Nat) (ht : P.underlying t = some (.slice e)) (hi : P.info? e = some i) (hz : i.zero = some z)
    (hsize : i.size = size) (hby : i.bytes = bytes) (hzs : z.cells.size = size) (hsz : 0 < size)
    (v : Value) (n : Nat) (xs : List Value) (hown : w.ownsRow base e size v n xs)
    (a : Addr) (m c : Nat) (news : List Value) (hl : news.length = m * size) (hnews : ∀ j u, news[j]? = some u → w.cell? (a.add j) = some u) (h1 : ∀ u ∈ news, u.oneCell' = true)
    (h63 : n + m ≤ maxLen) (hbytes : (n + m) * bytes ≤ 140737488355328) (hbase : base ≤ w.heap.size) :
    ∃ v' w', (Builtin.append_ #[t, t] ty #[v, .slice (some a) m c]).run P w = .ok v' w' ∧ w'.ownsRow base e size v' (n + m) (xs ++ news) ∧ Kept w w' v.ownBlock (n * size) ∧ (∀ g, v'.ownBlock = some g → v.ownBlock = some g ∨ w.heap.size ≤ g) := by
  rcases hown.2 with ⟨rfl, rfl⟩ | ⟨g, cap, cur, rfl, hb, hg, hn, hcm, hcs, htake⟩
  · obtain rfl : xs = [] := List.eq_nil_of_length_eq_zero (by simpa using hown.1)
    obtain ⟨v', w', hr, ho, hgr, _⟩ := run_append_own (P := P) w w.heap.size t ty e i z size bytes ht hi hz hsize hby hzs hsz (.slice none 0 0) 0 [] (World.ownsRow_nil w _ e size) a m c news hl hnews h1 h63 hbytes (Nat.le_refl _)
    exact ⟨v', w', hr, own_base ho hbase, ⟨hgr, fun g hg => by simp [Value.ownBlock] at hg⟩, fun g hg => .inr (ho.lt g hg).1⟩
  · by_cases hr : n + m ≤ cap
    · subst hsize
      have hrun := run_append_room (P := P) w t ty e i ht hi g n cap cur hg a m c news hl hnews h1 hr (by rw [hl, hcs, ← Nat.add_mul]; exact Nat.mul_le_mul_right _ hr)
      obtain ⟨v', w', hr2, ho, hgr, _⟩ := run_append_own (P := P) w base t ty e i z i.size bytes ht hi hz rfl hby hzs hsz (.slice (some ⟨g, 0, none⟩) n cap) n xs hown a m c news hl hnews h1 h63 hbytes hbase
      have he := hr2.symm.trans hrun
      simp only [Result.ok.injEq] at he
      obtain ⟨rfl, rfl⟩ := he
      refine ⟨_, _, hr2, ho, ⟨hgr, fun g' hg' j hj => ?_⟩, fun g' hg' => .inl hg'⟩
      simp only [Value.ownBlock, Option.some.injEq] at hg'
      subst hg'
      have hlen := hown.1
      obtain ⟨u, hu⟩ : ∃ u, xs[j]? = some u := ⟨xs[j]'(by omega), List.getElem?_eq_getElem (by omega)⟩
      rw [own_at hown rfl hu, own_at ho rfl (u := u) (by rw [List.getElem?_append_left (by omega)]; exact hu)]
    · obtain ⟨v', w', hr2, ho, hgr⟩ := run_append_arg_grows (P := P) w t ty e i z size bytes ht hi hz hsize hby hzs hsz ⟨g, 0, none⟩ n cap xs hown.1 (hown.cells rfl) a m c news hl hnews (by omega) h63 hbytes
      refine ⟨v', w', hr2, own_base ho hbase, ⟨⟨hgr.os, hgr.tape, hgr.output, hgr.size, fun k hk _ => hgr.block k hk (by simp)⟩, fun g' hg' j hj => ?_⟩, fun g' hg' => .inr (ho.lt g' hg').1⟩
      simp only [Value.ownBlock, Option.some.injEq] at hg'
      subst hg'
      exact World.cell?_of_block (hgr.block _ (row_lt hg) (by simp))

theorem wpList_append_kept {P : Program} (w : World) {ops : Array Oper} {rest : List Oper} {o : Oper} {a : Act} {Q : Exit → Act → World → Prop} (hgd : o.guard = none) (s x : Operand) (t : TypeId)
    (ho : o.op = .call { callee := .builtin .append, args := #[s, x], argTypes := #[t, t] })
    (base : Nat) (e : TypeId) (i : TypeInfo) (z : Value) (size bytes : Nat) (ht : P.underlying t = some (.slice e)) (hi : P.info? e = some i) (hz : i.zero = some z)
    (hsize : i.size = size) (hby : i.bytes = bytes) (hzs : z.cells.size = size) (hsz : 0 < size)
    (v : Value) (n : Nat) (xs : List Value) (hs : a.eval s = v) (hown : w.ownsRow base e size v n xs)
    (ad : Addr) (m c : Nat) (news : List Value) (hx : a.eval x = .slice (some ad) m c) (hl : news.length = m * size) (hnews : ∀ j u, news[j]? = some u → w.cell? (ad.add j) = some u) (h1 : ∀ u ∈ news, u.oneCell' = true)
    (h63 : n + m ≤ maxLen) (hbytes : (n + m) * bytes ≤ 140737488355328) (hbase : base ≤ w.heap.size)
    (h : ∀ v' w', w'.ownsRow base e size v' (n + m) (xs ++ news) → Kept w w' v.ownBlock (n * size) → (∀ g, v'.ownBlock = some g → v.ownBlock = some g ∨ w.heap.size ≤ g) → wpList P ops Q rest (a.put o.dst v') w') : wpList P ops Q (o :: rest) a w := by
  refine wpList_plain hgd fun K hK' => ?_
  obtain ⟨v', w', hrun, r1, r2, r3⟩ := run_append_kept (P := P) w base t o.type e i z size bytes ht hi hz hsize hby hzs hsz v n xs hown ad m c news hl hnews h1 h63 hbytes hbase
  unfold Oper.wp
  simp [execOp, ho, resolve, invoke, builtin, hs, hx, hrun, Result.andThen]
  exact hK' _ _ (h v' w' r1 r2 r3)

/-- Blocks have roles: those of all roles but q stand as they were; what there was keeps its role. -/
structure Turned (q : Nat) (R : Nat → Nat) (w : World) (R' : Nat → Nat) (w' : World) : Prop where
  keeps : Keeps (fun b => R b ≠ q) w w'
  same : ∀ b, b < w.heap.size → R' b = R b
def ext (R : Nat → Nat) (n q : Nat) : Nat → Nat := fun b => if b < n then R b else q
theorem ext_old {R : Nat → Nat} {n q b : Nat} (h : b < n) : ext R n q b = R b := if_pos h
theorem ext_new {R : Nat → Nat} {n q b : Nat} (h : n ≤ b) : ext R n q b = q := if_neg (by omega)
theorem Turned.alloc (R : Nat → Nat) (w : World) (o : Obj) (q r : Nat) : Turned q R w (ext R w.heap.size r) (w.alloc o) := ⟨(Keeps.refl _ w).alloc o, fun _ h => ext_old h⟩
theorem Turned.drewN (R : Nat → Nat) (w : World) (n q : Nat) : Turned q R w R (w.drewN n) := ⟨(Keeps.refl _ w).drewN n, fun _ _ => rfl⟩
theorem Turned.kept {R : Nat → Nat} {w w' : World} {row : Option Nat} {n q : Nat} (h : Kept w w' row n) (hr : ∀ g, row = some g → R g = q) : Turned q R w (ext R w.heap.size q) w' :=
  ⟨(Keeps.refl _ w).grown h.grown fun k hk _ hs => hs (hr k hk), fun _ h => ext_old h⟩
end Go.Proofs.YthlkckpadjjbdaaDoor
namespace Go.Proofs.YthlkckpadjjbdaaDoor
open Go Go.RowKit

/-- The slice v reads as the bytes l, from the beginning of its block on; its block is in S. -/
def Rd0 (S : Nat → Prop) (w : World) (v : Value) (l : List Int) : Prop :=
  ∃ a cap, v = .slice a l.length cap ∧ l.length ≤ cap ∧ ∀ j (h : j < l.length), ∃ b, a = some ⟨b, 0, none⟩ ∧ S b ∧ w.cell? ⟨b, j, none⟩ = some (.int .u8 l[j])
theorem Rd0.turned {q r : Nat} {R R' : Nat → Nat} {w w' : World} {v : Value} {l : List Int} (h : Rd0 (R · = r) w v l) (ht : Turned q R w R' w') (hr : r ≠ q) : Rd0 (R' · = r) w' v l := by
  obtain ⟨a, cap, e, h1, h2⟩ := h
  refine ⟨a, cap, e, h1, fun j hj => ?_⟩
  obtain ⟨b, ha, hb, hc⟩ := h2 j hj
  exact ⟨b, ha, (ht.same b (World.block_lt_of_cell? w _ hc)).trans hb, ht.keeps.cell hc (by show R b ≠ q; rw [hb]; exact hr)⟩
theorem Rd0.kept {r n q : Nat} {R : Nat → Nat} {w w' : World} {row : Option Nat} {v : Value} {l : List Int} (h : Rd0 (R · = r) w v l) (hk : Kept w w' row n) (hn : l.length ≤ n) : Rd0 (ext R w.heap.size q · = r) w' v l := by
  obtain ⟨a, cap, e, h1, h2⟩ := h
  refine ⟨a, cap, e, h1, fun j hj => ?_⟩
  obtain ⟨b, ha, hb, hc⟩ := h2 j hj
  exact ⟨b, ha, (ext_old (World.block_lt_of_cell? w _ hc)).trans hb, hk.cell hc (by omega)⟩
/-- A row of bytes of its own, of the blocks of role r. -/
structure Row (B : Nat) (R : Nat → Nat) (w : World) (r : Nat) (v : Value) (l : List Int) : Prop where
  own : w.ownsRow B 5 1 v l.length (l.map (Value.int .u8))
  role : ∀ g, v.ownBlock = some g → R g = r
theorem Row.turned {B q r : Nat} {R R' : Nat → Nat} {w w' : World} {v : Value} {l : List Int} (h : Row B R w r v l) (ht : Turned q R w R' w') (hr : r ≠ q) : Row B R' w' r v l :=
  ⟨own_keeps h.own ht.keeps fun b hb => by show R b ≠ q; rw [h.role b hb]; exact hr, fun g hg => (ht.same g (h.own.lt g hg).2).trans (h.role g hg)⟩
theorem Row.rd {B r : Nat} {R : Nat → Nat} {w : World} {v : Value} {l : List Int} (h : Row B R w r v l) : Rd0 (R · = r) w v l := by
  have ho := h.own
  rcases ho.2 with ⟨rfl, h0⟩ | ⟨g, cap, cur, rfl, _, _, hn, _⟩
  · obtain rfl : l = [] := List.eq_nil_of_length_eq_zero h0
    exact ⟨none, 0, by simp, by simp, fun j h => absurd h (by simp)⟩
  · exact ⟨_, cap, rfl, hn, fun j hj => ⟨g, rfl, h.role g rfl, own_at ho rfl (by simp [hj])⟩⟩
/-- A list of slices of its own, of the blocks of role r. -/
structure Lst (B : Nat) (R : Nat → Nat) (w : World) (r : Nat) (v : Value) (l : List Value) : Prop where
  own : w.ownsRow B 31 1 v l.length l
  role : ∀ g, v.ownBlock = some g → R g = r
theorem Lst.turned {B q r : Nat} {R R' : Nat → Nat} {w w' : World} {v : Value} {l : List Value} (h : Lst B R w r v l) (ht : Turned q R w R' w') (hr : r ≠ q) : Lst B R' w' r v l :=
  ⟨own_keeps h.own ht.keeps fun b hb => by show R b ≠ q; rw [h.role b hb]; exact hr, fun g hg => (ht.same g (h.own.lt g hg).2).trans (h.role g hg)⟩
theorem Row.grown {B q : Nat} {R : Nat → Nat} {w w' : World} {v v' : Value} {l : List Int} {x : Int} (h : Row B R w q v l) (ho : w'.ownsRow B 5 1 v' (l.length + 1) (l.map (Value.int .u8) ++ [.int .u8 x]))
    (hg : ∀ g, v'.ownBlock = some g → v.ownBlock = some g ∨ w.heap.size ≤ g) : Row B (ext R w.heap.size q) w' q v' (l ++ [x]) := by
  refine ⟨by simpa using ho, fun g hg' => ?_⟩
  rcases hg g hg' with h1 | h1
  · rw [ext_old (h.own.lt g h1).2]; exact h.role g h1
  · exact ext_new h1
theorem Lst.grown {B q : Nat} {R : Nat → Nat} {w w' : World} {v v' : Value} {l : List Value} {x : Value} (h : Lst B R w q v l) (ho : w'.ownsRow B 31 1 v' (l.length + 1) (l ++ [x]))
    (hg : ∀ g, v'.ownBlock = some g → v.ownBlock = some g ∨ w.heap.size ≤ g) : Lst B (ext R w.heap.size q) w' q v' (l ++ [x]) := by
  refine ⟨by simpa using ho, fun g hg' => ?_⟩
  rcases hg g hg' with h1 | h1
  · rw [ext_old (h.own.lt g h1).2]; exact h.role g h1
  · exact ext_new h1
/-- The mark of a place of a list of bytes. -/
def mkB (n i : Nat) : Int := ((31 * n + 7 * i + 3) % 256 : Nat)
def marks (n : Nat) : Nat → List Int
  | 0 => []
  | i + 1 => marks n i ++ [mkB n i]
theorem marks_len (n : Nat) : ∀ i, (marks n i).length = i
  | 0 => rfl
  | i + 1 => by rw [marks, List.length_append, marks_len n i]; rfl
theorem marks_at (n : Nat) : ∀ (i j : Nat), j < i → (marks n i)[j]? = some (mkB n j)
  | 0, _, h => absurd h (by omega)
  | i + 1, j, h => by
    rw [marks]
    by_cases hj : j < i
    · rw [List.getElem?_append_left (by rw [marks_len]; exact hj)]; exact marks_at n i j hj
    · obtain rfl : j = i := by omega
      rw [List.getElem?_append_right (by rw [marks_len]; exact Nat.le_refl _), marks_len, Nat.sub_self]; rfl
end Go.Proofs.YthlkckpadjjbdaaDoor
