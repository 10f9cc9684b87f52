/- Append, and what it leaves as it was: other blocks, and of its own block the elements that it had. -/
import Derived.Test.YthlkckpadjjbdaaDoorLib2
import Derived.ArgAppend
namespace Go.Proofs.YthlkckpadjjbdaaDoor
open Go Go.RowKit

/-- What an append leaves: other blocks as they were; of its own block the cells ahead of n. -/
structure Kept (w w' : World) (row : Option Nat) (n : Nat) : Prop where
  grown : w.grownBy w' row
  old : ∀ g, row = some g → ∀ j, j < n → w'.cell? ⟨g, j, none⟩ = w.cell? ⟨g, j, none⟩
theorem Kept.cell {w w' : World} {row : Option Nat} {n : Nat} (h : Kept w w' row n) {b j : Nat} {u : Value} (hu : w.cell? ⟨b, j, none⟩ = some u) (hj : j < n) : w'.cell? ⟨b, j, none⟩ = some u := by
  by_cases hb : some b = row
  · rw [h.old b hb.symm j hj]; exact hu
  · exact h.grown.cell hu hb
theorem own_base {w : World} {base base' e size : Nat} {v : Value} {n : Nat} {xs : List Value} (h : w.ownsRow base e size v n xs) (hb : base' ≤ base) : w.ownsRow base' e size v n xs := by
  refine ⟨h.1, ?_⟩
  rcases h.2 with h0 | ⟨g, cap, cur, h1, h2, h3⟩
  · exact .inl h0
  · exact .inr ⟨g, cap, cur, h1, by omega, h3⟩
theorem own_at {w : World} {base e size g : Nat} {v : Value} {n : Nat} {xs : List Value} (h : w.ownsRow base e size v n xs) (hg : v.ownBlock = some g) {j : Nat} {u : Value} (hu : xs[j]? = some u) : w.cell? ⟨g, j, none⟩ = some u := by
  have := h.cells hg j u hu
  unfold Addr.add at this
  split at this
  · rename_i e0; subst e0; exact this
  · simpa using this

theorem run_append_kept {P : Program} (w : World) (base : Nat) (t ty e : TypeId) (i : TypeInfo) (z : Value) (size bytes : Nat) (ht : P.underlying t = some (.slice e)) (hi : P.info? e = some i) (hz : i.zero = some z)
    (hsize : i.size = size) (hby : i.bytes = bytes) (hzs : z.cells.size = size) (hsz : 0 < size)
    (v : Value) (n : Nat) (xs : List Value) (hown : w.ownsRow base e size v n xs)
    (a : Addr) (m c : Nat) (news : List Value) (hl : news.length = m * size) (hnews : ∀ j u, news[j]? = some u → w.cell? (a.add j) = some u) (h1 : ∀ u ∈ news, u.oneCell' = true)
    (h63 : n + m ≤ maxLen) (hbytes : (n + m) * bytes ≤ 140737488355328) (hbase : base ≤ w.heap.size) :
    ∃ v' w', (Builtin.append_ #[t, t] ty #[v, .slice (some a) m c]).run P w = .ok v' w' ∧ w'.ownsRow base e size v' (n + m) (xs ++ news) ∧ Kept w w' v.ownBlock (n * size) ∧ (∀ g, v'.ownBlock = some g → v.ownBlock = some g ∨ w.heap.size ≤ g) := by
  rcases hown.2 with ⟨rfl, rfl⟩ | ⟨g, cap, cur, rfl, hb, hg, hn, hcm, hcs, htake⟩
  · obtain rfl : xs = [] := List.eq_nil_of_length_eq_zero (by simpa using hown.1)
    obtain ⟨v', w', hr, ho, hgr, _⟩ := run_append_own (P := P) w w.heap.size t ty e i z size bytes ht hi hz hsize hby hzs hsz (.slice none 0 0) 0 [] (World.ownsRow_nil w _ e size) a m c news hl hnews h1 h63 hbytes (Nat.le_refl _)
    exact ⟨v', w', hr, own_base ho hbase, ⟨hgr, fun g hg => by simp [Value.ownBlock] at hg⟩, fun g hg => .inr (ho.lt g hg).1⟩
  · by_cases hr : n + m ≤ cap
    · subst hsize
      have hrun := run_append_room (P := P) w t ty e i ht hi g n cap cur hg a m c news hl hnews h1 hr (by rw [hl, hcs, ← Nat.add_mul]; exact Nat.mul_le_mul_right _ hr)
      obtain ⟨v', w', hr2, ho, hgr, _⟩ := run_append_own (P := P) w base t ty e i z i.size bytes ht hi hz rfl hby hzs hsz (.slice (some ⟨g, 0, none⟩) n cap) n xs hown a m c news hl hnews h1 h63 hbytes hbase
      have he := hr2.symm.trans hrun
      simp only [Result.ok.injEq] at he
      obtain ⟨rfl, rfl⟩ := he
      refine ⟨_, _, hr2, ho, ⟨hgr, fun g' hg' j hj => ?_⟩, fun g' hg' => .inl hg'⟩
      simp only [Value.ownBlock, Option.some.injEq] at hg'
      subst hg'
      have hlen := hown.1
      obtain ⟨u, hu⟩ : ∃ u, xs[j]? = some u := ⟨xs[j]'(by omega), List.getElem?_eq_getElem (by omega)⟩
      rw [own_at hown rfl hu, own_at ho rfl (u := u) (by rw [List.getElem?_append_left (by omega)]; exact hu)]
    · obtain ⟨v', w', hr2, ho, hgr⟩ := run_append_arg_grows (P := P) w t ty e i z size bytes ht hi hz hsize hby hzs hsz ⟨g, 0, none⟩ n cap xs hown.1 (hown.cells rfl) a m c news hl hnews (by omega) h63 hbytes
      refine ⟨v', w', hr2, own_base ho hbase, ⟨⟨hgr.os, hgr.tape, hgr.output, hgr.size, fun k hk _ => hgr.block k hk (by simp)⟩, fun g' hg' j hj => ?_⟩, fun g' hg' => .inr (ho.lt g' hg').1⟩
      simp only [Value.ownBlock, Option.some.injEq] at hg'
      subst hg'
      exact World.cell?_of_block (hgr.block _ (row_lt hg) (by simp))

theorem wpList_append_kept {P : Program} (w : World) {ops : Array Oper} {rest : List Oper} {o : Oper} {a : Act} {Q : Exit → Act → World → Prop} (hgd : o.guard = none) (s x : Operand) (t : TypeId)
    (ho : o.op = .call { callee := .builtin .append, args := #[s, x], argTypes := #[t, t] })
    (base : Nat) (e : TypeId) (i : TypeInfo) (z : Value) (size bytes : Nat) (ht : P.underlying t = some (.slice e)) (hi : P.info? e = some i) (hz : i.zero = some z)
    (hsize : i.size = size) (hby : i.bytes = bytes) (hzs : z.cells.size = size) (hsz : 0 < size)
    (v : Value) (n : Nat) (xs : List Value) (hs : a.eval s = v) (hown : w.ownsRow base e size v n xs)
    (ad : Addr) (m c : Nat) (news : List Value) (hx : a.eval x = .slice (some ad) m c) (hl : news.length = m * size) (hnews : ∀ j u, news[j]? = some u → w.cell? (ad.add j) = some u) (h1 : ∀ u ∈ news, u.oneCell' = true)
    (h63 : n + m ≤ maxLen) (hbytes : (n + m) * bytes ≤ 140737488355328) (hbase : base ≤ w.heap.size)
    (h : ∀ v' w', w'.ownsRow base e size v' (n + m) (xs ++ news) → Kept w w' v.ownBlock (n * size) → (∀ g, v'.ownBlock = some g → v.ownBlock = some g ∨ w.heap.size ≤ g) → wpList P ops Q rest (a.put o.dst v') w') : wpList P ops Q (o :: rest) a w := by
  refine wpList_plain hgd fun K hK' => ?_
  obtain ⟨v', w', hrun, r1, r2, r3⟩ := run_append_kept (P := P) w base t o.type e i z size bytes ht hi hz hsize hby hzs hsz v n xs hown ad m c news hl hnews h1 h63 hbytes hbase
  unfold Oper.wp
  simp [execOp, ho, resolve, invoke, builtin, hs, hx, hrun, Result.andThen]
  exact hK' _ _ (h v' w' r1 r2 r3)

/-- Blocks have roles: those of all roles but q stand as they were; what there was keeps its role. -/
structure Turned (q : Nat) (R : Nat → Nat) (w : World) (R' : Nat → Nat) (w' : World) : Prop where
  keeps : Keeps (fun b => R b ≠ q) w w'
  same : ∀ b, b < w.heap.size → R' b = R b
def ext (R : Nat → Nat) (n q : Nat) : Nat → Nat := fun b => if b < n then R b else q
theorem ext_old {R : Nat → Nat} {n q b : Nat} (h : b < n) : ext R n q b = R b := if_pos h
theorem ext_new {R : Nat → Nat} {n q b : Nat} (h : n ≤ b) : ext R n q b = q := if_neg (by omega)
theorem Turned.alloc (R : Nat → Nat) (w : World) (o : Obj) (q r : Nat) : Turned q R w (ext R w.heap.size r) (w.alloc o) := ⟨(Keeps.refl _ w).alloc o, fun _ h => ext_old h⟩
theorem Turned.drewN (R : Nat → Nat) (w : World) (n q : Nat) : Turned q R w R (w.drewN n) := ⟨(Keeps.refl _ w).drewN n, fun _ _ => rfl⟩
theorem Turned.kept {R : Nat → Nat} {w w' : World} {row : Option Nat} {n q : Nat} (h : Kept w w' row n) (hr : ∀ g, row = some g → R g = q) : Turned q R w (ext R w.heap.size q) w' :=
  ⟨(Keeps.refl _ w).grown h.grown fun k hk _ hs => hs (hr k hk), fun _ h => ext_old h⟩
end Go.Proofs.YthlkckpadjjbdaaDoor
