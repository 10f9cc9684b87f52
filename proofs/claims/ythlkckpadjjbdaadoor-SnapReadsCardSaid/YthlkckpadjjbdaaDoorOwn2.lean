/- Rows of a call's own, whole or clipped (slices.Clip: the block goes on behind the capacity). -/
import Derived.Test.YthlkckpadjjbdaaDoorMKept
namespace Go.Proofs.YthlkckpadjjbdaaDoor
open Go Go.RowKit

/-- A row that is clipped. -/
def Clp (w : World) (base e size : Nat) (v : Value) (n : Nat) (xs : List Value) : Prop :=
  ∃ g cur, v = .slice (some ⟨g, 0, none⟩) n n ∧ base ≤ g ∧ w.heap[g]? = some (.cells cur e (0, 0)) ∧ xs.length = n * size ∧ cur.toList.take (n * size) = xs
/-- A row of its own, whole or clipped. -/
def Own2 (w : World) (base e size : Nat) (v : Value) (n : Nat) (xs : List Value) : Prop := w.ownsRow base e size v n xs ∨ Clp w base e size v n xs
theorem Clp.at_ {w : World} {base e size n g : Nat} {v : Value} {xs : List Value} (h : Clp w base e size v n xs) (hg : v.ownBlock = some g) {j : Nat} {u : Value} (hu : xs[j]? = some u) : w.cell? ⟨g, j, none⟩ = some u := by
  obtain ⟨g', cur, rfl, _, hr, hl, ht⟩ := h
  simp only [Value.ownBlock, Option.some.injEq] at hg
  subst hg
  refine row_cell hr j ?_
  rw [← ht, List.getElem?_take] at hu
  split at hu
  · rw [← Array.getElem?_toList]; exact hu
  · simp at hu
theorem Own2.at_ {w : World} {base e size n g : Nat} {v : Value} {xs : List Value} (h : Own2 w base e size v n xs) (hg : v.ownBlock = some g) {j : Nat} {u : Value} (hu : xs[j]? = some u) : w.cell? ⟨g, j, none⟩ = some u :=
  h.elim (fun h => own_at h hg hu) fun h => h.at_ hg hu
theorem Own2.len {w : World} {base e size n : Nat} {v : Value} {xs : List Value} (h : Own2 w base e size v n xs) : xs.length = n * size := by
  rcases h with h | ⟨_, _, _, _, _, h, _⟩
  · exact h.1
  · exact h
theorem Own2.lt {w : World} {base e size n : Nat} {v : Value} {xs : List Value} (h : Own2 w base e size v n xs) (g : Nat) (hg : v.ownBlock = some g) : base ≤ g ∧ g < w.heap.size := by
  rcases h with h | ⟨g', cur, rfl, hb, hr, _⟩
  · exact h.lt g hg
  · simp only [Value.ownBlock, Option.some.injEq] at hg
    subst hg
    exact ⟨hb, row_lt hr⟩
theorem Own2.keeps {S : Nat → Prop} {w w' : World} {base e size n : Nat} {v : Value} {xs : List Value} (h : Own2 w base e size v n xs) (hk : Keeps S w w') (hv : ∀ b, v.ownBlock = some b → S b) : Own2 w' base e size v n xs := by
  rcases h with h | ⟨g, cur, rfl, hb, hr, hl⟩
  · exact .inl (own_keeps h hk hv)
  · exact .inr ⟨g, cur, rfl, hb, (hk.block g (row_lt hr) (hv g rfl)).trans hr, hl⟩
theorem Own2.below {w w' : World} {base e size n : Nat} {v : Value} {xs : List Value} (h : Own2 w base e size v n xs) (hb : Below w.heap.size w w') : Own2 w' base e size v n xs := h.keeps (Keeps.all (fun _ => True) hb) fun _ _ => trivial
theorem Own2.base {w : World} {base base' e size n : Nat} {v : Value} {xs : List Value} (h : Own2 w base e size v n xs) (hb : base' ≤ base) : Own2 w base' e size v n xs := by
  rcases h with h | ⟨g, cur, rfl, h1, h2⟩
  · exact .inl (own_base h hb)
  · exact .inr ⟨g, cur, rfl, by omega, h2⟩
theorem Own2.slice {w : World} {base e size n : Nat} {v : Value} {xs : List Value} (h : Own2 w base e size v n xs) : ∃ a c, v = .slice a n c ∧ n ≤ c ∧ (0 < n → ∃ g, a = some ⟨g, 0, none⟩) := by
  rcases h with h | ⟨g, cur, rfl, h1, h2⟩
  · rcases h.2 with ⟨rfl, h0⟩ | ⟨g, cap, cur, rfl, _, _, hn, _⟩
    · exact ⟨none, 0, by rw [h0], by omega, by omega⟩
    · exact ⟨_, cap, rfl, hn, fun _ => ⟨g, rfl⟩⟩
  · exact ⟨_, n, rfl, Nat.le_refl _, fun _ => ⟨g, rfl⟩⟩
theorem Own2.rdI {k : IntKind} {w : World} {base e : Nat} {v : Value} {l : List Int} (h : Own2 w base e 1 v l.length (l.map (Value.int k))) (hl : l.length ≤ 140737488355328) : RdI k (fun b => v.ownBlock = some b) w v l := by
  obtain ⟨a, c, rfl, hc, ha⟩ := h.slice
  refine ⟨a, c, rfl, hc, hl, fun j hj => ?_⟩
  obtain ⟨g, rfl⟩ := ha (by omega)
  exact ⟨g, 0, rfl, rfl, by rw [Nat.zero_add]; exact h.at_ rfl (by simp [hj])⟩
theorem Own2.set {k : IntKind} {w : World} {base e : Nat} {v : Value} {l : List Int} (h : Own2 w base e 1 v l.length (l.map (Value.int k))) {i : Nat} (hi : i < l.length) (x : Int) :
    ∃ g cap, v = .slice (some ⟨g, 0, none⟩) l.length cap ∧ (∃ u, w.cell? ⟨g, i, none⟩ = some u) ∧ w.frozen? ⟨g, i, none⟩ = false ∧ Own2 (w.setCell ⟨g, i, none⟩ (.int k x)) base e 1 v (l.set i x).length ((l.set i x).map (Value.int k)) := by
  rcases h with h | ⟨g, cur, rfl, h1, h2, h3, h4⟩
  · have ho := h
    rcases ho.2 with ⟨rfl, h0⟩ | ⟨g, cap, cur, rfl, hb, hg, hn, hm, hs, ht⟩
    · omega
    · refine ⟨g, cap, rfl, ⟨_, own_at ho rfl (j := i) (by rw [List.getElem?_map, List.getElem?_eq_getElem hi]; rfl)⟩, row_free hg i, .inl ⟨by simp, .inr ⟨g, cap, _, by simp, hb, row_setCell hg i _, by simpa using hn, hm, by simpa using hs, ?_⟩⟩⟩
      rw [Array.toList_setIfInBounds, List.take_set, List.length_set, ht, List.map_set]
  · have hc : Clp w base e 1 (.slice (some ⟨g, 0, none⟩) l.length l.length) l.length (l.map (Value.int k)) := ⟨g, cur, rfl, h1, h2, h3, h4⟩
    refine ⟨g, l.length, rfl, ⟨_, hc.at_ rfl (j := i) (by rw [List.getElem?_map, List.getElem?_eq_getElem hi]; rfl)⟩, row_free h2 i, .inr ⟨g, _, by simp, h1, row_setCell h2 i _, by simp, ?_⟩⟩
    rw [Array.toList_setIfInBounds, List.take_set, List.length_set, h4, List.map_set]
theorem run_append_two {P : Program} (w : World) (base : Nat) (t ty e : TypeId) (i : TypeInfo) (z : Value) (size bytes : Nat) (ht : P.underlying t = some (.slice e)) (hi : P.info? e = some i) (hz : i.zero = some z)
    (hsize : i.size = size) (hby : i.bytes = bytes) (hzs : z.cells.size = size) (hsz : 0 < size)
    (v : Value) (n : Nat) (xs : List Value) (hown : Own2 w base e size v n xs)
    (a : Addr) (m c : Nat) (hm : 0 < m) (news : List Value) (hl : news.length = m * size) (hnews : ∀ j u, news[j]? = some u → w.cell? (a.add j) = some u) (h1 : ∀ u ∈ news, u.oneCell' = true)
    (h63 : n + m ≤ maxLen) (hbytes : (n + m) * bytes ≤ 140737488355328) (hbase : base ≤ w.heap.size) :
    ∃ v' w', (Builtin.append_ #[t, t] ty #[v, .slice (some a) m c]).run P w = .ok v' w' ∧ w'.ownsRow base e size v' (n + m) (xs ++ news) ∧ Kept w w' v.ownBlock (n * size) ∧ (∀ g, v'.ownBlock = some g → v.ownBlock = some g ∨ w.heap.size ≤ g) := by
  rcases hown with hown | hc
  · exact run_append_kept w base t ty e i z size bytes ht hi hz hsize hby hzs hsz v n xs hown a m c news hl hnews h1 h63 hbytes hbase
  · have hat := fun j u (hu : xs[j]? = some u) => hc.at_ (g := (v.ownBlock).getD 0) (by obtain ⟨g, cur, rfl, _⟩ := hc; rfl) hu
    obtain ⟨g, cur, rfl, hb, hg, hlen, _⟩ := hc
    obtain ⟨v', w', hr2, ho, hgr⟩ := run_append_arg_grows (P := P) w t ty e i z size bytes ht hi hz hsize hby hzs hsz ⟨g, 0, none⟩ n n xs hlen (fun j u hu => by
      have this : w.cell? ⟨g, j, none⟩ = some u := hat j u hu
      unfold Addr.add
      split
      · rename_i e0; subst e0; exact this
      · simpa using this) a m c news hl hnews (by omega) h63 hbytes
    refine ⟨v', w', hr2, own_base ho hbase, ⟨⟨hgr.os, hgr.tape, hgr.output, hgr.size, fun k hk _ => hgr.block k hk (by simp)⟩, fun g' hg' j hj => ?_⟩, fun g' hg' => .inr (ho.lt g' hg').1⟩
    simp only [Value.ownBlock, Option.some.injEq] at hg'
    subst hg'
    exact World.cell?_of_block (hgr.block _ (row_lt hg) (by simp))
theorem wpList_append_two {P : Program} (w : World) {ops : Array Oper} {rest : List Oper} {o : Oper} {a : Act} {Q : Exit → Act → World → Prop} (hgd : o.guard = none) (s x : Operand) (t : TypeId)
    (ho : o.op = .call { callee := .builtin .append, args := #[s, x], argTypes := #[t, t] })
    (base : Nat) (e : TypeId) (i : TypeInfo) (z : Value) (size bytes : Nat) (ht : P.underlying t = some (.slice e)) (hi : P.info? e = some i) (hz : i.zero = some z)
    (hsize : i.size = size) (hby : i.bytes = bytes) (hzs : z.cells.size = size) (hsz : 0 < size)
    (v : Value) (n : Nat) (xs : List Value) (hs : a.eval s = v) (hown : Own2 w base e size v n xs)
    (ad : Addr) (m c : Nat) (hm : 0 < m) (news : List Value) (hx : a.eval x = .slice (some ad) m c) (hl : news.length = m * size) (hnews : ∀ j u, news[j]? = some u → w.cell? (ad.add j) = some u) (h1 : ∀ u ∈ news, u.oneCell' = true)
    (h63 : n + m ≤ maxLen) (hbytes : (n + m) * bytes ≤ 140737488355328) (hbase : base ≤ w.heap.size)
    (h : ∀ v' w', w'.ownsRow base e size v' (n + m) (xs ++ news) → Kept w w' v.ownBlock (n * size) → (∀ g, v'.ownBlock = some g → v.ownBlock = some g ∨ w.heap.size ≤ g) → wpList P ops Q rest (a.put o.dst v') w') : wpList P ops Q (o :: rest) a w := by
  refine wpList_plain hgd fun K hK' => ?_
  obtain ⟨v', w', hrun, r1, r2, r3⟩ := run_append_two (P := P) w base t o.type e i z size bytes ht hi hz hsize hby hzs hsz v n xs hown ad m c hm news hl hnews h1 h63 hbytes hbase
  unfold Oper.wp
  simp [execOp, ho, resolve, invoke, builtin, hs, hx, hrun, Result.andThen]
  exact hK' _ _ (h v' w' r1 r2 r3)
theorem clip_own {w : World} {base e g n c : Nat} {xs : List Value} (h : w.ownsRow base e 1 (.slice (some ⟨g, 0, none⟩) n c) n xs) : Own2 w base e 1 (.slice (some ⟨g, 0, none⟩) n n) n xs := by
  rcases h.2 with ⟨h0, _⟩ | ⟨g', cap, cur, e, hb, hg, hn, hm, hs, ht⟩
  · cases h0
  · simp only [Value.slice.injEq, Option.some.injEq, Addr.mk.injEq, and_true, true_and] at e
    obtain ⟨rfl, rfl⟩ := e
    exact .inr ⟨g, cur, rfl, hb, hg, h.1, ht⟩
end Go.Proofs.YthlkckpadjjbdaaDoor
