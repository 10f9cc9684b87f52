/- Append, and what it leaves as it was: other blocks, and of its own block the elements that it had. instr.Decode: what all ways share. Lists that a call owns, each in a block of its own: families; a module made of such lists. module's writer: how head stands; the errors and the bytes of a head, plain. module's writer as it begins: its list is the magic's, a conversion's row. -/
import Derived.Test.YtfhkjahjenpbgaaDoorMLib
import Derived.ArgAppend
import Derived.Test.YtfhkjahjenpbgaaDoorMInstr4
import Derived.BigRegion
import Derived.Laws.OwnMore
import Derived.Test.YtfhkjahjenpbgaaDoorMMod
import Derived.Deep.Onto
import Derived.Test.YtfhkjahjenpbgaaDoorMSmall
import Derived.Test.YtfhkjahjenpbgaaDoorMTwice
import Derived.Test.YtfhkjahjenpbgaaDoorMInstr2
import Derived.Deep.RegionLawGrows
namespace Go.Proofs.YtfhkjahjenpbgaaDoor
open Go Go.RowKit

/-- What an append leaves: other blocks as they were; of its own block the cells ahead of n. -/
structure Kept (w w' : World) (row : Option Nat) (n : Nat) : Prop where
  grown : w.grownBy w' row
  old : ∀ g, row = some g → ∀ j, j < n → w'.cell? ⟨g, j, none⟩ = w.cell? ⟨g, j, none⟩
theorem Kept.cell {w w' : World} {row : Option Nat} {n : Nat} (h : Kept w w' row n) {b j : Nat} {u : Value} (hu : w.cell? ⟨b, j, none⟩ = some u) (hj : j < n) : w'.cell? ⟨b, j, none⟩ = some u := by
  by_cases hb : some b = row
  · rw [h.old b hb.symm j hj]; exact hu
  · exact h.grown.cell hu hb
theorem own_base {w : World} {base base' e size : Nat} {v : Value} {n : Nat} {xs : List Value} (h : w.ownsRow base e size v n xs) (hb : base' ≤ base) : w.ownsRow base' e size v n xs := by
  refine ⟨h.1, ?_⟩
  rcases h.2 with h0 | ⟨g, cap, cur, h1, h2, h3⟩
  · exact .inl h0
  · exact .inr ⟨g, cap, cur, h1, by omega, h3⟩
theorem own_at {w : World} {base e size g : Nat} {v : Value} {n : Nat} {xs : List Value} (h : w.ownsRow base e size v n xs) (hg : v.ownBlock = some g) {j : Nat} {u : Value} (hu : xs[j]? = some u) : w.cell? ⟨g, j, none⟩ = some u := by
  have := h.cells hg j u hu
  unfold Addr.add at this
  split at this
  · rename_i e0; subst e0; exact this
  · simpa using this

theorem run_append_kept {P : Program} (w : World) (base : Nat) (t ty e : TypeId) (i : TypeInfo) (z : Value) (size bytes : Nat) (ht : P.underlying t = some (.slice e)) (hi : P.info? e = some i) (hz : i.zero = some z)
    (hsize : i.size = size) (hby : i.bytes = bytes) (hzs : z.cells.size = size) (hsz : 0 < size)
    (v : Value) (n : Nat) (xs : List Value) (hown : w.ownsRow base e size v n xs)
    (a : Addr) (m c : Nat) (news : List Value) (hl : news.length = m * size) (hnews : ∀ j u, news[j]? = some u → w.cell? (a.add j) = some u) (h1 : ∀ u ∈ news, u.oneCell' = true)
    (h63 : n + m ≤ maxLen) (hbytes : (n + m) * bytes ≤ 140737488355328) (hbase : base ≤ w.heap.size) :
    ∃ v' w', (Builtin.append_ #[t, t] ty #[v, .slice (some a) m c]).run P w = .ok v' w' ∧ w'.ownsRow base e size v' (n + m) (xs ++ news) ∧ Kept w w' v.ownBlock (n * size) ∧ (∀ g, v'.ownBlock = some g → v.ownBlock = some g ∨ w.heap.size ≤ g) := by
  rcases hown.2 with ⟨rfl, rfl⟩ | ⟨g, cap, cur, rfl, hb, hg, hn, hcm, hcs, htake⟩
  · obtain rfl : xs = [] := List.eq_nil_of_length_eq_zero (by simpa using hown.1)
    obtain ⟨v', w', hr, ho, hgr, _⟩ := run_append_own (P := P) w w.heap.size t ty e i z size bytes ht hi hz hsize hby hzs hsz (.slice none 0 0) 0 [] (World.ownsRow_nil w _ e size) a m c news hl hnews h1 h63 hbytes (Nat.le_refl _)
    exact ⟨v', w', hr, own_base ho hbase, ⟨hgr, fun g hg => by simp [Value.ownBlock] at hg⟩, fun g hg => .inr (ho.lt g hg).1⟩
  · by_cases hr : n + m ≤ cap
    · subst hsize
      have hrun := run_append_room (P := P) w t ty e i ht hi g n cap cur hg a m c news hl hnews h1 hr (by rw [hl, hcs, ← Nat.add_mul]; exact Nat.mul_le_mul_right _ hr)
      obtain ⟨v', w', hr2, ho, hgr, _⟩ := run_append_own (P := P) w base t ty e i z i.size bytes ht hi hz rfl hby hzs hsz (.slice (some ⟨g, 0, none⟩) n cap) n xs hown a m c news hl hnews h1 h63 hbytes hbase
      have he := hr2.symm.trans hrun
      simp only [Result.ok.injEq] at he
      obtain ⟨rfl, rfl⟩ := he
      refine ⟨_, _, hr2, ho, ⟨hgr, fun g' hg' j hj => ?_⟩, fun g' hg' => .inl hg'⟩
      simp only [Value.ownBlock, Option.some.injEq] at hg'
      subst hg'
      have hlen := hown.1
      obtain ⟨u, hu⟩ : ∃ u, xs[j]? = some u := ⟨xs[j]'(by omega), List.getElem?_eq_getElem (by omega)⟩
      rw [own_at hown rfl hu, own_at ho rfl (u := u) (by rw [List.getElem?_append_left (by omega)]; exact hu)]
    · obtain ⟨v', w', hr2, ho, hgr⟩ := run_append_arg_grows (P := P) w t ty e i z size bytes ht hi hz hsize hby hzs hsz ⟨g, 0, none⟩ n cap xs hown.1 (hown.cells rfl) a m c news hl hnews (by omega) h63 hbytes
      refine ⟨v', w', hr2, own_base ho hbase, ⟨⟨hgr.os, hgr.tape, hgr.output, hgr.size, fun k hk _ => hgr.block k hk (by simp)⟩, fun g' hg' j hj => ?_⟩, fun g' hg' => .inr (ho.lt g' hg').1⟩
      simp only [Value.ownBlock, Option.some.injEq] at hg'
      subst hg'
      exact World.cell?_of_block (hgr.block _ (row_lt hg) (by simp))

theorem wpList_append_kept {P : Program} (w : World) {ops : Array Oper} {rest : List Oper} {o : Oper} {a : Act} {Q : Exit → Act → World → Prop} (hgd : o.guard = none) (s x : Operand) (t : TypeId)
    (ho : o.op = .call { callee := .builtin .append, args := #[s, x], argTypes := #[t, t] })
    (base : Nat) (e : TypeId) (i : TypeInfo) (z : Value) (size bytes : Nat) (ht : P.underlying t = some (.slice e)) (hi : P.info? e = some i) (hz : i.zero = some z)
    (hsize : i.size = size) (hby : i.bytes = bytes) (hzs : z.cells.size = size) (hsz : 0 < size)
    (v : Value) (n : Nat) (xs : List Value) (hs : a.eval s = v) (hown : w.ownsRow base e size v n xs)
    (ad : Addr) (m c : Nat) (news : List Value) (hx : a.eval x = .slice (some ad) m c) (hl : news.length = m * size) (hnews : ∀ j u, news[j]? = some u → w.cell? (ad.add j) = some u) (h1 : ∀ u ∈ news, u.oneCell' = true)
    (h63 : n + m ≤ maxLen) (hbytes : (n + m) * bytes ≤ 140737488355328) (hbase : base ≤ w.heap.size)
    (h : ∀ v' w', w'.ownsRow base e size v' (n + m) (xs ++ news) → Kept w w' v.ownBlock (n * size) → (∀ g, v'.ownBlock = some g → v.ownBlock = some g ∨ w.heap.size ≤ g) → wpList P ops Q rest (a.put o.dst v') w') : wpList P ops Q (o :: rest) a w := by
  refine wpList_plain hgd fun K hK' => ?_
  obtain ⟨v', w', hrun, r1, r2, r3⟩ := run_append_kept (P := P) w base t o.type e i z size bytes ht hi hz hsize hby hzs hsz v n xs hown ad m c news hl hnews h1 h63 hbytes hbase
  unfold Oper.wp
  simp [execOp, ho, resolve, invoke, builtin, hs, hx, hrun, Result.andThen]
  exact hK' _ _ (h v' w' r1 r2 r3)

/-- Blocks have roles: those of all roles but q stand as they were; what there was keeps its role. -/
structure Turned (q : Nat) (R : Nat → Nat) (w : World) (R' : Nat → Nat) (w' : World) : Prop where
  keeps : Keeps (fun b => R b ≠ q) w w'
  same : ∀ b, b < w.heap.size → R' b = R b
def ext (R : Nat → Nat) (n q : Nat) : Nat → Nat := fun b => if b < n then R b else q
theorem ext_old {R : Nat → Nat} {n q b : Nat} (h : b < n) : ext R n q b = R b := if_pos h
theorem ext_new {R : Nat → Nat} {n q b : Nat} (h : n ≤ b) : ext R n q b = q := if_neg (by omega)
theorem Turned.alloc (R : Nat → Nat) (w : World) (o : Obj) (q r : Nat) : Turned q R w (ext R w.heap.size r) (w.alloc o) := ⟨(Keeps.refl _ w).alloc o, fun _ h => ext_old h⟩
theorem Turned.drewN (R : Nat → Nat) (w : World) (n q : Nat) : Turned q R w R (w.drewN n) := ⟨(Keeps.refl _ w).drewN n, fun _ _ => rfl⟩
theorem Turned.kept {R : Nat → Nat} {w w' : World} {row : Option Nat} {n q : Nat} (h : Kept w w' row n) (hr : ∀ g, row = some g → R g = q) : Turned q R w (ext R w.heap.size q) w' :=
  ⟨(Keeps.refl _ w).grown h.grown fun k hk _ hs => hs (hr k hk), fun _ h => ext_old h⟩
end Go.Proofs.YtfhkjahjenpbgaaDoor
namespace Go.Proofs.YtfhkjahjenpbgaaDoor
open Go Go.RowKit

/-- A list of integers of its own, of blocks in S. -/
def Ow (B : Nat) (S : Nat → Prop) (w : World) (v : Value) (l : List Int) : Prop := RdI .i64 S w v l ∧ w.ownsRow B 3 1 v l.length (l.map (Value.int .i64)) ∧ ∀ g, v.ownBlock = some g → S g
theorem Ow.nil (B : Nat) (S : Nat → Prop) (w : World) : Ow B S w (.slice none 0 0) [] := ⟨RdI.nil _ _ _, World.ownsRow_nil _ _ _ _, fun g h => by simp [Value.ownBlock] at h⟩
theorem Ow.keeps {B : Nat} {S : Nat → Prop} {w w' : World} {v : Value} {l : List Int} (h : Ow B S w v l) (hk : Keeps S w w') : Ow B S w' v l := ⟨h.1.keeps hk, own_keeps h.2.1 hk h.2.2, h.2.2⟩
theorem Ow.mono {B : Nat} {S T : Nat → Prop} {w : World} {v : Value} {l : List Int} (h : Ow B S w v l) (hs : ∀ b, b < w.heap.size → S b → T b) : Ow B T w v l := ⟨h.1.mono hs, h.2.1, fun g hg => hs g (h.2.1.lt g hg).2 (h.2.2 g hg)⟩
theorem Ow.drewN {B : Nat} {S : Nat → Prop} {w : World} {v : Value} {l : List Int} (h : Ow B S w v l) (n : Nat) : Ow B S (w.drewN n) v l := h.keeps (Keeps.of_drewN n)
/-- What Decode answers. -/
structure DecP (w : World) (b : List Int) (p : Int) (e : Ending) (w' : World) : Prop where
  out : ∃ vl, e = .returned (.tuple #[.agg #[.int .u8 (decI b p).1.op, .int .i64 (decI b p).1.a, vl], .int .i64 (decI b p).2.1, .int .i64 (decI b p).2.2]) ∧ RdI .i64 (fun x => w.heap.size ≤ x) w' vl (decI b p).1.l
  bel : Below w.heap.size w w'
  own : ∃ vl, e = .returned (.tuple #[.agg #[.int .u8 (decI b p).1.op, .int .i64 (decI b p).1.a, vl], .int .i64 (decI b p).2.1, .int .i64 (decI b p).2.2]) ∧ Ow w.heap.size (fun x => w.heap.size ≤ x) w' vl (decI b p).1.l
theorem dec_at {b : List Int} {p op : Nat} (hop : b[p]? = some (op : Int)) (h : isOp op = true) :
    decI b p = if (rbodyI b (p + 1) op).2.e ≠ 0 then (insZ, 0, (rbodyI b (p + 1) op).2.e) else ((rbodyI b (p + 1) op).1, (rbodyI b (p + 1) op).2.at_, 0) := by
  have hp : p < b.length := (List.getElem?_eq_some_iff.1 hop).1
  have hg : b.getD p 0 = (op : Int) := by rw [List.getD_eq_getElem?_getD, hop]; rfl
  rw [decI, if_neg (by omega), if_neg (by omega), Int.toNat_natCast, hg, Int.toNat_natCast, if_neg (by simp [h])]
theorem dec_bad {w w' : World} {b : List Int} {p : Int} {z : Int} (h : decI b p = (insZ, 0, z)) (hb : Below w.heap.size w w') : DecP w b p (.returned (.tuple #[.agg #[.int .u8 0, .int .i64 0, .slice none 0 0], .int .i64 0, .int .i64 z])) w' :=
  ⟨by rw [h]; exact ⟨_, rfl, RdI.nil _ _ _⟩, hb, by rw [h]; exact ⟨_, rfl, Ow.nil _ _ _⟩⟩
theorem dec_good {w w' : World} {b : List Int} {p : Int} {D : InsD} {q : Nat} {vl : Value} (h : decI b p = (D, q, 0)) (hr : Ow w.heap.size (fun x => w.heap.size ≤ x) w' vl D.l) (hb : Below w.heap.size w w') : DecP w b p (.returned (.tuple #[.agg #[.int .u8 D.op, .int .i64 D.a, vl], .int .i64 q, .int .i64 0])) w' :=
  ⟨by rw [h]; exact ⟨_, rfl, hr.1⟩, hb, by rw [h]; exact ⟨_, rfl, hr⟩⟩
theorem rnumI_le (b : List Int) (r : IR) (l m : Nat) : (rnumI b r l m).1 ≤ m := by
  unfold rnumI
  split
  · exact Nat.zero_le _
  split
  · exact Nat.zero_le _
  split
  · exact Nat.zero_le _
  · simp only; omega
theorem set3_row {w : World} {g : Nat} {o0 o1 o2 : Value} {T : Nat} {fr : Nat × Nat} (h : w.heap[g]? = some (.cells #[o0, o1, o2] T fr)) (v0 v1 v2 : Value) :
    (((w.setCell ⟨g, 0, none⟩ v0).setCell ⟨g, 1, none⟩ v1).setCell ⟨g, 2, none⟩ v2).heap[g]? = some (.cells #[v0, v1, v2] T fr) := by
  have h0 := row_setCell h 0 v0
  simp only [List.setIfInBounds_toArray, List.set_cons_zero] at h0
  have h1 := row_setCell h0 1 v1
  simp only [List.setIfInBounds_toArray, List.set_cons_zero, List.set_cons_succ] at h1
  have h2 := row_setCell h1 2 v2
  simp only [List.setIfInBounds_toArray, List.set_cons_zero, List.set_cons_succ] at h2
  exact h2
theorem set3_rowD {w : World} {g : Nat} {o0 o1 o2 : Value} {T : Nat} {fr : Nat × Nat} (h : w.heap[g]? = some (.cells #[o0, o1, o2] T fr)) (v0 v1 v2 : Value) :
    (((w.setCell ⟨g, 0, none⟩ v0).setCell ⟨g, 1, none⟩ v1).setCell ⟨g, 2, none⟩ v2).drew.heap[g]? = some (.cells #[v0, v1, v2] T fr) := by rw [heap_drew]; exact set3_row h v0 v1 v2
theorem set3_keeps (w : World) (g : Nat) (v0 v1 v2 : Value) : Keeps (fun x => x ≠ g) w (((w.setCell ⟨g, 0, none⟩ v0).setCell ⟨g, 1, none⟩ v1).setCell ⟨g, 2, none⟩ v2) :=
  (((Keeps.refl _ w).setCell (a := ⟨g, 0, none⟩) (by simp) v0).setCell (a := ⟨g, 1, none⟩) (by simp) v1).setCell (a := ⟨g, 2, none⟩) (by simp) v2

end Go.Proofs.YtfhkjahjenpbgaaDoor
namespace Go.Proofs.YtfhkjahjenpbgaaDoor
open Go Go.RowKit

/-- A row that a conversion of a text has made. -/
def Cnv (w : World) (base e : Nat) (v : Value) (n : Nat) (xs : List Value) : Prop :=
  ∃ g cur, v = .slice (some ⟨g, 0, none⟩) n cur.size ∧ base ≤ g ∧ w.heap[g]? = some (.cells cur e (cur.size, cur.size + 1)) ∧ n ≤ cur.size ∧ xs.length = n ∧ cur.toList.take n = xs
theorem Cnv.lt {w : World} {base e n : Nat} {v : Value} {xs : List Value} (h : Cnv w base e v n xs) (g : Nat) (hg : v.ownBlock = some g) : base ≤ g ∧ g < w.heap.size := by
  obtain ⟨g', cur, rfl, hb, hr, _⟩ := h
  simp only [Value.ownBlock, Option.some.injEq] at hg
  subst hg
  exact ⟨hb, row_lt hr⟩
theorem Cnv.keeps {S : Nat → Prop} {w w' : World} {base e n : Nat} {v : Value} {xs : List Value} (h : Cnv w base e v n xs) (hk : Keeps S w w') (hv : ∀ b, v.ownBlock = some b → S b) : Cnv w' base e v n xs := by
  obtain ⟨g, cur, rfl, hb, hr, hl⟩ := h
  exact ⟨g, cur, rfl, hb, (hk.block g (row_lt hr) (hv g rfl)).trans hr, hl⟩
theorem Cnv.base {w : World} {base base' e n : Nat} {v : Value} {xs : List Value} (h : Cnv w base e v n xs) (hb : base' ≤ base) : Cnv w base' e v n xs := by
  obtain ⟨g, cur, e1, h1, h2⟩ := h
  exact ⟨g, cur, e1, Nat.le_trans hb h1, h2⟩
theorem Cnv.rdI {k : IntKind} {w : World} {base e : Nat} {v : Value} {l : List Int} (h : Cnv w base e v l.length (l.map (Value.int k))) (hl : l.length ≤ 140737488355328) : RdI k (fun b => v.ownBlock = some b) w v l := by
  obtain ⟨g, cur, rfl, hb, hr, hn, _, ht⟩ := h
  refine ⟨_, cur.size, rfl, hn, hl, fun j hj => ⟨g, 0, rfl, rfl, row_cell hr (0 + j) ?_⟩⟩
  have h1 : (cur.toList.take l.length)[j]? = some (.int k l[j]) := by rw [ht]; simp [hj]
  rw [List.getElem?_take, if_pos hj] at h1
  rw [Nat.zero_add, ← Array.getElem?_toList]; exact h1
/-- A list that the call owns; c: a conversion has made it. -/
structure Ent where
  v : Value
  t : TypeId
  sz : Nat
  n : Nat
  cells : List Value
  c : Bool := false
def Ent.own (B : Nat) (w : World) (e : Ent) : Prop := match e.c with
  | false => w.ownsRow B e.t e.sz e.v e.n e.cells
  | true => Cnv w B e.t e.v e.n e.cells
theorem Ent.lt {B : Nat} {w : World} {e : Ent} (h : e.own B w) (g : Nat) (hg : e.v.ownBlock = some g) : B ≤ g ∧ g < w.heap.size := by
  unfold Ent.own at h
  split at h
  · exact World.ownsRow.lt h g hg
  · exact h.lt g hg
theorem Ent.keeps {B : Nat} {S : Nat → Prop} {w w' : World} {e : Ent} (h : e.own B w) (hk : Keeps S w w') (hv : ∀ b, e.v.ownBlock = some b → S b) : e.own B w' := by
  unfold Ent.own at h ⊢
  split at h
  · exact own_keeps h hk hv
  · exact h.keeps hk hv
theorem Ent.base {B B' : Nat} {w : World} {e : Ent} (h : e.own B w) (hB : B' ≤ B) : e.own B' w := by
  unfold Ent.own at h ⊢
  split at h
  · exact World.ownsRow.mono h hB
  · exact h.base hB
def entBs (L : List Ent) : List Nat := L.filterMap fun e => e.v.ownBlock
theorem mem_entBs {L : List Ent} {g : Nat} : g ∈ entBs L ↔ ∃ e ∈ L, e.v.ownBlock = some g := List.mem_filterMap
theorem entBs_app (a b : List Ent) : entBs (a ++ b) = entBs a ++ entBs b := List.filterMap_append
/-- Owned lists, no two in one block. -/
structure Fam (B : Nat) (w : World) (L : List Ent) : Prop where
  own : ∀ e ∈ L, e.own B w
  nd : (entBs L).Nodup
section
variable {B : Nat} {w w' : World} {L a c : List Ent} {e e' : Ent}
theorem Fam.lt (h : Fam B w L) {g : Nat} (hg : g ∈ entBs L) : B ≤ g ∧ g < w.heap.size := by
  obtain ⟨e, he, h1⟩ := mem_entBs.1 hg
  exact Ent.lt (h.own e he) g h1
theorem Fam.keeps {S : Nat → Prop} (h : Fam B w L) (hk : Keeps S w w') (hS : ∀ b, B ≤ b → b < w.heap.size → S b) : Fam B w' L :=
  ⟨fun e he => Ent.keeps (h.own e he) hk fun b hb => by have := Ent.lt (h.own e he) b hb; exact hS b this.1 this.2, h.nd⟩
theorem Fam.bel (h : Fam B w L) (hb : Below w.heap.size w w') : Fam B w' L := h.keeps (Keeps.all (fun _ => True) hb) fun _ _ _ => trivial
theorem Fam.perm (h : Fam B w L) {L' : List Ent} (hp : L.Perm L') : Fam B w L' :=
  ⟨fun e he => h.own e (hp.mem_iff.2 he), ((hp.filterMap _).nodup_iff).1 h.nd⟩
theorem Fam.left (h : Fam B w (a ++ c)) : Fam B w a :=
  ⟨fun e he => h.own e (List.mem_append_left _ he), by have := h.nd; rw [entBs_app] at this; exact (List.nodup_append.1 this).1⟩
theorem Fam.right (h : Fam B w (a ++ c)) : Fam B w c :=
  ⟨fun e he => h.own e (List.mem_append_right _ he), by have := h.nd; rw [entBs_app] at this; exact (List.nodup_append.1 this).2.1⟩
theorem Fam.nil (B : Nat) (w : World) : Fam B w [] := ⟨fun e he => by simp at he, List.nodup_nil⟩
/-- One of the lists has grown, in its place or in a new one. -/
theorem Fam.cons {S : Nat → Prop} (h : Fam B w (e :: L)) (hk : Keeps S w w') (hS : ∀ b, B ≤ b → b < w.heap.size → e.v.ownBlock ≠ some b → S b) (ho : e'.own B w')
    (hat : ∀ g, e'.v.ownBlock = some g → e.v.ownBlock = some g ∨ w.heap.size ≤ g) : Fam B w' (e' :: L) := by
  have hnd := h.nd
  have hne : ∀ x ∈ L, ∀ b, x.v.ownBlock = some b → e.v.ownBlock ≠ some b := fun x hx b hb he => by
    have h2 : (entBs (e :: L)) = b :: entBs L := by simp [entBs, he]
    rw [h2, List.nodup_cons] at hnd
    exact hnd.1 (mem_entBs.2 ⟨x, hx, hb⟩)
  refine ⟨fun x hx => ?_, ?_⟩
  · rcases List.mem_cons.1 hx with rfl | hx
    · exact ho
    · have hox := h.own x (List.mem_cons_of_mem _ hx)
      exact Ent.keeps hox hk fun b hb => by have := Ent.lt hox b hb; exact hS b this.1 this.2 (hne x hx b hb)
  · have hL : (entBs L).Nodup := (h.right (a := [e])).nd
    cases he' : e'.v.ownBlock with
    | none => simpa [entBs, he'] using hL
    | some g =>
      have e1 : entBs (e' :: L) = g :: entBs L := by simp [entBs, he']
      rw [e1, List.nodup_cons]
      refine ⟨fun hg => ?_, hL⟩
      obtain ⟨x, hx, hxg⟩ := mem_entBs.1 hg
      rcases hat g he' with h1 | h1
      · exact hne x hx g hxg h1
      · have := Ent.lt (h.own x (List.mem_cons_of_mem _ hx)) g hxg; omega
theorem perm_mid (a c : List Ent) (e : Ent) : (a ++ e :: c).Perm (e :: (a ++ c)) := List.perm_middle
theorem Fam.set {S : Nat → Prop} (h : Fam B w (a ++ e :: c)) (hk : Keeps S w w') (hS : ∀ b, B ≤ b → b < w.heap.size → e.v.ownBlock ≠ some b → S b) (ho : e'.own B w')
    (hat : ∀ g, e'.v.ownBlock = some g → e.v.ownBlock = some g ∨ w.heap.size ≤ g) : Fam B w' (a ++ e' :: c) :=
  ((h.perm (perm_mid a c e)).cons hk hS ho hat).perm (perm_mid a c e').symm
/-- A list more, in new memory. -/
theorem Fam.more {S : Nat → Prop} (h : Fam B w L) (hk : Keeps S w w') (hS : ∀ b, B ≤ b → b < w.heap.size → S b) (ho : e.own B w') (hat : ∀ g, e.v.ownBlock = some g → w.heap.size ≤ g) : Fam B w' (L ++ [e]) := by
  have h0 : Fam B w (⟨.slice none 0 0, e.t, e.sz, 0, [], false⟩ :: L) := ⟨fun x hx => by
    rcases List.mem_cons.1 hx with rfl | hx
    · exact World.ownsRow_nil _ _ _ _
    · exact h.own x hx, by simpa [entBs, Value.ownBlock] using h.nd⟩
  exact (h0.cons hk (fun b h1 h2 _ => hS b h1 h2) ho fun g hg => .inr (hat g hg)).perm (by simpa using (List.perm_append_comm (l₁ := [e]) (l₂ := L)))
end
/-- An owned list of structs, read. -/
theorem rd_own {α : Type} {B t sz n : Nat} {w : World} {v : Value} {cells : List Value} {xs : List α} {enc : α → List Value} {R : World → List Value → α → Prop} (h : w.ownsRow B t sz v n cells) (hn : n = xs.length) (hc : cells = xs.flatMap enc) (hz : ∀ x ∈ xs, (enc x).length = sz)
    (hlen : n ≤ 140737488355328) (hR : ∀ x ∈ xs, R w (enc x) x) : RdL sz R (fun b => v.ownBlock = some b) w v xs := by
  subst hn; subst hc
  rcases h.2 with ⟨rfl, h0⟩ | ⟨g, cap, cur, rfl, hb, hg, hn, hm, hs, ht⟩
  · obtain rfl := List.eq_nil_of_length_eq_zero h0
    exact RdL.nil ..
  · refine ⟨_, cap, rfl, hn, hlen, fun j hj => ⟨g, 0, enc xs[j], rfl, rfl, hz _ (List.getElem_mem _), fun i hi => ?_, hR _ (List.getElem_mem _)⟩⟩
    have key : ∀ (l : List α), (∀ x ∈ l, (enc x).length = sz) → ∀ k (hk : k < l.length), (l.flatMap enc)[k * sz + i]? = (enc l[k])[i]? := by
      intro l
      induction l with
      | nil => intro _ k hk; simp at hk
      | cons y l ih =>
        intro hl k hk
        have hy := hl y List.mem_cons_self
        cases k with
        | zero => rw [List.flatMap_cons, List.getElem?_append_left (by omega)]; simp
        | succ k =>
          have e0 : (k + 1) * sz = k * sz + sz := Nat.succ_mul k sz
          have e : (k + 1) * sz + i - (enc y).length = k * sz + i := by omega
          rw [List.flatMap_cons, List.getElem?_append_right (by omega), e, ih (fun x hx => hl x (List.mem_cons_of_mem _ hx)) k (by simpa using hk)]
          simp
    have hx := key xs hz j hj
    have hz' := hz xs[j] (List.getElem_mem _)
    have hil : i < (enc xs[j]).length := by rw [hz']; exact hi
    have hi' : ((xs.flatMap enc)[j * sz + i]?) = some ((enc xs[j])[i]'hil) := by rw [hx, List.getElem?_eq_getElem hil]
    have := World.ownsRow.cells h (g := g) rfl (j * sz + i) _ hi'
    rw [show (0 : Nat) + j * sz + i = j * sz + i by omega, ← hx, hi']
    unfold Addr.add at this
    split at this
    · rename_i e0; rw [e0]; exact this
    · simpa using this

theorem RdL.of_map {α β : Type} {n : Nat} {R : World → List Value → β → Prop} {S : Nat → Prop} {w : World} {v : Value} {xs : List α} {f : α → β} (h : RdL n (fun w cs x => R w cs (f x)) S w v xs) : RdL n R S w v (xs.map f) := by
  obtain ⟨a, cap, e, h1, h2, h3⟩ := h
  refine ⟨a, cap, by rw [e, List.length_map], by rw [List.length_map]; exact h1, by rw [List.length_map]; exact h2, fun j hj => ?_⟩
  rw [List.length_map] at hj
  obtain ⟨b, off, cs, ha, hb, hl, hc, hr⟩ := h3 j hj
  exact ⟨b, off, cs, ha, hb, hl, hc, by rw [List.getElem_map]; exact hr⟩

/-- Instructions as they lie in a list's cells: each with its own list's value. -/
abbrev Iq := InsD × Value
def iqC (x : Iq) : List Value := [.int .u8 x.1.op, .int .i64 x.1.a, x.2]
def iqE (x : Iq) : Ent := ⟨x.2, 3, 1, x.1.l.length, x.1.l.map (Value.int .i64), false⟩
def codE (v : Value) (l : List Iq) : Ent := ⟨v, 68, 3, l.length, l.flatMap iqC, false⟩
/-- A function with its code's value and those of its instructions' lists. -/
structure Fq5 where
  t : Int
  locals : ByteArray
  v : Value
  code : List Iq
def Fq5.f (x : Fq5) : FunD := ⟨x.t, x.locals, x.code.map (·.1)⟩
def fqC (x : Fq5) : List Value := [.int .i64 x.t, .string x.locals, x.v]
def fqE (x : Fq5) : List Ent := codE x.v x.code :: x.code.map iqE
abbrev Dq := DatD × Value
def dqC (x : Dq) : List Value := [.int .i64 x.1.at_, x.2]
def dqE (x : Dq) : Ent := ⟨x.2, 5, 1, x.1.b.length, x.1.b.map (Value.int .u8), true⟩
def sgC (x : SigD) : List Value := [.string x.1, .string x.2]
def glC (x : GlobD) : List Value := [.int .u8 x.letter, .bool x.mu, .int .u64 x.v]
def exC (x : ExpD) : List Value := [.string x.name, .int .i64 x.f]
/-- A module as it is read: its six lists' values, what they hold. -/
structure Mq where
  tv : Value
  hv : Value
  gv : Value
  fv : Value
  dv : Value
  ev : Value
  ts : List SigD
  hs : List Int
  gs : List GlobD
  first : Int
  most : Int
  fs : List Fq5
  ds : List Dq
  es : List ExpD
def Mq.m (x : Mq) : ModD := ⟨x.ts, x.hs, x.gs, x.first, x.most, x.fs.map Fq5.f, x.ds.map (·.1), x.es⟩
def nilV : Value := .slice none 0 0
def mqZ : Mq := ⟨nilV, nilV, nilV, nilV, nilV, nilV, [], [], [], 0, 0, [], [], []⟩
def tyE (v : Value) (l : List SigD) : Ent := ⟨v, 48, 2, l.length, l.flatMap sgC, false⟩
def hoE (v : Value) (l : List Int) : Ent := ⟨v, 3, 1, l.length, l.map (Value.int .i64), false⟩
def glE (v : Value) (l : List GlobD) : Ent := ⟨v, 66, 3, l.length, l.flatMap glC, false⟩
def fuE (v : Value) (l : List Fq5) : Ent := ⟨v, 56, 3, l.length, l.flatMap fqC, false⟩
def daE (v : Value) (l : List Dq) : Ent := ⟨v, 43, 2, l.length, l.flatMap dqC, false⟩
def exE (v : Value) (l : List ExpD) : Ent := ⟨v, 59, 2, l.length, l.flatMap exC, false⟩
def Mq.ents (x : Mq) : List Ent := [tyE x.tv x.ts, hoE x.hv x.hs, glE x.gv x.gs, fuE x.fv x.fs] ++ x.fs.flatMap fqE ++ daE x.dv x.ds :: x.ds.map dqE ++ [exE x.ev x.es]
def Mq.cells (x : Mq) : Array Value := #[x.tv, x.hv, x.gv, .int .i64 x.first, .int .i64 x.most, x.fv, x.dv, x.ev]
theorem fam_Z (B : Nat) (w : World) : Fam B w mqZ.ents := by
  refine ⟨fun e he => ?_, ?_⟩
  · simp only [Mq.ents, mqZ, List.flatMap_nil, List.map_nil, List.append_nil, List.cons_append, List.nil_append, List.mem_cons, List.not_mem_nil, or_false] at he
    rcases he with rfl | rfl | rfl | rfl | rfl | rfl <;> exact World.ownsRow_nil _ _ _ _
  · exact List.nodup_nil
/-- A module that is owned, read. -/
theorem Mq.read {B : Nat} {w : World} {x : Mq} (h : Fam B w x.ents) (hlen : ∀ e ∈ x.ents, e.n ≤ 140737488355328) : RMod (fun b => B ≤ b) w x.cells.toList x.m := by
  have hB : ∀ e ∈ x.ents, ∀ b, e.v.ownBlock = some b → B ≤ b := fun e he b hb => (Ent.lt (h.own e he) b hb).1
  have m1 : tyE x.tv x.ts ∈ x.ents := by simp [Mq.ents]
  have m2 : hoE x.hv x.hs ∈ x.ents := by simp [Mq.ents]
  have m3 : glE x.gv x.gs ∈ x.ents := by simp [Mq.ents]
  have m4 : fuE x.fv x.fs ∈ x.ents := by simp [Mq.ents]
  have m5 : ∀ f ∈ x.fs, ∀ e ∈ fqE f, e ∈ x.ents := fun f hf e he => by
    simp only [Mq.ents, List.mem_append, List.mem_cons, List.mem_flatMap]
    exact .inl (.inl (.inr ⟨f, hf, he⟩))
  have m6 : daE x.dv x.ds ∈ x.ents := by simp [Mq.ents]
  have m7 : ∀ d ∈ x.ds, dqE d ∈ x.ents := fun d hd => by
    simp only [Mq.ents, List.mem_append, List.mem_cons, List.mem_map]
    exact .inl (.inr (.inr ⟨d, hd, rfl⟩))
  have m8 : exE x.ev x.es ∈ x.ents := by simp [Mq.ents]
  refine ⟨x.tv, x.hv, x.gv, x.fv, x.dv, x.ev, rfl, ?_, ?_, ?_, ?_, ?_, ?_⟩
  · exact (rd_own (R := RSig) (h.own _ m1) rfl rfl (fun _ _ => rfl) (hlen _ m1) fun _ _ => rfl).mono (Nat.succ_pos _) (fun b _ hb => hB _ m1 b hb) fun _ _ h => h
  · exact (RdI.of_own (h.own _ m2) (hlen _ m2)).mono fun b _ hb => hB _ m2 b hb
  · exact (rd_own (R := RGlob) (h.own _ m3) rfl rfl (fun _ _ => rfl) (hlen _ m3) fun _ _ => rfl).mono (Nat.succ_pos _) (fun b _ hb => hB _ m3 b hb) fun _ _ h => h
  · have hr : ∀ f ∈ x.fs, RFun (fun b => B ≤ b) w (fqC f) f.f := fun f hf => by
      have n1 : codE f.v f.code ∈ fqE f := by simp [fqE]
      have hi : ∀ i ∈ f.code, RIns (fun b => B ≤ b) w (iqC i) i.1 := fun i hi => by
        have n2 : iqE i ∈ fqE f := by simp only [fqE, List.mem_cons, List.mem_map]; exact .inr ⟨i, hi, rfl⟩
        exact ⟨i.2, rfl, (RdI.of_own (h.own _ (m5 f hf _ n2)) (hlen _ (m5 f hf _ n2))).mono fun b _ hb => hB _ (m5 f hf _ n2) b hb⟩
      have h1 : RdL 3 (fun w cs (i : Iq) => RIns (fun b => B ≤ b) w cs i.1) (fun b => f.v.ownBlock = some b) w f.v f.code := rd_own (α := Iq) (R := fun w cs i => RIns (fun b => B ≤ b) w cs i.1) (h.own _ (m5 f hf _ n1)) rfl rfl (fun _ _ => rfl) (hlen _ (m5 f hf _ n1)) hi
      have h2 := h1.mono (T := fun b => B ≤ b) (R' := fun w cs i => RIns (fun b => B ≤ b) w cs i.1) (Nat.succ_pos _) (fun b _ hb => hB _ (m5 f hf _ n1) b hb) fun _ _ h => h
      refine ⟨f.v, rfl, ?_⟩
      exact RdL.of_map h2
    have h1 : RdL 3 (fun w cs (f : Fq5) => RFun (fun b => B ≤ b) w cs f.f) (fun b => x.fv.ownBlock = some b) w x.fv x.fs := rd_own (α := Fq5) (R := fun w cs f => RFun (fun b => B ≤ b) w cs f.f) (h.own _ m4) rfl rfl (fun _ _ => rfl) (hlen _ m4) hr
    have h2 := h1.mono (T := fun b => B ≤ b) (R' := fun w cs (f : Fq5) => RFun (fun b => B ≤ b) w cs f.f) (by decide) (fun b _ hb => hB _ m4 b hb) fun _ _ h => h
    exact RdL.of_map h2
  · have hr : ∀ d ∈ x.ds, RDat (fun b => B ≤ b) w (dqC d) d.1 := fun d hd =>
      ⟨d.2, rfl, (Cnv.rdI (h.own _ (m7 d hd)) (hlen _ (m7 d hd))).mono fun b _ hb => hB _ (m7 d hd) b hb⟩
    have h1 : RdL 2 (fun w cs (d : Dq) => RDat (fun b => B ≤ b) w cs d.1) (fun b => x.dv.ownBlock = some b) w x.dv x.ds := rd_own (α := Dq) (R := fun w cs d => RDat (fun b => B ≤ b) w cs d.1) (h.own _ m6) rfl rfl (fun _ _ => rfl) (hlen _ m6) hr
    have h2 := h1.mono (T := fun b => B ≤ b) (R' := fun w cs (d : Dq) => RDat (fun b => B ≤ b) w cs d.1) (by decide) (fun b _ hb => hB _ m6 b hb) fun _ _ h => h
    exact RdL.of_map h2
  · exact (rd_own (R := RExp) (h.own _ m8) rfl rfl (fun _ _ => rfl) (hlen _ m8) fun _ _ => rfl).mono (Nat.succ_pos _) (fun b _ hb => hB _ m8 b hb) fun _ _ h => h
end Go.Proofs.YtfhkjahjenpbgaaDoor
namespace Go.Proofs.YtfhkjahjenpbgaaDoor
open Go Go.RowKit

theorem errT5_eq (most : Nat) (s : ByteArray) : errT5 most s = errT most s := by
  unfold errT5 errT letsFrom lettersT
  rw [List.drop_zero]; rfl
theorem thenE_assoc (a b c : Int) : thenE (thenE a b) c = thenE a (thenE b c) := by unfold thenE; split <;> simp_all
theorem thenE_l {a : Int} (b : Int) (h : a ≠ 0) : thenE a b = a := by unfold thenE; rw [if_neg h]
theorem thenE_r {a : Int} (b : Int) (h : a = 0) : thenE a b = b := by unfold thenE; rw [if_pos h]
theorem errMany_20 {α : Type} {most : Nat} {e : List α → α → Int} {l : List α} (h : most < l.length) : errMany most e l = 20 := by unfold errMany; rw [if_pos h]
theorem errMany_bad {α : Type} {most : Nat} {e : List α → α → Int} {l : List α} (hm : ¬ most < l.length) {k : Nat} (h : k < l.length) (h0 : errL e [] (l.take k) = 0) (h1 : e (l.take k) l[k] ≠ 0) : errMany most e l = e (l.take k) l[k] := by
  unfold errMany; rw [if_neg hm]; exact errL_bad h h0 h1
theorem errMany_ok {α : Type} {most : Nat} {e : List α → α → Int} {l : List α} (hm : ¬ most < l.length) (h0 : errL e [] (l.take l.length) = 0) : errMany most e l = 0 := by
  unfold errMany; rw [if_neg hm]; rwa [List.take_of_length_le (Nat.le_refl _)] at h0
/-- The head's first error; its bytes. -/
def headE (m : ModD) : Int :=
  thenE (errMany 64 errS m.types) (thenE (errMany 32 (fun _ => errI m.types.length) m.hosts) (thenE (errMany 64 (fun _ => errG) m.globals) (thenE (errFirst m.first) (errMost m.first m.most))))
def bodyE (m : ModD) : Int :=
  thenE (errMany 128 (errF m.types) m.funs) (thenE (errMany 64 (errD (m.first * 4096).toNat) m.datas) (errMany 64 (errE m.funs.length) m.exps))
theorem parts_hb (m : ModD) : partsM m = thenE (headE m) (bodyE m) := by
  unfold partsM headE bodyE
  simp only [thenE_assoc]
def headB (m : ModD) : List Int := encMany encS m.types ++ (encMany encN m.hosts ++ (encMany encG m.globals ++ (encN m.first ++ encN m.most)))
def bodyB (m : ModD) : List Int := encMany encF m.funs ++ (encMany encD m.datas ++ encMany encE m.exps)
theorem body_hb (m : ModD) : bodyM m = headB m ++ bodyB m := by
  unfold bodyM headB bodyB
  simp only [List.append_assoc]

theorem own_ne {w : World} {base e size n p T : Nat} {v : Value} {xs : List Value} {c : Array Value} {fr : Nat × Nat} (h : w.ownsRow base e size v n xs) (hr : w.heap[p]? = some (.cells c T fr)) (hT : e ≠ T) : v.ownBlock ≠ some p := by
  intro e1
  rcases h.2 with ⟨rfl, _⟩ | ⟨g, cap, cur, rfl, _, hg, _⟩
  · simp [Value.ownBlock] at e1
  · simp only [Value.ownBlock, Option.some.injEq] at e1
    subst e1
    rw [hg] at hr
    simp only [Option.some.injEq, Obj.cells.injEq] at hr
    exact hT hr.2.1
theorem own_ne2 {w : World} {base e size n base' e' size' n' : Nat} {v v' : Value} {xs xs' : List Value} (h : w.ownsRow base e size v n xs) (h' : w.ownsRow base' e' size' v' n' xs') (hT : e ≠ e') (g : Nat) (hg : v.ownBlock = some g) : v'.ownBlock ≠ some g := by
  rcases h.2 with ⟨rfl, _⟩ | ⟨g', cap, cur, rfl, _, hr, _⟩
  · simp [Value.ownBlock] at hg
  · simp only [Value.ownBlock, Option.some.injEq] at hg
    subst hg
    exact own_ne h' hr (Ne.symm hT)
theorem row_ne {w : World} {p q T T' : Nat} {c c' : Array Value} {fr fr' : Nat × Nat} (h : w.heap[p]? = some (.cells c T fr)) (h' : w.heap[q]? = some (.cells c' T' fr')) (hT : T ≠ T') : p ≠ q := by
  rintro rfl
  rw [h] at h'
  simp only [Option.some.injEq, Obj.cells.injEq] at h'
  exact hT h'.2.1
/-- How head stands: the module's box, what is seen, the writer. -/
structure Hs (base : Nat) (w : World) (p : Nat) (v0 : Value) (S : Nat → Prop) (cs : List Value) (m : ModD) (al : Int) (mb sb : Nat) (k : Nat) (tv : Value) (wx : World) (v : Value) (xs : List Int) : Prop where
  wm : Wm base wx p v xs (some ⟨sb, 0, none⟩) al
  wt : WrTo p v0 w v wx
  mbox : wx.heap[mb]? = some (.cells cs.toArray 29 (0, 0))
  seen : wx.heap[sb]? = some (.cells #[tv, .slice none 0 0, .slice none 0 0, .int .i64 m.first, .int .i64 0, .slice none 0 0, .slice none 0 0, .slice none 0 0] 29 (0, 0))
  ms : mb ≠ sb
  own : wx.ownsRow w.heap.size 48 2 tv k ((m.types.take k).flatMap sgC)
  rd : RMod S wx cs m
  sS : ∀ b, S b → b < base
  pb : base ≤ p
  bw : base ≤ w.heap.size
  mbb : base ≤ mb ∧ base ≤ sb
  nmb : w.heap.size ≤ mb ∧ w.heap.size ≤ sb
  v0b : ∀ g, v0.ownBlock = some g → base ≤ g
section
variable {base : Nat} {w : World} {p : Nat} {v0 : Value} {S : Nat → Prop} {cs : List Value} {m : ModD} {al : Int} {mb sb k : Nat} {tv : Value} {wx wy : World} {v v' : Value} {xs ys : List Int}
theorem Hs.hb (h : Hs base w p v0 S cs m al mb sb k tv wx v xs) : base ≤ wx.heap.size := Nat.le_trans h.bw h.wt.keep.size
theorem Hs.on (h : Hs base w p v0 S cs m al mb sb k tv wx v xs) (hb : Below wx.heap.size wx wy) : Hs base w p v0 S cs m al mb sb k tv wy v xs :=
  ⟨h.wm.keeps (Keeps.all (fun _ => True) hb) trivial fun _ _ => trivial, h.wt.trans ⟨Keeps.all _ hb, fun _ h => .inl h⟩, (hb.block _ (row_lt h.mbox)).trans h.mbox, (hb.block _ (row_lt h.seen)).trans h.seen, h.ms,
    own_below h.own hb, h.rd.keeps (Keeps.all _ hb), h.sS, h.pb, h.bw, h.mbb, h.nmb, h.v0b⟩
/-- Something has been written. -/
theorem Hs.put (h : Hs base w p v0 S cs m al mb sb k tv wx v xs) (h1 : Wm base wy p v' (xs ++ ys) (some ⟨sb, 0, none⟩) al) (h2 : WrTo p v wx v' wy) : Hs base w p v0 S cs m al mb sb k tv wy v' (xs ++ ys) := by
  have n1 : mb ≠ p := row_ne h.mbox h.wm.row (by decide)
  have n2 : sb ≠ p := row_ne h.seen h.wm.row (by decide)
  have n3 := own_ne h.wm.own h.mbox (by decide)
  have n4 := own_ne h.wm.own h.seen (by decide)
  refine ⟨h1, h.wt.trans h2, (h2.keep.block _ (row_lt h.mbox) ⟨n1, n3⟩).trans h.mbox, (h2.keep.block _ (row_lt h.seen) ⟨n2, n4⟩).trans h.seen, h.ms, own_keeps h.own h2.keep fun b hb => ⟨?_, own_ne2 h.own h.wm.own (by decide) b hb⟩, h.rd.keeps (h2.keep.mono fun b hb hS => ?_), h.sS, h.pb, h.bw, h.mbb, h.nmb, h.v0b⟩
  · rintro rfl; exact own_ne h.own h.wm.row (by decide) hb
  · have := h.sS b hS
    have := h.pb
    exact ⟨by omega, fun e => by have := (World.ownsRow.lt h.wm.own b e).1; omega⟩
/-- A type more has been seen. -/
theorem Hs.grow {x : SigD} {a' : Option Addr} {c' : Nat} {row : Option Nat} (h : Hs base w p v0 S cs m al mb sb k tv wx v xs) (hk : k < m.types.length) (hx : m.types[k] = x) (hrow : row = tv.ownBlock)
    (ho : wy.ownsRow w.heap.size 48 2 (.slice a' (k + 1) c') (k + 1) ((m.types.take k).flatMap sgC ++ sgC x)) (hg : wx.grownBy wy row) :
    Hs base w p v0 S cs m al mb sb (k + 1) (.slice a' (k + 1) c') (wy.setCell ⟨sb, 0, none⟩ (.slice a' (k + 1) c')) v xs := by
  subst hrow
  have n2 : sb ≠ p := row_ne h.seen h.wm.row (by decide)
  have n1 := own_ne h.own h.wm.row (by decide)
  have n3 := own_ne h.own h.mbox (by decide)
  have n4 := own_ne h.own h.seen (by decide)
  have hk1 : Keeps (fun b => b ≠ sb ∧ tv.ownBlock ≠ some b) wx (wy.setCell ⟨sb, 0, none⟩ (.slice a' (k + 1) c')) :=
    ((Keeps.refl _ wx).grown hg (fun g hg' _ h => h.2 hg')).setCell (a := ⟨sb, 0, none⟩) (fun _ h => h.1 rfl) _
  have hsy := grown_block hg h.seen n4
  have n5 := own_ne ho hsy (by decide)
  have hv : ∀ b, v.ownBlock = some b → b ≠ sb ∧ tv.ownBlock ≠ some b := fun b hb => ⟨by rintro rfl; exact own_ne h.wm.own h.seen (by decide) hb, own_ne2 h.wm.own h.own (by decide) b hb⟩
  refine ⟨h.wm.keeps hk1 ⟨Ne.symm n2, n1⟩ hv, ⟨h.wt.keep.trans' hk1 fun b hb hT => ⟨hT, fun e => ?_, fun e => ?_⟩, h.wt.at_⟩, (hk1.block _ (row_lt h.mbox) ⟨h.ms, n3⟩).trans h.mbox, by simpa using row_setCell hsy 0 _, h.ms, ?_, h.rd.keeps (hk1.mono fun b _ hS => ?_), h.sS, h.pb, h.bw, h.mbb, h.nmb, h.v0b⟩
  · have := h.nmb; omega
  · have := (World.ownsRow.lt h.own b e).1; omega
  · have := own_keeps (S := fun b => b ≠ sb) ho ((Keeps.refl _ wy).setCell (a := ⟨sb, 0, none⟩) (by simp) (.slice a' (k + 1) c')) (fun b hb e => n5 (by rw [← e]; exact hb))
    rw [take_snoc hk, List.flatMap_append, hx]
    simpa using this
  · have := h.sS b hS
    have := h.mbb
    have hb' := h.bw
    exact ⟨by omega, fun e => by have := (World.ownsRow.lt h.own b e).1; omega⟩
theorem Hs.mc {i : Nat} {u : Value} (h : Hs base w p v0 S cs m al mb sb k tv wx v xs) (hi : cs[i]? = some u) : wx.cell? ⟨mb, i, none⟩ = some u := row_cell h.mbox i (by simpa using hi)
theorem Hs.sc (h : Hs base w p v0 S cs m al mb sb k tv wx v xs) : wx.cell? ⟨sb, 0, none⟩ = some tv ∧ wx.frozen? ⟨sb, 0, none⟩ = false := ⟨row_cell h.seen 0 rfl, row_free h.seen 0⟩
theorem Hs.rl (h : Hs base w p v0 S cs m al mb sb k tv wx v xs) : Rl wx p sb #[tv, .slice none 0 0, .slice none 0 0, .int .i64 m.first, .int .i64 0, .slice none 0 0, .slice none 0 0, .slice none 0 0] :=
  ⟨row_cell h.wm.row 0 rfl, h.seen⟩
theorem Hs.sigs (h : Hs base w p v0 S cs m al mb sb k tv wx v xs) (hk : k ≤ m.types.length) (hl : k ≤ 1000) : RdSigs (fun b => tv.ownBlock = some b) wx tv (m.types.take k) :=
  rd_own (R := RSig) h.own (by rw [List.length_take]; omega) rfl (fun _ _ => rfl) (by omega) fun _ _ => rfl
theorem Hs.start {mp : Option Addr} (h : Wm base w p v xs mp al) (hb : base ≤ w.heap.size) (hp : base ≤ p) (hS : ∀ b, S b → b < base) (hm : RMod S w cs m) (cc : Array Value) (hcc : cc = cs.toArray) :
    Hs base w p v S cs m al w.heap.size (w.heap.size + 1) 0 (.slice none 0 0) (((w.setCell ⟨p, 0, none⟩ (.pointer (some ⟨w.heap.size + 1, 0, none⟩))).alloc (.cells cc 29)).alloc (.cells #[.slice none 0 0, .slice none 0 0, .slice none 0 0, .int .i64 m.first, .int .i64 0, .slice none 0 0, .slice none 0 0, .slice none 0 0] 29)) v xs := by
  subst hcc
  have hlt := row_lt h.row
  have hr := row_setCell h.row 0 (.pointer (some ⟨w.heap.size + 1, 0, none⟩))
  have hk0 := (Keeps.refl (fun b => b ≠ p) w).setCell (a := ⟨p, 0, none⟩) (by simp) (.pointer (some ⟨w.heap.size + 1, 0, none⟩))
  have hs0 : (w.setCell ⟨p, 0, none⟩ (.pointer (some ⟨w.heap.size + 1, 0, none⟩))).heap.size = w.heap.size := World.size_setCell ..
  have ho0 := own_keeps h.own hk0 fun b hb e => h.apart (by rw [← e]; exact hb)
  generalize w.setCell ⟨p, 0, none⟩ (.pointer (some ⟨w.heap.size + 1, 0, none⟩)) = w1 at *
  have hb1 := below_alloc w1 (.cells cs.toArray 29)
  have hn1 := heap_alloc_new w1 (.cells cs.toArray 29)
  have hs1 : (w1.alloc (.cells cs.toArray 29)).heap.size = w.heap.size + 1 := by rw [World.size_alloc, hs0]
  rw [hs0] at hn1
  generalize w1.alloc (.cells cs.toArray 29) = w2 at *
  have hb2 := below_alloc w2 (.cells #[.slice none 0 0, .slice none 0 0, .slice none 0 0, .int .i64 m.first, .int .i64 0, .slice none 0 0, .slice none 0 0, .slice none 0 0] 29)
  have hn2 := heap_alloc_new w2 (.cells #[.slice none 0 0, .slice none 0 0, .slice none 0 0, .int .i64 m.first, .int .i64 0, .slice none 0 0, .slice none 0 0, .slice none 0 0] 29)
  rw [hs1] at hn2
  generalize w2.alloc (.cells #[.slice none 0 0, .slice none 0 0, .slice none 0 0, .int .i64 m.first, .int .i64 0, .slice none 0 0, .slice none 0 0, .slice none 0 0] 29) = w3 at *
  have hb3 := below_next hb1 hb2
  have hk : Keeps (fun b => b ≠ p) w w3 := hk0.trans (Keeps.all _ hb3)
  refine ⟨⟨?_, own_below ho0 hb3, h.apart⟩, ⟨hk.mono fun _ _ h => h.1, fun _ h => .inl h⟩, (hb2.block _ (row_lt hn1)).trans hn1, hn2, by omega, World.ownsRow_nil _ _ _ _, hm.keeps (hk.mono fun b _ hb' => ?_), hS, hp, hb, ⟨by omega, by omega⟩, ⟨by omega, by omega⟩, fun g hg => (World.ownsRow.lt h.own g hg).1⟩
  · rw [hb3.block p (by omega)]
    simpa using hr
  · have := hS b hb'; omega
/-- A box of some other type stays where the writer writes. -/
theorem Hs.kept {g T : Nat} {c : Array Value} {fr : Nat × Nat} (h : Hs base w p v0 S cs m al mb sb k tv wx v xs) (h2 : WrTo p v wx v' wy) (hr : wx.heap[g]? = some (.cells c T fr)) (h1 : T ≠ 101) (h3 : T ≠ 5) : wy.heap[g]? = some (.cells c T fr) :=
  (h2.keep.block _ (row_lt hr) ⟨row_ne hr h.wm.row h1, own_ne h.wm.own hr (Ne.symm h3)⟩).trans hr
theorem RMod.parts {a b c d e f g h : Value} (hm : RMod S w [a, b, c, d, e, f, g, h] m) : RdSigs S w a m.types ∧ RdI .i64 S w b m.hosts ∧ RdGlobs S w c m.globals ∧ RdFuns S w f m.funs ∧ RdDats S w g m.datas ∧ RdExps S w h m.exps := by
  obtain ⟨tv, hv, gv, fv, dv, ev, e1, r1, r2, r3, r4, r5, r6⟩ := hm
  simp only [List.cons.injEq, and_true] at e1
  obtain ⟨rfl, rfl, rfl, _, _, rfl, rfl, rfl⟩ := e1
  exact ⟨r1, r2, r3, r4, r5, r6⟩
theorem news2 (w : World) (a b : Value) (t : Nat) : ∀ j u, [a, b][j]? = some u → (w.alloc (.cells #[a, b] t)).cell? ((⟨w.heap.size, 0, none⟩ : Addr).add j) = some u := by
  intro j u hj
  have hr := heap_alloc_new w (.cells #[a, b] t)
  have h1 := row_cell hr 0 rfl; have h2 := row_cell hr 1 rfl
  match j, hj with
  | 0, hj => simpa [Addr.add] using h1.trans hj
  | 1, hj => simpa [Addr.add] using h2.trans hj
  | j + 2, hj => simp at hj
theorem Tryd.infoSig : (Tryd.prog.info? 48).map (fun i => (i.zero, i.size, i.bytes)) = some (some (.agg #[.string ⟨#[]⟩, .string ⟨#[]⟩]), 2, 32) := by kernel_rfl
theorem head_ty (h1 : m.types.length ≤ 64) {k : Nat} (hk : k < m.types.length) (h0 : errL errS [] (m.types.take k) = 0) {z : Int} (hz : errS (m.types.take k) m.types[k] = z) (hne : z ≠ 0) : headE m = z := by
  unfold headE
  have e := errMany_bad (most := 64) (e := errS) (by omega) hk h0 (by rw [hz]; exact hne)
  rw [thenE_l _ (by rw [e, hz]; exact hne), e, hz]
theorem errT_le {most : Nat} {s : ByteArray} (h : errT5 most s = 0) : s.size ≤ most := by rw [errT5_eq] at h; exact (errT_0.1 h).1
theorem tw_no {α : Type} [DecidableEq α] {l : List α} {k : Nat} {x : α} (hk : k < l.length) (hx : l[k] = x) (h : ∀ j (hj : j < k), (l.take (k + 1))[j]'(by rw [List.length_take]; omega) ≠ (l.take (k + 1))[k]'(by rw [List.length_take]; omega)) : (l.take k).any (fun y => decide (y = x)) = false := by
  rw [List.any_eq_false]
  intro y hy
  obtain ⟨j, hj, rfl⟩ := List.getElem_of_mem hy
  have hjk : j < k := by rw [List.length_take] at hj; omega
  have := h j hjk
  simp only [List.getElem_take] at this ⊢
  rw [hx] at this
  simpa using this
theorem tw_yes {α : Type} [DecidableEq α] {l : List α} {k : Nat} {x : α} (hk : k < l.length) (hx : l[k] = x) (h : ∃ j, ∃ hj : j < k, (l.take (k + 1))[j]'(by rw [List.length_take]; omega) = (l.take (k + 1))[k]'(by rw [List.length_take]; omega)) : (l.take k).any (fun y => decide (y = x)) = true := by
  rw [List.any_eq_true]
  obtain ⟨j, hj, e⟩ := h
  simp only [List.getElem_take] at e
  exact ⟨l[j], List.mem_take_iff_getElem.2 ⟨j, by omega, rfl⟩, by rw [e, hx]; simp⟩
theorem head_ho (h0 : errMany 64 errS m.types = 0) {z : Int} (hz : errMany 32 (fun _ => errI m.types.length) m.hosts = z) (hne : z ≠ 0) : headE m = z := by
  unfold headE
  rw [thenE_r _ h0, thenE_l _ (by rw [hz]; exact hne), hz]
theorem head_gl (h0 : errMany 64 errS m.types = 0) (h1 : errMany 32 (fun _ => errI m.types.length) m.hosts = 0) {z : Int} (hz : errMany 64 (fun _ => errG) m.globals = z) (hne : z ≠ 0) : headE m = z := by
  unfold headE
  rw [thenE_r _ h0, thenE_r _ h1, thenE_l _ (by rw [hz]; exact hne), hz]
theorem head_pg (h0 : errMany 64 errS m.types = 0) (h1 : errMany 32 (fun _ => errI m.types.length) m.hosts = 0) (h2 : errMany 64 (fun _ => errG) m.globals = 0) : headE m = thenE (errFirst m.first) (errMost m.first m.most) := by
  unfold headE
  rw [thenE_r _ h0, thenE_r _ h1, thenE_r _ h2]
theorem gl_at {a : Option Addr} {n c : Nat} {l : List GlobD} (h : RdGlobs S w (.slice a n c) l) {k : Nat} (hk : k < l.length) :
    ∃ b off, a = some ⟨b, off, none⟩ ∧ w.cell? ⟨b, off + k * 3, none⟩ = some (.int .u8 l[k].letter) ∧ w.cell? ⟨b, off + k * 3 + 1, none⟩ = some (.bool l[k].mu) ∧ w.cell? ⟨b, off + k * 3 + 2, none⟩ = some (.int .u64 l[k].v) := by
  obtain ⟨a', c', e, _, _, h3⟩ := h
  simp only [Value.slice.injEq] at e
  obtain ⟨rfl, _, rfl⟩ := e
  obtain ⟨b, off, cs, e1, e2, e3, e4, e5⟩ := h3 k hk
  subst e5
  exact ⟨b, off, e1, e4 0 (by omega), e4 1 (by omega), e4 2 (by omega)⟩
theorem errG_c (c : Nat) (mu : Bool) (v : Nat) : errG ⟨c, mu, v⟩ = if (c == 119 || c == 108) = false then 15 else if (c == 108 || (c == 119 && decide (v < 4294967296))) = false then 17 else 0 := rfl
theorem sv_w {mu : Bool} {v : Nat} (h : v < 4294967296) : wrap64 (wrap32 (v : Int)) = signedD ⟨119, mu, v⟩ := by
  unfold wrap64 wrap32 signedD
  simp only [if_true]
  split <;> omega
theorem sv_l {mu : Bool} {v : Nat} (h : v < 18446744073709551616) : wrap64 (v : Int) = signedD ⟨108, mu, v⟩ := by
  unfold wrap64 signedD
  simp only [Nat.reduceEqDiff, if_false]
  split <;> omega
theorem svi_w {mu : Bool} {v : Nat} (h : v < 4294967296) : i64P (signedD ⟨119, mu, v⟩) := by
  unfold i64P signedD
  simp only [if_true]
  split <;> omega
theorem svi_l {mu : Bool} {v : Nat} (h : v < 18446744073709551616) : i64P (signedD ⟨108, mu, v⟩) := by
  unfold i64P signedD
  simp only [Nat.reduceEqDiff, if_false]
  split <;> omega
theorem wm_numberI (base : Nat) (w : World) (p : Nat) (v : Value) (xs : List Int) (mp : Option Addr) (al : Int) (h : Wm base w p v xs mp al) (hb : base ≤ w.heap.size) (hl : xs.length ≤ 1099511627776)
    (n : Int) (h0 : 0 ≤ n) (hn : n ≤ 9223372036854775807) :
    Calls Tryd.prog 43 #[.pointer (some ⟨p, 0, none⟩), .int .i64 n] w fun e w' => e = .returned (.tuple #[]) ∧
      ∃ v', Wm base w' p v' (xs ++ encN n) mp al ∧ WrTo p v w v' w' := by
  obtain ⟨N, rfl⟩ := Int.eq_ofNat_of_zero_le h0
  exact wm_number base w p v xs mp al h hb hl N (by omega)
theorem encN_len {n : Int} (h0 : 0 ≤ n) (h : n ≤ 9223372036854775807) : (encN n).length ≤ 10 := uv_len10 (by omega)
theorem wm_countM (base : Nat) (w : World) (p : Nat) (v : Value) (xs : List Int) (mp : Option Addr) (al : Int) (h : Wm base w p v xs mp al) (hb : base ≤ w.heap.size) (hl : xs.length ≤ 1099511627776)
    (n most : Nat) (M : Int) (hM : (most : Int) = M) (hn : n ≤ 9223372036854775807) :
    Calls Tryd.prog 36 #[.pointer (some ⟨p, 0, none⟩), .int .i64 n, .int .i64 M] w fun e w' =>
      (n ≤ most ∧ e = .returned (.tuple #[]) ∧ ∃ v', Wm base w' p v' (xs ++ uv n) mp al ∧ WrTo p v w v' w') ∨ (most < n ∧ e = .panicked (thrown 20 0) ∧ w' = w) := by
  subst hM; exact wm_count base w p v xs mp al h hb hl n most hn
end
end Go.Proofs.YtfhkjahjenpbgaaDoor
namespace Go.Proofs.YtfhkjahjenpbgaaDoor
open Go Go.RowKit

/-- The list that begins. -/
def mgV (gb : Nat) : Value := .slice (some ⟨gb, 0, none⟩) 5 5
def mgC : Array Value := #[.int .u8 70, .int .u8 76, .int .u8 71, .int .u8 78, .int .u8 1]
/-- The writer as it begins. -/
structure W0 (w : World) (p gb : Nat) (mp : Option Addr) (al : Int) : Prop where
  row : w.heap[p]? = some (.cells #[.pointer mp, .int .i64 al, mgV gb] 101 (0, 0))
  mag : w.heap[gb]? = some (.cells mgC 5 (5, 6))
theorem W0.ne {w : World} {p gb : Nat} {mp : Option Addr} {al : Int} (h : W0 w p gb mp al) : gb ≠ p := row_ne h.mag h.row (by decide)
theorem mg_news {w : World} {gb : Nat} {fr : Nat × Nat} (h : w.heap[gb]? = some (.cells mgC 5 fr)) : ∀ j u, (magicM.map (Value.int .u8))[j]? = some u → w.cell? ((⟨gb, 0, none⟩ : Addr).add j) = some u := by
  intro j u hu
  have e : mgC[j]? = some u := by
    rw [← hu, mgC, magicM]
    simp
  have := row_cell h j e
  unfold Addr.add
  split
  · rename_i e0; subst e0; exact this
  · simpa using this
theorem wm_put0 {base : Nat} {w w1 w2 : World} {p gb : Nat} {v' : Value} {ys : List Int} {mp : Option Addr} {al : Int} (h : W0 w p gb mp al) (hb : base ≤ w.heap.size) (hbel : Below w.heap.size w w1)
    (hown : w2.ownsRow w1.heap.size 5 1 v' (5 + ys.length) (magicM.map (Value.int .u8) ++ ys.map (Value.int .u8))) (hg : w1.grownBy w2 none) :
    Wm base (w2.setCell ⟨p, 2, none⟩ v') p v' (magicM ++ ys) mp al ∧ WrTo p (mgV gb) w v' (w2.setCell ⟨p, 2, none⟩ v') := by
  have hlt := row_lt h.row
  have hs := hbel.size
  have hr1 := (hbel.block p hlt).trans h.row
  have hr2 := grown_block hg hr1 (by simp)
  have hvp : v'.ownBlock ≠ some p := fun e => by have := (hown.lt p e).1; omega
  refine ⟨⟨by simpa using row_setCell hr2 2 v', ?_, hvp⟩, ⟨?_, fun b hb' => .inr (by have := (hown.lt b hb').1; omega)⟩⟩
  · have := own_keeps (S := fun b => b ≠ p) hown ((Keeps.refl _ w2).setCell (a := ⟨p, 2, none⟩) (by simp) v') (fun b hb' e => hvp (by rw [← e]; exact hb'))
    have h2 := World.ownsRow.mono (base' := base) this (by omega)
    have e : (magicM ++ ys).length = 5 + ys.length := by simp [magicM]; omega
    rw [e]
    simpa using h2
  · exact (((Keeps.all _ hbel).grown hg (fun k hk => by cases hk)).setCell (a := ⟨p, 2, none⟩) (fun _ h => h.1 rfl) v')
set_option maxRecDepth 100000 in
set_option maxHeartbeats 800000 in
theorem wm_number0 (base : Nat) (w : World) (p gb : Nat) (mp : Option Addr) (al : Int) (h : W0 w p gb mp al) (hb : base ≤ w.heap.size) (n : Nat) (hn : n ≤ 9223372036854775807) :
    Calls Tryd.prog 43 #[.pointer (some ⟨p, 0, none⟩), .int .i64 n] w fun e w' => e = .returned (.tuple #[]) ∧
      ∃ v', Wm base w' p v' (magicM ++ uv n) mp al ∧ WrTo p (mgV gb) w v' w' := by
  obtain ⟨i0, hi, hz0, hz1, hz2⟩ := info_parts Tryd.infoU8
  have hu10 := uv_len10 (n := n) (by omega)
  have hu0 := uv_pos n
  have c0 : w.cell? ⟨p, 2, none⟩ = some (.slice (some ⟨gb, 0, none⟩) 5 5) := row_cell h.row 2 rfl
  have f0 := row_free h.row 2
  have H := Lib.hid h
  have hlt := row_lt h.row
  have hml := row_lt h.mag
  have hwr : IntKind.u64.wrap (n : Int) = n := IntWalk.u64_in _ ⟨by omega, by omega⟩
  clear h
  go_enter Tryd.func43, Tryd.ntmps43
  go_wp2
  go_region_law (first
      | (refine step_append_grows (by rfl) _ _ 41 (by rfl) 5 i0 _ 1 1 Tryd.underlying41 hi hz0 hz1 hz2 rfl (by decide) (some ⟨gb, 0, none⟩) 5 5 (magicM.map (Value.int .u8)) (by rfl) (by simp) (by rfl) (by intro b hb; cases hb; exact mg_news hmag1) ⟨g1, 0, none⟩ (uv n).length cap1 ((uv n).map (Value.int .u8)) (by rfl) (by simp) (hown1.cells rfl) (by intro u hu; simp at hu; obtain ⟨x, _, rfl⟩ := hu; rfl) (by omega) (by unfold maxLen; omega) (by omega) ?_; intro v2 w2 hown2 hgrow2; obtain ⟨g2, cap2, rfl, _, _⟩ := hown2.form (by omega); have hrow2 := grown_block hgrow2 hrow1 (by simp); have c2 := row_cell hrow2 2 rfl; have f2 := row_free hrow2 2)
      | (go_simp; go_at_call 60; (with_reducible refine (wire_Uvar _ n (by omega)).mono ?_); rintro e w1 ⟨v', rfl, hown1, hbel⟩; obtain ⟨g1, cap1, rfl, _, _⟩ := hown1.form hu0; have hrow1 := (hbel.block p hlt).trans H.out.row; have hmag1 := (hbel.block gb hml).trans H.out.mag; have c1 : w1.cell? ⟨p, 2, none⟩ = some (.slice (some ⟨gb, 0, none⟩) 5 5) := row_cell hrow1 2 rfl))
  all_goals exact bodyPost_end (results_none rfl _ _ _) rfl ⟨rfl, _, wm_put0 H.out hb (below_step (Below.refl _ w).drew (Nat.le_refl _) hbel) hown2 hgrow2⟩
theorem wm_count0 (base : Nat) (w : World) (p gb : Nat) (mp : Option Addr) (al : Int) (h : W0 w p gb mp al) (hb : base ≤ w.heap.size) (n most : Nat) (M : Int) (hM : (most : Int) = M) (hn : n ≤ 9223372036854775807) :
    Calls Tryd.prog 36 #[.pointer (some ⟨p, 0, none⟩), .int .i64 n, .int .i64 M] w fun e w' =>
      (n ≤ most ∧ e = .returned (.tuple #[]) ∧ ∃ v', Wm base w' p v' (magicM ++ uv n) mp al ∧ WrTo p (mgV gb) w v' w') ∨ (most < n ∧ e = .panicked (thrown 20 0) ∧ w' = w) := by
  subst hM
  have HW := Lib.hid h
  clear h
  by_cases a : n ≤ most
  · go_enter Tryd.func36, Tryd.ntmps36
    go_wp2_with (first
      | (go_at_call 30; refine (mod_ask _ _ _ _).mono ?_; rintro r w1 ⟨rfl, rfl⟩)
      | (go_at_call 43; refine (wm_number0 base _ p gb mp al HW.out hb n hn).mono ?_; rintro r w2 ⟨rfl, v', k1, k2⟩))
    all_goals (first | exact bodyPost_end (results_none rfl _ _ _) rfl (.inl ⟨a, rfl, v', k1, k2⟩) | (exfalso; simp_all; omega))
  · go_enter Tryd.func36, Tryd.ntmps36
    go_wp2_with (go_at_call 30; refine (mod_ask _ _ _ _).mono ?_; rintro r w1 ⟨rfl, rfl⟩)
    all_goals (first | exact ⟨rfl, .inr ⟨by omega, rfl, rfl⟩⟩ | (exfalso; simp_all; omega))
section
variable {base : Nat} {w : World} {p gb : Nat} {S : Nat → Prop} {cs : List Value} {m : ModD} {al : Int} {wx wy : World} {v' : Value} {ys : List Int}
/-- How head stands as it begins. -/
structure Hp (base : Nat) (w : World) (p gb : Nat) (S : Nat → Prop) (cs : List Value) (m : ModD) (al : Int) (mb sb : Nat) (wx : World) : Prop where
  w0 : W0 wx p gb (some ⟨sb, 0, none⟩) al
  keep : Keeps (fun b => b ≠ p ∧ (mgV gb).ownBlock ≠ some b) w wx
  mbox : wx.heap[mb]? = some (.cells cs.toArray 29 (0, 0))
  seen : wx.heap[sb]? = some (.cells #[.slice none 0 0, .slice none 0 0, .slice none 0 0, .int .i64 m.first, .int .i64 0, .slice none 0 0, .slice none 0 0, .slice none 0 0] 29 (0, 0))
  ms : mb ≠ sb
  rd : RMod S wx cs m
  sS : ∀ b, S b → b < base
  pb : base ≤ p ∧ base ≤ gb
  bw : base ≤ w.heap.size
  nmb : w.heap.size ≤ mb ∧ w.heap.size ≤ sb
theorem Hp.hb {mb sb : Nat} (h : Hp base w p gb S cs m al mb sb wx) : base ≤ wx.heap.size := Nat.le_trans h.bw h.keep.size
theorem Hp.put {mb sb : Nat} (h : Hp base w p gb S cs m al mb sb wx) (h1 : Wm base wy p v' ys (some ⟨sb, 0, none⟩) al) (h2 : WrTo p (mgV gb) wx v' wy) : Hs base w p (mgV gb) S cs m al mb sb 0 (.slice none 0 0) wy v' ys := by
  have n1 : mb ≠ p := row_ne h.mbox h.w0.row (by decide)
  have n2 : sb ≠ p := row_ne h.seen h.w0.row (by decide)
  have n3 : mb ≠ gb := row_ne h.mbox h.w0.mag (by decide)
  have n4 : sb ≠ gb := row_ne h.seen h.w0.mag (by decide)
  have e : ∀ b, (mgV gb).ownBlock = some b ↔ gb = b := fun b => by simp [mgV, Value.ownBlock]
  have hb := h.bw
  have hn := h.nmb
  have hp := h.pb
  refine ⟨h1, ⟨h.keep.trans h2.keep, fun b hb' => ?_⟩, (h2.keep.block _ (row_lt h.mbox) ⟨n1, fun e' => n3 ((e mb).1 e').symm⟩).trans h.mbox, (h2.keep.block _ (row_lt h.seen) ⟨n2, fun e' => n4 ((e sb).1 e').symm⟩).trans h.seen, h.ms, World.ownsRow_nil _ _ _ _, h.rd.keeps (h2.keep.mono fun b _ hS => ?_), h.sS, h.pb.1, h.bw, ⟨by omega, by omega⟩, h.nmb, fun g hg => by rw [e] at hg; omega⟩
  · rcases h2.at_ b hb' with h3 | h3
    · exact .inl h3
    · have := h.keep.size; right; omega
  · have := h.sS b hS
    exact ⟨by omega, fun e' => by rw [e] at e'; omega⟩
theorem Hp.start {mp : Option Addr} (h : W0 w p gb mp al) (hb : base ≤ w.heap.size) (hp : base ≤ p ∧ base ≤ gb) (hS : ∀ b, S b → b < base) (hm : RMod S w cs m) (cc : Array Value) (hcc : cc = cs.toArray) :
    Hp base w p gb S cs m al w.heap.size (w.heap.size + 1) (((w.setCell ⟨p, 0, none⟩ (.pointer (some ⟨w.heap.size + 1, 0, none⟩))).alloc (.cells cc 29)).alloc (.cells #[.slice none 0 0, .slice none 0 0, .slice none 0 0, .int .i64 m.first, .int .i64 0, .slice none 0 0, .slice none 0 0, .slice none 0 0] 29)) := by
  subst hcc
  have hlt := row_lt h.row
  have hr := row_setCell h.row 0 (.pointer (some ⟨w.heap.size + 1, 0, none⟩))
  have hk0 := (Keeps.refl (fun b => b ≠ p) w).setCell (a := ⟨p, 0, none⟩) (by simp) (.pointer (some ⟨w.heap.size + 1, 0, none⟩))
  have hs0 : (w.setCell ⟨p, 0, none⟩ (.pointer (some ⟨w.heap.size + 1, 0, none⟩))).heap.size = w.heap.size := World.size_setCell ..
  have hg0 := (hk0.block gb (row_lt h.mag) h.ne).trans h.mag
  generalize w.setCell ⟨p, 0, none⟩ (.pointer (some ⟨w.heap.size + 1, 0, none⟩)) = w1 at *
  have hb1 := below_alloc w1 (.cells cs.toArray 29)
  have hn1 := heap_alloc_new w1 (.cells cs.toArray 29)
  have hs1 : (w1.alloc (.cells cs.toArray 29)).heap.size = w.heap.size + 1 := by rw [World.size_alloc, hs0]
  rw [hs0] at hn1
  generalize w1.alloc (.cells cs.toArray 29) = w2 at *
  have hb2 := below_alloc w2 (.cells #[.slice none 0 0, .slice none 0 0, .slice none 0 0, .int .i64 m.first, .int .i64 0, .slice none 0 0, .slice none 0 0, .slice none 0 0] 29)
  have hn2 := heap_alloc_new w2 (.cells #[.slice none 0 0, .slice none 0 0, .slice none 0 0, .int .i64 m.first, .int .i64 0, .slice none 0 0, .slice none 0 0, .slice none 0 0] 29)
  rw [hs1] at hn2
  generalize w2.alloc (.cells #[.slice none 0 0, .slice none 0 0, .slice none 0 0, .int .i64 m.first, .int .i64 0, .slice none 0 0, .slice none 0 0, .slice none 0 0] 29) = w3 at *
  have hb3 := below_next hb1 hb2
  have hk : Keeps (fun b => b ≠ p) w w3 := hk0.trans (Keeps.all _ hb3)
  refine ⟨⟨?_, (hb3.block _ (row_lt hg0)).trans hg0⟩, hk.mono fun _ _ h => h.1, (hb2.block _ (row_lt hn1)).trans hn1, hn2, by omega, hm.keeps (hk.mono fun b _ hb' => ?_), hS, hp, hb, ⟨by omega, by omega⟩⟩
  · rw [hb3.block p (by omega)]
    simpa using hr
  · have := hS b hb'; omega
end
end Go.Proofs.YtfhkjahjenpbgaaDoor
