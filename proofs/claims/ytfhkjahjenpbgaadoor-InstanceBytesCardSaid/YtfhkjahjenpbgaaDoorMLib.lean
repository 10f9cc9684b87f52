/- Small facts on memory that all walks of this seat use: blocks kept, slices of integers read, owned slices, closing lines of walks. More small facts on memory: what lies below stays, blocks of numbers, hidden chains. Instructions as data, lists of them as they lie in memory. -/
import Derived.Test.YtfhkjahjenpbgaaDoorRows
import Derived.WalkKit
import Derived.ProofKit
import Derived.WalkLawsBesides
import Derived.WalkSpells
import Derived.Handy
import Derived.BigQuiet
import Derived.Lib.Hide
import Derived.Deep.RegionHeld3
import Derived.StillTailTactics
import Derived.Deep.LoopGhost
import Derived.Deep.DeepCutAuto
import Derived.Deep.AppendLies
namespace Go.Proofs.YtfhkjahjenpbgaaDoor
open Go Go.RowKit

/-- The blocks in S stand as they were; nothing is lost. -/
structure Keeps (S : Nat → Prop) (w w' : World) : Prop where
  os : w'.os = w.os
  tape : w'.tape = w.tape
  output : w'.output = w.output
  size : w.heap.size ≤ w'.heap.size
  block : ∀ b, b < w.heap.size → S b → w'.heap[b]? = w.heap[b]?

namespace Keeps
variable {S T : Nat → Prop} {w w' w'' : World}
theorem refl (S : Nat → Prop) (w : World) : Keeps S w w := ⟨rfl, rfl, rfl, Nat.le_refl _, fun _ _ _ => rfl⟩
theorem trans (h : Keeps S w w') (k : Keeps S w' w'') : Keeps S w w'' :=
  ⟨k.os.trans h.os, k.tape.trans h.tape, k.output.trans h.output, Nat.le_trans h.size k.size,
    fun b hb hs => (k.block b (Nat.lt_of_lt_of_le hb h.size) hs).trans (h.block b hb hs)⟩
theorem trans' {S' : Nat → Prop} (h : Keeps S w w') (k : Keeps S' w' w'') (hs : ∀ b, b < w.heap.size → T b → S b ∧ S' b) : Keeps T w w'' :=
  ⟨k.os.trans h.os, k.tape.trans h.tape, k.output.trans h.output, Nat.le_trans h.size k.size,
    fun b hb ht => (k.block b (Nat.lt_of_lt_of_le hb h.size) (hs b hb ht).2).trans (h.block b hb (hs b hb ht).1)⟩
theorem mono (h : Keeps S w w') (hs : ∀ b, b < w.heap.size → T b → S b) : Keeps T w w' := ⟨h.os, h.tape, h.output, h.size, fun b hb ht => h.block b hb (hs b hb ht)⟩
theorem drewN (h : Keeps S w w') (n : Nat) : Keeps S w (w'.drewN n) := ⟨h.os, h.tape, h.output, h.size, h.block⟩
theorem drew (h : Keeps S w w') : Keeps S w w'.drew := ⟨h.os, h.tape, h.output, h.size, h.block⟩
theorem of_drewN (n : Nat) : Keeps S w (w.drewN n) := (refl S w).drewN n
theorem alloc (h : Keeps S w w') (o : Obj) : Keeps S w (w'.alloc o) :=
  ⟨h.os, h.tape, h.output, by have := h.size; rw [World.size_alloc]; omega,
    fun b hb hs => (Below.heap_alloc w' o b (Nat.lt_of_lt_of_le hb h.size)).trans (h.block b hb hs)⟩
theorem setCell (h : Keeps S w w') {a : Addr} (ha : a.block < w.heap.size → ¬ S a.block) (v : Value) : Keeps S w (w'.setCell a v) :=
  ⟨h.os, h.tape, h.output, by have := h.size; rw [World.size_setCell]; omega,
    fun b hb hs => (Below.heap_setCell w' a v b (by rintro rfl; exact ha hb hs)).trans (h.block b hb hs)⟩
theorem grown (h : Keeps S w w') {row : Option Nat} (hg : w'.grownBy w'' row) (hr : ∀ k, row = some k → k < w.heap.size → ¬ S k) : Keeps S w w'' :=
  ⟨hg.os.trans h.os, hg.tape.trans h.tape, hg.output.trans h.output, Nat.le_trans h.size hg.size,
    fun b hb hs => (hg.block b (Nat.lt_of_lt_of_le hb h.size) (fun e => hr b e.symm hb hs)).trans (h.block b hb hs)⟩
theorem of_below {B : Nat} (h : Below B w w') : Keeps (· < B) w w' := ⟨h.os, h.tape, h.output, h.size, fun b _ hs => h.block b hs⟩
theorem all (S : Nat → Prop) (h : Below w.heap.size w w') : Keeps S w w' := ⟨h.os, h.tape, h.output, h.size, fun b hb _ => h.block b hb⟩
theorem below (h : Keeps S w w') {B : Nat} (hB : B ≤ w.heap.size) (hs : ∀ b, b < B → S b) : Below B w w' :=
  ⟨h.os, h.tape, h.output, h.size, fun b hb => h.block b (by omega) (hs b hb)⟩
theorem cell (h : Keeps S w w') {a : Addr} {v : Value} (hc : w.cell? a = some v) (hs : S a.block) : w'.cell? a = some v :=
  (World.cell?_of_block (h.block a.block (World.block_lt_of_cell? w a hc) hs)).trans hc
theorem frozen (h : Keeps S w w') {a : Addr} (hb : a.block < w.heap.size) (hs : S a.block) : w'.frozen? a = w.frozen? a :=
  World.frozen?_of_block (h.block a.block hb hs)
end Keeps
theorem cell_below {w w' : World} (h : Below w.heap.size w w') {a : Addr} {v : Value} (hc : w.cell? a = some v) : w'.cell? a = some v := (h.cell (World.block_lt_of_cell? w a hc)).trans hc

/-- The slice value v reads as the integers l (of kind k, one cell each); what it reads lies in the blocks S. -/
def RdI (k : IntKind) (S : Nat → Prop) (w : World) (v : Value) (l : List Int) : Prop :=
  ∃ a cap, v = .slice a l.length cap ∧ l.length ≤ cap ∧ l.length ≤ 140737488355328 ∧
    ∀ j (h : j < l.length), ∃ b off, a = some ⟨b, off, none⟩ ∧ S b ∧ w.cell? ⟨b, off + j, none⟩ = some (.int k l[j])

theorem RdI.nil (k : IntKind) (S : Nat → Prop) (w : World) : RdI k S w (.slice none 0 0) [] := ⟨none, 0, rfl, by simp, by simp, fun j h => absurd h (by simp)⟩
theorem RdI.mono {k S w v l} {T : Nat → Prop} (h : RdI k S w v l) (hs : ∀ b, b < w.heap.size → S b → T b) : RdI k T w v l := by
  obtain ⟨a, cap, e, h1, h2, h3⟩ := h
  refine ⟨a, cap, e, h1, h2, fun j hj => ?_⟩
  obtain ⟨b, off, ha, hb, hc⟩ := h3 j hj
  exact ⟨b, off, ha, hs b (World.block_lt_of_cell? w _ hc) hb, hc⟩
theorem RdI.lt {k S w v l} (h : RdI k S w v l) : RdI k (fun b => S b ∧ b < w.heap.size) w v l := h.mono fun _ hb hs => ⟨hs, hb⟩
theorem RdI.keeps {k S w w' v l} (h : RdI k S w v l) (hk : Keeps S w w') : RdI k S w' v l := by
  obtain ⟨a, cap, e, h1, h2, h3⟩ := h
  refine ⟨a, cap, e, h1, h2, fun j hj => ?_⟩
  obtain ⟨b, off, ha, hb, hc⟩ := h3 j hj
  exact ⟨b, off, ha, hb, hk.cell hc hb⟩
theorem RdI.drewN {k S w v l} (h : RdI k S w v l) (n : Nat) : RdI k S (w.drewN n) v l := h.keeps (Keeps.of_drewN n)
theorem RdI.alloc {k S w v l} (h : RdI k S w v l) (o : Obj) : RdI k S (w.alloc o) v l := h.keeps ((Keeps.refl S w).alloc o)

/-- An owned slice of integers, read. -/
theorem RdI.of_own {k : IntKind} {w : World} {base e : Nat} {v : Value} {l : List Int} (h : w.ownsRow base e 1 v l.length (l.map (Value.int k)))
    (hlen : l.length ≤ 140737488355328) : RdI k (fun b => v.ownBlock = some b) w v l := by
  rcases h.2 with ⟨rfl, h0⟩ | ⟨g, cap, cur, rfl, hb, hg, hn, hm, hs, ht⟩
  · have : l = [] := List.eq_nil_of_length_eq_zero h0
    subst this
    exact ⟨none, 0, by simp, by simp, by simp, fun j h => absurd h (by simp)⟩
  · refine ⟨_, cap, rfl, hn, hlen, fun j hj => ⟨g, 0, rfl, rfl, ?_⟩⟩
    have := h.cells (g := g) rfl j (.int k l[j]) (by simp [hj])
    unfold Addr.add at this
    split at this
    · rename_i e0; subst e0; simpa using this
    · simpa using this

/-- The slice value v reads as the list xs: each element fills n cells, R tells what they read as; what it reads lies in the blocks S. -/
def RdL {α : Type} (n : Nat) (R : World → List Value → α → Prop) (S : Nat → Prop) (w : World) (v : Value) (xs : List α) : Prop :=
  ∃ a cap, v = .slice a xs.length cap ∧ xs.length ≤ cap ∧ xs.length ≤ 140737488355328 ∧
    ∀ j (h : j < xs.length), ∃ b off cs, a = some ⟨b, off, none⟩ ∧ S b ∧ cs.length = n ∧ (∀ i, i < n → w.cell? ⟨b, off + j * n + i, none⟩ = cs[i]?) ∧ R w cs xs[j]
theorem RdL.nil {α : Type} (n : Nat) (R : World → List Value → α → Prop) (S : Nat → Prop) (w : World) : RdL n R S w (.slice none 0 0) [] := ⟨none, 0, rfl, by simp, by simp, fun j h => absurd h (by simp)⟩
theorem RdL.map {α : Type} {n : Nat} {R R' : World → List Value → α → Prop} {S T : Nat → Prop} {w w' : World} {v : Value} {xs : List α} (h : RdL n R S w v xs) (hk : Keeps S w w')
    (hS : ∀ b, S b → T b) (hR : ∀ cs x, R w cs x → R' w' cs x) : RdL n R' T w' v xs := by
  obtain ⟨a, cap, e, h1, h2, h3⟩ := h
  refine ⟨a, cap, e, h1, h2, fun j hj => ?_⟩
  obtain ⟨b, off, cs, ha, hb, hl, hc, hr⟩ := h3 j hj
  refine ⟨b, off, cs, ha, hS b hb, hl, fun i hi => ?_, hR _ _ hr⟩
  have := hc i hi
  rw [List.getElem?_eq_getElem (by omega)] at this ⊢
  exact hk.cell this hb
theorem RdL.mono {α : Type} {n : Nat} {R R' : World → List Value → α → Prop} {S T : Nat → Prop} {w : World} {v : Value} {xs : List α} (h : RdL n R S w v xs) (hn : 0 < n)
    (hS : ∀ b, b < w.heap.size → S b → T b) (hR : ∀ cs x, R w cs x → R' w cs x) : RdL n R' T w v xs := by
  obtain ⟨a, cap, e, h1, h2, h3⟩ := h
  refine ⟨a, cap, e, h1, h2, fun j hj => ?_⟩
  obtain ⟨b, off, cs, ha, hb, hl, hc, hr⟩ := h3 j hj
  have h0 := hc 0 hn
  rw [List.getElem?_eq_getElem (by omega)] at h0
  exact ⟨b, off, cs, ha, hS b (World.block_lt_of_cell? w _ h0) hb, hl, hc, hR _ _ hr⟩
/-- One value in one cell. -/
def R1 {α : Type} (R : World → Value → α → Prop) : World → List Value → α → Prop := fun w cs x => ∃ v, cs = [v] ∧ R w v x
/-- A list of lists of integers. -/
abbrev RdLL (k : IntKind) (S : Nat → Prop) (w : World) (v : Value) (xs : List (List Int)) : Prop := RdL 1 (R1 fun w v x => RdI k S w v x) S w v xs
theorem RdLL.keeps {k S w w' v xs} (h : RdLL k S w v xs) (hk : Keeps S w w') : RdLL k S w' v xs :=
  RdL.map h hk (fun _ h => h) fun _ _ ⟨u, e, hu⟩ => ⟨u, e, hu.keeps hk⟩

theorem RdI.len {k S w v l} (h : RdI k S w v l) : ∃ a cap, v = .slice a l.length cap ∧ l.length ≤ 140737488355328 := by
  obtain ⟨a, cap, e, _, h2, _⟩ := h; exact ⟨a, cap, e, h2⟩
theorem RdL.len {α : Type} {n R S w v} {xs : List α} (h : RdL n R S w v xs) : ∃ a cap, v = .slice a xs.length cap ∧ xs.length ≤ 140737488355328 := by
  obtain ⟨a, cap, e, _, h2, _⟩ := h; exact ⟨a, cap, e, h2⟩
theorem below_step {B : Nat} {w wr w' : World} (h : Below B w wr) (hB : B ≤ w.heap.size) (h' : Below wr.heap.size wr w') : Below B w w' := h.trans (h'.mono (by have := h.size; omega))
theorem below_alloc (w : World) (o : Obj) : Below w.heap.size w (w.alloc o) := (Below.refl _ _).alloc (Nat.le_refl _) _
theorem below_alloc2 (w : World) (o o' : Obj) : Below w.heap.size w ((w.alloc o).alloc o') := (below_alloc w o).alloc (by rw [World.size_alloc]; omega) _
theorem below_alloc3 (w : World) (o o' o'' : Obj) : Below w.heap.size w (((w.alloc o).alloc o').alloc o'') := (below_alloc2 w o o').alloc (by simp only [World.size_alloc]; omega) _

/-- Two boxes just laid, read later. -/
theorem boxes_cell {w w1 : World} {a b : Array Value} {ta tb : Nat} (h : Below ((w.alloc (.cells a ta)).alloc (.cells b tb)).heap.size ((w.alloc (.cells a ta)).alloc (.cells b tb)) w1) :
    (∀ j v, a[j]? = some v → w1.cell? ⟨w.heap.size, j, none⟩ = some v) ∧ (∀ j v, b[j]? = some v → w1.cell? ⟨w.heap.size + 1, j, none⟩ = some v) := by
  refine ⟨fun j v hv => cell_below h ?_, fun j v hv => cell_below h ?_⟩
  · exact (cell_of_row _ _ j a ta (0, 0) (by rw [Below.heap_alloc _ _ _ (by rw [World.size_alloc]; omega), heap_alloc_new])).trans hv
  · have e : (w.alloc (.cells a ta)).heap.size = w.heap.size + 1 := World.size_alloc ..
    rw [← e]
    exact (cell_of_row _ _ j b tb (0, 0) (heap_alloc_new _ _)).trans hv

theorem row_setCell {w : World} {p : Nat} {c : Array Value} {T : Nat} {fr : Nat × Nat} (h : w.heap[p]? = some (.cells c T fr)) (i : Nat) (u : Value) :
    (w.setCell ⟨p, i, none⟩ u).heap[p]? = some (.cells (c.setIfInBounds i u) T fr) := by
  have hp := (Array.getElem?_eq_some_iff.1 h).1
  have e := (Array.getElem?_eq_some_iff.1 h).2
  simp [World.setCell, hp, Array.getElem_modify, e]
theorem row_cell {w : World} {p : Nat} {c : Array Value} {T : Nat} {fr : Nat × Nat} (h : w.heap[p]? = some (.cells c T fr)) (i : Nat) {u : Value} (hu : c[i]? = some u) : w.cell? ⟨p, i, none⟩ = some u :=
  (cell_of_row w p i c T fr h).trans hu
theorem row_free {w : World} {p : Nat} {c : Array Value} {T : Nat} (h : w.heap[p]? = some (.cells c T (0, 0))) (i : Nat) : w.frozen? ⟨p, i, none⟩ = false := by
  simp [World.frozen?, h]
theorem row_lt {w : World} {p : Nat} {o : Obj} (h : w.heap[p]? = some o) : p < w.heap.size := (Array.getElem?_eq_some_iff.1 h).1

theorem own_keeps {S : Nat → Prop} {w w' : World} {base e size : Nat} {v : Value} {n : Nat} {xs : List Value} (h : w.ownsRow base e size v n xs) (hk : Keeps S w w') (hv : ∀ b, v.ownBlock = some b → S b) : w'.ownsRow base e size v n xs := by
  refine ⟨h.1, ?_⟩
  rcases h.2 with hn | ⟨g, cap, cur, rfl, hb, hgg, rest⟩
  · exact .inl hn
  · exact .inr ⟨g, cap, cur, rfl, hb, (hk.block g (row_lt hgg) (hv g rfl)).trans hgg, rest⟩
theorem own_below {w w' : World} {base e size : Nat} {v : Value} {n : Nat} {xs : List Value} (h : w.ownsRow base e size v n xs) (hk : Below w.heap.size w w') : w'.ownsRow base e size v n xs :=
  own_keeps h (Keeps.all (fun _ => True) hk) fun _ _ => trivial
theorem grown_block {w w' : World} {row : Option Nat} (hg : w.grownBy w' row) {p : Nat} {o : Obj} (h : w.heap[p]? = some o) (hne : row ≠ some p) : w'.heap[p]? = some o :=
  (hg.block p (row_lt h) (Ne.symm hne)).trans h

theorem own_slice {w : World} {base e size : Nat} {v : Value} {n : Nat} {xs : List Value} (h : w.ownsRow base e size v n xs) : ∃ a c, v = .slice a n c ∧ (a = none → n = 0) := by
  rcases h.2 with ⟨rfl, rfl⟩ | ⟨g, cap, cur, rfl, _⟩
  · exact ⟨_, _, rfl, fun _ => rfl⟩
  · exact ⟨_, _, rfl, by simp⟩
/-- The cells of a slice of integers, as a law on append asks for them. -/
theorem RdI.news {k S w} {a : Addr} {n c : Nat} {l : List Int} (h : RdI k S w (.slice (some a) n c) l) : ∀ j v, (l.map (Value.int k))[j]? = some v → w.cell? (a.add j) = some v := by
  obtain ⟨a', c', e, _, _, h3⟩ := h
  simp only [Value.slice.injEq] at e
  obtain ⟨rfl, rfl, rfl⟩ := e
  intro j v hv
  have hj : j < l.length := by have := (List.getElem?_eq_some_iff.1 hv).1; simpa using this
  obtain ⟨b, o, e, _, hc⟩ := h3 j hj
  simp only [Option.some.injEq] at e
  subst e
  simp [hj] at hv
  subst hv
  unfold Addr.add
  split
  · rename_i e0; subst e0; exact hc
  · exact hc

theorem ret_int {k : IntKind} {a b : Int} (h : a = b) : Ending.returned (.int k a) = .returned (.int k b) := by rw [h]
theorem ret_bool {a b : Bool} (h : a = b) : Ending.returned (.bool a) = .returned (.bool b) := by rw [h]

theorem take_eq_succ {α} {l1 l2 : List α} {k : Nat} (h1 : k < l1.length) (h2 : k < l2.length) (h : l1.take k = l2.take k) (e : l1[k] = l2[k]) : l1.take (k+1) = l2.take (k+1) := by
  rw [List.take_succ_eq_append_getElem h1, List.take_succ_eq_append_getElem h2, h, e]
theorem ne_of_get {α} {l1 l2 : List α} {k : Nat} (h1 : k < l1.length) (h2 : k < l2.length) (e : ¬ l1[k] = l2[k]) : ¬ l1 = l2 := by
  rintro rfl; exact e rfl
theorem eq_of_takes {α} {l1 l2 : List α} {k : Nat} (hl : l1.length = l2.length) (hk : ¬ k < l1.length) (h : l1.take k = l2.take k) : l1 = l2 := by
  rwa [List.take_of_length_le (by omega), List.take_of_length_le (by omega)] at h
end Go.Proofs.YtfhkjahjenpbgaaDoor
namespace Go.Proofs.YtfhkjahjenpbgaaDoor
open Go Go.RowKit

/-- What lies below stays read. -/
theorem RdI.bel {k : IntKind} {w w' : World} {v : Value} {l : List Int} (h : RdI k (· < w.heap.size) w v l) (hb : Below w.heap.size w w') : RdI k (· < w'.heap.size) w' v l :=
  (h.keeps (Keeps.all _ hb)).mono fun _ hb' _ => hb'
theorem RdI.any {k : IntKind} {S : Nat → Prop} {w : World} {v : Value} {l : List Int} (h : RdI k S w v l) : RdI k (· < w.heap.size) w v l := h.mono fun _ hb _ => hb
theorem drewN_below (w : World) (n : Nat) : Below w.heap.size w (w.drewN n) := ⟨rfl, rfl, rfl, Nat.le_refl _, fun _ _ => rfl⟩
theorem below_next {w0 w w' : World} (h : Below w0.heap.size w0 w) (hb : Below w.heap.size w w') : Below w0.heap.size w0 w' := h.trans (hb.mono h.size)
/-- Bytes laid in one block, read. -/
theorem rdI_block {k : IntKind} {w : World} {g : Nat} {l : List Int} {T : Nat} {fr : Nat × Nat} (h : w.heap[g]? = some (.cells (l.map (Value.int k)).toArray T fr)) (hl : l.length ≤ 140737488355328) (c : Nat) (hc : l.length ≤ c) :
    RdI k (· = g) w (.slice (some ⟨g, 0, none⟩) l.length c) l :=
  ⟨_, c, rfl, hc, hl, fun j hj => ⟨g, 0, rfl, rfl, by rw [Nat.zero_add]; exact row_cell h j (by simp [hj])⟩⟩
theorem hid_drewN {w w' : World} (h : Hid (Below w.heap.size w w')) (n : Nat) : Hid (Below w.heap.size w (w'.drewN n)) := Lib.hid (below_next h.out (drewN_below _ _))
theorem hid_drew {w w' : World} (h : Hid (Below w.heap.size w w')) : Hid (Below w.heap.size w w'.drew) := Lib.hid (below_next h.out (drewN_below _ 1))
theorem hid_next {w w' w'' : World} (h : Hid (Below w.heap.size w w')) (k : Hid (Below w'.heap.size w' w'')) : Hid (Below w.heap.size w w'') := Lib.hid (below_next h.out k.out)
theorem heldOf {A B C : Prop} (h : A ∧ B ∧ C) : C := h.2.2
theorem hid_refl (w : World) : Hid (Below w.heap.size w w) := Lib.hid (Below.refl _ _)
theorem RdI.take {k : IntKind} {S : Nat → Prop} {w : World} {a : Option Addr} {n c : Nat} {l : List Int} (h : RdI k S w (.slice a n c) l) (m : Nat) (hm : m ≤ l.length) : RdI k S w (.slice a m c) (l.take m) := by
  obtain ⟨a', c', e, h1, h2, h3⟩ := h
  simp only [Value.slice.injEq] at e
  obtain ⟨rfl, rfl, rfl⟩ := e
  have hl : (l.take m).length = m := by simp; omega
  refine ⟨a, c, by rw [hl], by omega, by omega, fun j hj => ?_⟩
  obtain ⟨b, o, ea, hs, hc⟩ := h3 j (by omega)
  exact ⟨b, o, ea, hs, by rw [hc]; simp⟩

theorem RdI.lenc {k S w v l} (h : RdI k S w v l) : ∃ a cap, v = .slice a l.length cap ∧ l.length ≤ cap := by
  obtain ⟨a, cap, e, h1, _⟩ := h; exact ⟨a, cap, e, h1⟩
end Go.Proofs.YtfhkjahjenpbgaaDoor
namespace Go.Proofs.YtfhkjahjenpbgaaDoor
open Go Go.RowKit

/-- An instruction as data. -/
structure InsD where
  op : Nat
  a : Int
  l : List Int
deriving DecidableEq
def insZ : InsD := ⟨0, 0, []⟩
def i64P (n : Int) : Prop := -9223372036854775808 ≤ n ∧ n ≤ 9223372036854775807
structure WfIns (x : InsD) : Prop where
  op : x.op < 256
  a : i64P x.a
  l : ∀ n ∈ x.l, i64P n
/-- An instruction in three cells. -/
def RIns (S : Nat → Prop) (w : World) (cs : List Value) (x : InsD) : Prop := ∃ v, cs = [.int .u8 x.op, .int .i64 x.a, v] ∧ RdI .i64 S w v x.l
theorem RIns.keeps {S T : Nat → Prop} {w w' : World} {cs : List Value} {x : InsD} (h : RIns S w cs x) (hk : Keeps T w w') (hS : ∀ b, S b → T b) : RIns S w' cs x := by
  obtain ⟨v, e, hr⟩ := h
  exact ⟨v, e, hr.keeps (hk.mono fun b _ hb => hS b hb)⟩
theorem RIns.mono {S T : Nat → Prop} {w : World} {cs : List Value} {x : InsD} (h : RIns S w cs x) (hS : ∀ b, b < w.heap.size → S b → T b) : RIns T w cs x := by
  obtain ⟨v, e, hr⟩ := h
  exact ⟨v, e, hr.mono hS⟩
/-- The slice v reads as the code l; what it reads lies in the blocks S. -/
abbrev CdS (S : Nat → Prop) (w : World) (v : Value) (l : List InsD) : Prop := RdL 3 (RIns S) S w v l
/-- The slice v reads as the code l. -/
abbrev Cd (w : World) (v : Value) (l : List InsD) : Prop := CdS (· < w.heap.size) w v l
theorem CdS.keeps {S T : Nat → Prop} {w w' : World} {v : Value} {l : List InsD} (h : CdS S w v l) (hk : Keeps T w w') (hS : ∀ b, S b → T b) : CdS S w' v l :=
  RdL.map h (hk.mono fun b _ hb => hS b hb) (fun _ h => h) fun _ _ hr => hr.keeps hk hS
theorem CdS.any {S : Nat → Prop} {w : World} {v : Value} {l : List InsD} (h : CdS S w v l) : Cd w v l :=
  RdL.mono h (by omega) (fun _ hb _ => hb) fun _ _ hr => hr.mono fun _ hb _ => hb
theorem Cd.bel {w w' : World} {v : Value} {l : List InsD} (h : Cd w v l) (hb : Below w.heap.size w w') : Cd w' v l :=
  CdS.any (CdS.keeps h (Keeps.all (· < w.heap.size) hb) fun _ h => h)
theorem Cd.at_ {S : Nat → Prop} {w : World} {a : Option Addr} {n c : Nat} {l : List InsD} (h : CdS S w (.slice a n c) l) {k : Nat} (hk : k < l.length) :
    ∃ b off vl, a = some ⟨b, off, none⟩ ∧ w.cell? ⟨b, off + k * 3, none⟩ = some (.int .u8 l[k].op) ∧ w.cell? ⟨b, off + k * 3 + 1, none⟩ = some (.int .i64 l[k].a) ∧ w.cell? ⟨b, off + k * 3 + 2, none⟩ = some vl ∧ RdI .i64 S w vl l[k].l := by
  obtain ⟨a', c', e, _, _, h3⟩ := h
  simp only [Value.slice.injEq] at e
  obtain ⟨rfl, _, rfl⟩ := e
  obtain ⟨b, off, cs, e1, e2, e3, e4, vl, e5, e6⟩ := h3 k hk
  subst e5
  exact ⟨b, off, vl, e1, e4 0 (by omega), e4 1 (by omega), e4 2 (by omega), e6⟩
/-- The opcodes of a code. -/
def opsOf (l : List InsD) : List Nat := l.map InsD.op
theorem opsOf_len (l : List InsD) : (opsOf l).length = l.length := by simp [opsOf]
theorem opsOf_at {l : List InsD} {k : Nat} (h : k < l.length) : (opsOf l).getD k 0 = l[k].op := by simp [opsOf, h]
theorem Tryd.cIns : Tryd.prog.cellsOf 68 = 3 := by kernel_rfl
end Go.Proofs.YtfhkjahjenpbgaaDoor
