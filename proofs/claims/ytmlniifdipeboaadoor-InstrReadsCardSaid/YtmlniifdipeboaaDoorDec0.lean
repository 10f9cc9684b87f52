/- instr.Decode: what all ways share. -/
import Derived.Test.YtmlniifdipeboaaDoorInstr4
import Derived.BigRegion
import Derived.Laws.OwnMore
namespace Go.Proofs.YtmlniifdipeboaaDoor
open Go Go.RowKit

/-- A list of integers of its own, of blocks in S. -/
def Ow (B : Nat) (S : Nat → Prop) (w : World) (v : Value) (l : List Int) : Prop := RdI .i64 S w v l ∧ w.ownsRow B 3 1 v l.length (l.map (Value.int .i64)) ∧ ∀ g, v.ownBlock = some g → S g
theorem Ow.nil (B : Nat) (S : Nat → Prop) (w : World) : Ow B S w (.slice none 0 0) [] := ⟨RdI.nil _ _ _, World.ownsRow_nil _ _ _ _, fun g h => by simp [Value.ownBlock] at h⟩
theorem Ow.keeps {B : Nat} {S : Nat → Prop} {w w' : World} {v : Value} {l : List Int} (h : Ow B S w v l) (hk : Keeps S w w') : Ow B S w' v l := ⟨h.1.keeps hk, own_keeps h.2.1 hk h.2.2, h.2.2⟩
theorem Ow.mono {B : Nat} {S T : Nat → Prop} {w : World} {v : Value} {l : List Int} (h : Ow B S w v l) (hs : ∀ b, b < w.heap.size → S b → T b) : Ow B T w v l := ⟨h.1.mono hs, h.2.1, fun g hg => hs g (h.2.1.lt g hg).2 (h.2.2 g hg)⟩
theorem Ow.drewN {B : Nat} {S : Nat → Prop} {w : World} {v : Value} {l : List Int} (h : Ow B S w v l) (n : Nat) : Ow B S (w.drewN n) v l := h.keeps (Keeps.of_drewN n)
/-- What Decode answers. -/
structure DecP (w : World) (b : List Int) (p : Int) (e : Ending) (w' : World) : Prop where
  out : ∃ vl, e = .returned (.tuple #[.agg #[.int .u8 (decI b p).1.op, .int .i64 (decI b p).1.a, vl], .int .i64 (decI b p).2.1, .int .i64 (decI b p).2.2]) ∧ RdI .i64 (fun x => w.heap.size ≤ x) w' vl (decI b p).1.l
  bel : Below w.heap.size w w'
  own : ∃ vl, e = .returned (.tuple #[.agg #[.int .u8 (decI b p).1.op, .int .i64 (decI b p).1.a, vl], .int .i64 (decI b p).2.1, .int .i64 (decI b p).2.2]) ∧ Ow w.heap.size (fun x => w.heap.size ≤ x) w' vl (decI b p).1.l
theorem dec_at {b : List Int} {p op : Nat} (hop : b[p]? = some (op : Int)) (h : isOp op = true) :
    decI b p = if (rbodyI b (p + 1) op).2.e ≠ 0 then (insZ, 0, (rbodyI b (p + 1) op).2.e) else ((rbodyI b (p + 1) op).1, (rbodyI b (p + 1) op).2.at_, 0) := by
  have hp : p < b.length := (List.getElem?_eq_some_iff.1 hop).1
  have hg : b.getD p 0 = (op : Int) := by rw [List.getD_eq_getElem?_getD, hop]; rfl
  rw [decI, if_neg (by omega), if_neg (by omega), Int.toNat_natCast, hg, Int.toNat_natCast, if_neg (by simp [h])]
theorem dec_bad {w w' : World} {b : List Int} {p : Int} {z : Int} (h : decI b p = (insZ, 0, z)) (hb : Below w.heap.size w w') : DecP w b p (.returned (.tuple #[.agg #[.int .u8 0, .int .i64 0, .slice none 0 0], .int .i64 0, .int .i64 z])) w' :=
  ⟨by rw [h]; exact ⟨_, rfl, RdI.nil _ _ _⟩, hb, by rw [h]; exact ⟨_, rfl, Ow.nil _ _ _⟩⟩
theorem dec_good {w w' : World} {b : List Int} {p : Int} {D : InsD} {q : Nat} {vl : Value} (h : decI b p = (D, q, 0)) (hr : Ow w.heap.size (fun x => w.heap.size ≤ x) w' vl D.l) (hb : Below w.heap.size w w') : DecP w b p (.returned (.tuple #[.agg #[.int .u8 D.op, .int .i64 D.a, vl], .int .i64 q, .int .i64 0])) w' :=
  ⟨by rw [h]; exact ⟨_, rfl, hr.1⟩, hb, by rw [h]; exact ⟨_, rfl, hr⟩⟩
theorem rnumI_le (b : List Int) (r : IR) (l m : Nat) : (rnumI b r l m).1 ≤ m := by
  unfold rnumI
  split
  · exact Nat.zero_le _
  split
  · exact Nat.zero_le _
  split
  · exact Nat.zero_le _
  · simp only; omega
theorem Tryd.cIns : Tryd.prog.cellsOf 81 = 3 := by kernel_rfl
theorem dec_results {a : Act} {w : World} (g : Nat) (cs : Array Value) (u5 u6 : Value) (hrow : w.heap[g]? = some (.cells cs 81 (0, 0))) (hsz : cs.size = 3) (h4 : a.tmps.getD 4 undef = .pointer (some ⟨g, 0, none⟩)) (h5 : a.tmps.getD 5 undef = u5) (h6 : a.tmps.getD 6 undef = u6) :
    (results Tryd.f45 a.tmps).run Tryd.prog w = .ok (.tuple #[.agg cs, u5, u6]) w := by
  have hl := run_loadVar_row (P := Tryd.prog) w g 81 81 cs (0, 0) _ hrow Tryd.underlying81 rfl (by rw [hsz]; kernel_rfl)
  have h4' : a.tmps[4]?.getD undef = .pointer (some ⟨g, 0, none⟩) := by simpa using h4
  have h5' : a.tmps[5]?.getD undef = u5 := by simpa using h5
  have h6' : a.tmps[6]?.getD undef = u6 := by simpa using h6
  simp [results, Tryd.results45, asAddr, h4', h5', h6', hl]
theorem set3_row {w : World} {g : Nat} {o0 o1 o2 : Value} {T : Nat} {fr : Nat × Nat} (h : w.heap[g]? = some (.cells #[o0, o1, o2] T fr)) (v0 v1 v2 : Value) :
    (((w.setCell ⟨g, 0, none⟩ v0).setCell ⟨g, 1, none⟩ v1).setCell ⟨g, 2, none⟩ v2).heap[g]? = some (.cells #[v0, v1, v2] T fr) := by
  have h0 := row_setCell h 0 v0
  simp only [List.setIfInBounds_toArray, List.set_cons_zero] at h0
  have h1 := row_setCell h0 1 v1
  simp only [List.setIfInBounds_toArray, List.set_cons_zero, List.set_cons_succ] at h1
  have h2 := row_setCell h1 2 v2
  simp only [List.setIfInBounds_toArray, List.set_cons_zero, List.set_cons_succ] at h2
  exact h2
theorem set3_rowD {w : World} {g : Nat} {o0 o1 o2 : Value} {T : Nat} {fr : Nat × Nat} (h : w.heap[g]? = some (.cells #[o0, o1, o2] T fr)) (v0 v1 v2 : Value) :
    (((w.setCell ⟨g, 0, none⟩ v0).setCell ⟨g, 1, none⟩ v1).setCell ⟨g, 2, none⟩ v2).drew.heap[g]? = some (.cells #[v0, v1, v2] T fr) := by rw [heap_drew]; exact set3_row h v0 v1 v2
theorem set3_keeps (w : World) (g : Nat) (v0 v1 v2 : Value) : Keeps (fun x => x ≠ g) w (((w.setCell ⟨g, 0, none⟩ v0).setCell ⟨g, 1, none⟩ v1).setCell ⟨g, 2, none⟩ v2) :=
  (((Keeps.refl _ w).setCell (a := ⟨g, 0, none⟩) (by simp) v0).setCell (a := ⟨g, 1, none⟩) (by simp) v1).setCell (a := ⟨g, 2, none⟩) (by simp) v2

/-- Behind the switch: the result's block R, the instruction's X, the reader's p. -/
structure De (S : Nat → Prop) (w : World) (R p X : Nat) (v : Value) (b : List Int) (wx : World) (D : InsD) (vl : Value) (r : IR) : Prop where
  bel : Below w.heap.size w wx
  res : wx.heap[R]? = some (.cells #[.int .u8 0, .int .i64 0, .slice none 0 0] 81 (0, 0))
  ri : Ri S wx p v b r
  box : wx.heap[X]? = some (.cells #[.int .u8 D.op, .int .i64 D.a, vl] 81 (0, 0))
  rd : Ow w.heap.size (fun x => w.heap.size ≤ x ∧ x ≠ R ∧ x ≠ p ∧ x ≠ X) wx vl D.l
  lo : R = w.heap.size ∧ w.heap.size ≤ X ∧ w.heap.size ≤ p
  ne : R ≠ p ∧ R ≠ X ∧ p ≠ X
  sx : ∀ x, S x → x < w.heap.size
theorem de_laid (S) (w w1 : World) (bb off : Nat) (b : List Int) (vc p op : Nat) (a : Int) (hb1 : Below w.heap.size w w1) (hr1 : w1.heap[w.heap.size]? = some (.cells #[.int .u8 0, .int .i64 0, .slice none 0 0] 81 (0, 0)))
    (hl : RdI .u8 S w1 (.slice (some ⟨bb, off, none⟩) b.length vc) b) (hs : w.heap.size < w1.heap.size) (hp : p + 1 ≤ b.length) (hS : ∀ x, S x → x < w.heap.size) (o : Obj) :
    De S w w.heap.size (w1.heap.size + 1) (w1.heap.size + 1 + 1) (.slice (some ⟨bb, off, none⟩) b.length vc) b
      (((w1.alloc o).alloc (.cells #[.slice (some ⟨bb, off, none⟩) b.length vc, .int .i64 ((p : Int) + 1), .int .i64 0] 138)).alloc (.cells #[.int .u8 op, .int .i64 a, .slice none 0 0] 81)) ⟨op, a, []⟩ (.slice none 0 0) ⟨p + 1, 0⟩ := by
  have h1 : (w1.alloc o).heap.size = w1.heap.size + 1 := World.size_alloc ..
  have b1 := below_alloc w1 o
  have b2 := below_alloc (w1.alloc o) (.cells #[.slice (some ⟨bb, off, none⟩) b.length vc, .int .i64 ((p : Int) + 1), .int .i64 0] 138)
  have r2 := heap_alloc_new (w1.alloc o) (.cells #[.slice (some ⟨bb, off, none⟩) b.length vc, .int .i64 ((p : Int) + 1), .int .i64 0] 138)
  rw [h1] at r2
  have h2 : ((w1.alloc o).alloc (.cells #[.slice (some ⟨bb, off, none⟩) b.length vc, .int .i64 ((p : Int) + 1), .int .i64 0] 138)).heap.size = w1.heap.size + 1 + 1 := by rw [World.size_alloc, h1]
  generalize (w1.alloc o).alloc (.cells #[.slice (some ⟨bb, off, none⟩) b.length vc, .int .i64 ((p : Int) + 1), .int .i64 0] 138) = w3 at *
  have b3 := below_alloc w3 (.cells #[.int .u8 op, .int .i64 a, .slice none 0 0] 81)
  have r3 := heap_alloc_new w3 (.cells #[.int .u8 op, .int .i64 a, .slice none 0 0] 81)
  rw [h2] at r3
  have bA := below_next (below_next b1 b2) b3
  exact ⟨below_next hb1 bA, (bA.block _ (row_lt hr1)).trans hr1, ⟨(b3.block _ (row_lt r2)).trans r2, hl.keeps (Keeps.all S bA), fun x hx => by have := hS x hx; omega, hp⟩, r3, Ow.nil _ _ _, ⟨rfl, by omega, by omega⟩, ⟨by omega, by omega, by omega⟩, hS⟩
theorem De.on {S w R p X v b wx wy D vl r} (h : De S w R p X v b wx D vl r) (hb : Below wx.heap.size wx wy) : De S w R p X v b wy D vl r :=
  ⟨below_next h.bel hb, (hb.block _ (row_lt h.res)).trans h.res, h.ri.on hb, (hb.block _ (row_lt h.box)).trans h.box, h.rd.keeps (Keeps.all _ hb), h.lo, h.ne, h.sx⟩
theorem De.num {S w R p X v b wx wy D vl r} (h : De S w R p X v b wx D vl r) {r' : IR} (hk : Keeps (fun x => x ≠ p) wx wy) (hr : Ri S wy p v b r') : De S w R p X v b wy D vl r' :=
  ⟨h.bel.trans (hk.below h.bel.size fun x hx => by have := h.lo; omega), (hk.block _ (row_lt h.res) h.ne.1).trans h.res, hr, (hk.block _ (row_lt h.box) h.ne.2.2.symm).trans h.box, h.rd.keeps (hk.mono fun x _ hx => hx.2.2.1), h.lo, h.ne, h.sx⟩
theorem De.setA {S w R p X v b wx vl r} {op : Nat} {a : Int} {l : List Int} (h : De S w R p X v b wx ⟨op, a, l⟩ vl r) (a' : Int) : De S w R p X v b (wx.setCell ⟨X, 1, none⟩ (.int .i64 a')) ⟨op, a', l⟩ vl r :=
  have hk : Keeps (fun x => x ≠ X) wx (wx.setCell ⟨X, 1, none⟩ (.int .i64 a')) := (Keeps.refl _ wx).setCell (a := ⟨X, 1, none⟩) (by simp) _
  ⟨h.bel.trans (hk.below h.bel.size fun x hx => by have := h.lo; omega), (hk.block _ (row_lt h.res) h.ne.2.1).trans h.res,
    h.ri.keeps hk h.ne.2.2 fun x hx => by have := h.sx x hx; have := h.lo; omega, by simpa using row_setCell h.box 1 (.int .i64 a'), h.rd.keeps (hk.mono fun x _ hx => hx.2.2.2), h.lo, h.ne, h.sx⟩
theorem De.done {S w R p X v b wx D vl r} (h : De S w R p X v b wx D vl r) (a1 a2 a3 : Value) :
    Ow w.heap.size (fun x => w.heap.size ≤ x) (((wx.setCell ⟨R, 0, none⟩ a1).setCell ⟨R, 1, none⟩ a2).setCell ⟨R, 2, none⟩ a3).drew vl D.l ∧ Below w.heap.size w (((wx.setCell ⟨R, 0, none⟩ a1).setCell ⟨R, 1, none⟩ a2).setCell ⟨R, 2, none⟩ a3).drew := by
  have hk := set3_keeps wx R a1 a2 a3
  refine ⟨((h.rd.keeps (hk.mono fun x _ hx => hx.2.1)).mono fun x _ hx => hx.1).drewN 1, ?_⟩
  exact h.bel.trans ((hk.below h.bel.size fun x hx => by have := h.lo; omega).drew)
end Go.Proofs.YtmlniifdipeboaaDoor
