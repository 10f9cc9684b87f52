/- instr.Decode: no number. instr.Decode: labels. instr.Decode: a number with a sign. -/
import Derived.Test.YteaolgldkfjdkaaDoorMHead0
import Derived.Deep.RegionLaw
namespace Go.Proofs.YteaolgldkfjdkaaDoor
open Go Go.RowKit

set_option maxRecDepth 100000 in
set_option maxHeartbeats 12800000 in
theorem dec_0 (S) (w : World) (v : Value) (b : List Int) (p : Nat) (hb : Bytes b) (h : RdI .u8 S w v b) (hS : ∀ x, S x → x < w.heap.size) (ht : Tb w) (op : Nat) (hop : b[p]? = some (op : Int)) (hio : isOp op = true) (hk : takesP op = 0) :
    Calls Tryd.prog 66 #[v, .int .i64 p] w (DecP w b p) := by
  have hp : p < b.length := (List.getElem?_eq_some_iff.1 hop).1
  have hbo := hb (op : Int) (List.mem_of_getElem? hop)
  have ho : op < 256 := by omega
  have HDa := Lib.hid (dec_at hop hio)
  obtain ⟨va, vc, rfl, hlc⟩ := h.lenc
  have hlm : b.length ≤ 140737488355328 := by obtain ⟨_, _, _, _, hm, _⟩ := h; exact hm
  have HL := Lib.hid h; have HB := Lib.hid hb; have HT := Lib.hid ht; have HS := Lib.hid hS
  obtain ⟨bb, off, hva, _, hcell⟩ : ∃ bb off, va = some ⟨bb, off, none⟩ ∧ S bb ∧ w.cell? ⟨bb, off + p, none⟩ = some (.int .u8 (op : Int)) := by
    obtain ⟨a', c', e, _, _, h3⟩ := h
    simp only [Value.slice.injEq] at e
    obtain ⟨rfl, _, rfl⟩ := e
    obtain ⟨bb, off, e1, e2, e3⟩ := h3 p hp
    exact ⟨bb, off, e1, e2, by rw [e3, (List.getElem?_eq_some_iff.1 hop).2]⟩
  subst hva
  clear h hb ht hS hop
  have hbl := World.block_lt_of_cell? w _ hcell
  have hb0 := below_alloc w (.cells #[.int .u8 0, .int .i64 0, .slice none 0 0] 76)
  have hr0 := heap_alloc_new w (.cells #[.int .u8 0, .int .i64 0, .slice none 0 0] 76)
  have hc0 := cell_below hb0 hcell
  have e8 : IntKind.i64.wrap ((p : Int) + 1) = ((p + 1 : Nat) : Int) := by rw [IntWalk.i64_in _ ⟨by omega, by omega⟩]; push_cast; rfl
  have hpi : ((p : Int) == (b.length : Int)) = false := by rw [beq_eq_false_iff_ne]; omega
  go_enter Tryd.func66, Tryd.ntmps66
  go_wp2_with fail
  generalize w.alloc (.cells #[.int .u8 0, .int .i64 0, .slice none 0 0] 76) = w0 at *
  have HB0 := Lib.hid hb0; have HR0 := Lib.hid hr0; have HT0 := Lib.hid (HT.out.bel hb0); have HL0 := Lib.hid (HL.out.keeps (Keeps.all S hb0))
  clear hb0 hr0 hc0 HT HL
  refine (ops_Of _ op ho HT0.out).mono ?_
  rintro e w1 ⟨rfl, hb1⟩
  rw [irow_eq op hio, hio]
  have HB1 := Lib.hid (below_next HB0.out hb1)
  have HR1 := Lib.hid ((hb1.block _ (row_lt HR0.out)).trans HR0.out)
  have HL1 := Lib.hid (HL0.out.keeps (Keeps.all S hb1))
  have hs1 : w.heap.size < w1.heap.size := Nat.lt_of_lt_of_le (row_lt HR0.out) hb1.size
  clear hb1 HB0 HR0 HT0 HL0 hcell hio hbo
  have HBd := fun w' : World => instr_bounds w' op ho
  have HSg := fun w' p' v' b' (r' : IR) h' hb' => ri_signed S w' p' v' b' r' h' hb' op ho
  have HBd' := Lib.hid HBd; have HSg' := Lib.hid HSg; clear HBd HSg
  have HRb : Hid (rbodyI b (p + 1) op = (⟨op, 0, []⟩, ⟨p + 1, 0⟩)) := by show _ = _; rw [rbodyI, if_neg (by omega), if_neg (by omega), if_neg (by simp [isU]; omega)]
  unfold irow at *
  generalize (progRow op).pops = pp at *
  generalize (progRow op).pushes = pu at *
  generalize (progRow op).plain = pl at *
  generalize wordP op = wd at *
  rw [hk] at HBd' HSg' ⊢
  have hI := below_alloc w1 (.cells #[.int .u8 op, .string ⟨wd.toArray⟩, .int .i8 0, .string ⟨pp.toArray⟩, .string ⟨pu.toArray⟩, .bool pl] 115)
  have hIr := heap_alloc_new w1 (.cells #[.int .u8 op, .string ⟨wd.toArray⟩, .int .i8 0, .string ⟨pp.toArray⟩, .string ⟨pu.toArray⟩, .bool pl] 115)
  have HG : Hid (decI b p = (⟨op, 0, []⟩, p + 1, 0)) := by have := HDa.out; rw [HRb.out, if_neg (by simp)] at this; exact this
  have hDe := de_laid S w w1 bb off b vc p op 0 HB1.out HR1.out HL1.out hs1 (by omega) HS.out (.cells #[.int .u8 op, .string ⟨wd.toArray⟩, .int .i8 0, .string ⟨pp.toArray⟩, .string ⟨pu.toArray⟩, .bool pl] 115)
  have HD := Lib.hid hDe
  clear hDe
  go_wp2_with fail
  generalize ((w1.alloc (.cells #[.int .u8 op, .string ⟨wd.toArray⟩, .int .i8 0, .string ⟨pp.toArray⟩, .string ⟨pu.toArray⟩, .bool pl] 115)).alloc (.cells #[.slice (some ⟨bb, off, none⟩) b.length vc, .int .i64 ((p : Int) + 1), .int .i64 0] 136)).alloc (.cells #[.int .u8 op, .int .i64 0, .slice none 0 0] 76) = W at *
  generalize hX : w1.heap.size + 1 + 1 = X at *
  generalize hP : w1.heap.size + 1 = P at *
  clear hX hP
  have x0 := row_cell HD.out.box 0 rfl; have x1 := row_cell HD.out.box 1 rfl; have x2 := row_cell HD.out.box 2 rfl
  have y0 := row_cell HD.out.ri.row 0 rfl; have y1 := row_cell HD.out.ri.row 1 rfl; have y2 := row_cell HD.out.ri.row 2 rfl
  have g0 := row_cell HD.out.res 0 rfl; have g1 := row_cell HD.out.res 1 rfl; have g2 := row_cell HD.out.res 2 rfl
  have f0 := row_free HD.out.res 0; have f1 := row_free HD.out.res 1; have f2 := row_free HD.out.res 2
  simp only [List.getElem_toArray, List.getElem_cons_zero, List.getElem_cons_succ] at x0 x1 x2 y0 y1 y2 g0 g1 g2
  obtain ⟨n1, n2, n3⟩ := HD.out.ne
  go_region
  go_wp2
  refine bodyPost_ret (dec_results w.heap.size #[.int .u8 op, .int .i64 0, .slice none 0 0] (.int .i64 ((p : Int) + 1)) (.int .i64 0) (set3_rowD HD.out.res _ _ _) rfl rfl rfl rfl) rfl ?_
  exact dec_good HG.out (HD.out.done _ _ _).1 (HD.out.done _ _ _).2
end Go.Proofs.YteaolgldkfjdkaaDoor
namespace Go.Proofs.YteaolgldkfjdkaaDoor
open Go Go.RowKit

theorem Tryd.infoInt : (Tryd.prog.info? 3).map (fun i => (i.zero, i.size, i.bytes)) = some (some (.int .i64 0), 1, 8) := by kernel_rfl
/-- In the loop over labels: the list is owned, above B. -/
structure DeL (S : Nat → Prop) (w : World) (R p X B : Nat) (v : Value) (b : List Int) (op : Nat) (wx : World) (xs : List Int) (vl : Value) (r : IR) : Prop where
  bel : Below w.heap.size w wx
  res : wx.heap[R]? = some (.cells #[.int .u8 0, .int .i64 0, .slice none 0 0] 76 (0, 0))
  ri : Ri S wx p v b r
  box : wx.heap[X]? = some (.cells #[.int .u8 op, .int .i64 0, vl] 76 (0, 0))
  own : wx.ownsRow B 3 1 vl xs.length (xs.map (Value.int .i64))
  lo : R = w.heap.size ∧ w.heap.size ≤ X ∧ w.heap.size ≤ p
  ne : R ≠ p ∧ R ≠ X ∧ p ≠ X
  sx : ∀ x, S x → x < w.heap.size
  hB : R < B ∧ p < B ∧ X < B ∧ B ≤ wx.heap.size
theorem DeL.of {S w R p X v b wx op vl r} (h : De S w R p X v b wx ⟨op, 0, []⟩ vl r) (hv : vl = .slice none 0 0) : DeL S w R p X wx.heap.size v b op wx [] vl r :=
  ⟨h.bel, h.res, h.ri, h.box, by subst hv; exact World.ownsRow_nil _ _ _ _, h.lo, h.ne, h.sx, row_lt h.res, row_lt h.ri.row, row_lt h.box, Nat.le_refl _⟩
theorem DeL.on {S w R p X B v b op wx wy xs vl r} (h : DeL S w R p X B v b op wx xs vl r) (hb : Below wx.heap.size wx wy) : DeL S w R p X B v b op wy xs vl r :=
  ⟨below_next h.bel hb, (hb.block _ (row_lt h.res)).trans h.res, h.ri.on hb, (hb.block _ (row_lt h.box)).trans h.box, own_below h.own hb, h.lo, h.ne, h.sx, h.hB.1, h.hB.2.1, h.hB.2.2.1, Nat.le_trans h.hB.2.2.2 hb.size⟩
theorem DeL.num {S w R p X B v b op wx wy xs vl r} (h : DeL S w R p X B v b op wx xs vl r) {r' : IR} (hk : Keeps (fun x => x ≠ p) wx wy) (hr : Ri S wy p v b r') : DeL S w R p X B v b op wy xs vl r' :=
  ⟨h.bel.trans (hk.below h.bel.size fun x hx => by have := h.lo; omega), (hk.block _ (row_lt h.res) h.ne.1).trans h.res, hr, (hk.block _ (row_lt h.box) h.ne.2.2.symm).trans h.box,
    own_keeps h.own hk fun k e => by have := (h.own.lt k e).1; have := h.hB; omega, h.lo, h.ne, h.sx, h.hB.1, h.hB.2.1, h.hB.2.2.1, Nat.le_trans h.hB.2.2.2 hk.size⟩
theorem DeL.grow {S w R p X B v b op wx wy xs vl r} (h : DeL S w R p X B v b op wx xs vl r) {v' : Value} {x : Int} (hg : wx.grownBy wy vl.ownBlock) (ho : wy.ownsRow B 3 1 v' (xs.length + 1) (xs.map (Value.int .i64) ++ [.int .i64 x])) :
    DeL S w R p X B v b op (wy.setCell ⟨X, 2, none⟩ v') (xs ++ [x]) v' r := by
  have hB := h.hB
  have hlo := h.lo
  have hne := h.ne
  have lt : ∀ k, vl.ownBlock = some k → B ≤ k := fun k hk => (h.own.lt k hk).1
  have b1 : wy.heap[R]? = some (.cells #[.int .u8 0, .int .i64 0, .slice none 0 0] 76 (0, 0)) := grown_block hg h.res fun e => by have := lt _ e; omega
  have b2 := grown_block hg h.ri.row fun e => by have := lt _ e; omega
  have b3 := grown_block hg h.box fun e => by have := lt _ e; omega
  have hk : Keeps (fun x => x ≠ X) wy (wy.setCell ⟨X, 2, none⟩ v') := (Keeps.refl _ wy).setCell (a := ⟨X, 2, none⟩) (by simp) _
  have hbel : Below w.heap.size w wy := h.bel.grown hg h.bel.size fun k hk => by have := lt k hk; omega
  refine ⟨hbel.trans (hk.below hbel.size fun x hx => by omega), (hk.block _ (row_lt b1) hne.2.1).trans b1, ⟨(hk.block _ (row_lt b2) hne.2.2).trans b2, ?_, h.ri.sep, h.ri.le⟩, by simpa using row_setCell b3 2 v', ?_, hlo, hne, h.sx, hB.1, hB.2.1, hB.2.2.1, Nat.le_trans hB.2.2.2 (Nat.le_trans hg.size hk.size)⟩
  · have h1 := h.ri.rd.keeps ((Keeps.refl (fun x => S x) wx).grown hg fun k hk _ hs => by have := lt k hk; have := h.sx k hs; omega)
    exact h1.keeps (hk.mono fun x _ hx => by have := h.sx x hx; omega)
  · have h1 := own_keeps (S := fun x => x ≠ X) ho hk fun k e => by have := (ho.lt k e).1; omega
    simpa using h1
theorem DeL.back {S w R p X B v b op wx xs vl r} (h : DeL S w R p X B v b op wx xs vl r) (hm : xs.length ≤ 140737488355328) : De S w R p X v b wx ⟨op, 0, xs⟩ vl r := by
  have hS : ∀ k, vl.ownBlock = some k → w.heap.size ≤ k ∧ k ≠ R ∧ k ≠ p ∧ k ≠ X := fun k e => by have := (h.own.lt k e).1; have := h.hB; have := h.lo; omega
  have ho : wx.ownsRow w.heap.size 3 1 vl xs.length (xs.map (Value.int .i64)) := by
    refine ⟨h.own.1, ?_⟩
    rcases h.own.2 with h0 | ⟨g, cap, cur, h1, h2, h3⟩
    · exact .inl h0
    · exact .inr ⟨g, cap, cur, h1, by have := h.hB; have := h.lo; omega, h3⟩
  exact ⟨h.bel, h.res, h.ri, h.box, ⟨(RdI.of_own h.own hm).mono fun k _ e => hS k e, ho, hS⟩, h.lo, h.ne, h.sx⟩
theorem drew_below (w : World) : Below w.heap.size w w.drew := (Below.refl _ _).drew
theorem rlistI_succ (b : List Int) (n : Nat) (r : IR) : rlistI b (n + 1) r = (((rnumI b r 0 2147483647).1 : Int) :: (rlistI b n (rnumI b r 0 2147483647).2).1, (rlistI b n (rnumI b r 0 2147483647).2).2) := rfl
set_option maxRecDepth 100000 in
set_option maxHeartbeats 12800000 in
theorem dec_3 (S) (w : World) (v : Value) (b : List Int) (p : Nat) (hb : Bytes b) (h : RdI .u8 S w v b) (hS : ∀ x, S x → x < w.heap.size) (ht : Tb w) (op : Nat) (hop : b[p]? = some (op : Int)) (hio : isOp op = true) (hk : takesP op = 3) :
    Calls Tryd.prog 66 #[v, .int .i64 p] w (DecP w b p) := by
  have hp : p < b.length := (List.getElem?_eq_some_iff.1 hop).1
  have hbo := hb (op : Int) (List.mem_of_getElem? hop)
  have ho : op < 256 := by omega
  have HDa := Lib.hid (dec_at hop hio)
  obtain ⟨va, vc, rfl, hlc⟩ := h.lenc
  have hlm : b.length ≤ 140737488355328 := by obtain ⟨_, _, _, _, hm, _⟩ := h; exact hm
  have HL := Lib.hid h; have HB := Lib.hid hb; have HT := Lib.hid ht; have HS := Lib.hid hS
  obtain ⟨bb, off, hva, _, hcell⟩ : ∃ bb off, va = some ⟨bb, off, none⟩ ∧ S bb ∧ w.cell? ⟨bb, off + p, none⟩ = some (.int .u8 (op : Int)) := by
    obtain ⟨a', c', e, _, _, h3⟩ := h
    simp only [Value.slice.injEq] at e
    obtain ⟨rfl, _, rfl⟩ := e
    obtain ⟨bb, off, e1, e2, e3⟩ := h3 p hp
    exact ⟨bb, off, e1, e2, by rw [e3, (List.getElem?_eq_some_iff.1 hop).2]⟩
  subst hva
  clear h hb ht hS hop
  have hbl := World.block_lt_of_cell? w _ hcell
  have hb0 := below_alloc w (.cells #[.int .u8 0, .int .i64 0, .slice none 0 0] 76)
  have hr0 := heap_alloc_new w (.cells #[.int .u8 0, .int .i64 0, .slice none 0 0] 76)
  have hc0 := cell_below hb0 hcell
  have e8 : IntKind.i64.wrap ((p : Int) + 1) = ((p + 1 : Nat) : Int) := by rw [IntWalk.i64_in _ ⟨by omega, by omega⟩]; push_cast; rfl
  have hpi : ((p : Int) == (b.length : Int)) = false := by rw [beq_eq_false_iff_ne]; omega
  go_enter Tryd.func66, Tryd.ntmps66
  go_wp2_with fail
  generalize w.alloc (.cells #[.int .u8 0, .int .i64 0, .slice none 0 0] 76) = w0 at *
  have HB0 := Lib.hid hb0; have HR0 := Lib.hid hr0; have HT0 := Lib.hid (HT.out.bel hb0); have HL0 := Lib.hid (HL.out.keeps (Keeps.all S hb0))
  clear hb0 hr0 hc0 HT HL
  refine (ops_Of _ op ho HT0.out).mono ?_
  rintro e w1 ⟨rfl, hb1⟩
  rw [irow_eq op hio, hio]
  have HB1 := Lib.hid (below_next HB0.out hb1)
  have HR1 := Lib.hid ((hb1.block _ (row_lt HR0.out)).trans HR0.out)
  have HL1 := Lib.hid (HL0.out.keeps (Keeps.all S hb1))
  have hs1 : w.heap.size < w1.heap.size := Nat.lt_of_lt_of_le (row_lt HR0.out) hb1.size
  clear hb1 HB0 HR0 HT0 HL0 hcell hio hbo
  have HBd := fun w' : World => instr_bounds w' op ho
  have HSg := fun w' p' v' b' (r' : IR) h' hb' => ri_signed S w' p' v' b' r' h' hb' op ho
  have HBd' := Lib.hid HBd; have HSg' := Lib.hid HSg; clear HBd HSg
  have HRb : Hid (rbodyI b (p + 1) op = (⟨op, 0, (rlistI b (rnumI b ⟨p + 1, 0⟩ 1 16).1 (rnumI b ⟨p + 1, 0⟩ 1 16).2).1⟩, (rlistI b (rnumI b ⟨p + 1, 0⟩ 1 16).1 (rnumI b ⟨p + 1, 0⟩ 1 16).2).2)) := by show _ = _; rw [rbodyI, if_pos hk]
  unfold irow at *
  generalize (progRow op).pops = pp at *
  generalize (progRow op).pushes = pu at *
  generalize (progRow op).plain = pl at *
  generalize wordP op = wd at *
  rw [hk] at HBd' HSg' ⊢
  have hI := below_alloc w1 (.cells #[.int .u8 op, .string ⟨wd.toArray⟩, .int .i8 3, .string ⟨pp.toArray⟩, .string ⟨pu.toArray⟩, .bool pl] 115)
  have hIr := heap_alloc_new w1 (.cells #[.int .u8 op, .string ⟨wd.toArray⟩, .int .i8 3, .string ⟨pp.toArray⟩, .string ⟨pu.toArray⟩, .bool pl] 115)
  obtain ⟨i0, hi, hz0, hz1, hz2⟩ := info_parts Tryd.infoInt
  have hnl := rnumI_le b ⟨p + 1, 0⟩ 1 16
  have HNm := Lib.hid (fun w' h' => ri_number S w' (w1.heap.size + 1) (.slice (some ⟨bb, off, none⟩) b.length vc) b ⟨p + 1, 0⟩ h' HB.out 1 16 1 16 rfl rfl)
  obtain ⟨n, hn⟩ : ∃ a, (rnumI b ⟨p + 1, 0⟩ 1 16).1 = a := ⟨_, rfl⟩
  obtain ⟨r1, hr⟩ : ∃ r, (rnumI b ⟨p + 1, 0⟩ 1 16).2 = r := ⟨_, rfl⟩
  rw [hn, hr] at HRb HNm
  rw [hn] at hnl
  clear hn hr
  have hDe := de_laid S w w1 bb off b vc p op 0 HB1.out HR1.out HL1.out hs1 (by omega) HS.out (.cells #[.int .u8 op, .string ⟨wd.toArray⟩, .int .i8 3, .string ⟨pp.toArray⟩, .string ⟨pu.toArray⟩, .bool pl] 115)
  have HD := Lib.hid hDe
  clear hDe
  have hI3 := below_next (below_next hI (below_alloc _ (.cells #[.slice (some ⟨bb, off, none⟩) b.length vc, .int .i64 ((p : Int) + 1), .int .i64 0] 136))) (below_alloc _ (.cells #[.int .u8 op, .int .i64 0, .slice none 0 0] 76))
  have hI4 := (((below_alloc _ (.cells #[.slice (some ⟨bb, off, none⟩) b.length vc, .int .i64 ((p : Int) + 1), .int .i64 0] 136)).block _ (row_lt hIr)).trans hIr)
  have hI5 := (((below_alloc _ (.cells #[.int .u8 op, .int .i64 0, .slice none 0 0] 76)).block _ (row_lt hI4)).trans hI4)
  have i0 := row_cell hI5 0 rfl; have i1 := row_cell hI5 1 rfl; have i2 := row_cell hI5 2 rfl; have i3 := row_cell hI5 3 rfl; have i4 := row_cell hI5 4 rfl; have i5 := row_cell hI5 5 rfl
  simp only [List.getElem_toArray, List.getElem_cons_zero, List.getElem_cons_succ] at i0 i1 i2 i3 i4 i5
  clear hI3 hI4 hI5
  go_wp2_with fail
  generalize ((w1.alloc (.cells #[.int .u8 op, .string ⟨wd.toArray⟩, .int .i8 3, .string ⟨pp.toArray⟩, .string ⟨pu.toArray⟩, .bool pl] 115)).alloc (.cells #[.slice (some ⟨bb, off, none⟩) b.length vc, .int .i64 ((p : Int) + 1), .int .i64 0] 136)).alloc (.cells #[.int .u8 op, .int .i64 0, .slice none 0 0] 76) = W at *
  generalize hX : w1.heap.size + 1 + 1 = X at *
  generalize hP : w1.heap.size + 1 = P at *
  refine (HNm.out _ HD.out.ri).mono ?_
  rintro e w2 ⟨rfl, hri, hk2⟩
  have HE2 := Lib.hid (DeL.of (HD.out.num hk2 hri) rfl)
  have hB2 : w.heap.size ≤ w2.heap.size := HE2.out.bel.size
  generalize hBB : w2.heap.size = B at HE2
  clear hri hk2 HD hX hP i0 i1 i2 i3 i4 i5 HSg' HBd' HNm
  go_wp2
  go_loopw [66] (fun i wr => ∃ (k : Nat) (xs : List Int) (vl : Value) (r : IR), k ≤ n ∧ i = .int .u64 k ∧ Hid (xs.length = k) ∧ Hid (DeL S w w.heap.size P X B (.slice (some ⟨bb, off, none⟩) b.length vc) b op wr xs vl r) ∧ Hid (rlistI b n r1 = (xs ++ (rlistI b (n - k) r).1, (rlistI b (n - k) r).2))) (fun i _ => n - (intOf i).toNat)
  case atStart => exact ⟨0, [], _, _, by omega, rfl, Lib.hid rfl, HE2, Lib.hid (by simp)⟩
  case round =>
    obtain ⟨k, xs, vl, r, hk, rfl, HXl, HE, HR⟩ := hrel
    by_cases hlt : k < n
    · have hal := rnumI_le b r 0 2147483647
      have HR' := Lib.hid (HR.out.trans (by rw [show n - k = (n - (k + 1)) + 1 by omega, rlistI_succ]))
      have HNm := Lib.hid (fun w' h' => ri_number S w' P (.slice (some ⟨bb, off, none⟩) b.length vc) b r h' HB.out 0 2147483647 0 2147483647 rfl rfl)
      obtain ⟨a, ha⟩ : ∃ a, (rnumI b r 0 2147483647).1 = a := ⟨_, rfl⟩
      obtain ⟨r', hr'⟩ : ∃ r', (rnumI b r 0 2147483647).2 = r' := ⟨_, rfl⟩
      rw [ha, hr'] at HNm HR'
      rw [ha] at hal
      clear ha hr' HR HE2
      have haw : IntKind.i64.wrap (a : Int) = (a : Int) := IntWalk.i64_in _ ⟨by omega, by omega⟩
      have x2 := row_cell HE.out.box 2 rfl
      simp only [List.getElem_toArray, List.getElem_cons_zero, List.getElem_cons_succ] at x2
      have hxl := HXl.out
      have hBw := HE.out.hB.2.2.2
      have HNE : Hid (vl.ownBlock ≠ some X) := fun e => by have := (HE.out.own.lt _ e).1; have := HE.out.hB; omega
      go_wp2_with fail
      go_region_law (first
        | (refine step_append_lies _ (by rfl) _ _ 23 (by rfl) B 3 i0 _ 1 8 Tryd.underlying23 hi hz0 hz1 hz2 rfl (by omega) vl xs.length (xs.map (Value.int .i64)) (by rfl) HE3A.out.own ⟨w3.heap.size, 0, none⟩ 1 1 [.int .i64 a] (by rfl) (by rfl) (cell_one_new _ _ _) (by simp [Value.oneCell']) (by omega) (by unfold maxLen; omega) (by omega) HE3A.out.hB.2.2.2 (w3.heap.size + 1) (by rw [World.size_alloc]) ?_; intro g cap w5 hown5 hgrow5 hat5 hlt5; have c5 := row_cell (grown_block hgrow5 HE3A.out.box HNE.out) 2 rfl; have f5 := row_free (grown_block hgrow5 HE3A.out.box HNE.out) 2)
        | (go_simp; go_at_call 75; (with_reducible refine (HNm.out _ (by first | exact HE.out.ri | exact (HE.out.on (drew_below _)).ri | exact (HE.out.on (drewN_below _ _)).ri)).mono ?_); rintro e w3 ⟨rfl, hri, hk3⟩; have HE3 := (HE.out.on (drew_below _)).num hk3 hri; have y2 := row_cell HE3.box 2 rfl; have HE3A := Lib.hid (HE3.on (below_alloc w3 (.cells #[.int .i64 a] 3))); have y2a := row_cell HE3A.out.box 2 rfl))
      all_goals have HF := Lib.hid (HE3A.out.grow (x := (a : Int)) hgrow5 (by simpa [hxl] using hown5))
      all_goals go_wp2
      all_goals go_roundw
      all_goals first
        | exact ⟨k + 1, xs ++ [(a : Int)], _, r', by omega, by go_num, Lib.hid (by simp; omega), HF, Lib.hid (by rw [HR'.out]; simp)⟩
        | (simp [intOf]; omega)
    · obtain ⟨q, z⟩ := r
      have HQ : Hid (rlistI b n r1 = (xs, ⟨q, z⟩)) := Lib.hid (by have := HR.out; rw [show n - k = 0 by omega] at this; simpa [rlistI] using this)
      obtain ⟨sa, sc, rfl, _⟩ := own_slice HE.out.own
      have hxl := HXl.out
      have HD := Lib.hid (HE.out.back (by omega))
      have y2 := row_cell HD.out.ri.row 2 rfl
      simp only [List.getElem_toArray, List.getElem_cons_zero, List.getElem_cons_succ] at y2
      have hkn : ¬ (k : Int) < n := by omega
      clear HE HE2 HR hxl HXl
      by_cases hz : z = 0
      · subst hz
        have HG : Hid (decI b p = (⟨op, 0, xs⟩, q, 0)) := by have := HDa.out; rw [HRb.out, HQ.out, if_neg (by simp)] at this; exact this
        go_wp2_with fail
        clear y2
        have x0 := row_cell HD.out.box 0 rfl; have x1 := row_cell HD.out.box 1 rfl; have x2 := row_cell HD.out.box 2 rfl
        have y0 := row_cell HD.out.ri.row 0 rfl; have y1 := row_cell HD.out.ri.row 1 rfl; have y2 := row_cell HD.out.ri.row 2 rfl
        have g0 := row_cell HD.out.res 0 rfl; have g1 := row_cell HD.out.res 1 rfl; have g2 := row_cell HD.out.res 2 rfl
        have f0 := row_free HD.out.res 0; have f1 := row_free HD.out.res 1; have f2 := row_free HD.out.res 2
        simp only [List.getElem_toArray, List.getElem_cons_zero, List.getElem_cons_succ] at x0 x1 x2 y0 y1 y2 g0 g1 g2
        obtain ⟨n1, n2, n3⟩ := HD.out.ne
        go_wp2_with fail
        go_region
        go_wp2
        refine bodyPost_ret (dec_results w.heap.size #[.int .u8 op, .int .i64 0, .slice sa xs.length sc] (.int .i64 q) (.int .i64 0) (set3_rowD HD.out.res _ _ _) rfl rfl rfl rfl) rfl ?_
        exact dec_good HG.out (HD.out.done _ _ _).1 (HD.out.done _ _ _).2
      · have HG : Hid (decI b p = (insZ, 0, z)) := by have := HDa.out; rw [HRb.out, HQ.out, if_pos (by simpa using hz)] at this; exact this
        have hz1 : (z != 0) = true := by simp [hz]
        clear hz
        go_wp2_with fail
        clear y2
        have x0 := row_cell HD.out.box 0 rfl; have x1 := row_cell HD.out.box 1 rfl; have x2 := row_cell HD.out.box 2 rfl
        have y0 := row_cell HD.out.ri.row 0 rfl; have y1 := row_cell HD.out.ri.row 1 rfl; have y2 := row_cell HD.out.ri.row 2 rfl
        have g0 := row_cell HD.out.res 0 rfl; have g1 := row_cell HD.out.res 1 rfl; have g2 := row_cell HD.out.res 2 rfl
        have f0 := row_free HD.out.res 0; have f1 := row_free HD.out.res 1; have f2 := row_free HD.out.res 2
        simp only [List.getElem_toArray, List.getElem_cons_zero, List.getElem_cons_succ] at x0 x1 x2 y0 y1 y2 g0 g1 g2
        obtain ⟨n1, n2, n3⟩ := HD.out.ne
        go_wp2_with fail
        go_region
        go_wp2
        refine bodyPost_ret (dec_results w.heap.size #[.int .u8 0, .int .i64 0, .slice none 0 0] (.int .i64 0) (.int .i64 z) (set3_rowD HD.out.res _ _ _) rfl rfl rfl rfl) rfl ?_
        exact dec_bad HG.out (HD.out.done _ _ _).2
end Go.Proofs.YteaolgldkfjdkaaDoor
namespace Go.Proofs.YteaolgldkfjdkaaDoor
open Go Go.RowKit

set_option maxRecDepth 100000 in
set_option maxHeartbeats 12800000 in
theorem dec_8 (S) (w : World) (v : Value) (b : List Int) (p : Nat) (hb : Bytes b) (h : RdI .u8 S w v b) (hS : ∀ x, S x → x < w.heap.size) (ht : Tb w) (op : Nat) (hop : b[p]? = some (op : Int)) (hio : isOp op = true) (hk : takesP op = 8) :
    Calls Tryd.prog 66 #[v, .int .i64 p] w (DecP w b p) := by
  have hp : p < b.length := (List.getElem?_eq_some_iff.1 hop).1
  have hbo := hb (op : Int) (List.mem_of_getElem? hop)
  have ho : op < 256 := by omega
  have HDa := Lib.hid (dec_at hop hio)
  obtain ⟨va, vc, rfl, hlc⟩ := h.lenc
  have hlm : b.length ≤ 140737488355328 := by obtain ⟨_, _, _, _, hm, _⟩ := h; exact hm
  have HL := Lib.hid h; have HB := Lib.hid hb; have HT := Lib.hid ht; have HS := Lib.hid hS
  obtain ⟨bb, off, hva, _, hcell⟩ : ∃ bb off, va = some ⟨bb, off, none⟩ ∧ S bb ∧ w.cell? ⟨bb, off + p, none⟩ = some (.int .u8 (op : Int)) := by
    obtain ⟨a', c', e, _, _, h3⟩ := h
    simp only [Value.slice.injEq] at e
    obtain ⟨rfl, _, rfl⟩ := e
    obtain ⟨bb, off, e1, e2, e3⟩ := h3 p hp
    exact ⟨bb, off, e1, e2, by rw [e3, (List.getElem?_eq_some_iff.1 hop).2]⟩
  subst hva
  clear h hb ht hS hop
  have hbl := World.block_lt_of_cell? w _ hcell
  have hb0 := below_alloc w (.cells #[.int .u8 0, .int .i64 0, .slice none 0 0] 76)
  have hr0 := heap_alloc_new w (.cells #[.int .u8 0, .int .i64 0, .slice none 0 0] 76)
  have hc0 := cell_below hb0 hcell
  have e8 : IntKind.i64.wrap ((p : Int) + 1) = ((p + 1 : Nat) : Int) := by rw [IntWalk.i64_in _ ⟨by omega, by omega⟩]; push_cast; rfl
  have hpi : ((p : Int) == (b.length : Int)) = false := by rw [beq_eq_false_iff_ne]; omega
  go_enter Tryd.func66, Tryd.ntmps66
  go_wp2_with fail
  generalize w.alloc (.cells #[.int .u8 0, .int .i64 0, .slice none 0 0] 76) = w0 at *
  have HB0 := Lib.hid hb0; have HR0 := Lib.hid hr0; have HT0 := Lib.hid (HT.out.bel hb0); have HL0 := Lib.hid (HL.out.keeps (Keeps.all S hb0))
  clear hb0 hr0 hc0 HT HL
  refine (ops_Of _ op ho HT0.out).mono ?_
  rintro e w1 ⟨rfl, hb1⟩
  rw [irow_eq op hio, hio]
  have HB1 := Lib.hid (below_next HB0.out hb1)
  have HR1 := Lib.hid ((hb1.block _ (row_lt HR0.out)).trans HR0.out)
  have HL1 := Lib.hid (HL0.out.keeps (Keeps.all S hb1))
  have hs1 : w.heap.size < w1.heap.size := Nat.lt_of_lt_of_le (row_lt HR0.out) hb1.size
  clear hb1 HB0 HR0 HT0 HL0 hcell hio hbo
  have HBd := fun w' : World => instr_bounds w' op ho
  have HSg := fun w' p' v' b' (r' : IR) h' hb' => ri_signed S w' p' v' b' r' h' hb' op ho
  have HBd' := Lib.hid HBd; have HSg' := Lib.hid HSg; clear HBd HSg
  have HRb : Hid (rbodyI b (p + 1) op = (⟨op, (rsigI b ⟨p + 1, 0⟩ op).1, []⟩, (rsigI b ⟨p + 1, 0⟩ op).2)) := by show _ = _; rw [rbodyI, if_neg (by omega), if_pos hk]
  unfold irow at *
  generalize (progRow op).pops = pp at *
  generalize (progRow op).pushes = pu at *
  generalize (progRow op).plain = pl at *
  generalize wordP op = wd at *
  rw [hk] at HBd' HSg' ⊢
  have hI := below_alloc w1 (.cells #[.int .u8 op, .string ⟨wd.toArray⟩, .int .i8 8, .string ⟨pp.toArray⟩, .string ⟨pu.toArray⟩, .bool pl] 115)
  have hIr := heap_alloc_new w1 (.cells #[.int .u8 op, .string ⟨wd.toArray⟩, .int .i8 8, .string ⟨pp.toArray⟩, .string ⟨pu.toArray⟩, .bool pl] 115)
  obtain ⟨a, ha⟩ : ∃ a, (rsigI b ⟨p + 1, 0⟩ op).1 = a := ⟨_, rfl⟩
  obtain ⟨⟨q, z⟩, hr⟩ : ∃ r, (rsigI b ⟨p + 1, 0⟩ op).2 = r := ⟨_, rfl⟩
  have HA := Lib.hid ha; have HRr := Lib.hid hr
  rw [ha, hr] at HRb
  clear ha hr
  have hDe := de_laid S w w1 bb off b vc p op 0 HB1.out HR1.out HL1.out hs1 (by omega) HS.out (.cells #[.int .u8 op, .string ⟨wd.toArray⟩, .int .i8 8, .string ⟨pp.toArray⟩, .string ⟨pu.toArray⟩, .bool pl] 115)
  have HD := Lib.hid hDe
  clear hDe
  have hI3 := below_next (below_next hI (below_alloc _ (.cells #[.slice (some ⟨bb, off, none⟩) b.length vc, .int .i64 ((p : Int) + 1), .int .i64 0] 136))) (below_alloc _ (.cells #[.int .u8 op, .int .i64 0, .slice none 0 0] 76))
  have hI4 := (((below_alloc _ (.cells #[.slice (some ⟨bb, off, none⟩) b.length vc, .int .i64 ((p : Int) + 1), .int .i64 0] 136)).block _ (row_lt hIr)).trans hIr)
  have hI5 := (((below_alloc _ (.cells #[.int .u8 op, .int .i64 0, .slice none 0 0] 76)).block _ (row_lt hI4)).trans hI4)
  have i0 := row_cell hI5 0 rfl; have i1 := row_cell hI5 1 rfl; have i2 := row_cell hI5 2 rfl; have i3 := row_cell hI5 3 rfl; have i4 := row_cell hI5 4 rfl; have i5 := row_cell hI5 5 rfl
  simp only [List.getElem_toArray, List.getElem_cons_zero, List.getElem_cons_succ] at i0 i1 i2 i3 i4 i5
  clear hI3 hI4 hI5
  go_wp2_with fail
  generalize ((w1.alloc (.cells #[.int .u8 op, .string ⟨wd.toArray⟩, .int .i8 8, .string ⟨pp.toArray⟩, .string ⟨pu.toArray⟩, .bool pl] 115)).alloc (.cells #[.slice (some ⟨bb, off, none⟩) b.length vc, .int .i64 ((p : Int) + 1), .int .i64 0] 136)).alloc (.cells #[.int .u8 op, .int .i64 0, .slice none 0 0] 76) = W at *
  generalize hX : w1.heap.size + 1 + 1 = X at *
  generalize hP : w1.heap.size + 1 = P at *
  refine (HSg'.out _ P _ b ⟨p + 1, 0⟩ HD.out.ri HB.out).mono ?_
  rintro e w2 ⟨rfl, hri, hk2⟩
  rw [HA.out]
  rw [HRr.out] at hri
  have HD2 := Lib.hid (HD.out.num hk2 hri)
  clear hri hk2 HD hX hP i0 i1 i2 i3 i4 i5 HSg' HBd'
  have x1 := row_cell HD2.out.box 1 rfl
  have f1 := row_free HD2.out.box 1
  have y2 := row_cell (HD2.out.setA a).ri.row 2 rfl
  simp only [List.getElem_toArray, List.getElem_cons_zero, List.getElem_cons_succ] at x1 y2
  have HD := Lib.hid (HD2.out.setA a)
  clear HD2
  by_cases hz : z = 0
  · subst hz
    have HG : Hid (decI b p = (⟨op, a, []⟩, q, 0)) := by have := HDa.out; rw [HRb.out, if_neg (by simp)] at this; exact this
    go_wp2_with fail
    clear x1 f1 y2
    generalize w2.setCell ⟨X, 1, none⟩ (.int .i64 a) = W2 at *
    have x0 := row_cell HD.out.box 0 rfl; have x1 := row_cell HD.out.box 1 rfl; have x2 := row_cell HD.out.box 2 rfl
    have y0 := row_cell HD.out.ri.row 0 rfl; have y1 := row_cell HD.out.ri.row 1 rfl; have y2 := row_cell HD.out.ri.row 2 rfl
    have g0 := row_cell HD.out.res 0 rfl; have g1 := row_cell HD.out.res 1 rfl; have g2 := row_cell HD.out.res 2 rfl
    have f0 := row_free HD.out.res 0; have f1 := row_free HD.out.res 1; have f2 := row_free HD.out.res 2
    simp only [List.getElem_toArray, List.getElem_cons_zero, List.getElem_cons_succ] at x0 x1 x2 y0 y1 y2 g0 g1 g2
    obtain ⟨n1, n2, n3⟩ := HD.out.ne
    go_wp2_with fail
    go_region
    go_wp2
    refine bodyPost_ret (dec_results w.heap.size #[.int .u8 op, .int .i64 a, .slice none 0 0] (.int .i64 q) (.int .i64 0) (set3_rowD HD.out.res _ _ _) rfl rfl rfl rfl) rfl ?_
    exact dec_good HG.out (HD.out.done _ _ _).1 (HD.out.done _ _ _).2
  · have HG : Hid (decI b p = (insZ, 0, z)) := by have := HDa.out; rw [HRb.out, if_pos (by simpa using hz)] at this; exact this
    have hz1 : (z != 0) = true := by simp [hz]
    clear hz
    go_wp2_with fail
    clear x1 f1 y2
    generalize w2.setCell ⟨X, 1, none⟩ (.int .i64 a) = W2 at *
    have x0 := row_cell HD.out.box 0 rfl; have x1 := row_cell HD.out.box 1 rfl; have x2 := row_cell HD.out.box 2 rfl
    have y0 := row_cell HD.out.ri.row 0 rfl; have y1 := row_cell HD.out.ri.row 1 rfl; have y2 := row_cell HD.out.ri.row 2 rfl
    have g0 := row_cell HD.out.res 0 rfl; have g1 := row_cell HD.out.res 1 rfl; have g2 := row_cell HD.out.res 2 rfl
    have f0 := row_free HD.out.res 0; have f1 := row_free HD.out.res 1; have f2 := row_free HD.out.res 2
    simp only [List.getElem_toArray, List.getElem_cons_zero, List.getElem_cons_succ] at x0 x1 x2 y0 y1 y2 g0 g1 g2
    obtain ⟨n1, n2, n3⟩ := HD.out.ne
    go_wp2_with fail
    go_region
    go_wp2
    refine bodyPost_ret (dec_results w.heap.size #[.int .u8 0, .int .i64 0, .slice none 0 0] (.int .i64 0) (.int .i64 z) (set3_rowD HD.out.res _ _ _) rfl rfl rfl rfl) rfl ?_
    exact dec_bad HG.out (HD.out.done _ _ _).2
end Go.Proofs.YteaolgldkfjdkaaDoor
