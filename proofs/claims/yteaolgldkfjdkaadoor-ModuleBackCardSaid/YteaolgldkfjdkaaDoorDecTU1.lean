/- instr.Decode: numbers without a sign. -/
import Derived.Test.YteaolgldkfjdkaaDoorMHead0
namespace Go.Proofs.YteaolgldkfjdkaaDoor
open Go Go.RowKit

set_option maxRecDepth 100000 in
set_option maxHeartbeats 12800000 in
theorem dec_1 (S) (w : World) (v : Value) (b : List Int) (p : Nat) (hb : Bytes b) (h : RdI .u8 S w v b) (hS : ∀ x, S x → x < w.heap.size) (ht : Tb w) (op : Nat) (hop : b[p]? = some (op : Int)) (hio : isOp op = true) (hk : takesP op = 1) :
    Calls Tryd.prog 66 #[v, .int .i64 p] w (DecP w b p) := by
  have hp : p < b.length := (List.getElem?_eq_some_iff.1 hop).1
  have hbo := hb (op : Int) (List.mem_of_getElem? hop)
  have ho : op < 256 := by omega
  have HDa := Lib.hid (dec_at hop hio)
  obtain ⟨va, vc, rfl, hlc⟩ := h.lenc
  have hlm : b.length ≤ 140737488355328 := by obtain ⟨_, _, _, _, hm, _⟩ := h; exact hm
  have HL := Lib.hid h; have HB := Lib.hid hb; have HT := Lib.hid ht; have HS := Lib.hid hS
  obtain ⟨bb, off, hva, _, hcell⟩ : ∃ bb off, va = some ⟨bb, off, none⟩ ∧ S bb ∧ w.cell? ⟨bb, off + p, none⟩ = some (.int .u8 (op : Int)) := by
    obtain ⟨a', c', e, _, _, h3⟩ := h
    simp only [Value.slice.injEq] at e
    obtain ⟨rfl, _, rfl⟩ := e
    obtain ⟨bb, off, e1, e2, e3⟩ := h3 p hp
    exact ⟨bb, off, e1, e2, by rw [e3, (List.getElem?_eq_some_iff.1 hop).2]⟩
  subst hva
  clear h hb ht hS hop
  have hbl := World.block_lt_of_cell? w _ hcell
  have hb0 := below_alloc w (.cells #[.int .u8 0, .int .i64 0, .slice none 0 0] 76)
  have hr0 := heap_alloc_new w (.cells #[.int .u8 0, .int .i64 0, .slice none 0 0] 76)
  have hc0 := cell_below hb0 hcell
  have e8 : IntKind.i64.wrap ((p : Int) + 1) = ((p + 1 : Nat) : Int) := by rw [IntWalk.i64_in _ ⟨by omega, by omega⟩]; push_cast; rfl
  have hpi : ((p : Int) == (b.length : Int)) = false := by rw [beq_eq_false_iff_ne]; omega
  go_enter Tryd.func66, Tryd.ntmps66
  go_wp2_with fail
  generalize w.alloc (.cells #[.int .u8 0, .int .i64 0, .slice none 0 0] 76) = w0 at *
  have HB0 := Lib.hid hb0; have HR0 := Lib.hid hr0; have HT0 := Lib.hid (HT.out.bel hb0); have HL0 := Lib.hid (HL.out.keeps (Keeps.all S hb0))
  clear hb0 hr0 hc0 HT HL
  refine (ops_Of _ op ho HT0.out).mono ?_
  rintro e w1 ⟨rfl, hb1⟩
  rw [irow_eq op hio, hio]
  have HB1 := Lib.hid (below_next HB0.out hb1)
  have HR1 := Lib.hid ((hb1.block _ (row_lt HR0.out)).trans HR0.out)
  have HL1 := Lib.hid (HL0.out.keeps (Keeps.all S hb1))
  have hs1 : w.heap.size < w1.heap.size := Nat.lt_of_lt_of_le (row_lt HR0.out) hb1.size
  clear hb1 HB0 HR0 HT0 HL0 hcell hio hbo
  have HBd := fun w' : World => instr_bounds w' op ho
  have HSg := fun w' p' v' b' (r' : IR) h' hb' => ri_signed S w' p' v' b' r' h' hb' op ho
  have HBd' := Lib.hid HBd; have HSg' := Lib.hid HSg; clear HBd HSg
  have HRb : Hid (rbodyI b (p + 1) op = (⟨op, ((rnumI b ⟨p + 1, 0⟩ 0 (boundsI op).2.toNat).1 : Int), []⟩, (rnumI b ⟨p + 1, 0⟩ 0 (boundsI op).2.toNat).2)) := by show _ = _; rw [rbodyI, if_neg (by omega), if_neg (by omega), if_pos (by rw [hk]; rfl)]
  unfold irow at *
  generalize (progRow op).pops = pp at *
  generalize (progRow op).pushes = pu at *
  generalize (progRow op).plain = pl at *
  generalize wordP op = wd at *
  rw [hk] at HBd' HSg' ⊢
  have hI := below_alloc w1 (.cells #[.int .u8 op, .string ⟨wd.toArray⟩, .int .i8 1, .string ⟨pp.toArray⟩, .string ⟨pu.toArray⟩, .bool pl] 115)
  have hIr := heap_alloc_new w1 (.cells #[.int .u8 op, .string ⟨wd.toArray⟩, .int .i8 1, .string ⟨pp.toArray⟩, .string ⟨pu.toArray⟩, .bool pl] 115)
  have hbu := bounds_u (op := op) (by rw [hk]; rfl)
  generalize (boundsI op).1 = lo at *
  generalize (boundsI op).2 = hi' at *
  obtain ⟨most, hmo⟩ := Int.eq_ofNat_of_zero_le hbu.2.1
  subst hmo
  rw [Int.toNat_natCast] at HRb
  have hnl := rnumI_le b ⟨p + 1, 0⟩ 0 most
  have HNm := Lib.hid (fun w' h' => ri_number S w' (w1.heap.size + 1) (.slice (some ⟨bb, off, none⟩) b.length vc) b ⟨p + 1, 0⟩ h' HB.out 0 most 0 most rfl rfl)
  obtain ⟨a, ha⟩ : ∃ a, (rnumI b ⟨p + 1, 0⟩ 0 most).1 = a := ⟨_, rfl⟩
  obtain ⟨⟨q, z⟩, hr⟩ : ∃ r, (rnumI b ⟨p + 1, 0⟩ 0 most).2 = r := ⟨_, rfl⟩
  rw [ha, hr] at HRb HNm
  rw [ha] at hnl
  have hmw : IntKind.u64.wrap (most : Int) = (most : Int) := IntWalk.u64_in _ ⟨by omega, by omega⟩
  have haw : IntKind.i64.wrap (a : Int) = (a : Int) := IntWalk.i64_in _ ⟨by omega, by omega⟩
  clear ha hr hbu
  have hDe := de_laid S w w1 bb off b vc p op 0 HB1.out HR1.out HL1.out hs1 (by omega) HS.out (.cells #[.int .u8 op, .string ⟨wd.toArray⟩, .int .i8 1, .string ⟨pp.toArray⟩, .string ⟨pu.toArray⟩, .bool pl] 115)
  have HD := Lib.hid hDe
  clear hDe
  have hI3 := below_next (below_next hI (below_alloc _ (.cells #[.slice (some ⟨bb, off, none⟩) b.length vc, .int .i64 ((p : Int) + 1), .int .i64 0] 136))) (below_alloc _ (.cells #[.int .u8 op, .int .i64 0, .slice none 0 0] 76))
  have hI4 := (((below_alloc _ (.cells #[.slice (some ⟨bb, off, none⟩) b.length vc, .int .i64 ((p : Int) + 1), .int .i64 0] 136)).block _ (row_lt hIr)).trans hIr)
  have hI5 := (((below_alloc _ (.cells #[.int .u8 op, .int .i64 0, .slice none 0 0] 76)).block _ (row_lt hI4)).trans hI4)
  have i0 := row_cell hI5 0 rfl; have i1 := row_cell hI5 1 rfl; have i2 := row_cell hI5 2 rfl; have i3 := row_cell hI5 3 rfl; have i4 := row_cell hI5 4 rfl; have i5 := row_cell hI5 5 rfl
  simp only [List.getElem_toArray, List.getElem_cons_zero, List.getElem_cons_succ] at i0 i1 i2 i3 i4 i5
  clear hI3 hI4 hI5
  go_wp2_with fail
  generalize ((w1.alloc (.cells #[.int .u8 op, .string ⟨wd.toArray⟩, .int .i8 1, .string ⟨pp.toArray⟩, .string ⟨pu.toArray⟩, .bool pl] 115)).alloc (.cells #[.slice (some ⟨bb, off, none⟩) b.length vc, .int .i64 ((p : Int) + 1), .int .i64 0] 136)).alloc (.cells #[.int .u8 op, .int .i64 0, .slice none 0 0] 76) = W at *
  generalize hX : w1.heap.size + 1 + 1 = X at *
  generalize hP : w1.heap.size + 1 = P at *
  refine (HBd'.out _).mono ?_
  rintro e w2 ⟨rfl, hb2⟩
  have HD2 := Lib.hid (HD.out.on hb2)
  clear hb2 HD hX i0 i1 i2 i3 i4 i5 HSg' HBd'
  go_wp2_with fail
  refine (HNm.out _ HD2.out.ri).mono ?_
  rintro e w3 ⟨rfl, hri, hk3⟩
  have HD3 := Lib.hid (HD2.out.num hk3 hri)
  clear hri hk3 HD2 hP HNm
  have x1 := row_cell HD3.out.box 1 rfl
  have f1 := row_free HD3.out.box 1
  have y2 := row_cell (HD3.out.setA a).ri.row 2 rfl
  simp only [List.getElem_toArray, List.getElem_cons_zero, List.getElem_cons_succ] at x1 y2
  have HD := Lib.hid (HD3.out.setA a)
  clear HD3
  by_cases hz : z = 0
  · subst hz
    have HG : Hid (decI b p = (⟨op, a, []⟩, q, 0)) := by have := HDa.out; rw [HRb.out, if_neg (by simp)] at this; exact this
    go_wp2_with fail
    clear x1 f1 y2
    generalize w3.setCell ⟨X, 1, none⟩ (.int .i64 a) = W2 at *
    have x0 := row_cell HD.out.box 0 rfl; have x1 := row_cell HD.out.box 1 rfl; have x2 := row_cell HD.out.box 2 rfl
    have y0 := row_cell HD.out.ri.row 0 rfl; have y1 := row_cell HD.out.ri.row 1 rfl; have y2 := row_cell HD.out.ri.row 2 rfl
    have g0 := row_cell HD.out.res 0 rfl; have g1 := row_cell HD.out.res 1 rfl; have g2 := row_cell HD.out.res 2 rfl
    have f0 := row_free HD.out.res 0; have f1 := row_free HD.out.res 1; have f2 := row_free HD.out.res 2
    simp only [List.getElem_toArray, List.getElem_cons_zero, List.getElem_cons_succ] at x0 x1 x2 y0 y1 y2 g0 g1 g2
    obtain ⟨n1, n2, n3⟩ := HD.out.ne
    go_wp2_with fail
    go_region
    go_wp2
    refine bodyPost_ret (dec_results w.heap.size #[.int .u8 op, .int .i64 a, .slice none 0 0] (.int .i64 q) (.int .i64 0) (set3_rowD HD.out.res _ _ _) rfl rfl rfl rfl) rfl ?_
    exact dec_good HG.out (HD.out.done _ _ _).1 (HD.out.done _ _ _).2
  · have HG : Hid (decI b p = (insZ, 0, z)) := by have := HDa.out; rw [HRb.out, if_pos (by simpa using hz)] at this; exact this
    have hz1 : (z != 0) = true := by simp [hz]
    clear hz
    go_wp2_with fail
    clear x1 f1 y2
    generalize w3.setCell ⟨X, 1, none⟩ (.int .i64 a) = W2 at *
    have x0 := row_cell HD.out.box 0 rfl; have x1 := row_cell HD.out.box 1 rfl; have x2 := row_cell HD.out.box 2 rfl
    have y0 := row_cell HD.out.ri.row 0 rfl; have y1 := row_cell HD.out.ri.row 1 rfl; have y2 := row_cell HD.out.ri.row 2 rfl
    have g0 := row_cell HD.out.res 0 rfl; have g1 := row_cell HD.out.res 1 rfl; have g2 := row_cell HD.out.res 2 rfl
    have f0 := row_free HD.out.res 0; have f1 := row_free HD.out.res 1; have f2 := row_free HD.out.res 2
    simp only [List.getElem_toArray, List.getElem_cons_zero, List.getElem_cons_succ] at x0 x1 x2 y0 y1 y2 g0 g1 g2
    obtain ⟨n1, n2, n3⟩ := HD.out.ne
    go_wp2_with fail
    go_region
    go_wp2
    refine bodyPost_ret (dec_results w.heap.size #[.int .u8 0, .int .i64 0, .slice none 0 0] (.int .i64 0) (.int .i64 z) (set3_rowD HD.out.res _ _ _) rfl rfl rfl rfl) rfl ?_
    exact dec_bad HG.out (HD.out.done _ _ _).2
set_option maxRecDepth 100000 in
set_option maxHeartbeats 12800000 in
theorem dec_2 (S) (w : World) (v : Value) (b : List Int) (p : Nat) (hb : Bytes b) (h : RdI .u8 S w v b) (hS : ∀ x, S x → x < w.heap.size) (ht : Tb w) (op : Nat) (hop : b[p]? = some (op : Int)) (hio : isOp op = true) (hk : takesP op = 2) :
    Calls Tryd.prog 66 #[v, .int .i64 p] w (DecP w b p) := by
  have hp : p < b.length := (List.getElem?_eq_some_iff.1 hop).1
  have hbo := hb (op : Int) (List.mem_of_getElem? hop)
  have ho : op < 256 := by omega
  have HDa := Lib.hid (dec_at hop hio)
  obtain ⟨va, vc, rfl, hlc⟩ := h.lenc
  have hlm : b.length ≤ 140737488355328 := by obtain ⟨_, _, _, _, hm, _⟩ := h; exact hm
  have HL := Lib.hid h; have HB := Lib.hid hb; have HT := Lib.hid ht; have HS := Lib.hid hS
  obtain ⟨bb, off, hva, _, hcell⟩ : ∃ bb off, va = some ⟨bb, off, none⟩ ∧ S bb ∧ w.cell? ⟨bb, off + p, none⟩ = some (.int .u8 (op : Int)) := by
    obtain ⟨a', c', e, _, _, h3⟩ := h
    simp only [Value.slice.injEq] at e
    obtain ⟨rfl, _, rfl⟩ := e
    obtain ⟨bb, off, e1, e2, e3⟩ := h3 p hp
    exact ⟨bb, off, e1, e2, by rw [e3, (List.getElem?_eq_some_iff.1 hop).2]⟩
  subst hva
  clear h hb ht hS hop
  have hbl := World.block_lt_of_cell? w _ hcell
  have hb0 := below_alloc w (.cells #[.int .u8 0, .int .i64 0, .slice none 0 0] 76)
  have hr0 := heap_alloc_new w (.cells #[.int .u8 0, .int .i64 0, .slice none 0 0] 76)
  have hc0 := cell_below hb0 hcell
  have e8 : IntKind.i64.wrap ((p : Int) + 1) = ((p + 1 : Nat) : Int) := by rw [IntWalk.i64_in _ ⟨by omega, by omega⟩]; push_cast; rfl
  have hpi : ((p : Int) == (b.length : Int)) = false := by rw [beq_eq_false_iff_ne]; omega
  go_enter Tryd.func66, Tryd.ntmps66
  go_wp2_with fail
  generalize w.alloc (.cells #[.int .u8 0, .int .i64 0, .slice none 0 0] 76) = w0 at *
  have HB0 := Lib.hid hb0; have HR0 := Lib.hid hr0; have HT0 := Lib.hid (HT.out.bel hb0); have HL0 := Lib.hid (HL.out.keeps (Keeps.all S hb0))
  clear hb0 hr0 hc0 HT HL
  refine (ops_Of _ op ho HT0.out).mono ?_
  rintro e w1 ⟨rfl, hb1⟩
  rw [irow_eq op hio, hio]
  have HB1 := Lib.hid (below_next HB0.out hb1)
  have HR1 := Lib.hid ((hb1.block _ (row_lt HR0.out)).trans HR0.out)
  have HL1 := Lib.hid (HL0.out.keeps (Keeps.all S hb1))
  have hs1 : w.heap.size < w1.heap.size := Nat.lt_of_lt_of_le (row_lt HR0.out) hb1.size
  clear hb1 HB0 HR0 HT0 HL0 hcell hio hbo
  have HBd := fun w' : World => instr_bounds w' op ho
  have HSg := fun w' p' v' b' (r' : IR) h' hb' => ri_signed S w' p' v' b' r' h' hb' op ho
  have HBd' := Lib.hid HBd; have HSg' := Lib.hid HSg; clear HBd HSg
  have HRb : Hid (rbodyI b (p + 1) op = (⟨op, ((rnumI b ⟨p + 1, 0⟩ 0 (boundsI op).2.toNat).1 : Int), []⟩, (rnumI b ⟨p + 1, 0⟩ 0 (boundsI op).2.toNat).2)) := by show _ = _; rw [rbodyI, if_neg (by omega), if_neg (by omega), if_pos (by rw [hk]; rfl)]
  unfold irow at *
  generalize (progRow op).pops = pp at *
  generalize (progRow op).pushes = pu at *
  generalize (progRow op).plain = pl at *
  generalize wordP op = wd at *
  rw [hk] at HBd' HSg' ⊢
  have hI := below_alloc w1 (.cells #[.int .u8 op, .string ⟨wd.toArray⟩, .int .i8 2, .string ⟨pp.toArray⟩, .string ⟨pu.toArray⟩, .bool pl] 115)
  have hIr := heap_alloc_new w1 (.cells #[.int .u8 op, .string ⟨wd.toArray⟩, .int .i8 2, .string ⟨pp.toArray⟩, .string ⟨pu.toArray⟩, .bool pl] 115)
  have hbu := bounds_u (op := op) (by rw [hk]; rfl)
  generalize (boundsI op).1 = lo at *
  generalize (boundsI op).2 = hi' at *
  obtain ⟨most, hmo⟩ := Int.eq_ofNat_of_zero_le hbu.2.1
  subst hmo
  rw [Int.toNat_natCast] at HRb
  have hnl := rnumI_le b ⟨p + 1, 0⟩ 0 most
  have HNm := Lib.hid (fun w' h' => ri_number S w' (w1.heap.size + 1) (.slice (some ⟨bb, off, none⟩) b.length vc) b ⟨p + 1, 0⟩ h' HB.out 0 most 0 most rfl rfl)
  obtain ⟨a, ha⟩ : ∃ a, (rnumI b ⟨p + 1, 0⟩ 0 most).1 = a := ⟨_, rfl⟩
  obtain ⟨⟨q, z⟩, hr⟩ : ∃ r, (rnumI b ⟨p + 1, 0⟩ 0 most).2 = r := ⟨_, rfl⟩
  rw [ha, hr] at HRb HNm
  rw [ha] at hnl
  have hmw : IntKind.u64.wrap (most : Int) = (most : Int) := IntWalk.u64_in _ ⟨by omega, by omega⟩
  have haw : IntKind.i64.wrap (a : Int) = (a : Int) := IntWalk.i64_in _ ⟨by omega, by omega⟩
  clear ha hr hbu
  have hDe := de_laid S w w1 bb off b vc p op 0 HB1.out HR1.out HL1.out hs1 (by omega) HS.out (.cells #[.int .u8 op, .string ⟨wd.toArray⟩, .int .i8 2, .string ⟨pp.toArray⟩, .string ⟨pu.toArray⟩, .bool pl] 115)
  have HD := Lib.hid hDe
  clear hDe
  have hI3 := below_next (below_next hI (below_alloc _ (.cells #[.slice (some ⟨bb, off, none⟩) b.length vc, .int .i64 ((p : Int) + 1), .int .i64 0] 136))) (below_alloc _ (.cells #[.int .u8 op, .int .i64 0, .slice none 0 0] 76))
  have hI4 := (((below_alloc _ (.cells #[.slice (some ⟨bb, off, none⟩) b.length vc, .int .i64 ((p : Int) + 1), .int .i64 0] 136)).block _ (row_lt hIr)).trans hIr)
  have hI5 := (((below_alloc _ (.cells #[.int .u8 op, .int .i64 0, .slice none 0 0] 76)).block _ (row_lt hI4)).trans hI4)
  have i0 := row_cell hI5 0 rfl; have i1 := row_cell hI5 1 rfl; have i2 := row_cell hI5 2 rfl; have i3 := row_cell hI5 3 rfl; have i4 := row_cell hI5 4 rfl; have i5 := row_cell hI5 5 rfl
  simp only [List.getElem_toArray, List.getElem_cons_zero, List.getElem_cons_succ] at i0 i1 i2 i3 i4 i5
  clear hI3 hI4 hI5
  go_wp2_with fail
  generalize ((w1.alloc (.cells #[.int .u8 op, .string ⟨wd.toArray⟩, .int .i8 2, .string ⟨pp.toArray⟩, .string ⟨pu.toArray⟩, .bool pl] 115)).alloc (.cells #[.slice (some ⟨bb, off, none⟩) b.length vc, .int .i64 ((p : Int) + 1), .int .i64 0] 136)).alloc (.cells #[.int .u8 op, .int .i64 0, .slice none 0 0] 76) = W at *
  generalize hX : w1.heap.size + 1 + 1 = X at *
  generalize hP : w1.heap.size + 1 = P at *
  refine (HBd'.out _).mono ?_
  rintro e w2 ⟨rfl, hb2⟩
  have HD2 := Lib.hid (HD.out.on hb2)
  clear hb2 HD hX i0 i1 i2 i3 i4 i5 HSg' HBd'
  go_wp2_with fail
  refine (HNm.out _ HD2.out.ri).mono ?_
  rintro e w3 ⟨rfl, hri, hk3⟩
  have HD3 := Lib.hid (HD2.out.num hk3 hri)
  clear hri hk3 HD2 hP HNm
  have x1 := row_cell HD3.out.box 1 rfl
  have f1 := row_free HD3.out.box 1
  have y2 := row_cell (HD3.out.setA a).ri.row 2 rfl
  simp only [List.getElem_toArray, List.getElem_cons_zero, List.getElem_cons_succ] at x1 y2
  have HD := Lib.hid (HD3.out.setA a)
  clear HD3
  by_cases hz : z = 0
  · subst hz
    have HG : Hid (decI b p = (⟨op, a, []⟩, q, 0)) := by have := HDa.out; rw [HRb.out, if_neg (by simp)] at this; exact this
    go_wp2_with fail
    clear x1 f1 y2
    generalize w3.setCell ⟨X, 1, none⟩ (.int .i64 a) = W2 at *
    have x0 := row_cell HD.out.box 0 rfl; have x1 := row_cell HD.out.box 1 rfl; have x2 := row_cell HD.out.box 2 rfl
    have y0 := row_cell HD.out.ri.row 0 rfl; have y1 := row_cell HD.out.ri.row 1 rfl; have y2 := row_cell HD.out.ri.row 2 rfl
    have g0 := row_cell HD.out.res 0 rfl; have g1 := row_cell HD.out.res 1 rfl; have g2 := row_cell HD.out.res 2 rfl
    have f0 := row_free HD.out.res 0; have f1 := row_free HD.out.res 1; have f2 := row_free HD.out.res 2
    simp only [List.getElem_toArray, List.getElem_cons_zero, List.getElem_cons_succ] at x0 x1 x2 y0 y1 y2 g0 g1 g2
    obtain ⟨n1, n2, n3⟩ := HD.out.ne
    go_wp2_with fail
    go_region
    go_wp2
    refine bodyPost_ret (dec_results w.heap.size #[.int .u8 op, .int .i64 a, .slice none 0 0] (.int .i64 q) (.int .i64 0) (set3_rowD HD.out.res _ _ _) rfl rfl rfl rfl) rfl ?_
    exact dec_good HG.out (HD.out.done _ _ _).1 (HD.out.done _ _ _).2
  · have HG : Hid (decI b p = (insZ, 0, z)) := by have := HDa.out; rw [HRb.out, if_pos (by simpa using hz)] at this; exact this
    have hz1 : (z != 0) = true := by simp [hz]
    clear hz
    go_wp2_with fail
    clear x1 f1 y2
    generalize w3.setCell ⟨X, 1, none⟩ (.int .i64 a) = W2 at *
    have x0 := row_cell HD.out.box 0 rfl; have x1 := row_cell HD.out.box 1 rfl; have x2 := row_cell HD.out.box 2 rfl
    have y0 := row_cell HD.out.ri.row 0 rfl; have y1 := row_cell HD.out.ri.row 1 rfl; have y2 := row_cell HD.out.ri.row 2 rfl
    have g0 := row_cell HD.out.res 0 rfl; have g1 := row_cell HD.out.res 1 rfl; have g2 := row_cell HD.out.res 2 rfl
    have f0 := row_free HD.out.res 0; have f1 := row_free HD.out.res 1; have f2 := row_free HD.out.res 2
    simp only [List.getElem_toArray, List.getElem_cons_zero, List.getElem_cons_succ] at x0 x1 x2 y0 y1 y2 g0 g1 g2
    obtain ⟨n1, n2, n3⟩ := HD.out.ne
    go_wp2_with fail
    go_region
    go_wp2
    refine bodyPost_ret (dec_results w.heap.size #[.int .u8 0, .int .i64 0, .slice none 0 0] (.int .i64 0) (.int .i64 z) (set3_rowD HD.out.res _ _ _) rfl rfl rfl rfl) rfl ?_
    exact dec_bad HG.out (HD.out.done _ _ _).2
set_option maxRecDepth 100000 in
set_option maxHeartbeats 12800000 in
theorem dec_4 (S) (w : World) (v : Value) (b : List Int) (p : Nat) (hb : Bytes b) (h : RdI .u8 S w v b) (hS : ∀ x, S x → x < w.heap.size) (ht : Tb w) (op : Nat) (hop : b[p]? = some (op : Int)) (hio : isOp op = true) (hk : takesP op = 4) :
    Calls Tryd.prog 66 #[v, .int .i64 p] w (DecP w b p) := by
  have hp : p < b.length := (List.getElem?_eq_some_iff.1 hop).1
  have hbo := hb (op : Int) (List.mem_of_getElem? hop)
  have ho : op < 256 := by omega
  have HDa := Lib.hid (dec_at hop hio)
  obtain ⟨va, vc, rfl, hlc⟩ := h.lenc
  have hlm : b.length ≤ 140737488355328 := by obtain ⟨_, _, _, _, hm, _⟩ := h; exact hm
  have HL := Lib.hid h; have HB := Lib.hid hb; have HT := Lib.hid ht; have HS := Lib.hid hS
  obtain ⟨bb, off, hva, _, hcell⟩ : ∃ bb off, va = some ⟨bb, off, none⟩ ∧ S bb ∧ w.cell? ⟨bb, off + p, none⟩ = some (.int .u8 (op : Int)) := by
    obtain ⟨a', c', e, _, _, h3⟩ := h
    simp only [Value.slice.injEq] at e
    obtain ⟨rfl, _, rfl⟩ := e
    obtain ⟨bb, off, e1, e2, e3⟩ := h3 p hp
    exact ⟨bb, off, e1, e2, by rw [e3, (List.getElem?_eq_some_iff.1 hop).2]⟩
  subst hva
  clear h hb ht hS hop
  have hbl := World.block_lt_of_cell? w _ hcell
  have hb0 := below_alloc w (.cells #[.int .u8 0, .int .i64 0, .slice none 0 0] 76)
  have hr0 := heap_alloc_new w (.cells #[.int .u8 0, .int .i64 0, .slice none 0 0] 76)
  have hc0 := cell_below hb0 hcell
  have e8 : IntKind.i64.wrap ((p : Int) + 1) = ((p + 1 : Nat) : Int) := by rw [IntWalk.i64_in _ ⟨by omega, by omega⟩]; push_cast; rfl
  have hpi : ((p : Int) == (b.length : Int)) = false := by rw [beq_eq_false_iff_ne]; omega
  go_enter Tryd.func66, Tryd.ntmps66
  go_wp2_with fail
  generalize w.alloc (.cells #[.int .u8 0, .int .i64 0, .slice none 0 0] 76) = w0 at *
  have HB0 := Lib.hid hb0; have HR0 := Lib.hid hr0; have HT0 := Lib.hid (HT.out.bel hb0); have HL0 := Lib.hid (HL.out.keeps (Keeps.all S hb0))
  clear hb0 hr0 hc0 HT HL
  refine (ops_Of _ op ho HT0.out).mono ?_
  rintro e w1 ⟨rfl, hb1⟩
  rw [irow_eq op hio, hio]
  have HB1 := Lib.hid (below_next HB0.out hb1)
  have HR1 := Lib.hid ((hb1.block _ (row_lt HR0.out)).trans HR0.out)
  have HL1 := Lib.hid (HL0.out.keeps (Keeps.all S hb1))
  have hs1 : w.heap.size < w1.heap.size := Nat.lt_of_lt_of_le (row_lt HR0.out) hb1.size
  clear hb1 HB0 HR0 HT0 HL0 hcell hio hbo
  have HBd := fun w' : World => instr_bounds w' op ho
  have HSg := fun w' p' v' b' (r' : IR) h' hb' => ri_signed S w' p' v' b' r' h' hb' op ho
  have HBd' := Lib.hid HBd; have HSg' := Lib.hid HSg; clear HBd HSg
  have HRb : Hid (rbodyI b (p + 1) op = (⟨op, ((rnumI b ⟨p + 1, 0⟩ 0 (boundsI op).2.toNat).1 : Int), []⟩, (rnumI b ⟨p + 1, 0⟩ 0 (boundsI op).2.toNat).2)) := by show _ = _; rw [rbodyI, if_neg (by omega), if_neg (by omega), if_pos (by rw [hk]; rfl)]
  unfold irow at *
  generalize (progRow op).pops = pp at *
  generalize (progRow op).pushes = pu at *
  generalize (progRow op).plain = pl at *
  generalize wordP op = wd at *
  rw [hk] at HBd' HSg' ⊢
  have hI := below_alloc w1 (.cells #[.int .u8 op, .string ⟨wd.toArray⟩, .int .i8 4, .string ⟨pp.toArray⟩, .string ⟨pu.toArray⟩, .bool pl] 115)
  have hIr := heap_alloc_new w1 (.cells #[.int .u8 op, .string ⟨wd.toArray⟩, .int .i8 4, .string ⟨pp.toArray⟩, .string ⟨pu.toArray⟩, .bool pl] 115)
  have hbu := bounds_u (op := op) (by rw [hk]; rfl)
  generalize (boundsI op).1 = lo at *
  generalize (boundsI op).2 = hi' at *
  obtain ⟨most, hmo⟩ := Int.eq_ofNat_of_zero_le hbu.2.1
  subst hmo
  rw [Int.toNat_natCast] at HRb
  have hnl := rnumI_le b ⟨p + 1, 0⟩ 0 most
  have HNm := Lib.hid (fun w' h' => ri_number S w' (w1.heap.size + 1) (.slice (some ⟨bb, off, none⟩) b.length vc) b ⟨p + 1, 0⟩ h' HB.out 0 most 0 most rfl rfl)
  obtain ⟨a, ha⟩ : ∃ a, (rnumI b ⟨p + 1, 0⟩ 0 most).1 = a := ⟨_, rfl⟩
  obtain ⟨⟨q, z⟩, hr⟩ : ∃ r, (rnumI b ⟨p + 1, 0⟩ 0 most).2 = r := ⟨_, rfl⟩
  rw [ha, hr] at HRb HNm
  rw [ha] at hnl
  have hmw : IntKind.u64.wrap (most : Int) = (most : Int) := IntWalk.u64_in _ ⟨by omega, by omega⟩
  have haw : IntKind.i64.wrap (a : Int) = (a : Int) := IntWalk.i64_in _ ⟨by omega, by omega⟩
  clear ha hr hbu
  have hDe := de_laid S w w1 bb off b vc p op 0 HB1.out HR1.out HL1.out hs1 (by omega) HS.out (.cells #[.int .u8 op, .string ⟨wd.toArray⟩, .int .i8 4, .string ⟨pp.toArray⟩, .string ⟨pu.toArray⟩, .bool pl] 115)
  have HD := Lib.hid hDe
  clear hDe
  have hI3 := below_next (below_next hI (below_alloc _ (.cells #[.slice (some ⟨bb, off, none⟩) b.length vc, .int .i64 ((p : Int) + 1), .int .i64 0] 136))) (below_alloc _ (.cells #[.int .u8 op, .int .i64 0, .slice none 0 0] 76))
  have hI4 := (((below_alloc _ (.cells #[.slice (some ⟨bb, off, none⟩) b.length vc, .int .i64 ((p : Int) + 1), .int .i64 0] 136)).block _ (row_lt hIr)).trans hIr)
  have hI5 := (((below_alloc _ (.cells #[.int .u8 op, .int .i64 0, .slice none 0 0] 76)).block _ (row_lt hI4)).trans hI4)
  have i0 := row_cell hI5 0 rfl; have i1 := row_cell hI5 1 rfl; have i2 := row_cell hI5 2 rfl; have i3 := row_cell hI5 3 rfl; have i4 := row_cell hI5 4 rfl; have i5 := row_cell hI5 5 rfl
  simp only [List.getElem_toArray, List.getElem_cons_zero, List.getElem_cons_succ] at i0 i1 i2 i3 i4 i5
  clear hI3 hI4 hI5
  go_wp2_with fail
  generalize ((w1.alloc (.cells #[.int .u8 op, .string ⟨wd.toArray⟩, .int .i8 4, .string ⟨pp.toArray⟩, .string ⟨pu.toArray⟩, .bool pl] 115)).alloc (.cells #[.slice (some ⟨bb, off, none⟩) b.length vc, .int .i64 ((p : Int) + 1), .int .i64 0] 136)).alloc (.cells #[.int .u8 op, .int .i64 0, .slice none 0 0] 76) = W at *
  generalize hX : w1.heap.size + 1 + 1 = X at *
  generalize hP : w1.heap.size + 1 = P at *
  refine (HBd'.out _).mono ?_
  rintro e w2 ⟨rfl, hb2⟩
  have HD2 := Lib.hid (HD.out.on hb2)
  clear hb2 HD hX i0 i1 i2 i3 i4 i5 HSg' HBd'
  go_wp2_with fail
  refine (HNm.out _ HD2.out.ri).mono ?_
  rintro e w3 ⟨rfl, hri, hk3⟩
  have HD3 := Lib.hid (HD2.out.num hk3 hri)
  clear hri hk3 HD2 hP HNm
  have x1 := row_cell HD3.out.box 1 rfl
  have f1 := row_free HD3.out.box 1
  have y2 := row_cell (HD3.out.setA a).ri.row 2 rfl
  simp only [List.getElem_toArray, List.getElem_cons_zero, List.getElem_cons_succ] at x1 y2
  have HD := Lib.hid (HD3.out.setA a)
  clear HD3
  by_cases hz : z = 0
  · subst hz
    have HG : Hid (decI b p = (⟨op, a, []⟩, q, 0)) := by have := HDa.out; rw [HRb.out, if_neg (by simp)] at this; exact this
    go_wp2_with fail
    clear x1 f1 y2
    generalize w3.setCell ⟨X, 1, none⟩ (.int .i64 a) = W2 at *
    have x0 := row_cell HD.out.box 0 rfl; have x1 := row_cell HD.out.box 1 rfl; have x2 := row_cell HD.out.box 2 rfl
    have y0 := row_cell HD.out.ri.row 0 rfl; have y1 := row_cell HD.out.ri.row 1 rfl; have y2 := row_cell HD.out.ri.row 2 rfl
    have g0 := row_cell HD.out.res 0 rfl; have g1 := row_cell HD.out.res 1 rfl; have g2 := row_cell HD.out.res 2 rfl
    have f0 := row_free HD.out.res 0; have f1 := row_free HD.out.res 1; have f2 := row_free HD.out.res 2
    simp only [List.getElem_toArray, List.getElem_cons_zero, List.getElem_cons_succ] at x0 x1 x2 y0 y1 y2 g0 g1 g2
    obtain ⟨n1, n2, n3⟩ := HD.out.ne
    go_wp2_with fail
    go_region
    go_wp2
    refine bodyPost_ret (dec_results w.heap.size #[.int .u8 op, .int .i64 a, .slice none 0 0] (.int .i64 q) (.int .i64 0) (set3_rowD HD.out.res _ _ _) rfl rfl rfl rfl) rfl ?_
    exact dec_good HG.out (HD.out.done _ _ _).1 (HD.out.done _ _ _).2
  · have HG : Hid (decI b p = (insZ, 0, z)) := by have := HDa.out; rw [HRb.out, if_pos (by simpa using hz)] at this; exact this
    have hz1 : (z != 0) = true := by simp [hz]
    clear hz
    go_wp2_with fail
    clear x1 f1 y2
    generalize w3.setCell ⟨X, 1, none⟩ (.int .i64 a) = W2 at *
    have x0 := row_cell HD.out.box 0 rfl; have x1 := row_cell HD.out.box 1 rfl; have x2 := row_cell HD.out.box 2 rfl
    have y0 := row_cell HD.out.ri.row 0 rfl; have y1 := row_cell HD.out.ri.row 1 rfl; have y2 := row_cell HD.out.ri.row 2 rfl
    have g0 := row_cell HD.out.res 0 rfl; have g1 := row_cell HD.out.res 1 rfl; have g2 := row_cell HD.out.res 2 rfl
    have f0 := row_free HD.out.res 0; have f1 := row_free HD.out.res 1; have f2 := row_free HD.out.res 2
    simp only [List.getElem_toArray, List.getElem_cons_zero, List.getElem_cons_succ] at x0 x1 x2 y0 y1 y2 g0 g1 g2
    obtain ⟨n1, n2, n3⟩ := HD.out.ne
    go_wp2_with fail
    go_region
    go_wp2
    refine bodyPost_ret (dec_results w.heap.size #[.int .u8 0, .int .i64 0, .slice none 0 0] (.int .i64 0) (.int .i64 z) (set3_rowD HD.out.res _ _ _) rfl rfl rfl rfl) rfl ?_
    exact dec_bad HG.out (HD.out.done _ _ _).2
set_option maxRecDepth 100000 in
set_option maxHeartbeats 12800000 in
theorem dec_5 (S) (w : World) (v : Value) (b : List Int) (p : Nat) (hb : Bytes b) (h : RdI .u8 S w v b) (hS : ∀ x, S x → x < w.heap.size) (ht : Tb w) (op : Nat) (hop : b[p]? = some (op : Int)) (hio : isOp op = true) (hk : takesP op = 5) :
    Calls Tryd.prog 66 #[v, .int .i64 p] w (DecP w b p) := by
  have hp : p < b.length := (List.getElem?_eq_some_iff.1 hop).1
  have hbo := hb (op : Int) (List.mem_of_getElem? hop)
  have ho : op < 256 := by omega
  have HDa := Lib.hid (dec_at hop hio)
  obtain ⟨va, vc, rfl, hlc⟩ := h.lenc
  have hlm : b.length ≤ 140737488355328 := by obtain ⟨_, _, _, _, hm, _⟩ := h; exact hm
  have HL := Lib.hid h; have HB := Lib.hid hb; have HT := Lib.hid ht; have HS := Lib.hid hS
  obtain ⟨bb, off, hva, _, hcell⟩ : ∃ bb off, va = some ⟨bb, off, none⟩ ∧ S bb ∧ w.cell? ⟨bb, off + p, none⟩ = some (.int .u8 (op : Int)) := by
    obtain ⟨a', c', e, _, _, h3⟩ := h
    simp only [Value.slice.injEq] at e
    obtain ⟨rfl, _, rfl⟩ := e
    obtain ⟨bb, off, e1, e2, e3⟩ := h3 p hp
    exact ⟨bb, off, e1, e2, by rw [e3, (List.getElem?_eq_some_iff.1 hop).2]⟩
  subst hva
  clear h hb ht hS hop
  have hbl := World.block_lt_of_cell? w _ hcell
  have hb0 := below_alloc w (.cells #[.int .u8 0, .int .i64 0, .slice none 0 0] 76)
  have hr0 := heap_alloc_new w (.cells #[.int .u8 0, .int .i64 0, .slice none 0 0] 76)
  have hc0 := cell_below hb0 hcell
  have e8 : IntKind.i64.wrap ((p : Int) + 1) = ((p + 1 : Nat) : Int) := by rw [IntWalk.i64_in _ ⟨by omega, by omega⟩]; push_cast; rfl
  have hpi : ((p : Int) == (b.length : Int)) = false := by rw [beq_eq_false_iff_ne]; omega
  go_enter Tryd.func66, Tryd.ntmps66
  go_wp2_with fail
  generalize w.alloc (.cells #[.int .u8 0, .int .i64 0, .slice none 0 0] 76) = w0 at *
  have HB0 := Lib.hid hb0; have HR0 := Lib.hid hr0; have HT0 := Lib.hid (HT.out.bel hb0); have HL0 := Lib.hid (HL.out.keeps (Keeps.all S hb0))
  clear hb0 hr0 hc0 HT HL
  refine (ops_Of _ op ho HT0.out).mono ?_
  rintro e w1 ⟨rfl, hb1⟩
  rw [irow_eq op hio, hio]
  have HB1 := Lib.hid (below_next HB0.out hb1)
  have HR1 := Lib.hid ((hb1.block _ (row_lt HR0.out)).trans HR0.out)
  have HL1 := Lib.hid (HL0.out.keeps (Keeps.all S hb1))
  have hs1 : w.heap.size < w1.heap.size := Nat.lt_of_lt_of_le (row_lt HR0.out) hb1.size
  clear hb1 HB0 HR0 HT0 HL0 hcell hio hbo
  have HBd := fun w' : World => instr_bounds w' op ho
  have HSg := fun w' p' v' b' (r' : IR) h' hb' => ri_signed S w' p' v' b' r' h' hb' op ho
  have HBd' := Lib.hid HBd; have HSg' := Lib.hid HSg; clear HBd HSg
  have HRb : Hid (rbodyI b (p + 1) op = (⟨op, ((rnumI b ⟨p + 1, 0⟩ 0 (boundsI op).2.toNat).1 : Int), []⟩, (rnumI b ⟨p + 1, 0⟩ 0 (boundsI op).2.toNat).2)) := by show _ = _; rw [rbodyI, if_neg (by omega), if_neg (by omega), if_pos (by rw [hk]; rfl)]
  unfold irow at *
  generalize (progRow op).pops = pp at *
  generalize (progRow op).pushes = pu at *
  generalize (progRow op).plain = pl at *
  generalize wordP op = wd at *
  rw [hk] at HBd' HSg' ⊢
  have hI := below_alloc w1 (.cells #[.int .u8 op, .string ⟨wd.toArray⟩, .int .i8 5, .string ⟨pp.toArray⟩, .string ⟨pu.toArray⟩, .bool pl] 115)
  have hIr := heap_alloc_new w1 (.cells #[.int .u8 op, .string ⟨wd.toArray⟩, .int .i8 5, .string ⟨pp.toArray⟩, .string ⟨pu.toArray⟩, .bool pl] 115)
  have hbu := bounds_u (op := op) (by rw [hk]; rfl)
  generalize (boundsI op).1 = lo at *
  generalize (boundsI op).2 = hi' at *
  obtain ⟨most, hmo⟩ := Int.eq_ofNat_of_zero_le hbu.2.1
  subst hmo
  rw [Int.toNat_natCast] at HRb
  have hnl := rnumI_le b ⟨p + 1, 0⟩ 0 most
  have HNm := Lib.hid (fun w' h' => ri_number S w' (w1.heap.size + 1) (.slice (some ⟨bb, off, none⟩) b.length vc) b ⟨p + 1, 0⟩ h' HB.out 0 most 0 most rfl rfl)
  obtain ⟨a, ha⟩ : ∃ a, (rnumI b ⟨p + 1, 0⟩ 0 most).1 = a := ⟨_, rfl⟩
  obtain ⟨⟨q, z⟩, hr⟩ : ∃ r, (rnumI b ⟨p + 1, 0⟩ 0 most).2 = r := ⟨_, rfl⟩
  rw [ha, hr] at HRb HNm
  rw [ha] at hnl
  have hmw : IntKind.u64.wrap (most : Int) = (most : Int) := IntWalk.u64_in _ ⟨by omega, by omega⟩
  have haw : IntKind.i64.wrap (a : Int) = (a : Int) := IntWalk.i64_in _ ⟨by omega, by omega⟩
  clear ha hr hbu
  have hDe := de_laid S w w1 bb off b vc p op 0 HB1.out HR1.out HL1.out hs1 (by omega) HS.out (.cells #[.int .u8 op, .string ⟨wd.toArray⟩, .int .i8 5, .string ⟨pp.toArray⟩, .string ⟨pu.toArray⟩, .bool pl] 115)
  have HD := Lib.hid hDe
  clear hDe
  have hI3 := below_next (below_next hI (below_alloc _ (.cells #[.slice (some ⟨bb, off, none⟩) b.length vc, .int .i64 ((p : Int) + 1), .int .i64 0] 136))) (below_alloc _ (.cells #[.int .u8 op, .int .i64 0, .slice none 0 0] 76))
  have hI4 := (((below_alloc _ (.cells #[.slice (some ⟨bb, off, none⟩) b.length vc, .int .i64 ((p : Int) + 1), .int .i64 0] 136)).block _ (row_lt hIr)).trans hIr)
  have hI5 := (((below_alloc _ (.cells #[.int .u8 op, .int .i64 0, .slice none 0 0] 76)).block _ (row_lt hI4)).trans hI4)
  have i0 := row_cell hI5 0 rfl; have i1 := row_cell hI5 1 rfl; have i2 := row_cell hI5 2 rfl; have i3 := row_cell hI5 3 rfl; have i4 := row_cell hI5 4 rfl; have i5 := row_cell hI5 5 rfl
  simp only [List.getElem_toArray, List.getElem_cons_zero, List.getElem_cons_succ] at i0 i1 i2 i3 i4 i5
  clear hI3 hI4 hI5
  go_wp2_with fail
  generalize ((w1.alloc (.cells #[.int .u8 op, .string ⟨wd.toArray⟩, .int .i8 5, .string ⟨pp.toArray⟩, .string ⟨pu.toArray⟩, .bool pl] 115)).alloc (.cells #[.slice (some ⟨bb, off, none⟩) b.length vc, .int .i64 ((p : Int) + 1), .int .i64 0] 136)).alloc (.cells #[.int .u8 op, .int .i64 0, .slice none 0 0] 76) = W at *
  generalize hX : w1.heap.size + 1 + 1 = X at *
  generalize hP : w1.heap.size + 1 = P at *
  refine (HBd'.out _).mono ?_
  rintro e w2 ⟨rfl, hb2⟩
  have HD2 := Lib.hid (HD.out.on hb2)
  clear hb2 HD hX i0 i1 i2 i3 i4 i5 HSg' HBd'
  go_wp2_with fail
  refine (HNm.out _ HD2.out.ri).mono ?_
  rintro e w3 ⟨rfl, hri, hk3⟩
  have HD3 := Lib.hid (HD2.out.num hk3 hri)
  clear hri hk3 HD2 hP HNm
  have x1 := row_cell HD3.out.box 1 rfl
  have f1 := row_free HD3.out.box 1
  have y2 := row_cell (HD3.out.setA a).ri.row 2 rfl
  simp only [List.getElem_toArray, List.getElem_cons_zero, List.getElem_cons_succ] at x1 y2
  have HD := Lib.hid (HD3.out.setA a)
  clear HD3
  by_cases hz : z = 0
  · subst hz
    have HG : Hid (decI b p = (⟨op, a, []⟩, q, 0)) := by have := HDa.out; rw [HRb.out, if_neg (by simp)] at this; exact this
    go_wp2_with fail
    clear x1 f1 y2
    generalize w3.setCell ⟨X, 1, none⟩ (.int .i64 a) = W2 at *
    have x0 := row_cell HD.out.box 0 rfl; have x1 := row_cell HD.out.box 1 rfl; have x2 := row_cell HD.out.box 2 rfl
    have y0 := row_cell HD.out.ri.row 0 rfl; have y1 := row_cell HD.out.ri.row 1 rfl; have y2 := row_cell HD.out.ri.row 2 rfl
    have g0 := row_cell HD.out.res 0 rfl; have g1 := row_cell HD.out.res 1 rfl; have g2 := row_cell HD.out.res 2 rfl
    have f0 := row_free HD.out.res 0; have f1 := row_free HD.out.res 1; have f2 := row_free HD.out.res 2
    simp only [List.getElem_toArray, List.getElem_cons_zero, List.getElem_cons_succ] at x0 x1 x2 y0 y1 y2 g0 g1 g2
    obtain ⟨n1, n2, n3⟩ := HD.out.ne
    go_wp2_with fail
    go_region
    go_wp2
    refine bodyPost_ret (dec_results w.heap.size #[.int .u8 op, .int .i64 a, .slice none 0 0] (.int .i64 q) (.int .i64 0) (set3_rowD HD.out.res _ _ _) rfl rfl rfl rfl) rfl ?_
    exact dec_good HG.out (HD.out.done _ _ _).1 (HD.out.done _ _ _).2
  · have HG : Hid (decI b p = (insZ, 0, z)) := by have := HDa.out; rw [HRb.out, if_pos (by simpa using hz)] at this; exact this
    have hz1 : (z != 0) = true := by simp [hz]
    clear hz
    go_wp2_with fail
    clear x1 f1 y2
    generalize w3.setCell ⟨X, 1, none⟩ (.int .i64 a) = W2 at *
    have x0 := row_cell HD.out.box 0 rfl; have x1 := row_cell HD.out.box 1 rfl; have x2 := row_cell HD.out.box 2 rfl
    have y0 := row_cell HD.out.ri.row 0 rfl; have y1 := row_cell HD.out.ri.row 1 rfl; have y2 := row_cell HD.out.ri.row 2 rfl
    have g0 := row_cell HD.out.res 0 rfl; have g1 := row_cell HD.out.res 1 rfl; have g2 := row_cell HD.out.res 2 rfl
    have f0 := row_free HD.out.res 0; have f1 := row_free HD.out.res 1; have f2 := row_free HD.out.res 2
    simp only [List.getElem_toArray, List.getElem_cons_zero, List.getElem_cons_succ] at x0 x1 x2 y0 y1 y2 g0 g1 g2
    obtain ⟨n1, n2, n3⟩ := HD.out.ne
    go_wp2_with fail
    go_region
    go_wp2
    refine bodyPost_ret (dec_results w.heap.size #[.int .u8 0, .int .i64 0, .slice none 0 0] (.int .i64 0) (.int .i64 z) (set3_rowD HD.out.res _ _ _) rfl rfl rfl rfl) rfl ?_
    exact dec_bad HG.out (HD.out.done _ _ _).2
end Go.Proofs.YteaolgldkfjdkaaDoor
