/- instr.Decode, whole. -/
import Derived.Test.YtmlniifdipeboaaDoorDecT0
import Derived.Test.YtmlniifdipeboaaDoorDecT3
import Derived.Test.YtmlniifdipeboaaDoorDecT8
import Derived.Test.YtmlniifdipeboaaDoorDecTU1
import Derived.Test.YtmlniifdipeboaaDoorDecTU2
namespace Go.Proofs.YtmlniifdipeboaaDoor
open Go Go.RowKit

theorem row_noneI (op : Nat) (h : isOp op = false) : (rowVal op).toArray = #[.int .u8 0, .string ⟨#[]⟩, .int .i8 0, .string ⟨#[]⟩, .string ⟨#[]⟩, .bool false] := by
  rw [rowVal, if_neg (by simp [h])]; rfl
set_option maxRecDepth 100000 in
set_option maxHeartbeats 3200000 in
theorem dec_neg (w : World) (va : Option Addr) (vc : Nat) (b : List Int) (p : Int) (hp : p < 0) :
    Calls Tryd.prog 45 #[.slice va b.length vc, .int .i64 p] w (DecP w b p) := by
  have HG : Hid (decI b p = (insZ, 0, 1)) := by show _ = _; rw [decI, if_pos (.inl hp)]
  go_enter Tryd.func45, Tryd.ntmps45
  go_wp2
  refine bodyPost_ret (dec_results w.heap.size #[.int .u8 0, .int .i64 0, .slice none 0 0] (.int .i64 0) (.int .i64 1) (heap_alloc_new _ _) rfl rfl rfl rfl) rfl ?_
  exact dec_bad HG.out (below_alloc _ _)
set_option maxRecDepth 100000 in
set_option maxHeartbeats 3200000 in
theorem dec_far (w : World) (va : Option Addr) (vc : Nat) (b : List Int) (p : Int) (hn : ¬ p < 0) (hp : (b.length : Int) < p) :
    Calls Tryd.prog 45 #[.slice va b.length vc, .int .i64 p] w (DecP w b p) := by
  have HG : Hid (decI b p = (insZ, 0, 1)) := by show _ = _; rw [decI, if_pos (.inr hp)]
  go_enter Tryd.func45, Tryd.ntmps45
  go_wp2
  refine bodyPost_ret (dec_results w.heap.size #[.int .u8 0, .int .i64 0, .slice none 0 0] (.int .i64 0) (.int .i64 1) (heap_alloc_new _ _) rfl rfl rfl rfl) rfl ?_
  exact dec_bad HG.out (below_alloc _ _)
set_option maxRecDepth 100000 in
set_option maxHeartbeats 3200000 in
theorem dec_end (w : World) (va : Option Addr) (vc : Nat) (b : List Int) :
    Calls Tryd.prog 45 #[.slice va b.length vc, .int .i64 b.length] w (DecP w b b.length) := by
  have HG : Hid (decI b b.length = (insZ, 0, 10)) := by show _ = _; rw [decI, if_neg (by omega), if_pos rfl]
  generalize hn : b.length = n at *
  go_enter Tryd.func45, Tryd.ntmps45
  go_wp2
  refine bodyPost_ret (dec_results w.heap.size #[.int .u8 0, .int .i64 0, .slice none 0 0] (.int .i64 0) (.int .i64 10) (heap_alloc_new _ _) rfl rfl rfl rfl) rfl ?_
  exact dec_bad HG.out (below_alloc _ _)
set_option maxRecDepth 100000 in
set_option maxHeartbeats 3200000 in
theorem dec_noop (S) (w : World) (v : Value) (b : List Int) (p : Nat) (hb : Bytes b) (h : RdI .u8 S w v b) (ht : Tb w) (op : Nat) (hop : b[p]? = some (op : Int)) (hio : isOp op = false) :
    Calls Tryd.prog 45 #[v, .int .i64 p] w (DecP w b p) := by
  have hp : p < b.length := (List.getElem?_eq_some_iff.1 hop).1
  have hbo := hb (op : Int) (List.mem_of_getElem? hop)
  have ho : op < 256 := by omega
  have HG : Hid (decI b p = (insZ, 0, 21)) := by
    have hg : b.getD p 0 = (op : Int) := by rw [List.getD_eq_getElem?_getD, hop]; rfl
    show _ = _
    rw [decI, if_neg (by omega), if_neg (by omega), Int.toNat_natCast, hg, Int.toNat_natCast, if_pos hio]
  obtain ⟨va, vc, rfl, hlc⟩ := h.lenc
  have HT := Lib.hid ht
  obtain ⟨bb, off, hva, _, hcell⟩ : ∃ bb off, va = some ⟨bb, off, none⟩ ∧ S bb ∧ w.cell? ⟨bb, off + p, none⟩ = some (.int .u8 (op : Int)) := by
    obtain ⟨a', c', e, _, _, h3⟩ := h
    simp only [Value.slice.injEq] at e
    obtain ⟨rfl, _, rfl⟩ := e
    obtain ⟨bb, off, e1, e2, e3⟩ := h3 p hp
    exact ⟨bb, off, e1, e2, by rw [e3, (List.getElem?_eq_some_iff.1 hop).2]⟩
  subst hva
  clear h hb ht hop
  have hb0 := below_alloc w (.cells #[.int .u8 0, .int .i64 0, .slice none 0 0] 81)
  have hr0 := heap_alloc_new w (.cells #[.int .u8 0, .int .i64 0, .slice none 0 0] 81)
  have hc0 := cell_below hb0 hcell
  have hpi : ((p : Int) == (b.length : Int)) = false := by rw [beq_eq_false_iff_ne]; omega
  go_enter Tryd.func45, Tryd.ntmps45
  go_wp2_with fail
  generalize w.alloc (.cells #[.int .u8 0, .int .i64 0, .slice none 0 0] 81) = w0 at *
  have HB0 := Lib.hid hb0; have HR0 := Lib.hid hr0; have HT0 := Lib.hid (HT.out.bel hb0)
  clear hb0 hr0 hc0 HT
  refine (ops_Of _ op ho HT0.out).mono ?_
  rintro e w1 ⟨rfl, hb1⟩
  rw [hio, row_noneI op hio]
  have hb2 := below_alloc w1 (.cells #[.int .u8 0, .string ⟨#[]⟩, .int .i8 0, .string ⟨#[]⟩, .string ⟨#[]⟩, .bool false] 24)
  have HB2 := Lib.hid (below_next (below_next HB0.out hb1) hb2)
  have HR2 := Lib.hid ((hb2.block _ (row_lt ((hb1.block _ (row_lt HR0.out)).trans HR0.out))).trans ((hb1.block _ (row_lt HR0.out)).trans HR0.out))
  clear hb1 hb2 HB0 HR0 HT0 hcell hio hbo
  have g0 := row_cell HR2.out 0 rfl; have g1 := row_cell HR2.out 1 rfl; have g2 := row_cell HR2.out 2 rfl
  have f0 := row_free HR2.out 0; have f1 := row_free HR2.out 1; have f2 := row_free HR2.out 2
  simp only [List.getElem_toArray, List.getElem_cons_zero, List.getElem_cons_succ] at g0 g1 g2
  go_wp2
  refine bodyPost_ret (dec_results w.heap.size #[.int .u8 0, .int .i64 0, .slice none 0 0] (.int .i64 0) (.int .i64 21) (set3_row HR2.out _ _ _) rfl rfl rfl rfl) rfl ?_
  exact dec_bad HG.out (HB2.out.trans ((set3_keeps _ w.heap.size _ _ _).below HB2.out.size fun x hx => by omega))

theorem takes_vals : ∀ op : Fin 256, takesP op.val = 0 ∨ takesP op.val = 1 ∨ takesP op.val = 2 ∨ takesP op.val = 3 ∨ takesP op.val = 4 ∨ takesP op.val = 5 ∨ takesP op.val = 6 ∨ takesP op.val = 7 ∨ takesP op.val = 8 ∨ takesP op.val = 9 := by decide +kernel
/-- 'instr.Decode'. -/
theorem instr_Decode (S) (w : World) (v : Value) (b : List Int) (p : Int) (hb : Bytes b) (h : RdI .u8 S w v b) (hS : ∀ x, S x → x < w.heap.size) (ht : Tb w) :
    Calls Tryd.prog 45 #[v, .int .i64 p] w (DecP w b p) := by
  obtain ⟨va, vc, hv, _⟩ := h.lenc
  by_cases h1 : p < 0
  · subst hv; exact dec_neg w va vc b p h1
  by_cases h2 : (b.length : Int) < p
  · subst hv; exact dec_far w va vc b p h1 h2
  by_cases h3 : p = b.length
  · subst hv; subst h3; exact dec_end w va vc b
  obtain ⟨q, rfl⟩ := Int.eq_ofNat_of_zero_le (show 0 ≤ p by omega)
  have hq : q < b.length := by omega
  obtain ⟨op, hop⟩ := Int.eq_ofNat_of_zero_le (hb b[q] (List.getElem_mem hq)).1
  have hop' : b[q]? = some (op : Int) := by rw [List.getElem?_eq_getElem hq, hop]
  have ho : op < 256 := by have := (hb b[q] (List.getElem_mem hq)).2; omega
  cases hio : isOp op with
  | false => exact dec_noop S w v b q hb h ht op hop' hio
  | true =>
    have hk := takes_vals ⟨op, ho⟩
    simp only at hk
    rcases hk with hk | hk | hk | hk | hk | hk | hk | hk | hk | hk
    · exact dec_0 S w v b q hb h hS ht op hop' hio hk
    · exact dec_1 S w v b q hb h hS ht op hop' hio hk
    · exact dec_2 S w v b q hb h hS ht op hop' hio hk
    · exact dec_3 S w v b q hb h hS ht op hop' hio hk
    · exact dec_4 S w v b q hb h hS ht op hop' hio hk
    · exact dec_5 S w v b q hb h hS ht op hop' hio hk
    · exact dec_6 S w v b q hb h hS ht op hop' hio hk
    · exact dec_7 S w v b q hb h hS ht op hop' hio hk
    · exact dec_8 S w v b q hb h hS ht op hop' hio hk
    · exact dec_9 S w v b q hb h hS ht op hop' hio hk
end Go.Proofs.YtmlniifdipeboaaDoor
