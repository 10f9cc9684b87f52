/- flagonref04.Check. -/
import Derived.Test.YtmlniifdipeboaaDoorRef1
import Derived.Test.YtmlniifdipeboaaDoorRef7g
import Derived.Test.YtmlniifdipeboaaDoorInstr2
namespace Go.Proofs.YtmlniifdipeboaaDoor
open Go Go.RowKit

theorem takes_range : ∀ op : Fin 256, isOp op.val = true → (takesP op.val = 0 ∨ takesP op.val = 1 ∨ takesP op.val = 2 ∨ takesP op.val = 3 ∨ takesP op.val = 4 ∨ takesP op.val = 5 ∨ takesP op.val = 6 ∨ takesP op.val = 7 ∨ (takesP op.val = 8 ∧ op.val = 24) ∨ (takesP op.val = 8 ∧ op.val = 25) ∨ takesP op.val = 9) := by decide +kernel
theorem word24 : wordP 24 = [119, 46, 99, 111, 110, 115, 116] := by decide +kernel
theorem word25 : wordP 25 = [108, 46, 99, 111, 110, 115, 116] := by decide +kernel
set_option maxRecDepth 100000 in
set_option maxHeartbeats 1600000 in
theorem ref4_c0 (w : World) (S : Nat → Prop) (op : Nat) (a : Int) (l : List Int) (vl : Value) (ho : op < 256) (ha : i64P a) (hr : RdI .i64 S w vl l) (hop : isOp op = true) (ht : takesP op = 0) :
    Calls Tryd.prog 63 #[.agg #[.int .u8 op, .int .i64 a, vl]] w fun e w' => e = .returned (.int .i64 (checkI ⟨op, a, l⟩)) ∧ Below w.heap.size w w' := by
  have HV : Hid (checkI ⟨op, a, l⟩ = if (0 : Int) ≤ a ∧ a ≤ 0 then (if 0 < l.length then 17 else 0) else 17) := by
    show _ = _
    unfold checkI inI boundsI
    simp only [hop, ht]
    by_cases h : (0 : Int) ≤ a ∧ a ≤ 0
    · simp [h]
    · simp [h]
  obtain ⟨x, p, q, b, hrow⟩ := rowVal_shape op
  rw [hop, if_pos rfl, if_pos rfl, ht] at hrow
  have HR := Lib.hid (fun w' => ref_Of w' op ho)
  rw [hrow, hop] at HR
  clear hrow hop ht
  generalize wordP op = wd at *
  obtain ⟨va, vc, rfl, hlc⟩ := hr.lenc
  unfold i64P at ha
  have hb0 := below_alloc w (.cells #[.int .u8 op, .int .i64 a, .slice va l.length vc] 81)
  have hr0 := heap_alloc_new w (.cells #[.int .u8 op, .int .i64 a, .slice va l.length vc] 81)
  have HL := Lib.hid hr; clear hr
  go_enter Tryd.func63, Tryd.ntmps63
  go_wp2_with fail
  generalize w.alloc (.cells #[.int .u8 op, .int .i64 a, .slice va l.length vc] 81) = w0 at *
  have HB0 := Lib.hid hb0; have HR0 := Lib.hid hr0
  have HL0 : Hid (RdI .i64 (· < w0.heap.size) w0 (.slice va l.length vc) l) := Lib.hid (HL.out.any.bel hb0)
  clear hb0 hr0 HL
  refine (HR.out _).mono ?_
  rintro e w1 ⟨rfl, hb1⟩
  have HR1 := (hb1.block _ (row_lt HR0.out)).trans HR0.out
  have HB1 := Lib.hid (below_next HB0.out hb1)
  have HL1 := Lib.hid (HL0.out.bel hb1)
  clear hb1 HR0 HB0 HL0
  have hb2 := below_alloc w1 (.cells #[.int .u8 x, .string ⟨wd.toArray⟩, .int .i8 0, .string p, .string q, .bool b] 27)
  have HB2 := Lib.hid (below_next HB1.out hb2)
  have HL2 := Lib.hid (HL1.out.bel hb2)
  have HQ := (hb2.block _ (row_lt HR1)).trans HR1
  have b0 := row_cell HQ 0 rfl; have b1 := row_cell HQ 1 rfl; have b2 := row_cell HQ 2 rfl
  simp only [List.getElem_toArray, List.getElem_cons_zero, List.getElem_cons_succ] at b0 b1 b2
  clear HQ HR1 hb2 HL1 HB1
  go_wp2
  all_goals go_ret
  all_goals refine ⟨ret_int ?_, HB2.out⟩
  all_goals rw [HV.out]
  all_goals (try simp only [bne_iff_ne, ne_eq] at *)
  all_goals (try simp only [bne_eq_false_iff_eq] at *)
  all_goals first
    | (rw [if_neg (by omega)]; done)
    | (rw [if_pos (by omega), if_pos (by omega)]; done)
    | (rw [if_pos (by omega), if_neg (by omega)]; done)
set_option maxRecDepth 100000 in
set_option maxHeartbeats 1600000 in
theorem ref4_c1 (w : World) (S : Nat → Prop) (op : Nat) (a : Int) (l : List Int) (vl : Value) (ho : op < 256) (ha : i64P a) (hr : RdI .i64 S w vl l) (hop : isOp op = true) (ht : takesP op = 1) :
    Calls Tryd.prog 63 #[.agg #[.int .u8 op, .int .i64 a, vl]] w fun e w' => e = .returned (.int .i64 (checkI ⟨op, a, l⟩)) ∧ Below w.heap.size w w' := by
  have HV : Hid (checkI ⟨op, a, l⟩ = if (0 : Int) ≤ a ∧ a ≤ 2147483647 then (if 0 < l.length then 17 else 0) else 17) := by
    show _ = _
    unfold checkI inI boundsI
    simp only [hop, ht]
    by_cases h : (0 : Int) ≤ a ∧ a ≤ 2147483647
    · simp [h]
    · simp [h]
  obtain ⟨x, p, q, b, hrow⟩ := rowVal_shape op
  rw [hop, if_pos rfl, if_pos rfl, ht] at hrow
  have HR := Lib.hid (fun w' => ref_Of w' op ho)
  rw [hrow, hop] at HR
  clear hrow hop ht
  generalize wordP op = wd at *
  obtain ⟨va, vc, rfl, hlc⟩ := hr.lenc
  unfold i64P at ha
  have hb0 := below_alloc w (.cells #[.int .u8 op, .int .i64 a, .slice va l.length vc] 81)
  have hr0 := heap_alloc_new w (.cells #[.int .u8 op, .int .i64 a, .slice va l.length vc] 81)
  have HL := Lib.hid hr; clear hr
  go_enter Tryd.func63, Tryd.ntmps63
  go_wp2_with fail
  generalize w.alloc (.cells #[.int .u8 op, .int .i64 a, .slice va l.length vc] 81) = w0 at *
  have HB0 := Lib.hid hb0; have HR0 := Lib.hid hr0
  have HL0 : Hid (RdI .i64 (· < w0.heap.size) w0 (.slice va l.length vc) l) := Lib.hid (HL.out.any.bel hb0)
  clear hb0 hr0 HL
  refine (HR.out _).mono ?_
  rintro e w1 ⟨rfl, hb1⟩
  have HR1 := (hb1.block _ (row_lt HR0.out)).trans HR0.out
  have HB1 := Lib.hid (below_next HB0.out hb1)
  have HL1 := Lib.hid (HL0.out.bel hb1)
  clear hb1 HR0 HB0 HL0
  have hb2 := below_alloc w1 (.cells #[.int .u8 x, .string ⟨wd.toArray⟩, .int .i8 1, .string p, .string q, .bool b] 27)
  have HB2 := Lib.hid (below_next HB1.out hb2)
  have HL2 := Lib.hid (HL1.out.bel hb2)
  have HQ := (hb2.block _ (row_lt HR1)).trans HR1
  have b0 := row_cell HQ 0 rfl; have b1 := row_cell HQ 1 rfl; have b2 := row_cell HQ 2 rfl
  simp only [List.getElem_toArray, List.getElem_cons_zero, List.getElem_cons_succ] at b0 b1 b2
  clear HQ HR1 hb2 HL1 HB1
  go_wp2
  all_goals go_ret
  all_goals refine ⟨ret_int ?_, HB2.out⟩
  all_goals rw [HV.out]
  all_goals (try simp only [bne_iff_ne, ne_eq] at *)
  all_goals (try simp only [bne_eq_false_iff_eq] at *)
  all_goals first
    | (rw [if_neg (by omega)]; done)
    | (rw [if_pos (by omega), if_pos (by omega)]; done)
    | (rw [if_pos (by omega), if_neg (by omega)]; done)
set_option maxRecDepth 100000 in
set_option maxHeartbeats 1600000 in
theorem ref4_c2 (w : World) (S : Nat → Prop) (op : Nat) (a : Int) (l : List Int) (vl : Value) (ho : op < 256) (ha : i64P a) (hr : RdI .i64 S w vl l) (hop : isOp op = true) (ht : takesP op = 2) :
    Calls Tryd.prog 63 #[.agg #[.int .u8 op, .int .i64 a, vl]] w fun e w' => e = .returned (.int .i64 (checkI ⟨op, a, l⟩)) ∧ Below w.heap.size w w' := by
  have HV : Hid (checkI ⟨op, a, l⟩ = if (0 : Int) ≤ a ∧ a ≤ 2147483647 then (if 0 < l.length then 17 else 0) else 17) := by
    show _ = _
    unfold checkI inI boundsI
    simp only [hop, ht]
    by_cases h : (0 : Int) ≤ a ∧ a ≤ 2147483647
    · simp [h]
    · simp [h]
  obtain ⟨x, p, q, b, hrow⟩ := rowVal_shape op
  rw [hop, if_pos rfl, if_pos rfl, ht] at hrow
  have HR := Lib.hid (fun w' => ref_Of w' op ho)
  rw [hrow, hop] at HR
  clear hrow hop ht
  generalize wordP op = wd at *
  obtain ⟨va, vc, rfl, hlc⟩ := hr.lenc
  unfold i64P at ha
  have hb0 := below_alloc w (.cells #[.int .u8 op, .int .i64 a, .slice va l.length vc] 81)
  have hr0 := heap_alloc_new w (.cells #[.int .u8 op, .int .i64 a, .slice va l.length vc] 81)
  have HL := Lib.hid hr; clear hr
  go_enter Tryd.func63, Tryd.ntmps63
  go_wp2_with fail
  generalize w.alloc (.cells #[.int .u8 op, .int .i64 a, .slice va l.length vc] 81) = w0 at *
  have HB0 := Lib.hid hb0; have HR0 := Lib.hid hr0
  have HL0 : Hid (RdI .i64 (· < w0.heap.size) w0 (.slice va l.length vc) l) := Lib.hid (HL.out.any.bel hb0)
  clear hb0 hr0 HL
  refine (HR.out _).mono ?_
  rintro e w1 ⟨rfl, hb1⟩
  have HR1 := (hb1.block _ (row_lt HR0.out)).trans HR0.out
  have HB1 := Lib.hid (below_next HB0.out hb1)
  have HL1 := Lib.hid (HL0.out.bel hb1)
  clear hb1 HR0 HB0 HL0
  have hb2 := below_alloc w1 (.cells #[.int .u8 x, .string ⟨wd.toArray⟩, .int .i8 2, .string p, .string q, .bool b] 27)
  have HB2 := Lib.hid (below_next HB1.out hb2)
  have HL2 := Lib.hid (HL1.out.bel hb2)
  have HQ := (hb2.block _ (row_lt HR1)).trans HR1
  have b0 := row_cell HQ 0 rfl; have b1 := row_cell HQ 1 rfl; have b2 := row_cell HQ 2 rfl
  simp only [List.getElem_toArray, List.getElem_cons_zero, List.getElem_cons_succ] at b0 b1 b2
  clear HQ HR1 hb2 HL1 HB1
  go_wp2
  all_goals go_ret
  all_goals refine ⟨ret_int ?_, HB2.out⟩
  all_goals rw [HV.out]
  all_goals (try simp only [bne_iff_ne, ne_eq] at *)
  all_goals (try simp only [bne_eq_false_iff_eq] at *)
  all_goals first
    | (rw [if_neg (by omega)]; done)
    | (rw [if_pos (by omega), if_pos (by omega)]; done)
    | (rw [if_pos (by omega), if_neg (by omega)]; done)
set_option maxRecDepth 100000 in
set_option maxHeartbeats 1600000 in
theorem ref4_c4 (w : World) (S : Nat → Prop) (op : Nat) (a : Int) (l : List Int) (vl : Value) (ho : op < 256) (ha : i64P a) (hr : RdI .i64 S w vl l) (hop : isOp op = true) (ht : takesP op = 4) :
    Calls Tryd.prog 63 #[.agg #[.int .u8 op, .int .i64 a, vl]] w fun e w' => e = .returned (.int .i64 (checkI ⟨op, a, l⟩)) ∧ Below w.heap.size w w' := by
  have HV : Hid (checkI ⟨op, a, l⟩ = if (0 : Int) ≤ a ∧ a ≤ 2147483647 then (if 0 < l.length then 17 else 0) else 17) := by
    show _ = _
    unfold checkI inI boundsI
    simp only [hop, ht]
    by_cases h : (0 : Int) ≤ a ∧ a ≤ 2147483647
    · simp [h]
    · simp [h]
  obtain ⟨x, p, q, b, hrow⟩ := rowVal_shape op
  rw [hop, if_pos rfl, if_pos rfl, ht] at hrow
  have HR := Lib.hid (fun w' => ref_Of w' op ho)
  rw [hrow, hop] at HR
  clear hrow hop ht
  generalize wordP op = wd at *
  obtain ⟨va, vc, rfl, hlc⟩ := hr.lenc
  unfold i64P at ha
  have hb0 := below_alloc w (.cells #[.int .u8 op, .int .i64 a, .slice va l.length vc] 81)
  have hr0 := heap_alloc_new w (.cells #[.int .u8 op, .int .i64 a, .slice va l.length vc] 81)
  have HL := Lib.hid hr; clear hr
  go_enter Tryd.func63, Tryd.ntmps63
  go_wp2_with fail
  generalize w.alloc (.cells #[.int .u8 op, .int .i64 a, .slice va l.length vc] 81) = w0 at *
  have HB0 := Lib.hid hb0; have HR0 := Lib.hid hr0
  have HL0 : Hid (RdI .i64 (· < w0.heap.size) w0 (.slice va l.length vc) l) := Lib.hid (HL.out.any.bel hb0)
  clear hb0 hr0 HL
  refine (HR.out _).mono ?_
  rintro e w1 ⟨rfl, hb1⟩
  have HR1 := (hb1.block _ (row_lt HR0.out)).trans HR0.out
  have HB1 := Lib.hid (below_next HB0.out hb1)
  have HL1 := Lib.hid (HL0.out.bel hb1)
  clear hb1 HR0 HB0 HL0
  have hb2 := below_alloc w1 (.cells #[.int .u8 x, .string ⟨wd.toArray⟩, .int .i8 4, .string p, .string q, .bool b] 27)
  have HB2 := Lib.hid (below_next HB1.out hb2)
  have HL2 := Lib.hid (HL1.out.bel hb2)
  have HQ := (hb2.block _ (row_lt HR1)).trans HR1
  have b0 := row_cell HQ 0 rfl; have b1 := row_cell HQ 1 rfl; have b2 := row_cell HQ 2 rfl
  simp only [List.getElem_toArray, List.getElem_cons_zero, List.getElem_cons_succ] at b0 b1 b2
  clear HQ HR1 hb2 HL1 HB1
  go_wp2
  all_goals go_ret
  all_goals refine ⟨ret_int ?_, HB2.out⟩
  all_goals rw [HV.out]
  all_goals (try simp only [bne_iff_ne, ne_eq] at *)
  all_goals (try simp only [bne_eq_false_iff_eq] at *)
  all_goals first
    | (rw [if_neg (by omega)]; done)
    | (rw [if_pos (by omega), if_pos (by omega)]; done)
    | (rw [if_pos (by omega), if_neg (by omega)]; done)
set_option maxRecDepth 100000 in
set_option maxHeartbeats 1600000 in
theorem ref4_c5 (w : World) (S : Nat → Prop) (op : Nat) (a : Int) (l : List Int) (vl : Value) (ho : op < 256) (ha : i64P a) (hr : RdI .i64 S w vl l) (hop : isOp op = true) (ht : takesP op = 5) :
    Calls Tryd.prog 63 #[.agg #[.int .u8 op, .int .i64 a, vl]] w fun e w' => e = .returned (.int .i64 (checkI ⟨op, a, l⟩)) ∧ Below w.heap.size w w' := by
  have HV : Hid (checkI ⟨op, a, l⟩ = if (0 : Int) ≤ a ∧ a ≤ 2147483647 then (if 0 < l.length then 17 else 0) else 17) := by
    show _ = _
    unfold checkI inI boundsI
    simp only [hop, ht]
    by_cases h : (0 : Int) ≤ a ∧ a ≤ 2147483647
    · simp [h]
    · simp [h]
  obtain ⟨x, p, q, b, hrow⟩ := rowVal_shape op
  rw [hop, if_pos rfl, if_pos rfl, ht] at hrow
  have HR := Lib.hid (fun w' => ref_Of w' op ho)
  rw [hrow, hop] at HR
  clear hrow hop ht
  generalize wordP op = wd at *
  obtain ⟨va, vc, rfl, hlc⟩ := hr.lenc
  unfold i64P at ha
  have hb0 := below_alloc w (.cells #[.int .u8 op, .int .i64 a, .slice va l.length vc] 81)
  have hr0 := heap_alloc_new w (.cells #[.int .u8 op, .int .i64 a, .slice va l.length vc] 81)
  have HL := Lib.hid hr; clear hr
  go_enter Tryd.func63, Tryd.ntmps63
  go_wp2_with fail
  generalize w.alloc (.cells #[.int .u8 op, .int .i64 a, .slice va l.length vc] 81) = w0 at *
  have HB0 := Lib.hid hb0; have HR0 := Lib.hid hr0
  have HL0 : Hid (RdI .i64 (· < w0.heap.size) w0 (.slice va l.length vc) l) := Lib.hid (HL.out.any.bel hb0)
  clear hb0 hr0 HL
  refine (HR.out _).mono ?_
  rintro e w1 ⟨rfl, hb1⟩
  have HR1 := (hb1.block _ (row_lt HR0.out)).trans HR0.out
  have HB1 := Lib.hid (below_next HB0.out hb1)
  have HL1 := Lib.hid (HL0.out.bel hb1)
  clear hb1 HR0 HB0 HL0
  have hb2 := below_alloc w1 (.cells #[.int .u8 x, .string ⟨wd.toArray⟩, .int .i8 5, .string p, .string q, .bool b] 27)
  have HB2 := Lib.hid (below_next HB1.out hb2)
  have HL2 := Lib.hid (HL1.out.bel hb2)
  have HQ := (hb2.block _ (row_lt HR1)).trans HR1
  have b0 := row_cell HQ 0 rfl; have b1 := row_cell HQ 1 rfl; have b2 := row_cell HQ 2 rfl
  simp only [List.getElem_toArray, List.getElem_cons_zero, List.getElem_cons_succ] at b0 b1 b2
  clear HQ HR1 hb2 HL1 HB1
  go_wp2
  all_goals go_ret
  all_goals refine ⟨ret_int ?_, HB2.out⟩
  all_goals rw [HV.out]
  all_goals (try simp only [bne_iff_ne, ne_eq] at *)
  all_goals (try simp only [bne_eq_false_iff_eq] at *)
  all_goals first
    | (rw [if_neg (by omega)]; done)
    | (rw [if_pos (by omega), if_pos (by omega)]; done)
    | (rw [if_pos (by omega), if_neg (by omega)]; done)
set_option maxRecDepth 100000 in
set_option maxHeartbeats 1600000 in
theorem ref4_c6 (w : World) (S : Nat → Prop) (op : Nat) (a : Int) (l : List Int) (vl : Value) (ho : op < 256) (ha : i64P a) (hr : RdI .i64 S w vl l) (hop : isOp op = true) (ht : takesP op = 6) :
    Calls Tryd.prog 63 #[.agg #[.int .u8 op, .int .i64 a, vl]] w fun e w' => e = .returned (.int .i64 (checkI ⟨op, a, l⟩)) ∧ Below w.heap.size w w' := by
  have HV : Hid (checkI ⟨op, a, l⟩ = if (0 : Int) ≤ a ∧ a ≤ 2147483647 then (if 0 < l.length then 17 else 0) else 17) := by
    show _ = _
    unfold checkI inI boundsI
    simp only [hop, ht]
    by_cases h : (0 : Int) ≤ a ∧ a ≤ 2147483647
    · simp [h]
    · simp [h]
  obtain ⟨x, p, q, b, hrow⟩ := rowVal_shape op
  rw [hop, if_pos rfl, if_pos rfl, ht] at hrow
  have HR := Lib.hid (fun w' => ref_Of w' op ho)
  rw [hrow, hop] at HR
  clear hrow hop ht
  generalize wordP op = wd at *
  obtain ⟨va, vc, rfl, hlc⟩ := hr.lenc
  unfold i64P at ha
  have hb0 := below_alloc w (.cells #[.int .u8 op, .int .i64 a, .slice va l.length vc] 81)
  have hr0 := heap_alloc_new w (.cells #[.int .u8 op, .int .i64 a, .slice va l.length vc] 81)
  have HL := Lib.hid hr; clear hr
  go_enter Tryd.func63, Tryd.ntmps63
  go_wp2_with fail
  generalize w.alloc (.cells #[.int .u8 op, .int .i64 a, .slice va l.length vc] 81) = w0 at *
  have HB0 := Lib.hid hb0; have HR0 := Lib.hid hr0
  have HL0 : Hid (RdI .i64 (· < w0.heap.size) w0 (.slice va l.length vc) l) := Lib.hid (HL.out.any.bel hb0)
  clear hb0 hr0 HL
  refine (HR.out _).mono ?_
  rintro e w1 ⟨rfl, hb1⟩
  have HR1 := (hb1.block _ (row_lt HR0.out)).trans HR0.out
  have HB1 := Lib.hid (below_next HB0.out hb1)
  have HL1 := Lib.hid (HL0.out.bel hb1)
  clear hb1 HR0 HB0 HL0
  have hb2 := below_alloc w1 (.cells #[.int .u8 x, .string ⟨wd.toArray⟩, .int .i8 6, .string p, .string q, .bool b] 27)
  have HB2 := Lib.hid (below_next HB1.out hb2)
  have HL2 := Lib.hid (HL1.out.bel hb2)
  have HQ := (hb2.block _ (row_lt HR1)).trans HR1
  have b0 := row_cell HQ 0 rfl; have b1 := row_cell HQ 1 rfl; have b2 := row_cell HQ 2 rfl
  simp only [List.getElem_toArray, List.getElem_cons_zero, List.getElem_cons_succ] at b0 b1 b2
  clear HQ HR1 hb2 HL1 HB1
  go_wp2
  all_goals go_ret
  all_goals refine ⟨ret_int ?_, HB2.out⟩
  all_goals rw [HV.out]
  all_goals (try simp only [bne_iff_ne, ne_eq] at *)
  all_goals (try simp only [bne_eq_false_iff_eq] at *)
  all_goals first
    | (rw [if_neg (by omega)]; done)
    | (rw [if_pos (by omega), if_pos (by omega)]; done)
    | (rw [if_pos (by omega), if_neg (by omega)]; done)
set_option maxRecDepth 100000 in
set_option maxHeartbeats 1600000 in
theorem ref4_c7 (w : World) (S : Nat → Prop) (op : Nat) (a : Int) (l : List Int) (vl : Value) (ho : op < 256) (ha : i64P a) (hr : RdI .i64 S w vl l) (hop : isOp op = true) (ht : takesP op = 7) :
    Calls Tryd.prog 63 #[.agg #[.int .u8 op, .int .i64 a, vl]] w fun e w' => e = .returned (.int .i64 (checkI ⟨op, a, l⟩)) ∧ Below w.heap.size w w' := by
  have HV : Hid (checkI ⟨op, a, l⟩ = if (0 : Int) ≤ a ∧ a ≤ 2147483647 then (if 0 < l.length then 17 else 0) else 17) := by
    show _ = _
    unfold checkI inI boundsI
    simp only [hop, ht]
    by_cases h : (0 : Int) ≤ a ∧ a ≤ 2147483647
    · simp [h]
    · simp [h]
  obtain ⟨x, p, q, b, hrow⟩ := rowVal_shape op
  rw [hop, if_pos rfl, if_pos rfl, ht] at hrow
  have HR := Lib.hid (fun w' => ref_Of w' op ho)
  rw [hrow, hop] at HR
  clear hrow hop ht
  generalize wordP op = wd at *
  obtain ⟨va, vc, rfl, hlc⟩ := hr.lenc
  unfold i64P at ha
  have hb0 := below_alloc w (.cells #[.int .u8 op, .int .i64 a, .slice va l.length vc] 81)
  have hr0 := heap_alloc_new w (.cells #[.int .u8 op, .int .i64 a, .slice va l.length vc] 81)
  have HL := Lib.hid hr; clear hr
  go_enter Tryd.func63, Tryd.ntmps63
  go_wp2_with fail
  generalize w.alloc (.cells #[.int .u8 op, .int .i64 a, .slice va l.length vc] 81) = w0 at *
  have HB0 := Lib.hid hb0; have HR0 := Lib.hid hr0
  have HL0 : Hid (RdI .i64 (· < w0.heap.size) w0 (.slice va l.length vc) l) := Lib.hid (HL.out.any.bel hb0)
  clear hb0 hr0 HL
  refine (HR.out _).mono ?_
  rintro e w1 ⟨rfl, hb1⟩
  have HR1 := (hb1.block _ (row_lt HR0.out)).trans HR0.out
  have HB1 := Lib.hid (below_next HB0.out hb1)
  have HL1 := Lib.hid (HL0.out.bel hb1)
  clear hb1 HR0 HB0 HL0
  have hb2 := below_alloc w1 (.cells #[.int .u8 x, .string ⟨wd.toArray⟩, .int .i8 7, .string p, .string q, .bool b] 27)
  have HB2 := Lib.hid (below_next HB1.out hb2)
  have HL2 := Lib.hid (HL1.out.bel hb2)
  have HQ := (hb2.block _ (row_lt HR1)).trans HR1
  have b0 := row_cell HQ 0 rfl; have b1 := row_cell HQ 1 rfl; have b2 := row_cell HQ 2 rfl
  simp only [List.getElem_toArray, List.getElem_cons_zero, List.getElem_cons_succ] at b0 b1 b2
  clear HQ HR1 hb2 HL1 HB1
  go_wp2
  all_goals go_ret
  all_goals refine ⟨ret_int ?_, HB2.out⟩
  all_goals rw [HV.out]
  all_goals (try simp only [bne_iff_ne, ne_eq] at *)
  all_goals (try simp only [bne_eq_false_iff_eq] at *)
  all_goals first
    | (rw [if_neg (by omega)]; done)
    | (rw [if_pos (by omega), if_pos (by omega)]; done)
    | (rw [if_pos (by omega), if_neg (by omega)]; done)
set_option maxRecDepth 100000 in
set_option maxHeartbeats 1600000 in
theorem ref4_c8w (w : World) (S : Nat → Prop) (op : Nat) (a : Int) (l : List Int) (vl : Value) (ho : op < 256) (ha : i64P a) (hr : RdI .i64 S w vl l) (hop : isOp op = true) (ht : takesP op = 8) (h8 : op = 24) :
    Calls Tryd.prog 63 #[.agg #[.int .u8 op, .int .i64 a, vl]] w fun e w' => e = .returned (.int .i64 (checkI ⟨op, a, l⟩)) ∧ Below w.heap.size w w' := by
  have hw : wordP op = [119, 46, 99, 111, 110, 115, 116] := by rw [h8]; exact word24
  have HV : Hid (checkI ⟨op, a, l⟩ = if (-2147483648 : Int) ≤ a ∧ a ≤ 2147483647 then (if 0 < l.length then 17 else 0) else 17) := by
    show _ = _
    unfold checkI inI boundsI
    subst h8
    simp only [hop, ht]
    by_cases h : (-2147483648 : Int) ≤ a ∧ a ≤ 2147483647
    · simp [h]
    · simp [h]
  obtain ⟨x, p, q, b, hrow⟩ := rowVal_shape op
  rw [hop, if_pos rfl, if_pos rfl, ht, hw] at hrow
  have HR := Lib.hid (fun w' => ref_Of w' op ho)
  rw [hrow, hop] at HR
  clear hrow hop ht h8
  obtain ⟨va, vc, rfl, hlc⟩ := hr.lenc
  unfold i64P at ha
  have hb0 := below_alloc w (.cells #[.int .u8 op, .int .i64 a, .slice va l.length vc] 81)
  have hr0 := heap_alloc_new w (.cells #[.int .u8 op, .int .i64 a, .slice va l.length vc] 81)
  have HL := Lib.hid hr; clear hr
  go_enter Tryd.func63, Tryd.ntmps63
  go_wp2_with fail
  generalize w.alloc (.cells #[.int .u8 op, .int .i64 a, .slice va l.length vc] 81) = w0 at *
  have HB0 := Lib.hid hb0; have HR0 := Lib.hid hr0
  have HL0 : Hid (RdI .i64 (· < w0.heap.size) w0 (.slice va l.length vc) l) := Lib.hid (HL.out.any.bel hb0)
  clear hb0 hr0 HL
  refine (HR.out _).mono ?_
  rintro e w1 ⟨rfl, hb1⟩
  have HR1 := (hb1.block _ (row_lt HR0.out)).trans HR0.out
  have HB1 := Lib.hid (below_next HB0.out hb1)
  have HL1 := Lib.hid (HL0.out.bel hb1)
  clear hb1 HR0 HB0 HL0
  have hb2 := below_alloc w1 (.cells #[.int .u8 x, .string ⟨#[119, 46, 99, 111, 110, 115, 116]⟩, .int .i8 8, .string p, .string q, .bool b] 27)
  have HB2 := Lib.hid (below_next HB1.out hb2)
  have HL2 := Lib.hid (HL1.out.bel hb2)
  have HQ := (hb2.block _ (row_lt HR1)).trans HR1
  have b0 := row_cell HQ 0 rfl; have b1 := row_cell HQ 1 rfl; have b2 := row_cell HQ 2 rfl
  simp only [List.getElem_toArray, List.getElem_cons_zero, List.getElem_cons_succ] at b0 b1 b2
  clear HQ HR1 hb2 HL1 HB1
  go_wp2
  all_goals go_ret
  all_goals refine ⟨ret_int ?_, HB2.out⟩
  all_goals rw [HV.out]
  all_goals (try simp only [bne_iff_ne, ne_eq] at *)
  all_goals (try simp only [bne_eq_false_iff_eq] at *)
  all_goals first
    | (rw [if_neg (by omega)]; done)
    | (rw [if_pos (by omega), if_pos (by omega)]; done)
    | (rw [if_pos (by omega), if_neg (by omega)]; done)
set_option maxRecDepth 100000 in
set_option maxHeartbeats 1600000 in
theorem ref4_c8l (w : World) (S : Nat → Prop) (op : Nat) (a : Int) (l : List Int) (vl : Value) (ho : op < 256) (ha : i64P a) (hr : RdI .i64 S w vl l) (hop : isOp op = true) (ht : takesP op = 8) (h8 : op = 25) :
    Calls Tryd.prog 63 #[.agg #[.int .u8 op, .int .i64 a, vl]] w fun e w' => e = .returned (.int .i64 (checkI ⟨op, a, l⟩)) ∧ Below w.heap.size w w' := by
  have hw : wordP op = [108, 46, 99, 111, 110, 115, 116] := by rw [h8]; exact word25
  have HV : Hid (checkI ⟨op, a, l⟩ = if (-9223372036854775808 : Int) ≤ a ∧ a ≤ 9223372036854775807 then (if 0 < l.length then 17 else 0) else 17) := by
    show _ = _
    unfold checkI inI boundsI
    subst h8
    simp only [hop, ht]
    by_cases h : (-9223372036854775808 : Int) ≤ a ∧ a ≤ 9223372036854775807
    · simp [h]
    · simp [h]
  obtain ⟨x, p, q, b, hrow⟩ := rowVal_shape op
  rw [hop, if_pos rfl, if_pos rfl, ht, hw] at hrow
  have HR := Lib.hid (fun w' => ref_Of w' op ho)
  rw [hrow, hop] at HR
  clear hrow hop ht h8
  obtain ⟨va, vc, rfl, hlc⟩ := hr.lenc
  unfold i64P at ha
  have hb0 := below_alloc w (.cells #[.int .u8 op, .int .i64 a, .slice va l.length vc] 81)
  have hr0 := heap_alloc_new w (.cells #[.int .u8 op, .int .i64 a, .slice va l.length vc] 81)
  have HL := Lib.hid hr; clear hr
  go_enter Tryd.func63, Tryd.ntmps63
  go_wp2_with fail
  generalize w.alloc (.cells #[.int .u8 op, .int .i64 a, .slice va l.length vc] 81) = w0 at *
  have HB0 := Lib.hid hb0; have HR0 := Lib.hid hr0
  have HL0 : Hid (RdI .i64 (· < w0.heap.size) w0 (.slice va l.length vc) l) := Lib.hid (HL.out.any.bel hb0)
  clear hb0 hr0 HL
  refine (HR.out _).mono ?_
  rintro e w1 ⟨rfl, hb1⟩
  have HR1 := (hb1.block _ (row_lt HR0.out)).trans HR0.out
  have HB1 := Lib.hid (below_next HB0.out hb1)
  have HL1 := Lib.hid (HL0.out.bel hb1)
  clear hb1 HR0 HB0 HL0
  have hb2 := below_alloc w1 (.cells #[.int .u8 x, .string ⟨#[108, 46, 99, 111, 110, 115, 116]⟩, .int .i8 8, .string p, .string q, .bool b] 27)
  have HB2 := Lib.hid (below_next HB1.out hb2)
  have HL2 := Lib.hid (HL1.out.bel hb2)
  have HQ := (hb2.block _ (row_lt HR1)).trans HR1
  have b0 := row_cell HQ 0 rfl; have b1 := row_cell HQ 1 rfl; have b2 := row_cell HQ 2 rfl
  simp only [List.getElem_toArray, List.getElem_cons_zero, List.getElem_cons_succ] at b0 b1 b2
  clear HQ HR1 hb2 HL1 HB1
  go_wp2
  all_goals go_ret
  all_goals refine ⟨ret_int ?_, HB2.out⟩
  all_goals rw [HV.out]
  all_goals (try simp only [bne_iff_ne, ne_eq] at *)
  all_goals (try simp only [bne_eq_false_iff_eq] at *)
  all_goals first
    | (rw [if_neg (by omega)]; done)
    | (rw [if_pos (by omega), if_pos (by omega)]; done)
    | (rw [if_pos (by omega), if_neg (by omega)]; done)
set_option maxRecDepth 100000 in
set_option maxHeartbeats 1600000 in
theorem ref4_c9 (w : World) (S : Nat → Prop) (op : Nat) (a : Int) (l : List Int) (vl : Value) (ho : op < 256) (ha : i64P a) (hr : RdI .i64 S w vl l) (hop : isOp op = true) (ht : takesP op = 9) :
    Calls Tryd.prog 63 #[.agg #[.int .u8 op, .int .i64 a, vl]] w fun e w' => e = .returned (.int .i64 (checkI ⟨op, a, l⟩)) ∧ Below w.heap.size w w' := by
  have HV : Hid (checkI ⟨op, a, l⟩ = if (0 : Int) ≤ a ∧ a ≤ 4294967295 then (if 0 < l.length then 17 else 0) else 17) := by
    show _ = _
    unfold checkI inI boundsI
    simp only [hop, ht]
    by_cases h : (0 : Int) ≤ a ∧ a ≤ 4294967295
    · simp [h]
    · simp [h]
  obtain ⟨x, p, q, b, hrow⟩ := rowVal_shape op
  rw [hop, if_pos rfl, if_pos rfl, ht] at hrow
  have HR := Lib.hid (fun w' => ref_Of w' op ho)
  rw [hrow, hop] at HR
  clear hrow hop ht
  generalize wordP op = wd at *
  obtain ⟨va, vc, rfl, hlc⟩ := hr.lenc
  unfold i64P at ha
  have hb0 := below_alloc w (.cells #[.int .u8 op, .int .i64 a, .slice va l.length vc] 81)
  have hr0 := heap_alloc_new w (.cells #[.int .u8 op, .int .i64 a, .slice va l.length vc] 81)
  have HL := Lib.hid hr; clear hr
  go_enter Tryd.func63, Tryd.ntmps63
  go_wp2_with fail
  generalize w.alloc (.cells #[.int .u8 op, .int .i64 a, .slice va l.length vc] 81) = w0 at *
  have HB0 := Lib.hid hb0; have HR0 := Lib.hid hr0
  have HL0 : Hid (RdI .i64 (· < w0.heap.size) w0 (.slice va l.length vc) l) := Lib.hid (HL.out.any.bel hb0)
  clear hb0 hr0 HL
  refine (HR.out _).mono ?_
  rintro e w1 ⟨rfl, hb1⟩
  have HR1 := (hb1.block _ (row_lt HR0.out)).trans HR0.out
  have HB1 := Lib.hid (below_next HB0.out hb1)
  have HL1 := Lib.hid (HL0.out.bel hb1)
  clear hb1 HR0 HB0 HL0
  have hb2 := below_alloc w1 (.cells #[.int .u8 x, .string ⟨wd.toArray⟩, .int .i8 9, .string p, .string q, .bool b] 27)
  have HB2 := Lib.hid (below_next HB1.out hb2)
  have HL2 := Lib.hid (HL1.out.bel hb2)
  have HQ := (hb2.block _ (row_lt HR1)).trans HR1
  have b0 := row_cell HQ 0 rfl; have b1 := row_cell HQ 1 rfl; have b2 := row_cell HQ 2 rfl
  simp only [List.getElem_toArray, List.getElem_cons_zero, List.getElem_cons_succ] at b0 b1 b2
  clear HQ HR1 hb2 HL1 HB1
  go_wp2
  all_goals go_ret
  all_goals refine ⟨ret_int ?_, HB2.out⟩
  all_goals rw [HV.out]
  all_goals (try simp only [bne_iff_ne, ne_eq] at *)
  all_goals (try simp only [bne_eq_false_iff_eq] at *)
  all_goals first
    | (rw [if_neg (by omega)]; done)
    | (rw [if_pos (by omega), if_pos (by omega)]; done)
    | (rw [if_pos (by omega), if_neg (by omega)]; done)
set_option maxRecDepth 100000 in
set_option maxHeartbeats 1600000 in
theorem ref4_c3 (w : World) (S : Nat → Prop) (op : Nat) (a : Int) (l : List Int) (vl : Value) (ho : op < 256) (ha : i64P a) (hr : RdI .i64 S w vl l) (hop : isOp op = true) (ht : takesP op = 3) :
    Calls Tryd.prog 63 #[.agg #[.int .u8 op, .int .i64 a, vl]] w fun e w' => e = .returned (.int .i64 (checkI ⟨op, a, l⟩)) ∧ Below w.heap.size w w' := by
  have HV : Hid (checkI ⟨op, a, l⟩ = if (0 : Int) ≤ a ∧ a ≤ 0 then (if l.length < 1 ∨ 16 < l.length then 17 else if l.all smallI then 0 else 17) else 17) := by
    show _ = _
    unfold checkI inI boundsI
    simp only [hop, ht]
    by_cases h : (0 : Int) ≤ a ∧ a ≤ 0
    · simp [h]
    · simp [h]
  obtain ⟨x, p, q, b, hrow⟩ := rowVal_shape op
  rw [hop, if_pos rfl, if_pos rfl, ht] at hrow
  have HR := Lib.hid (fun w' => ref_Of w' op ho)
  rw [hrow, hop] at HR
  clear hrow hop ht
  generalize wordP op = wd at *
  obtain ⟨va, vc, rfl, hlc⟩ := hr.lenc
  unfold i64P at ha
  have hb0 := below_alloc w (.cells #[.int .u8 op, .int .i64 a, .slice va l.length vc] 81)
  have hr0 := heap_alloc_new w (.cells #[.int .u8 op, .int .i64 a, .slice va l.length vc] 81)
  have HL := Lib.hid hr; clear hr
  go_enter Tryd.func63, Tryd.ntmps63
  go_wp2_with fail
  generalize w.alloc (.cells #[.int .u8 op, .int .i64 a, .slice va l.length vc] 81) = w0 at *
  have HB0 := Lib.hid hb0; have HR0 := Lib.hid hr0
  have HL0 : Hid (RdI .i64 (· < w0.heap.size) w0 (.slice va l.length vc) l) := Lib.hid (HL.out.any.bel hb0)
  clear hb0 hr0 HL
  refine (HR.out _).mono ?_
  rintro e w1 ⟨rfl, hb1⟩
  have HR1 := (hb1.block _ (row_lt HR0.out)).trans HR0.out
  have HB1 := Lib.hid (below_next HB0.out hb1)
  have HL1 := Lib.hid (HL0.out.bel hb1)
  clear hb1 HR0 HB0 HL0
  have hb2 := below_alloc w1 (.cells #[.int .u8 x, .string ⟨wd.toArray⟩, .int .i8 3, .string p, .string q, .bool b] 27)
  have HB2 := Lib.hid (below_next HB1.out hb2)
  have HL2 := Lib.hid (HL1.out.bel hb2)
  have HQ := (hb2.block _ (row_lt HR1)).trans HR1
  have b0 := row_cell HQ 0 rfl; have b1 := row_cell HQ 1 rfl; have b2 := row_cell HQ 2 rfl
  simp only [List.getElem_toArray, List.getElem_cons_zero, List.getElem_cons_succ] at b0 b1 b2
  clear HQ HR1 hb2 HL1 HB1
  by_cases h0 : (0 : Int) ≤ a ∧ a ≤ 0
  · have HV2 : Hid (checkI ⟨op, a, l⟩ = if l.length < 1 ∨ 16 < l.length then 17 else if l.all smallI then 0 else 17) := by have := HV.out; rw [if_pos h0] at this; exact this
    clear HV
    obtain ⟨h1, h2⟩ := h0
    by_cases hlen : l.length < 1 ∨ 16 < l.length
    · have HZ : Hid (checkI ⟨op, a, l⟩ = 17) := by have := HV2.out; rw [if_pos hlen] at this; exact this
      clear HV2
      rcases hlen with h1 | h1
      all_goals go_wp2
      all_goals go_ret
      all_goals exact ⟨ret_int HZ.out.symm, HB2.out⟩
    · have HZ : Hid (checkI ⟨op, a, l⟩ = if l.all smallI then 0 else 17) := by have := HV2.out; rw [if_neg hlen] at this; exact this
      clear HV2
      have l1 : ¬ l.length < 1 := by omega
      have l2 : ¬ 16 < l.length := by omega
      clear hlen
      go_wp2
      go_loop [7] (fun i => ∃ k : Nat, k ≤ l.length ∧ i = .int .i64 k ∧ Hid (l.all smallI = (l.drop k).all smallI)) (fun i => l.length - (intOf i).toNat)
      case atStart => exact ⟨0, by omega, rfl, Lib.hid rfl⟩
      case round =>
        obtain ⟨k, hk, rfl, HK⟩ := hrel
        by_cases hlt : k < l.length
        · obtain ⟨va', vc', e, _, _, hcell⟩ := HL2.out
          simp only [Value.slice.injEq] at e
          obtain ⟨rfl, _, rfl⟩ := e
          obtain ⟨bb, off, rfl, _, hc⟩ := hcell k hlt
          have HK2 := Lib.hid (HK.out.trans (all_drop hlt))
          have hs : Hid (smallI l[k] = decide (0 ≤ l[k] ∧ l[k] ≤ 2147483647)) := Lib.hid rfl
          clear hcell HK
          generalize l[k] = n at *
          by_cases hn : 0 ≤ n ∧ n ≤ 2147483647
          · have HN : Hid (l.all smallI = (l.drop (k + 1)).all smallI) := by have := HK2.out; rw [hs.out, decide_eq_true hn, Bool.true_and] at this; exact this
            clear HK2 hs
            obtain ⟨n1, n2⟩ := hn
            go_wp2
            go_round
            case rel => exact ⟨k + 1, by omega, by go_num, HN⟩
            case measure => simp [intOf]; omega
          · have HN : Hid (l.all smallI = false) := by have := HK2.out; rw [hs.out, decide_eq_false hn, Bool.false_and] at this; exact this
            have HE : Hid (checkI ⟨op, a, l⟩ = 17) := by have := HZ.out; rw [HN.out] at this; exact this
            clear HK2 hs HN HZ
            go_wp2
            all_goals first | (exfalso; omega) | skip
            all_goals go_ret
            all_goals exact ⟨ret_int HE.out.symm, HB2.out⟩
        · have HN : Hid (l.all smallI = true) := by have := HK.out; rw [List.drop_of_length_le (by omega)] at this; exact this
          have HE : Hid (checkI ⟨op, a, l⟩ = 0) := by have := HZ.out; rw [HN.out] at this; exact this
          go_wp2
          go_ret
          exact ⟨ret_int HE.out.symm, HB2.out⟩
  · have HZ : Hid (checkI ⟨op, a, l⟩ = 17) := by have := HV.out; rw [if_neg h0] at this; exact this
    clear HV
    have h1 : a < 0 ∨ 0 < a := by omega
    clear h0
    rcases h1 with h1 | h1
    all_goals go_wp2
    all_goals go_ret
    all_goals exact ⟨ret_int HZ.out.symm, HB2.out⟩
set_option maxRecDepth 100000 in
set_option maxHeartbeats 1600000 in
theorem ref4_cno (w : World) (S : Nat → Prop) (op : Nat) (a : Int) (l : List Int) (vl : Value) (ho : op < 256) (_ha : i64P a) (hr : RdI .i64 S w vl l) (hop : isOp op = false) :
    Calls Tryd.prog 63 #[.agg #[.int .u8 op, .int .i64 a, vl]] w fun e w' => e = .returned (.int .i64 (checkI ⟨op, a, l⟩)) ∧ Below w.heap.size w w' := by
  have HV : Hid (checkI ⟨op, a, l⟩ = 21) := by show _ = _; rw [checkI, if_pos hop]
  obtain ⟨x, p, q, b, hrow⟩ := rowVal_shape op
  have HR := Lib.hid (fun w' => ref_Of w' op ho)
  rw [hrow, hop] at HR
  clear hrow hop
  simp only [Bool.false_eq_true, if_false] at HR
  obtain ⟨va, vc, rfl, hlc⟩ := hr.lenc
  clear hr
  have hb0 := below_alloc w (.cells #[.int .u8 op, .int .i64 a, .slice va l.length vc] 81)
  go_enter Tryd.func63, Tryd.ntmps63
  go_wp2_with fail
  generalize w.alloc (.cells #[.int .u8 op, .int .i64 a, .slice va l.length vc] 81) = w0 at *
  have HB0 := Lib.hid hb0; clear hb0
  refine (HR.out _).mono ?_
  rintro e w1 ⟨rfl, hb1⟩
  have HB1 := Lib.hid (below_next HB0.out hb1); clear hb1 HB0
  go_wp2
  go_ret
  exact ⟨ret_int HV.out.symm, HB1.out.alloc HB1.out.size _⟩
theorem ref4_Check (w : World) (S : Nat → Prop) (x : InsD) (vl : Value) (wf : WfIns x) (hr : RdI .i64 S w vl x.l) :
    Calls Tryd.prog 63 #[.agg #[.int .u8 x.op, .int .i64 x.a, vl]] w fun e w' => e = .returned (.int .i64 (checkI x)) ∧ Below w.heap.size w w' := by
  obtain ⟨op, a, l⟩ := x
  have ho := wf.op; have ha := wf.a
  simp only at *
  cases hop : isOp op with
  | false => exact ref4_cno w S op a l vl ho ha hr hop
  | true =>
    rcases takes_range ⟨op, ho⟩ hop with h | h | h | h | h | h | h | h | ⟨h, h8⟩ | ⟨h, h8⟩ | h
    · exact ref4_c0 w S op a l vl ho ha hr hop h
    · exact ref4_c1 w S op a l vl ho ha hr hop h
    · exact ref4_c2 w S op a l vl ho ha hr hop h
    · exact ref4_c3 w S op a l vl ho ha hr hop h
    · exact ref4_c4 w S op a l vl ho ha hr hop h
    · exact ref4_c5 w S op a l vl ho ha hr hop h
    · exact ref4_c6 w S op a l vl ho ha hr hop h
    · exact ref4_c7 w S op a l vl ho ha hr hop h
    · exact ref4_c8w w S op a l vl ho ha hr hop h h8
    · exact ref4_c8l w S op a l vl ho ha hr hop h h8
    · exact ref4_c9 w S op a l vl ho ha hr hop h
end Go.Proofs.YtmlniifdipeboaaDoor
