/- flagonlaw03: works, same, OpsRows, OpsFind, walked. -/
import Derived.Test.YtmlniifdipeboaaDoorFind
import Derived.Test.YtmlniifdipeboaaDoorRefOf
namespace Go.Proofs.YtmlniifdipeboaaDoor
open Go Go.RowKit

/-- The row of an opcode, opened. -/
theorem rowVal_parts (op : Nat) : ∃ (x : Int) (s : ByteArray) (t : Int) (p q : ByteArray) (b : Bool), (rowVal op).toArray = #[.int .u8 x, .string s, .int .i8 t, .string p, .string q, .bool b] := by
  obtain ⟨x, s, t, p, q, b, h⟩ := rowVal_open op
  exact ⟨x, s, t, p, q, b, by rw [h]⟩

set_option maxRecDepth 100000 in
set_option maxHeartbeats 1600000 in
theorem law_same (w : World) (x : Int) (s : ByteArray) (t : Int) (p q : ByteArray) (b : Bool) :
    Calls Tryd.prog 21 #[.agg #[.int .u8 x, .string s, .int .i8 t, .string p, .string q, .bool b], .agg #[.int .u8 x, .string s, .int .i8 t, .string p, .string q, .bool b]] w fun e w' => e = .returned (.bool true) ∧ Below w.heap.size w w' := by
  go_enter Tryd.func21, Tryd.ntmps21
  go_wp2
  all_goals go_ret
  all_goals exact ⟨ret_bool (by first | rfl | simp), below_alloc2 _ _ _⟩

theorem row41 : (rowVal 41).toArray = #[.int .u8 41, .string ⟨#[108, 46, 115, 116, 111, 114, 101]⟩, .int .i8 9, .string ⟨#[119, 108]⟩, .string ⟨#[]⟩, .bool true] := by kernel_rfl
theorem find_rotr : findP [119, 46, 114, 111, 116, 114] = some 72 := by decide +kernel

set_option maxRecDepth 100000 in
set_option maxHeartbeats 3200000 in
theorem law_works03 (w : World) (ht : Tb w) :
    Calls Tryd.prog 22 #[] w fun e w' => e = .returned (.bool true) ∧ Below w.heap.size w w' := by
  have HT := Lib.hid ht; clear ht
  go_enter Tryd.func22, Tryd.ntmps22
  go_wp2_with fail
  refine (ops_Of _ 41 (by decide) HT.out).mono ?_
  rintro e w1 ⟨rfl, hb1⟩
  have HB1 := Lib.hid hb1; clear hb1
  rw [row41, show isOp 41 = true by decide +kernel]
  go_wp2_with fail
  have hr1 := heap_alloc_new w1 (.cells #[.int .u8 41, .string ⟨#[108, 46, 115, 116, 111, 114, 101]⟩, .int .i8 9, .string ⟨#[119, 108]⟩, .string ⟨#[]⟩, .bool true] 24)
  have hb2 := HB1.out.alloc HB1.out.size (.cells #[.int .u8 41, .string ⟨#[108, 46, 115, 116, 111, 114, 101]⟩, .int .i8 9, .string ⟨#[119, 108]⟩, .string ⟨#[]⟩, .bool true] 24)
  generalize w1.alloc (.cells #[.int .u8 41, .string ⟨#[108, 46, 115, 116, 111, 114, 101]⟩, .int .i8 9, .string ⟨#[119, 108]⟩, .string ⟨#[]⟩, .bool true] 24) = w2 at *
  generalize w1.heap.size = g at *
  have HB2 := Lib.hid hb2; have HR2 := Lib.hid hr1
  clear hb2 hr1 HB1
  refine (ops_Find _ [119, 46, 114, 111, 116, 114] (HT.out.bel HB2.out)).mono ?_
  rintro e w3 ⟨rfl, hb3⟩
  rw [findN, find_rotr]
  have HR3 := Lib.hid ((hb3.block _ (row_lt HR2.out)).trans HR2.out)
  have HB3 := Lib.hid (below_next HB2.out hb3)
  clear hb3 HR2 HB2
  have g0 := row_cell HR3.out 0 rfl; have g1 := row_cell HR3.out 1 rfl; have g2 := row_cell HR3.out 2 rfl; have g3 := row_cell HR3.out 3 rfl; have g4 := row_cell HR3.out 4 rfl; have g5 := row_cell HR3.out 5 rfl
  simp only [List.getElem_toArray, List.getElem_cons_zero, List.getElem_cons_succ] at g0 g1 g2 g3 g4 g5
  go_wp2_with fail
  refine (ops_All _ (HT.out.bel HB3.out)).mono ?_
  rintro e w4 ⟨v, rfl, hown, hb4⟩
  obtain ⟨a, c, rfl, _⟩ := own_slice hown
  have HB4 := Lib.hid (below_next HB3.out hb4)
  clear hown hb4
  go_wp2
  go_ret
  exact ⟨rfl, HB4.out⟩

set_option maxRecDepth 100000 in
set_option maxHeartbeats 6400000 in
theorem law_rows (w : World) (ht : Tb w) :
    Calls Tryd.prog 3 #[] w fun e w' => e = .returned (.bool true) ∧ Below w.heap.size w w' := by
  have HT := Lib.hid ht; clear ht
  go_enter Tryd.func3, Tryd.ntmps3
  go_wp2
  go_loopw [1] (fun i wr => ∃ k : Nat, k ≤ 256 ∧ i = .int .i64 k ∧ Below w.heap.size w wr) (fun i _ => 256 - (intOf i).toNat)
  case atStart => exact ⟨0, by omega, rfl, Below.refl _ _⟩
  case round =>
    obtain ⟨k, hk, rfl, hbr⟩ := hrel
    have HB := Lib.hid hbr; clear hbr
    have HTr := Lib.hid (HT.out.bel HB.out)
    by_cases hlt : k < 256
    · have e8 : IntKind.u8.wrap (k : Int) = (k : Int) := IntWalk.u8_in _ ⟨by omega, by omega⟩
      obtain ⟨x, s, t, p, q, b, hrow⟩ := rowVal_parts k
      go_wp2_with fail
      refine (ops_Of _ k hlt HTr.out).mono ?_
      rintro e w1 ⟨rfl, hb1⟩
      rw [hrow]
      have HB1 := Lib.hid (below_next HB.out hb1)
      have hr1 := heap_alloc_new w1 (.cells #[.int .u8 x, .string s, .int .i8 t, .string p, .string q, .bool b] 24)
      have hb2 := HB1.out.alloc HB1.out.size (.cells #[.int .u8 x, .string s, .int .i8 t, .string p, .string q, .bool b] 24)
      clear hb1
      go_wp2_with fail
      generalize w1.alloc (.cells #[.int .u8 x, .string s, .int .i8 t, .string p, .string q, .bool b] 24) = w2 at *
      generalize w1.heap.size = g at *
      have HB2 := Lib.hid hb2; have HR2 := Lib.hid hr1
      clear hb2 hr1 HB1
      refine (ref_Of _ k hlt).mono ?_
      rintro e w3 ⟨rfl, hb3⟩
      rw [hrow]
      have HR3 := Lib.hid ((hb3.block _ (row_lt HR2.out)).trans HR2.out)
      have HB3 := Lib.hid (below_next HB2.out hb3)
      clear hb3 HR2 HB2 hrow
      have HB4 := Lib.hid (HB3.out.alloc HB3.out.size (.cells #[.int .u8 x, .string s, .int .i8 t, .string p, .string q, .bool b] 27))
      have HR4 := Lib.hid (((below_alloc w3 (.cells #[.int .u8 x, .string s, .int .i8 t, .string p, .string q, .bool b] 27)).block _ (row_lt HR3.out)).trans HR3.out)
      have g0 := row_cell HR4.out 0 rfl; have g1 := row_cell HR4.out 1 rfl; have g2 := row_cell HR4.out 2 rfl; have g3 := row_cell HR4.out 3 rfl; have g4 := row_cell HR4.out 4 rfl; have g5 := row_cell HR4.out 5 rfl
      simp only [List.getElem_toArray, List.getElem_cons_zero, List.getElem_cons_succ] at g0 g1 g2 g3 g4 g5
      generalize isOp k = io at *
      go_wp2_with fail
      refine (law_same _ x s t p q b).mono ?_
      rintro e w5 ⟨rfl, hb5⟩
      have HB5 := Lib.hid (below_next HB4.out hb5)
      clear hb5
      go_wp2
      go_roundw
      case rel => exact ⟨k + 1, by omega, by go_num, HB5.out⟩
      case measure => simp [intOf]; omega
    · go_wp2_with fail
      refine (law_works03 _ HTr.out).mono ?_
      rintro e w1 ⟨rfl, hb1⟩
      go_wp2
      go_ret
      exact ⟨rfl, below_next HB.out hb1⟩
end Go.Proofs.YtmlniifdipeboaaDoor
