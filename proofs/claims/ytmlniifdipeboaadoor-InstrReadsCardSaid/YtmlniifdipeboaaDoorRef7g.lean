/- flagonref03.Word, Takes; flagonref07.Of. -/
import Derived.Test.YtmlniifdipeboaaDoorRefOf
namespace Go.Proofs.YtmlniifdipeboaaDoor
open Go Go.RowKit

theorem rowVal_shape (op : Nat) : ∃ (x : Int) (p q : ByteArray) (b : Bool), (rowVal op).toArray = #[.int .u8 x, .string ⟨(if isOp op then wordP op else []).toArray⟩, .int .i8 (if isOp op then takesP op else 0), .string p, .string q, .bool b] := by
  cases h : isOp op with
  | true => rw [rowVal, if_pos h]; exact ⟨_, _, _, _, rfl⟩
  | false => rw [rowVal, if_neg (by simp [h])]; exact ⟨_, _, _, _, rfl⟩
set_option maxRecDepth 100000 in
set_option maxHeartbeats 800000 in
theorem ref_Word (w : World) (op : Nat) (ho : op < 256) :
    Calls Tryd.prog 118 #[.int .u8 op] w fun e w' => e = .returned (.string ⟨(if isOp op then wordP op else []).toArray⟩) ∧ Below w.heap.size w w' := by
  obtain ⟨x, p, q, b, hrow⟩ := rowVal_shape op
  have H := Lib.hid (ref_Of w op ho)
  rw [hrow] at H
  clear hrow
  generalize (if isOp op then wordP op else []) = wd at *
  generalize (if isOp op then takesP op else 0) = t at *
  generalize isOp op = io at *
  go_enter Tryd.func118, Tryd.ntmps118
  go_wp2_with fail
  refine H.out.mono ?_
  rintro e w1 ⟨rfl, hb⟩
  have HB := Lib.hid hb; clear hb
  go_wp2
  go_ret
  exact ⟨rfl, HB.out.alloc HB.out.size _⟩
set_option maxRecDepth 100000 in
set_option maxHeartbeats 800000 in
theorem ref_Takes (w : World) (op : Nat) (ho : op < 256) :
    Calls Tryd.prog 122 #[.int .u8 op] w fun e w' => e = .returned (.int .i8 (if isOp op then takesP op else -1)) ∧ Below w.heap.size w w' := by
  obtain ⟨x, p, q, b, hrow⟩ := rowVal_shape op
  have H := Lib.hid (ref_Of w op ho)
  rw [hrow] at H
  clear hrow
  cases hio : isOp op
  all_goals
    simp only [if_true, Bool.false_eq_true, if_false] at H ⊢
    generalize takesP op = t at *
    go_enter Tryd.func122, Tryd.ntmps122
    go_wp2_with fail
    refine H.out.mono ?_
    rintro e w1 ⟨rfl, hb⟩
    have HB := Lib.hid hb; clear hb
    go_wp2
    go_ret
    exact ⟨rfl, HB.out.alloc HB.out.size _⟩
theorem takes_nonneg : ∀ op : Fin 256, 0 ≤ takesP op.val := by decide +kernel
set_option maxRecDepth 100000 in
set_option maxHeartbeats 800000 in
theorem ref7_Of (w : World) (op : Nat) (ho : op < 256) :
    Calls Tryd.prog 52 #[.int .u8 op] w fun e w' => e = .returned (.bool (numOf op)) ∧ Below w.heap.size w w' := by
  have H := Lib.hid (ref_Takes w op ho)
  have hn := takes_nonneg ⟨op, ho⟩
  simp only at hn
  have HN : Hid (numOf op = (isOp op && decide (48 ≤ op))) := Lib.hid rfl
  cases hio : isOp op
  all_goals
    rw [hio] at H HN
    simp only [if_true, Bool.false_eq_true, if_false, Bool.false_and, Bool.true_and] at H HN
    rw [HN.out]
    generalize takesP op = t at *
    by_cases h48 : 48 ≤ op
    · have hd : decide (48 ≤ op) = true := decide_eq_true h48
      go_enter Tryd.func52, Tryd.ntmps52
      go_wp2_with fail
      refine H.out.mono ?_
      rintro e w1 ⟨rfl, hb⟩
      have HB := Lib.hid hb; clear hb
      go_wp2
      all_goals go_ret
      all_goals exact ⟨ret_bool (by first | (simp; done) | (simp [h48]; done) | (simp; omega) | (simp [h48]; omega)), HB.out⟩
    · go_enter Tryd.func52, Tryd.ntmps52
      go_wp2
      all_goals go_ret
      all_goals exact ⟨ret_bool (by first | (simp; done) | simp [h48]), Below.refl _ _⟩
end Go.Proofs.YtmlniifdipeboaaDoor
