/- nums.Of, nums.turned, and the parts of nums.number. -/
import Derived.Test.YtmlniifdipeboaaDoorOps4
import Derived.Test.YtmlniifdipeboaaDoorNumLaw
import Derived.Laws.BitsAllLaws
import Derived.Laws.Bits64b
import Derived.Laws.ShiftsVarLaws
namespace Go.Proofs.YtmlniifdipeboaaDoor
open Go Go.RowKit

def rowVal (op : Nat) : List Value := if isOp op then rowCells op (progRow op) else zeroRow
theorem ops_Of (w : World) (op : Nat) (ho : op < 256) (ht : Tb w) :
    Calls Tryd.prog 19 #[.int .u8 op] w fun e w' => e = .returned (.tuple #[.agg (rowVal op).toArray, .bool (isOp op)]) ∧ Below w.heap.size w w' := by
  cases h : isOp op with
  | true => rw [rowVal, if_pos h]; exact ops_Of_yes w op ho ht h
  | false => rw [rowVal, if_neg (by simp [h])]; exact ops_Of_no w op ho ht h
theorem rowVal_open (op : Nat) : ∃ (x : Int) (s : ByteArray) (t : Int) (p q : ByteArray) (b : Bool), rowVal op = [.int .u8 x, .string s, .int .i8 t, .string p, .string q, .bool b] := by
  unfold rowVal; split <;> exact ⟨_, _, _, _, _, _, rfl⟩
def numOf (op : Nat) : Bool := isOp op && decide (48 ≤ op)

set_option maxRecDepth 100000 in
set_option maxHeartbeats 3200000 in
theorem nums_Of (w : World) (op : Nat) (ho : op < 256) (ht : Tb w) :
    Calls Tryd.prog 51 #[.int .u8 op] w fun e w' => e = .returned (.bool (numOf op)) ∧ Below w.heap.size w w' := by
  have HT := Lib.hid ht; clear ht
  go_enter Tryd.func51, Tryd.ntmps51
  go_wp2_with fail
  refine (ops_Of _ op ho HT.out).mono ?_
  rintro e w1 ⟨rfl, hb⟩
  have HB := Lib.hid hb; clear hb
  obtain ⟨rx, rs, rt, rp, rq, rb, hrv⟩ := rowVal_open op
  rw [hrv]; clear hrv
  have HN : Hid (numOf op = (isOp op && decide (48 ≤ op))) := Lib.hid rfl
  generalize isOp op = io at *
  cases io
  · go_wp2
    go_ret
    exact ⟨ret_bool (by rw [HN.out]; rfl), HB.out.alloc HB.out.size _⟩
  · go_wp2
    go_ret
    exact ⟨ret_bool (by rw [HN.out]; simp; omega), HB.out.alloc HB.out.size _⟩

def turnN (op a : Nat) : Nat :=
  if op = 113 ∨ op = 117 then un 64 (sg 32 (a % 4294967296)) else if op = 115 then un 32 (sg 8 (a % 256)) else if op = 116 then un 32 (sg 16 (a % 65536)) else a % 4294967296
theorem wrap32_sg (a : Nat) : wrap32 a = sg 32 (a % 4294967296) := by unfold wrap32 sg; split <;> omega
theorem i8_sg (a : Nat) : IntKind.i8.wrap a = sg 8 (a % 256) := by
  have e : IntKind.i8.wrap a = if 128 ≤ (a : Int) % 256 then (a : Int) % 256 - 256 else (a : Int) % 256 := by simp [IntKind.wrap, IntKind.bits, IntKind.signed]
  rw [e, sg]; split <;> split <;> omega
theorem i16_sg (a : Nat) : IntKind.i16.wrap a = sg 16 (a % 65536) := by
  have e : IntKind.i16.wrap a = if 32768 ≤ (a : Int) % 65536 then (a : Int) % 65536 - 65536 else (a : Int) % 65536 := by simp [IntKind.wrap, IntKind.bits, IntKind.signed]
  rw [e, sg]; split <;> split <;> omega
theorem un64 (z : Int) : (un 64 z : Int) = z % 18446744073709551616 := by unfold un; omega
theorem un32 (z : Int) : (un 32 z : Int) = z % 4294967296 := by unfold un; omega
theorem u64_64_32 (a : Nat) : IntKind.u64.wrap (wrap64 (wrap32 a)) = (un 64 (sg 32 (a % 4294967296)) : Int) := by
  rw [IntKind.wrap_u64, un64, ← wrap32_sg]
  unfold wrap64 wrap32
  omega

set_option maxRecDepth 100000 in
set_option maxHeartbeats 3200000 in
theorem nums_turned (w : World) (op a : Nat) (_ho : op < 256) (_ha : a < 18446744073709551616) :
    Calls Tryd.prog 115 #[.int .u8 op, .int .u64 a] w fun e w' => e = .returned (.int .u64 (turnN op a)) ∧ w' = w := by
  have H1 := Lib.hid (u64_64_32 a); have H2 := Lib.hid (i8_sg a); have H3 := Lib.hid (i16_sg a)
  go_enter Tryd.func115, Tryd.ntmps115
  go_wp2
  all_goals
    go_ret
    (try simp only [beq_iff_eq, beq_eq_false_iff_ne, ne_eq] at *)
    first
      | (exfalso; omega)
      | (refine ⟨ret_int ?_, by simp⟩; rw [turnN, if_pos (show op = 113 ∨ op = 117 by omega)]; exact H1.out)
      | (refine ⟨ret_int ?_, by simp⟩; rw [turnN, if_neg (show ¬ (op = 113 ∨ op = 117) by omega), if_pos (show op = 115 by omega), un32, ← H2.out])
      | (refine ⟨ret_int ?_, by simp⟩; rw [turnN, if_neg (show ¬ (op = 113 ∨ op = 117) by omega), if_neg (show ¬ op = 115 by omega), if_pos (show op = 116 by omega), un32, ← H3.out])
      | (refine ⟨ret_int ?_, by simp⟩; rw [turnN, if_neg (show ¬ (op = 113 ∨ op = 117) by omega), if_neg (show ¬ op = 115 by omega), if_neg (show ¬ op = 116 by omega)]; show ((a : Int) % 4294967296) = ((a % 4294967296 : Nat) : Int); omega)
end Go.Proofs.YtmlniifdipeboaaDoor
