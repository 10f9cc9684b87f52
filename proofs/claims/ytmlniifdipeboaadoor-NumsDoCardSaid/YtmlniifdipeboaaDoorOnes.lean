/- math/bits.OnesCount64. -/
import Derived.Test.YtmlniifdipeboaaDoorNums2
namespace Go.Proofs.YtmlniifdipeboaaDoor
open Go Go.RowKit

theorem and_n (a m : Nat) (M : Int) (hM : (m : Int) = M) (ha : a < 18446744073709551616) (hm : m < 18446744073709551616) : ∃ A : Nat, Hid (A = a &&& m) ∧ A ≤ m ∧ bits .and .u64 (a : Int) M = (A : Int) := ⟨_, Lib.hid rfl, Nat.and_le_right, by rw [← hM]; exact bits_and_u64_nat a m ha hm⟩
set_option maxRecDepth 100000 in
set_option maxHeartbeats 3200000 in
theorem ones64 (w : World) (x : Nat) (hx : x < 18446744073709551616) :
    Calls Tryd.prog 148 #[.int .u64 x] w fun e w' => e = .returned (.int .i64 (popN 64 x)) ∧ w' = w := by
  obtain ⟨A1, hA1, lA1, eA1⟩ := and_n (x / 2) 6148914691236517205 6148914691236517205 rfl (by omega) (by decide)
  obtain ⟨B1, hB1, lB1, eB1⟩ := and_n x 6148914691236517205 6148914691236517205 rfl hx (by decide)
  obtain ⟨A2, hA2, lA2, eA2⟩ := and_n ((A1 + B1) / 4) 3689348814741910323 3689348814741910323 rfl (by omega) (by decide)
  obtain ⟨B2, hB2, lB2, eB2⟩ := and_n (A1 + B1) 3689348814741910323 3689348814741910323 rfl (by omega) (by decide)
  obtain ⟨X3, hX3, lX3, eX3⟩ := and_n ((A2 + B2) / 16 + (A2 + B2)) 1085102592571150095 1085102592571150095 rfl (by omega) (by decide)
  obtain ⟨X4, hX4⟩ : ∃ X, X = X3 + X3 / 256 := ⟨_, rfl⟩
  obtain ⟨X5, hX5⟩ : ∃ X, X = X4 + X4 / 65536 := ⟨_, rfl⟩
  obtain ⟨X6, hX6⟩ : ∃ X, X = X5 + X5 / 4294967296 := ⟨_, rfl⟩
  have hsw := (swar 8 x (by rw [show (256 : Nat) ^ 8 = 18446744073709551616 from rfl]; exact hx)).1
  have r85 : rep 85 8 = 6148914691236517205 := by decide
  have r51 : rep 51 8 = 3689348814741910323 := by decide
  have r15 : rep 15 8 = 1085102592571150095 := by decide
  have hd3 : X3 = dig 8 x := by
    rw [← hsw, s3, s2, s1, r85, r51, r15, ← hA1.out, ← hB1.out, ← hA2.out, ← hB2.out, ← hX3.out]
  have hp := Lib.hid (pop_sum x hd3 hX4 hX5 hX6)
  have hlt := dig_lt x
  rw [← hd3] at hlt
  have w1 : IntKind.u64.wrap ((A1 : Int) + B1) = ((A1 + B1 : Nat) : Int) := by rw [IntKind.wrap_u64]; omega
  have w2 : IntKind.u64.wrap ((A2 : Int) + B2) = ((A2 + B2 : Nat) : Int) := by rw [IntKind.wrap_u64]; omega
  have w3 : IntKind.u64.wrap (((A2 + B2 : Nat) : Int) / 16 + ((A2 + B2 : Nat) : Int)) = (((A2 + B2) / 16 + (A2 + B2) : Nat) : Int) := by rw [IntKind.wrap_u64]; omega
  have w4 : IntKind.u64.wrap ((X3 : Int) + (X3 : Int) / 256) = (X4 : Int) := by rw [IntKind.wrap_u64]; omega
  have l4 : X4 < 2100000000000000000 := by omega
  have w5 : IntKind.u64.wrap ((X4 : Int) + (X4 : Int) / 65536) = (X5 : Int) := by rw [IntKind.wrap_u64]; omega
  have l5 : X5 < 2200000000000000000 := by omega
  have w6 : IntKind.u64.wrap ((X5 : Int) + (X5 : Int) / 4294967296) = (X6 : Int) := by rw [IntKind.wrap_u64]; omega
  have l6 : X6 < 2300000000000000000 := by omega
  have w7 : wrap64 (X6 : Int) = (X6 : Int) := by unfold wrap64; omega
  have w8 : bits .and .i64 (X6 : Int) 127 = ((X6 % 128 : Nat) : Int) := by rw [i64_and127]; omega
  have c1 : (x : Int) / 2 = ((x / 2 : Nat) : Int) := by omega
  have c2 : ((A1 + B1 : Nat) : Int) / 4 = (((A1 + B1) / 4 : Nat) : Int) := by omega
  generalize hy1 : x / 2 = y1 at *
  generalize hy2 : A1 + B1 = y2 at *
  generalize hy3 : y2 / 4 = y3 at *
  generalize hy4 : A2 + B2 = y4 at *
  generalize hy5 : y4 / 16 + y4 = y5 at *
  generalize hy6 : X6 % 128 = y6 at *
  clear hA1 hB1 hA2 hB2 hX3 hX4 hX5 hX6 hsw r85 r51 r15 hd3 hlt hy1 hy2 hy3 hy4 hy5 hy6
  go_enter Tryd.func148, Tryd.ntmps148
  go_wp2
  go_ret
  exact ⟨ret_int (by rw [← hp.out]), rfl⟩
end Go.Proofs.YtmlniifdipeboaaDoor
