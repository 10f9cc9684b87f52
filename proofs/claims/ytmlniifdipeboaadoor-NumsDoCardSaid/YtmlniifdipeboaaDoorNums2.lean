/- nums.number: each place, both widths. -/
import Derived.Test.YtmlniifdipeboaaDoorNums
import Derived.Test.YtmlniifdipeboaaDoorPop
namespace Go.Proofs.YtmlniifdipeboaaDoor
open Go Go.RowKit

theorem wrap32_n (a : Nat) (h : a < 4294967296) : wrap32 a = sg 32 a := by rw [wrap32_sg, Nat.mod_eq_of_lt h]
theorem wrap64_n (a : Nat) (h : a < 18446744073709551616) : wrap64 a = sg 64 a := by unfold wrap64 sg; split <;> omega
theorem tr_t {p : Prop} [Decidable p] (h : p) : ((tr (decide p) : Nat) : Int) = 1 := by simp [tr, h]
theorem tr_f {p : Prop} [Decidable p] (h : ¬ p) : ((tr (decide p) : Nat) : Int) = 0 := by simp [tr, h]
theorem w64_nat {a : Nat} (h : a < 18446744073709551616) : IntKind.u64.wrap (a : Int) = a := by rw [IntKind.wrap_u64]; omega
theorem rot_or {n a k : Nat} (hk : k < n) (ha : a < 2 ^ n) : a * 2 ^ k % 2 ^ n ||| a / 2 ^ ((n - k) % n) = rotlN n a k := by
  rcases Nat.eq_zero_or_pos k with rfl | h0
  · have e2 : (n - 0) % n = 0 := by simp
    rw [e2, Nat.pow_zero, Nat.mul_one, Nat.div_one, Nat.mod_eq_of_lt ha, Nat.or_self]
    simp [rotlN, Nat.mod_eq_of_lt ha, Nat.div_eq_of_lt ha]
  · have hm : 2 ^ n = 2 ^ (n - k) * 2 ^ k := by rw [← Nat.pow_add]; congr 1; omega
    have e1 : (n - k) % n = n - k := Nat.mod_eq_of_lt (by omega)
    have hlt : a / 2 ^ (n - k) < 2 ^ k := Nat.div_lt_of_lt_mul (by rw [← hm]; exact ha)
    rw [e1, hm, Nat.mul_mod_mul_right, or_add hlt, rotlN]
theorem neg_mod32 (b : Nat) : (-((b : Int) % 32) % 32).toNat = (32 - b % 32) % 32 := by omega
theorem neg_mod32' (b : Nat) : (-(-((b : Int) % 32) % 32) % 32).toNat = (32 - (32 - b % 32) % 32) % 32 := by omega
theorem neg_mod64 (b : Nat) : (-((b : Int) % 64) % 64).toNat = (64 - b % 64) % 64 := by omega
theorem neg_mod64' (b : Nat) : (-(-((b : Int) % 64) % 64) % 64).toNat = (64 - (64 - b % 64) % 64) % 64 := by omega
theorem wrap32_mod (z : Int) : wrap32 z % 4294967296 = z % 4294967296 := by unfold wrap32; omega
theorem wrap64_mod (z : Int) : wrap64 z % 18446744073709551616 = z % 18446744073709551616 := by unfold wrap64; omega
theorem all_u32 : bits BinOp.xor IntKind.u32 (if IntKind.u32.signed = true then -1 else IntKind.u32.max) 0 = 4294967295 := by decide
theorem all_u64 : bits BinOp.xor IntKind.u64 (if IntKind.u64.signed = true then -1 else IntKind.u64.max) 0 = 18446744073709551615 := by decide
theorem cast_shl (a k M : Nat) : (a : Int) * 2 ^ k % M = ((a * 2 ^ k % M : Nat) : Int) := by simp
theorem cast_shr (a k : Nat) : (a : Int) / 2 ^ k = ((a / 2 ^ k : Nat) : Int) := by simp

set_option maxRecDepth 100000 in
set_option maxHeartbeats 1600000 in
theorem num32_0 (w : World) (a b lz tz : Nat) (ha : a < 4294967296) (hb : b < 4294967296) :
    Calls Tryd.prog 117 #[.int .i64 0, .int .u32 a, .int .u32 b, .int .u64 32] w fun e w' => e = .returned (.tuple #[.int .u64 ((numN 32 0 a b lz tz).1 : Int), .int .i8 (numN 32 0 a b lz tz).2]) ∧ w' = w := by
  have HA := Lib.hid (wrap32_n a ha); have HB := Lib.hid (wrap32_n b hb)
  go_enter Tryd.func117, Tryd.ntmps117
  go_wp2
  all_goals
    go_ret2
    refine ⟨rets2 (congrArg (Value.int .u64) ?_) rfl, by trivial⟩
    first
      | exact (tr_t (by ((try simp only [beq_iff_eq] at *); (try simp only [bne_iff_ne] at *); (try simp only [beq_eq_false_iff_ne] at *); (try simp only [bne_eq_false_iff_eq] at *); have e1 := HA.out; have e2 := HB.out; omega))).symm
      | exact (tr_f (by ((try simp only [beq_iff_eq] at *); (try simp only [bne_iff_ne] at *); (try simp only [beq_eq_false_iff_ne] at *); (try simp only [bne_eq_false_iff_eq] at *); have e1 := HA.out; have e2 := HB.out; omega))).symm
set_option maxRecDepth 100000 in
set_option maxHeartbeats 1600000 in
theorem num32_1 (w : World) (a b lz tz : Nat) (ha : a < 4294967296) (hb : b < 4294967296) :
    Calls Tryd.prog 117 #[.int .i64 1, .int .u32 a, .int .u32 b, .int .u64 32] w fun e w' => e = .returned (.tuple #[.int .u64 ((numN 32 1 a b lz tz).1 : Int), .int .i8 (numN 32 1 a b lz tz).2]) ∧ w' = w := by
  have HA := Lib.hid (wrap32_n a ha); have HB := Lib.hid (wrap32_n b hb)
  go_enter Tryd.func117, Tryd.ntmps117
  go_wp2
  all_goals
    go_ret2
    refine ⟨rets2 (congrArg (Value.int .u64) ?_) rfl, by trivial⟩
    first
      | exact (tr_t (by ((try simp only [beq_iff_eq] at *); (try simp only [bne_iff_ne] at *); (try simp only [beq_eq_false_iff_ne] at *); (try simp only [bne_eq_false_iff_eq] at *); have e1 := HA.out; have e2 := HB.out; omega))).symm
      | exact (tr_f (by ((try simp only [beq_iff_eq] at *); (try simp only [bne_iff_ne] at *); (try simp only [beq_eq_false_iff_ne] at *); (try simp only [bne_eq_false_iff_eq] at *); have e1 := HA.out; have e2 := HB.out; omega))).symm
set_option maxRecDepth 100000 in
set_option maxHeartbeats 1600000 in
theorem num32_2 (w : World) (a b lz tz : Nat) (ha : a < 4294967296) (hb : b < 4294967296) :
    Calls Tryd.prog 117 #[.int .i64 2, .int .u32 a, .int .u32 b, .int .u64 32] w fun e w' => e = .returned (.tuple #[.int .u64 ((numN 32 2 a b lz tz).1 : Int), .int .i8 (numN 32 2 a b lz tz).2]) ∧ w' = w := by
  have HA := Lib.hid (wrap32_n a ha); have HB := Lib.hid (wrap32_n b hb)
  go_enter Tryd.func117, Tryd.ntmps117
  go_wp2
  all_goals
    go_ret2
    refine ⟨rets2 (congrArg (Value.int .u64) ?_) rfl, by trivial⟩
    first
      | exact (tr_t (by ((try simp only [beq_iff_eq] at *); (try simp only [bne_iff_ne] at *); (try simp only [beq_eq_false_iff_ne] at *); (try simp only [bne_eq_false_iff_eq] at *); have e1 := HA.out; have e2 := HB.out; omega))).symm
      | exact (tr_f (by ((try simp only [beq_iff_eq] at *); (try simp only [bne_iff_ne] at *); (try simp only [beq_eq_false_iff_ne] at *); (try simp only [bne_eq_false_iff_eq] at *); have e1 := HA.out; have e2 := HB.out; omega))).symm
set_option maxRecDepth 100000 in
set_option maxHeartbeats 1600000 in
theorem num32_3 (w : World) (a b lz tz : Nat) (ha : a < 4294967296) (hb : b < 4294967296) :
    Calls Tryd.prog 117 #[.int .i64 3, .int .u32 a, .int .u32 b, .int .u64 32] w fun e w' => e = .returned (.tuple #[.int .u64 ((numN 32 3 a b lz tz).1 : Int), .int .i8 (numN 32 3 a b lz tz).2]) ∧ w' = w := by
  have HA := Lib.hid (wrap32_n a ha); have HB := Lib.hid (wrap32_n b hb)
  go_enter Tryd.func117, Tryd.ntmps117
  go_wp2
  all_goals
    go_ret2
    refine ⟨rets2 (congrArg (Value.int .u64) ?_) rfl, by trivial⟩
    first
      | exact (tr_t (by ((try simp only [beq_iff_eq] at *); (try simp only [bne_iff_ne] at *); (try simp only [beq_eq_false_iff_ne] at *); (try simp only [bne_eq_false_iff_eq] at *); have e1 := HA.out; have e2 := HB.out; omega))).symm
      | exact (tr_f (by ((try simp only [beq_iff_eq] at *); (try simp only [bne_iff_ne] at *); (try simp only [beq_eq_false_iff_ne] at *); (try simp only [bne_eq_false_iff_eq] at *); have e1 := HA.out; have e2 := HB.out; omega))).symm
set_option maxRecDepth 100000 in
set_option maxHeartbeats 1600000 in
theorem num32_4 (w : World) (a b lz tz : Nat) (ha : a < 4294967296) (hb : b < 4294967296) :
    Calls Tryd.prog 117 #[.int .i64 4, .int .u32 a, .int .u32 b, .int .u64 32] w fun e w' => e = .returned (.tuple #[.int .u64 ((numN 32 4 a b lz tz).1 : Int), .int .i8 (numN 32 4 a b lz tz).2]) ∧ w' = w := by
  have HA := Lib.hid (wrap32_n a ha); have HB := Lib.hid (wrap32_n b hb)
  go_enter Tryd.func117, Tryd.ntmps117
  go_wp2
  all_goals
    go_ret2
    refine ⟨rets2 (congrArg (Value.int .u64) ?_) rfl, by trivial⟩
    first
      | exact (tr_t (by ((try simp only [beq_iff_eq] at *); (try simp only [bne_iff_ne] at *); (try simp only [beq_eq_false_iff_ne] at *); (try simp only [bne_eq_false_iff_eq] at *); have e1 := HA.out; have e2 := HB.out; omega))).symm
      | exact (tr_f (by ((try simp only [beq_iff_eq] at *); (try simp only [bne_iff_ne] at *); (try simp only [beq_eq_false_iff_ne] at *); (try simp only [bne_eq_false_iff_eq] at *); have e1 := HA.out; have e2 := HB.out; omega))).symm
set_option maxRecDepth 100000 in
set_option maxHeartbeats 1600000 in
theorem num32_5 (w : World) (a b lz tz : Nat) (ha : a < 4294967296) (hb : b < 4294967296) :
    Calls Tryd.prog 117 #[.int .i64 5, .int .u32 a, .int .u32 b, .int .u64 32] w fun e w' => e = .returned (.tuple #[.int .u64 ((numN 32 5 a b lz tz).1 : Int), .int .i8 (numN 32 5 a b lz tz).2]) ∧ w' = w := by
  have HA := Lib.hid (wrap32_n a ha); have HB := Lib.hid (wrap32_n b hb)
  go_enter Tryd.func117, Tryd.ntmps117
  go_wp2
  all_goals
    go_ret2
    refine ⟨rets2 (congrArg (Value.int .u64) ?_) rfl, by trivial⟩
    first
      | exact (tr_t (by ((try simp only [beq_iff_eq] at *); (try simp only [bne_iff_ne] at *); (try simp only [beq_eq_false_iff_ne] at *); (try simp only [bne_eq_false_iff_eq] at *); have e1 := HA.out; have e2 := HB.out; omega))).symm
      | exact (tr_f (by ((try simp only [beq_iff_eq] at *); (try simp only [bne_iff_ne] at *); (try simp only [beq_eq_false_iff_ne] at *); (try simp only [bne_eq_false_iff_eq] at *); have e1 := HA.out; have e2 := HB.out; omega))).symm
set_option maxRecDepth 100000 in
set_option maxHeartbeats 1600000 in
theorem num32_6 (w : World) (a b lz tz : Nat) (ha : a < 4294967296) (hb : b < 4294967296) :
    Calls Tryd.prog 117 #[.int .i64 6, .int .u32 a, .int .u32 b, .int .u64 32] w fun e w' => e = .returned (.tuple #[.int .u64 ((numN 32 6 a b lz tz).1 : Int), .int .i8 (numN 32 6 a b lz tz).2]) ∧ w' = w := by
  have HA := Lib.hid (wrap32_n a ha); have HB := Lib.hid (wrap32_n b hb)
  go_enter Tryd.func117, Tryd.ntmps117
  go_wp2
  all_goals
    go_ret2
    refine ⟨rets2 (congrArg (Value.int .u64) ?_) rfl, by trivial⟩
    first
      | exact (tr_t (by ((try simp only [beq_iff_eq] at *); (try simp only [bne_iff_ne] at *); (try simp only [beq_eq_false_iff_ne] at *); (try simp only [bne_eq_false_iff_eq] at *); have e1 := HA.out; have e2 := HB.out; omega))).symm
      | exact (tr_f (by ((try simp only [beq_iff_eq] at *); (try simp only [bne_iff_ne] at *); (try simp only [beq_eq_false_iff_ne] at *); (try simp only [bne_eq_false_iff_eq] at *); have e1 := HA.out; have e2 := HB.out; omega))).symm
set_option maxRecDepth 100000 in
set_option maxHeartbeats 1600000 in
theorem num32_10 (w : World) (a b lz tz : Nat) (ha : a < 4294967296) (hb : b < 4294967296) :
    Calls Tryd.prog 117 #[.int .i64 10, .int .u32 a, .int .u32 b, .int .u64 32] w fun e w' => e = .returned (.tuple #[.int .u64 ((numN 32 10 a b lz tz).1 : Int), .int .i8 (numN 32 10 a b lz tz).2]) ∧ w' = w := by
  have HA := Lib.hid (wrap32_n a ha); have HB := Lib.hid (wrap32_n b hb)
  go_enter Tryd.func117, Tryd.ntmps117
  go_wp2
  go_ret2
  refine ⟨rets2 (congrArg (Value.int .u64) ?_) rfl, by trivial⟩
  show _ = (((a + b) % 4294967296 : Nat) : Int); omega
set_option maxRecDepth 100000 in
set_option maxHeartbeats 1600000 in
theorem num32_11 (w : World) (a b lz tz : Nat) (ha : a < 4294967296) (hb : b < 4294967296) :
    Calls Tryd.prog 117 #[.int .i64 11, .int .u32 a, .int .u32 b, .int .u64 32] w fun e w' => e = .returned (.tuple #[.int .u64 ((numN 32 11 a b lz tz).1 : Int), .int .i8 (numN 32 11 a b lz tz).2]) ∧ w' = w := by
  have HA := Lib.hid (wrap32_n a ha); have HB := Lib.hid (wrap32_n b hb)
  go_enter Tryd.func117, Tryd.ntmps117
  go_wp2
  go_ret2
  refine ⟨rets2 (congrArg (Value.int .u64) ?_) rfl, by trivial⟩
  show _ = (((a + (4294967296 - b)) % 4294967296 : Nat) : Int); (try rw [IntKind.wrap_u64]); omega
set_option maxRecDepth 100000 in
set_option maxHeartbeats 1600000 in
theorem num32_12 (w : World) (a b lz tz : Nat) (ha : a < 4294967296) (hb : b < 4294967296) :
    Calls Tryd.prog 117 #[.int .i64 12, .int .u32 a, .int .u32 b, .int .u64 32] w fun e w' => e = .returned (.tuple #[.int .u64 ((numN 32 12 a b lz tz).1 : Int), .int .i8 (numN 32 12 a b lz tz).2]) ∧ w' = w := by
  have HA := Lib.hid (wrap32_n a ha); have HB := Lib.hid (wrap32_n b hb)
  go_enter Tryd.func117, Tryd.ntmps117
  go_wp2
  go_ret2
  refine ⟨rets2 (congrArg (Value.int .u64) ?_) rfl, by trivial⟩
  show _ = ((a * b % 4294967296 : Nat) : Int); (try rw [IntKind.wrap_u64]); simp
set_option maxRecDepth 100000 in
set_option maxHeartbeats 1600000 in
theorem num32_17 (w : World) (a b lz tz : Nat) (ha : a < 4294967296) (hb : b < 4294967296) :
    Calls Tryd.prog 117 #[.int .i64 17, .int .u32 a, .int .u32 b, .int .u64 32] w fun e w' => e = .returned (.tuple #[.int .u64 ((numN 32 17 a b lz tz).1 : Int), .int .i8 (numN 32 17 a b lz tz).2]) ∧ w' = w := by
  have HA := Lib.hid (wrap32_n a ha); have HB := Lib.hid (wrap32_n b hb)
  go_enter Tryd.func117, Tryd.ntmps117
  go_wp2
  go_ret2
  refine ⟨rets2 (congrArg (Value.int .u64) ?_) rfl, by trivial⟩
  show _ = ((a &&& b : Nat) : Int); rw [u32_and_nat a b ha hb]; exact w64_nat (Nat.lt_trans (show a &&& b < 2 ^ 32 from Nat.and_lt_two_pow _ hb) (by decide))
set_option maxRecDepth 100000 in
set_option maxHeartbeats 1600000 in
theorem num32_18 (w : World) (a b lz tz : Nat) (ha : a < 4294967296) (hb : b < 4294967296) :
    Calls Tryd.prog 117 #[.int .i64 18, .int .u32 a, .int .u32 b, .int .u64 32] w fun e w' => e = .returned (.tuple #[.int .u64 ((numN 32 18 a b lz tz).1 : Int), .int .i8 (numN 32 18 a b lz tz).2]) ∧ w' = w := by
  have HA := Lib.hid (wrap32_n a ha); have HB := Lib.hid (wrap32_n b hb)
  go_enter Tryd.func117, Tryd.ntmps117
  go_wp2
  go_ret2
  refine ⟨rets2 (congrArg (Value.int .u64) ?_) rfl, by trivial⟩
  show _ = ((a ||| b : Nat) : Int); rw [u32_or_nat a b ha hb]; exact w64_nat (Nat.lt_trans (show a ||| b < 2 ^ 32 from Nat.or_lt_two_pow ha hb) (by decide))
set_option maxRecDepth 100000 in
set_option maxHeartbeats 1600000 in
theorem num32_19 (w : World) (a b lz tz : Nat) (ha : a < 4294967296) (hb : b < 4294967296) :
    Calls Tryd.prog 117 #[.int .i64 19, .int .u32 a, .int .u32 b, .int .u64 32] w fun e w' => e = .returned (.tuple #[.int .u64 ((numN 32 19 a b lz tz).1 : Int), .int .i8 (numN 32 19 a b lz tz).2]) ∧ w' = w := by
  have HA := Lib.hid (wrap32_n a ha); have HB := Lib.hid (wrap32_n b hb)
  go_enter Tryd.func117, Tryd.ntmps117
  go_wp2
  go_ret2
  refine ⟨rets2 (congrArg (Value.int .u64) ?_) rfl, by trivial⟩
  show _ = ((a ^^^ b : Nat) : Int); rw [u32_xor_nat a b ha hb]; exact w64_nat (Nat.lt_trans (show a ^^^ b < 2 ^ 32 from Nat.xor_lt_two_pow ha hb) (by decide))
set_option maxRecDepth 100000 in
set_option maxHeartbeats 1600000 in
theorem num32_20 (w : World) (a b lz tz : Nat) (ha : a < 4294967296) (hb : b < 4294967296) :
    Calls Tryd.prog 117 #[.int .i64 20, .int .u32 a, .int .u32 b, .int .u64 32] w fun e w' => e = .returned (.tuple #[.int .u64 ((numN 32 20 a b lz tz).1 : Int), .int .i8 (numN 32 20 a b lz tz).2]) ∧ w' = w := by
  have HA := Lib.hid (wrap32_n a ha); have HB := Lib.hid (wrap32_n b hb)
  go_enter Tryd.func117, Tryd.ntmps117
  go_wp2
  go_ret2
  refine ⟨rets2 (congrArg (Value.int .u64) ?_) rfl, by trivial⟩
  show _ = ((a * 2 ^ (b % 32) % 4294967296 : Nat) : Int); exact cast_shl a (b % 32) 4294967296
set_option maxRecDepth 100000 in
set_option maxHeartbeats 1600000 in
theorem num32_21 (w : World) (a b lz tz : Nat) (ha : a < 4294967296) (hb : b < 4294967296) :
    Calls Tryd.prog 117 #[.int .i64 21, .int .u32 a, .int .u32 b, .int .u64 32] w fun e w' => e = .returned (.tuple #[.int .u64 ((numN 32 21 a b lz tz).1 : Int), .int .i8 (numN 32 21 a b lz tz).2]) ∧ w' = w := by
  have HA := Lib.hid (wrap32_n a ha); have HB := Lib.hid (wrap32_n b hb)
  go_enter Tryd.func117, Tryd.ntmps117
  go_wp2
  go_ret2
  refine ⟨rets2 (congrArg (Value.int .u64) ?_) rfl, by trivial⟩
  show _ = ((un 32 (sg 32 a / 2 ^ (b % 32)) : Nat) : Int); rw [un32, ← HA.out]
set_option maxRecDepth 100000 in
set_option maxHeartbeats 1600000 in
theorem num32_22 (w : World) (a b lz tz : Nat) (ha : a < 4294967296) (hb : b < 4294967296) :
    Calls Tryd.prog 117 #[.int .i64 22, .int .u32 a, .int .u32 b, .int .u64 32] w fun e w' => e = .returned (.tuple #[.int .u64 ((numN 32 22 a b lz tz).1 : Int), .int .i8 (numN 32 22 a b lz tz).2]) ∧ w' = w := by
  have HA := Lib.hid (wrap32_n a ha); have HB := Lib.hid (wrap32_n b hb)
  go_enter Tryd.func117, Tryd.ntmps117
  go_wp2
  go_ret2
  refine ⟨rets2 (congrArg (Value.int .u64) ?_) rfl, by trivial⟩
  show _ = ((a / 2 ^ (b % 32) : Nat) : Int); rw [cast_shr]; exact w64_nat (Nat.lt_of_le_of_lt (Nat.div_le_self _ _) (by omega))
set_option maxRecDepth 100000 in
set_option maxHeartbeats 1600000 in
theorem num32_23 (w : World) (a b lz tz : Nat) (ha : a < 4294967296) (hb : b < 4294967296) :
    Calls Tryd.prog 117 #[.int .i64 23, .int .u32 a, .int .u32 b, .int .u64 32] w fun e w' => e = .returned (.tuple #[.int .u64 ((numN 32 23 a b lz tz).1 : Int), .int .i8 (numN 32 23 a b lz tz).2]) ∧ w' = w := by
  have HA := Lib.hid (wrap32_n a ha); have HB := Lib.hid (wrap32_n b hb)
  go_enter Tryd.func117, Tryd.ntmps117
  go_wp2
  go_ret2
  refine ⟨rets2 (congrArg (Value.int .u64) ?_) rfl, by trivial⟩
  show _ = ((rotlN 32 a (b % 32) : Nat) : Int)
  rw [neg_mod32]
  rw [cast_shr, show ((4294967296 : Int)) = ((4294967296 : Nat) : Int) from rfl, cast_shl, u32_or_nat _ _ (Nat.mod_lt _ (by decide)) (Nat.lt_of_le_of_lt (Nat.div_le_self _ _) ha), rot_or (n := 32) (Nat.mod_lt _ (by decide)) ha]
  exact w64_nat (Nat.lt_trans (rotlN_lt (n := 32) (Nat.le_of_lt (Nat.mod_lt _ (by decide))) ha) (by decide))
set_option maxRecDepth 100000 in
set_option maxHeartbeats 1600000 in
theorem num32_24 (w : World) (a b lz tz : Nat) (ha : a < 4294967296) (hb : b < 4294967296) :
    Calls Tryd.prog 117 #[.int .i64 24, .int .u32 a, .int .u32 b, .int .u64 32] w fun e w' => e = .returned (.tuple #[.int .u64 ((numN 32 24 a b lz tz).1 : Int), .int .i8 (numN 32 24 a b lz tz).2]) ∧ w' = w := by
  have HA := Lib.hid (wrap32_n a ha); have HB := Lib.hid (wrap32_n b hb)
  go_enter Tryd.func117, Tryd.ntmps117
  go_wp2
  go_ret2
  refine ⟨rets2 (congrArg (Value.int .u64) ?_) rfl, by trivial⟩
  show _ = ((rotlN 32 a ((32 - b % 32) % 32) : Nat) : Int)
  rw [neg_mod32]; (try rw [neg_mod32'])
  rw [cast_shr, show ((4294967296 : Int)) = ((4294967296 : Nat) : Int) from rfl, cast_shl, u32_or_nat _ _ (Nat.mod_lt _ (by decide)) (Nat.lt_of_le_of_lt (Nat.div_le_self _ _) ha), rot_or (n := 32) (Nat.mod_lt _ (by decide)) ha]
  exact w64_nat (Nat.lt_trans (rotlN_lt (n := 32) (Nat.le_of_lt (Nat.mod_lt _ (by decide))) ha) (by decide))
set_option maxRecDepth 100000 in
set_option maxHeartbeats 1600000 in
theorem num64_0 (w : World) (a b lz tz : Nat) (ha : a < 18446744073709551616) (hb : b < 18446744073709551616) :
    Calls Tryd.prog 116 #[.int .i64 0, .int .u64 a, .int .u64 b, .int .u64 64] w fun e w' => e = .returned (.tuple #[.int .u64 ((numN 64 0 a b lz tz).1 : Int), .int .i8 (numN 64 0 a b lz tz).2]) ∧ w' = w := by
  have HA := Lib.hid (wrap64_n a ha); have HB := Lib.hid (wrap64_n b hb)
  go_enter Tryd.func116, Tryd.ntmps116
  go_wp2
  all_goals
    go_ret2
    refine ⟨rets2 (congrArg (Value.int .u64) ?_) rfl, by trivial⟩
    first
      | exact (tr_t (by ((try simp only [beq_iff_eq] at *); (try simp only [bne_iff_ne] at *); (try simp only [beq_eq_false_iff_ne] at *); (try simp only [bne_eq_false_iff_eq] at *); have e1 := HA.out; have e2 := HB.out; omega))).symm
      | exact (tr_f (by ((try simp only [beq_iff_eq] at *); (try simp only [bne_iff_ne] at *); (try simp only [beq_eq_false_iff_ne] at *); (try simp only [bne_eq_false_iff_eq] at *); have e1 := HA.out; have e2 := HB.out; omega))).symm
set_option maxRecDepth 100000 in
set_option maxHeartbeats 1600000 in
theorem num64_1 (w : World) (a b lz tz : Nat) (ha : a < 18446744073709551616) (hb : b < 18446744073709551616) :
    Calls Tryd.prog 116 #[.int .i64 1, .int .u64 a, .int .u64 b, .int .u64 64] w fun e w' => e = .returned (.tuple #[.int .u64 ((numN 64 1 a b lz tz).1 : Int), .int .i8 (numN 64 1 a b lz tz).2]) ∧ w' = w := by
  have HA := Lib.hid (wrap64_n a ha); have HB := Lib.hid (wrap64_n b hb)
  go_enter Tryd.func116, Tryd.ntmps116
  go_wp2
  all_goals
    go_ret2
    refine ⟨rets2 (congrArg (Value.int .u64) ?_) rfl, by trivial⟩
    first
      | exact (tr_t (by ((try simp only [beq_iff_eq] at *); (try simp only [bne_iff_ne] at *); (try simp only [beq_eq_false_iff_ne] at *); (try simp only [bne_eq_false_iff_eq] at *); have e1 := HA.out; have e2 := HB.out; omega))).symm
      | exact (tr_f (by ((try simp only [beq_iff_eq] at *); (try simp only [bne_iff_ne] at *); (try simp only [beq_eq_false_iff_ne] at *); (try simp only [bne_eq_false_iff_eq] at *); have e1 := HA.out; have e2 := HB.out; omega))).symm
set_option maxRecDepth 100000 in
set_option maxHeartbeats 1600000 in
theorem num64_2 (w : World) (a b lz tz : Nat) (ha : a < 18446744073709551616) (hb : b < 18446744073709551616) :
    Calls Tryd.prog 116 #[.int .i64 2, .int .u64 a, .int .u64 b, .int .u64 64] w fun e w' => e = .returned (.tuple #[.int .u64 ((numN 64 2 a b lz tz).1 : Int), .int .i8 (numN 64 2 a b lz tz).2]) ∧ w' = w := by
  have HA := Lib.hid (wrap64_n a ha); have HB := Lib.hid (wrap64_n b hb)
  go_enter Tryd.func116, Tryd.ntmps116
  go_wp2
  all_goals
    go_ret2
    refine ⟨rets2 (congrArg (Value.int .u64) ?_) rfl, by trivial⟩
    first
      | exact (tr_t (by ((try simp only [beq_iff_eq] at *); (try simp only [bne_iff_ne] at *); (try simp only [beq_eq_false_iff_ne] at *); (try simp only [bne_eq_false_iff_eq] at *); have e1 := HA.out; have e2 := HB.out; omega))).symm
      | exact (tr_f (by ((try simp only [beq_iff_eq] at *); (try simp only [bne_iff_ne] at *); (try simp only [beq_eq_false_iff_ne] at *); (try simp only [bne_eq_false_iff_eq] at *); have e1 := HA.out; have e2 := HB.out; omega))).symm
set_option maxRecDepth 100000 in
set_option maxHeartbeats 1600000 in
theorem num64_3 (w : World) (a b lz tz : Nat) (ha : a < 18446744073709551616) (hb : b < 18446744073709551616) :
    Calls Tryd.prog 116 #[.int .i64 3, .int .u64 a, .int .u64 b, .int .u64 64] w fun e w' => e = .returned (.tuple #[.int .u64 ((numN 64 3 a b lz tz).1 : Int), .int .i8 (numN 64 3 a b lz tz).2]) ∧ w' = w := by
  have HA := Lib.hid (wrap64_n a ha); have HB := Lib.hid (wrap64_n b hb)
  go_enter Tryd.func116, Tryd.ntmps116
  go_wp2
  all_goals
    go_ret2
    refine ⟨rets2 (congrArg (Value.int .u64) ?_) rfl, by trivial⟩
    first
      | exact (tr_t (by ((try simp only [beq_iff_eq] at *); (try simp only [bne_iff_ne] at *); (try simp only [beq_eq_false_iff_ne] at *); (try simp only [bne_eq_false_iff_eq] at *); have e1 := HA.out; have e2 := HB.out; omega))).symm
      | exact (tr_f (by ((try simp only [beq_iff_eq] at *); (try simp only [bne_iff_ne] at *); (try simp only [beq_eq_false_iff_ne] at *); (try simp only [bne_eq_false_iff_eq] at *); have e1 := HA.out; have e2 := HB.out; omega))).symm
set_option maxRecDepth 100000 in
set_option maxHeartbeats 1600000 in
theorem num64_4 (w : World) (a b lz tz : Nat) (ha : a < 18446744073709551616) (hb : b < 18446744073709551616) :
    Calls Tryd.prog 116 #[.int .i64 4, .int .u64 a, .int .u64 b, .int .u64 64] w fun e w' => e = .returned (.tuple #[.int .u64 ((numN 64 4 a b lz tz).1 : Int), .int .i8 (numN 64 4 a b lz tz).2]) ∧ w' = w := by
  have HA := Lib.hid (wrap64_n a ha); have HB := Lib.hid (wrap64_n b hb)
  go_enter Tryd.func116, Tryd.ntmps116
  go_wp2
  all_goals
    go_ret2
    refine ⟨rets2 (congrArg (Value.int .u64) ?_) rfl, by trivial⟩
    first
      | exact (tr_t (by ((try simp only [beq_iff_eq] at *); (try simp only [bne_iff_ne] at *); (try simp only [beq_eq_false_iff_ne] at *); (try simp only [bne_eq_false_iff_eq] at *); have e1 := HA.out; have e2 := HB.out; omega))).symm
      | exact (tr_f (by ((try simp only [beq_iff_eq] at *); (try simp only [bne_iff_ne] at *); (try simp only [beq_eq_false_iff_ne] at *); (try simp only [bne_eq_false_iff_eq] at *); have e1 := HA.out; have e2 := HB.out; omega))).symm
set_option maxRecDepth 100000 in
set_option maxHeartbeats 1600000 in
theorem num64_5 (w : World) (a b lz tz : Nat) (ha : a < 18446744073709551616) (hb : b < 18446744073709551616) :
    Calls Tryd.prog 116 #[.int .i64 5, .int .u64 a, .int .u64 b, .int .u64 64] w fun e w' => e = .returned (.tuple #[.int .u64 ((numN 64 5 a b lz tz).1 : Int), .int .i8 (numN 64 5 a b lz tz).2]) ∧ w' = w := by
  have HA := Lib.hid (wrap64_n a ha); have HB := Lib.hid (wrap64_n b hb)
  go_enter Tryd.func116, Tryd.ntmps116
  go_wp2
  all_goals
    go_ret2
    refine ⟨rets2 (congrArg (Value.int .u64) ?_) rfl, by trivial⟩
    first
      | exact (tr_t (by ((try simp only [beq_iff_eq] at *); (try simp only [bne_iff_ne] at *); (try simp only [beq_eq_false_iff_ne] at *); (try simp only [bne_eq_false_iff_eq] at *); have e1 := HA.out; have e2 := HB.out; omega))).symm
      | exact (tr_f (by ((try simp only [beq_iff_eq] at *); (try simp only [bne_iff_ne] at *); (try simp only [beq_eq_false_iff_ne] at *); (try simp only [bne_eq_false_iff_eq] at *); have e1 := HA.out; have e2 := HB.out; omega))).symm
set_option maxRecDepth 100000 in
set_option maxHeartbeats 1600000 in
theorem num64_6 (w : World) (a b lz tz : Nat) (ha : a < 18446744073709551616) (hb : b < 18446744073709551616) :
    Calls Tryd.prog 116 #[.int .i64 6, .int .u64 a, .int .u64 b, .int .u64 64] w fun e w' => e = .returned (.tuple #[.int .u64 ((numN 64 6 a b lz tz).1 : Int), .int .i8 (numN 64 6 a b lz tz).2]) ∧ w' = w := by
  have HA := Lib.hid (wrap64_n a ha); have HB := Lib.hid (wrap64_n b hb)
  go_enter Tryd.func116, Tryd.ntmps116
  go_wp2
  all_goals
    go_ret2
    refine ⟨rets2 (congrArg (Value.int .u64) ?_) rfl, by trivial⟩
    first
      | exact (tr_t (by ((try simp only [beq_iff_eq] at *); (try simp only [bne_iff_ne] at *); (try simp only [beq_eq_false_iff_ne] at *); (try simp only [bne_eq_false_iff_eq] at *); have e1 := HA.out; have e2 := HB.out; omega))).symm
      | exact (tr_f (by ((try simp only [beq_iff_eq] at *); (try simp only [bne_iff_ne] at *); (try simp only [beq_eq_false_iff_ne] at *); (try simp only [bne_eq_false_iff_eq] at *); have e1 := HA.out; have e2 := HB.out; omega))).symm
set_option maxRecDepth 100000 in
set_option maxHeartbeats 1600000 in
theorem num64_10 (w : World) (a b lz tz : Nat) (ha : a < 18446744073709551616) (hb : b < 18446744073709551616) :
    Calls Tryd.prog 116 #[.int .i64 10, .int .u64 a, .int .u64 b, .int .u64 64] w fun e w' => e = .returned (.tuple #[.int .u64 ((numN 64 10 a b lz tz).1 : Int), .int .i8 (numN 64 10 a b lz tz).2]) ∧ w' = w := by
  have HA := Lib.hid (wrap64_n a ha); have HB := Lib.hid (wrap64_n b hb)
  go_enter Tryd.func116, Tryd.ntmps116
  go_wp2
  go_ret2
  refine ⟨rets2 (congrArg (Value.int .u64) ?_) rfl, by trivial⟩
  show _ = (((a + b) % 18446744073709551616 : Nat) : Int); (try rw [IntKind.wrap_u64]); omega
set_option maxRecDepth 100000 in
set_option maxHeartbeats 1600000 in
theorem num64_11 (w : World) (a b lz tz : Nat) (ha : a < 18446744073709551616) (hb : b < 18446744073709551616) :
    Calls Tryd.prog 116 #[.int .i64 11, .int .u64 a, .int .u64 b, .int .u64 64] w fun e w' => e = .returned (.tuple #[.int .u64 ((numN 64 11 a b lz tz).1 : Int), .int .i8 (numN 64 11 a b lz tz).2]) ∧ w' = w := by
  have HA := Lib.hid (wrap64_n a ha); have HB := Lib.hid (wrap64_n b hb)
  go_enter Tryd.func116, Tryd.ntmps116
  go_wp2
  go_ret2
  refine ⟨rets2 (congrArg (Value.int .u64) ?_) rfl, by trivial⟩
  show _ = (((a + (18446744073709551616 - b)) % 18446744073709551616 : Nat) : Int); (try rw [IntKind.wrap_u64]); omega
set_option maxRecDepth 100000 in
set_option maxHeartbeats 1600000 in
theorem num64_12 (w : World) (a b lz tz : Nat) (ha : a < 18446744073709551616) (hb : b < 18446744073709551616) :
    Calls Tryd.prog 116 #[.int .i64 12, .int .u64 a, .int .u64 b, .int .u64 64] w fun e w' => e = .returned (.tuple #[.int .u64 ((numN 64 12 a b lz tz).1 : Int), .int .i8 (numN 64 12 a b lz tz).2]) ∧ w' = w := by
  have HA := Lib.hid (wrap64_n a ha); have HB := Lib.hid (wrap64_n b hb)
  go_enter Tryd.func116, Tryd.ntmps116
  go_wp2
  go_ret2
  refine ⟨rets2 (congrArg (Value.int .u64) ?_) rfl, by trivial⟩
  show _ = ((a * b % 18446744073709551616 : Nat) : Int); (try rw [IntKind.wrap_u64]); simp
set_option maxRecDepth 100000 in
set_option maxHeartbeats 1600000 in
theorem num64_17 (w : World) (a b lz tz : Nat) (ha : a < 18446744073709551616) (hb : b < 18446744073709551616) :
    Calls Tryd.prog 116 #[.int .i64 17, .int .u64 a, .int .u64 b, .int .u64 64] w fun e w' => e = .returned (.tuple #[.int .u64 ((numN 64 17 a b lz tz).1 : Int), .int .i8 (numN 64 17 a b lz tz).2]) ∧ w' = w := by
  have HA := Lib.hid (wrap64_n a ha); have HB := Lib.hid (wrap64_n b hb)
  go_enter Tryd.func116, Tryd.ntmps116
  go_wp2
  go_ret2
  refine ⟨rets2 (congrArg (Value.int .u64) ?_) rfl, by trivial⟩
  show _ = ((a &&& b : Nat) : Int); rw [bits_and_u64_nat a b ha hb]
set_option maxRecDepth 100000 in
set_option maxHeartbeats 1600000 in
theorem num64_18 (w : World) (a b lz tz : Nat) (ha : a < 18446744073709551616) (hb : b < 18446744073709551616) :
    Calls Tryd.prog 116 #[.int .i64 18, .int .u64 a, .int .u64 b, .int .u64 64] w fun e w' => e = .returned (.tuple #[.int .u64 ((numN 64 18 a b lz tz).1 : Int), .int .i8 (numN 64 18 a b lz tz).2]) ∧ w' = w := by
  have HA := Lib.hid (wrap64_n a ha); have HB := Lib.hid (wrap64_n b hb)
  go_enter Tryd.func116, Tryd.ntmps116
  go_wp2
  go_ret2
  refine ⟨rets2 (congrArg (Value.int .u64) ?_) rfl, by trivial⟩
  show _ = ((a ||| b : Nat) : Int); rw [bits_or_u64_nat a b ha hb]
set_option maxRecDepth 100000 in
set_option maxHeartbeats 1600000 in
theorem num64_19 (w : World) (a b lz tz : Nat) (ha : a < 18446744073709551616) (hb : b < 18446744073709551616) :
    Calls Tryd.prog 116 #[.int .i64 19, .int .u64 a, .int .u64 b, .int .u64 64] w fun e w' => e = .returned (.tuple #[.int .u64 ((numN 64 19 a b lz tz).1 : Int), .int .i8 (numN 64 19 a b lz tz).2]) ∧ w' = w := by
  have HA := Lib.hid (wrap64_n a ha); have HB := Lib.hid (wrap64_n b hb)
  go_enter Tryd.func116, Tryd.ntmps116
  go_wp2
  go_ret2
  refine ⟨rets2 (congrArg (Value.int .u64) ?_) rfl, by trivial⟩
  show _ = ((a ^^^ b : Nat) : Int); rw [bits_xor_u64_nat a b ha hb]
set_option maxRecDepth 100000 in
set_option maxHeartbeats 1600000 in
theorem num64_20 (w : World) (a b lz tz : Nat) (ha : a < 18446744073709551616) (hb : b < 18446744073709551616) :
    Calls Tryd.prog 116 #[.int .i64 20, .int .u64 a, .int .u64 b, .int .u64 64] w fun e w' => e = .returned (.tuple #[.int .u64 ((numN 64 20 a b lz tz).1 : Int), .int .i8 (numN 64 20 a b lz tz).2]) ∧ w' = w := by
  have HA := Lib.hid (wrap64_n a ha); have HB := Lib.hid (wrap64_n b hb)
  go_enter Tryd.func116, Tryd.ntmps116
  go_wp2
  go_ret2
  refine ⟨rets2 (congrArg (Value.int .u64) ?_) rfl, by trivial⟩
  show _ = ((a * 2 ^ (b % 64) % 18446744073709551616 : Nat) : Int); (try rw [IntKind.wrap_u64]); exact cast_shl a (b % 64) 18446744073709551616
set_option maxRecDepth 100000 in
set_option maxHeartbeats 1600000 in
theorem num64_21 (w : World) (a b lz tz : Nat) (ha : a < 18446744073709551616) (hb : b < 18446744073709551616) :
    Calls Tryd.prog 116 #[.int .i64 21, .int .u64 a, .int .u64 b, .int .u64 64] w fun e w' => e = .returned (.tuple #[.int .u64 ((numN 64 21 a b lz tz).1 : Int), .int .i8 (numN 64 21 a b lz tz).2]) ∧ w' = w := by
  have HA := Lib.hid (wrap64_n a ha); have HB := Lib.hid (wrap64_n b hb)
  go_enter Tryd.func116, Tryd.ntmps116
  go_wp2
  go_ret2
  refine ⟨rets2 (congrArg (Value.int .u64) ?_) rfl, by trivial⟩
  show _ = ((un 64 (sg 64 a / 2 ^ (b % 64)) : Nat) : Int); rw [un64, ← HA.out]; (try rw [IntKind.wrap_u64])
set_option maxRecDepth 100000 in
set_option maxHeartbeats 1600000 in
theorem num64_22 (w : World) (a b lz tz : Nat) (ha : a < 18446744073709551616) (hb : b < 18446744073709551616) :
    Calls Tryd.prog 116 #[.int .i64 22, .int .u64 a, .int .u64 b, .int .u64 64] w fun e w' => e = .returned (.tuple #[.int .u64 ((numN 64 22 a b lz tz).1 : Int), .int .i8 (numN 64 22 a b lz tz).2]) ∧ w' = w := by
  have HA := Lib.hid (wrap64_n a ha); have HB := Lib.hid (wrap64_n b hb)
  go_enter Tryd.func116, Tryd.ntmps116
  go_wp2
  go_ret2
  refine ⟨rets2 (congrArg (Value.int .u64) ?_) rfl, by trivial⟩
  show _ = ((a / 2 ^ (b % 64) : Nat) : Int); rw [cast_shr]
set_option maxRecDepth 100000 in
set_option maxHeartbeats 1600000 in
theorem num64_23 (w : World) (a b lz tz : Nat) (ha : a < 18446744073709551616) (hb : b < 18446744073709551616) :
    Calls Tryd.prog 116 #[.int .i64 23, .int .u64 a, .int .u64 b, .int .u64 64] w fun e w' => e = .returned (.tuple #[.int .u64 ((numN 64 23 a b lz tz).1 : Int), .int .i8 (numN 64 23 a b lz tz).2]) ∧ w' = w := by
  have HA := Lib.hid (wrap64_n a ha); have HB := Lib.hid (wrap64_n b hb)
  go_enter Tryd.func116, Tryd.ntmps116
  go_wp2
  go_ret2
  refine ⟨rets2 (congrArg (Value.int .u64) ?_) rfl, by trivial⟩
  show _ = ((rotlN 64 a (b % 64) : Nat) : Int)
  rw [neg_mod64]
  rw [cast_shr, IntKind.wrap_u64, show ((18446744073709551616 : Int)) = ((18446744073709551616 : Nat) : Int) from rfl, cast_shl, bits_or_u64_nat _ _ (Nat.mod_lt _ (by decide)) (Nat.lt_of_le_of_lt (Nat.div_le_self _ _) ha), rot_or (n := 64) (Nat.mod_lt _ (by decide)) ha]
set_option maxRecDepth 100000 in
set_option maxHeartbeats 1600000 in
theorem num64_24 (w : World) (a b lz tz : Nat) (ha : a < 18446744073709551616) (hb : b < 18446744073709551616) :
    Calls Tryd.prog 116 #[.int .i64 24, .int .u64 a, .int .u64 b, .int .u64 64] w fun e w' => e = .returned (.tuple #[.int .u64 ((numN 64 24 a b lz tz).1 : Int), .int .i8 (numN 64 24 a b lz tz).2]) ∧ w' = w := by
  have HA := Lib.hid (wrap64_n a ha); have HB := Lib.hid (wrap64_n b hb)
  go_enter Tryd.func116, Tryd.ntmps116
  go_wp2
  go_ret2
  refine ⟨rets2 (congrArg (Value.int .u64) ?_) rfl, by trivial⟩
  show _ = ((rotlN 64 a ((64 - b % 64) % 64) : Nat) : Int)
  rw [neg_mod64]; (try rw [neg_mod64'])
  rw [cast_shr, IntKind.wrap_u64, show ((18446744073709551616 : Int)) = ((18446744073709551616 : Nat) : Int) from rfl, cast_shl, bits_or_u64_nat _ _ (Nat.mod_lt _ (by decide)) (Nat.lt_of_le_of_lt (Nat.div_le_self _ _) ha), rot_or (n := 64) (Nat.mod_lt _ (by decide)) ha]
set_option maxRecDepth 100000 in
set_option maxHeartbeats 1600000 in
theorem num32_13_z (w : World) (a b lz tz : Nat) (ha : a < 4294967296) (hb : b < 4294967296) (h0 : b = 0) :
    Calls Tryd.prog 117 #[.int .i64 13, .int .u32 a, .int .u32 b, .int .u64 32] w fun e w' => e = .returned (.tuple #[.int .u64 ((numN 32 13 a b lz tz).1 : Int), .int .i8 (numN 32 13 a b lz tz).2]) ∧ w' = w := by
  have HA := Lib.hid (wrap32_n a ha); have HB := Lib.hid (wrap32_n b hb)
  have f0 : ((b : Int) == 0) = true := by rw [beq_iff_eq]; omega
  have HV : Hid (numN 32 13 a b lz tz = (0, 3)) := by show divN 32 13 a b = _; rw [divN, if_pos h0]
  clear h0
  go_enter Tryd.func117, Tryd.ntmps117
  go_wp2
  go_ret2
  exact ⟨by rw [HV.out]; exact rets2 rfl rfl, by trivial⟩
set_option maxRecDepth 100000 in
set_option maxHeartbeats 1600000 in
theorem num32_13_a (w : World) (a b lz tz : Nat) (ha : a < 4294967296) (hb : b < 4294967296) (hb0 : ¬ b = 0) (hl : ¬ a * 2 % 4294967296 = 0) :
    Calls Tryd.prog 117 #[.int .i64 13, .int .u32 a, .int .u32 b, .int .u64 32] w fun e w' => e = .returned (.tuple #[.int .u64 ((numN 32 13 a b lz tz).1 : Int), .int .i8 (numN 32 13 a b lz tz).2]) ∧ w' = w := by
  have HA := Lib.hid (wrap32_n a ha); have HB := Lib.hid (wrap32_n b hb)
  have f0 : ((b : Int) == 0) = false := by rw [beq_eq_false_iff_ne]; omega
  have f1 : ((a : Int) * 2 % 4294967296 == 0) = false := by rw [beq_eq_false_iff_ne]; omega
  have HL : Hid (¬ (a = 2 ^ (32 - 1) ∧ b = 2 ^ 32 - 1)) := Lib.hid (by omega)
  have HV : Hid (numN 32 13 a b lz tz = (un 32 ((sg 32 a).tdiv (sg 32 b)), 0)) := by show divN 32 13 a b = _; rw [divN, if_neg hb0]; rw [if_neg (by omega), if_neg (by omega), if_neg HL.out, if_neg (by omega)]
  have hbp : 0 < b := by omega
  have hsb : ¬ wrap32 (b : Int) = 0 := by rw [HB.out]; unfold sg; omega
  clear hl hb0 HL
  go_enter Tryd.func117, Tryd.ntmps117
  go_wp2
  go_ret2
  refine ⟨?_, by trivial⟩
  rw [HV.out]
  refine rets2 (congrArg (Value.int .u64) ?_) rfl
  rw [un32, ← HA.out, ← HB.out]; (try rw [IntKind.wrap_u64]); (try rw [wrap32_mod])
set_option maxRecDepth 100000 in
set_option maxHeartbeats 1600000 in
theorem num32_13_b (w : World) (a b lz tz : Nat) (ha : a < 4294967296) (hb : b < 4294967296) (hb0 : ¬ b = 0) (hl : a = 0) :
    Calls Tryd.prog 117 #[.int .i64 13, .int .u32 a, .int .u32 b, .int .u64 32] w fun e w' => e = .returned (.tuple #[.int .u64 ((numN 32 13 a b lz tz).1 : Int), .int .i8 (numN 32 13 a b lz tz).2]) ∧ w' = w := by
  have HA := Lib.hid (wrap32_n a ha); have HB := Lib.hid (wrap32_n b hb)
  have f0 : ((b : Int) == 0) = false := by rw [beq_eq_false_iff_ne]; omega
  have f1 : ((a : Int) * 2 % 4294967296 == 0) = true := by rw [beq_iff_eq]; omega
  have f2 : ((a : Int) != 0) = false := by rw [bne_eq_false_iff_eq]; omega
  have HL : Hid (¬ (a = 2 ^ (32 - 1) ∧ b = 2 ^ 32 - 1)) := Lib.hid (by omega)
  have HV : Hid (numN 32 13 a b lz tz = (un 32 ((sg 32 a).tdiv (sg 32 b)), 0)) := by show divN 32 13 a b = _; rw [divN, if_neg hb0]; rw [if_neg (by omega), if_neg (by omega), if_neg HL.out, if_neg (by omega)]
  have hbp : 0 < b := by omega
  have hsb : ¬ wrap32 (b : Int) = 0 := by rw [HB.out]; unfold sg; omega
  clear hl hb0 HL
  go_enter Tryd.func117, Tryd.ntmps117
  go_wp2
  go_ret2
  refine ⟨?_, by trivial⟩
  rw [HV.out]
  refine rets2 (congrArg (Value.int .u64) ?_) rfl
  rw [un32, ← HA.out, ← HB.out]; (try rw [IntKind.wrap_u64]); (try rw [wrap32_mod])
set_option maxRecDepth 100000 in
set_option maxHeartbeats 1600000 in
theorem num32_13_c (w : World) (a b lz tz : Nat) (ha : a < 4294967296) (hb : b < 4294967296) (hb0 : ¬ b = 0) (hl : a * 2 % 4294967296 = 0) (hl2 : ¬ b = 4294967295) (ha0 : ¬ a = 0) :
    Calls Tryd.prog 117 #[.int .i64 13, .int .u32 a, .int .u32 b, .int .u64 32] w fun e w' => e = .returned (.tuple #[.int .u64 ((numN 32 13 a b lz tz).1 : Int), .int .i8 (numN 32 13 a b lz tz).2]) ∧ w' = w := by
  have HA := Lib.hid (wrap32_n a ha); have HB := Lib.hid (wrap32_n b hb)
  have f0 : ((b : Int) == 0) = false := by rw [beq_eq_false_iff_ne]; omega
  have f1 : ((a : Int) * 2 % 4294967296 == 0) = true := by rw [beq_iff_eq]; omega
  have f2 : ((a : Int) != 0) = true := by rw [bne_iff_ne]; omega
  have f3 : ((b : Int) == bits BinOp.xor IntKind.u32 (if IntKind.u32.signed = true then -1 else IntKind.u32.max) 0) = false := by rw [all_u32, beq_eq_false_iff_ne]; omega
  have HL : Hid (¬ (a = 2 ^ (32 - 1) ∧ b = 2 ^ 32 - 1)) := Lib.hid (by omega)
  clear hl2
  have HV : Hid (numN 32 13 a b lz tz = (un 32 ((sg 32 a).tdiv (sg 32 b)), 0)) := by show divN 32 13 a b = _; rw [divN, if_neg hb0]; rw [if_neg (by omega), if_neg (by omega), if_neg HL.out, if_neg (by omega)]
  have hbp : 0 < b := by omega
  have hsb : ¬ wrap32 (b : Int) = 0 := by rw [HB.out]; unfold sg; omega
  clear hl hb0 HL ha0
  go_enter Tryd.func117, Tryd.ntmps117
  go_wp2
  go_ret2
  refine ⟨?_, by trivial⟩
  rw [HV.out]
  refine rets2 (congrArg (Value.int .u64) ?_) rfl
  rw [un32, ← HA.out, ← HB.out]; (try rw [IntKind.wrap_u64]); (try rw [wrap32_mod])
set_option maxRecDepth 100000 in
set_option maxHeartbeats 1600000 in
theorem num32_14_z (w : World) (a b lz tz : Nat) (ha : a < 4294967296) (hb : b < 4294967296) (h0 : b = 0) :
    Calls Tryd.prog 117 #[.int .i64 14, .int .u32 a, .int .u32 b, .int .u64 32] w fun e w' => e = .returned (.tuple #[.int .u64 ((numN 32 14 a b lz tz).1 : Int), .int .i8 (numN 32 14 a b lz tz).2]) ∧ w' = w := by
  have HA := Lib.hid (wrap32_n a ha); have HB := Lib.hid (wrap32_n b hb)
  have f0 : ((b : Int) == 0) = true := by rw [beq_iff_eq]; omega
  have HV : Hid (numN 32 14 a b lz tz = (0, 3)) := by show divN 32 14 a b = _; rw [divN, if_pos h0]
  clear h0
  go_enter Tryd.func117, Tryd.ntmps117
  go_wp2
  go_ret2
  exact ⟨by rw [HV.out]; exact rets2 rfl rfl, by trivial⟩
set_option maxRecDepth 100000 in
set_option maxHeartbeats 1600000 in
theorem num32_14_a (w : World) (a b lz tz : Nat) (ha : a < 4294967296) (hb : b < 4294967296) (hb0 : ¬ b = 0) (hl : ¬ a * 2 % 4294967296 = 0) :
    Calls Tryd.prog 117 #[.int .i64 14, .int .u32 a, .int .u32 b, .int .u64 32] w fun e w' => e = .returned (.tuple #[.int .u64 ((numN 32 14 a b lz tz).1 : Int), .int .i8 (numN 32 14 a b lz tz).2]) ∧ w' = w := by
  have HA := Lib.hid (wrap32_n a ha); have HB := Lib.hid (wrap32_n b hb)
  have f0 : ((b : Int) == 0) = false := by rw [beq_eq_false_iff_ne]; omega
  have f1 : ((a : Int) * 2 % 4294967296 == 0) = false := by rw [beq_eq_false_iff_ne]; omega
  have HL : Hid (¬ (a = 2 ^ (32 - 1) ∧ b = 2 ^ 32 - 1)) := Lib.hid (by omega)
  have HV : Hid (numN 32 14 a b lz tz = (a / b, 0)) := by show divN 32 14 a b = _; rw [divN, if_neg hb0]; rw [if_pos rfl]
  have hbp : 0 < b := by omega
  have hsb : ¬ wrap32 (b : Int) = 0 := by rw [HB.out]; unfold sg; omega
  clear hl hb0 HL
  go_enter Tryd.func117, Tryd.ntmps117
  go_wp2
  go_ret2
  refine ⟨?_, by trivial⟩
  rw [HV.out]
  refine rets2 (congrArg (Value.int .u64) ?_) rfl
  show _ = ((a / b : Nat) : Int); have := Nat.div_le_self a b; have e3 : (a : Int) / b = ((a / b : Nat) : Int) := by simp
  first | exact e3 | ((try rw [IntKind.wrap_u64]); rw [e3]; clear e3; generalize a / b = q at *; omega)
set_option maxRecDepth 100000 in
set_option maxHeartbeats 1600000 in
theorem num32_14_b (w : World) (a b lz tz : Nat) (ha : a < 4294967296) (hb : b < 4294967296) (hb0 : ¬ b = 0) (hl : a = 0) :
    Calls Tryd.prog 117 #[.int .i64 14, .int .u32 a, .int .u32 b, .int .u64 32] w fun e w' => e = .returned (.tuple #[.int .u64 ((numN 32 14 a b lz tz).1 : Int), .int .i8 (numN 32 14 a b lz tz).2]) ∧ w' = w := by
  have HA := Lib.hid (wrap32_n a ha); have HB := Lib.hid (wrap32_n b hb)
  have f0 : ((b : Int) == 0) = false := by rw [beq_eq_false_iff_ne]; omega
  have f1 : ((a : Int) * 2 % 4294967296 == 0) = true := by rw [beq_iff_eq]; omega
  have f2 : ((a : Int) != 0) = false := by rw [bne_eq_false_iff_eq]; omega
  have HL : Hid (¬ (a = 2 ^ (32 - 1) ∧ b = 2 ^ 32 - 1)) := Lib.hid (by omega)
  have HV : Hid (numN 32 14 a b lz tz = (a / b, 0)) := by show divN 32 14 a b = _; rw [divN, if_neg hb0]; rw [if_pos rfl]
  have hbp : 0 < b := by omega
  have hsb : ¬ wrap32 (b : Int) = 0 := by rw [HB.out]; unfold sg; omega
  clear hl hb0 HL
  go_enter Tryd.func117, Tryd.ntmps117
  go_wp2
  go_ret2
  refine ⟨?_, by trivial⟩
  rw [HV.out]
  refine rets2 (congrArg (Value.int .u64) ?_) rfl
  show _ = ((a / b : Nat) : Int); have := Nat.div_le_self a b; have e3 : (a : Int) / b = ((a / b : Nat) : Int) := by simp
  first | exact e3 | ((try rw [IntKind.wrap_u64]); rw [e3]; clear e3; generalize a / b = q at *; omega)
set_option maxRecDepth 100000 in
set_option maxHeartbeats 1600000 in
theorem num32_14_c (w : World) (a b lz tz : Nat) (ha : a < 4294967296) (hb : b < 4294967296) (hb0 : ¬ b = 0) (hl : a * 2 % 4294967296 = 0) (hl2 : ¬ b = 4294967295) (ha0 : ¬ a = 0) :
    Calls Tryd.prog 117 #[.int .i64 14, .int .u32 a, .int .u32 b, .int .u64 32] w fun e w' => e = .returned (.tuple #[.int .u64 ((numN 32 14 a b lz tz).1 : Int), .int .i8 (numN 32 14 a b lz tz).2]) ∧ w' = w := by
  have HA := Lib.hid (wrap32_n a ha); have HB := Lib.hid (wrap32_n b hb)
  have f0 : ((b : Int) == 0) = false := by rw [beq_eq_false_iff_ne]; omega
  have f1 : ((a : Int) * 2 % 4294967296 == 0) = true := by rw [beq_iff_eq]; omega
  have f2 : ((a : Int) != 0) = true := by rw [bne_iff_ne]; omega
  have f3 : ((b : Int) == bits BinOp.xor IntKind.u32 (if IntKind.u32.signed = true then -1 else IntKind.u32.max) 0) = false := by rw [all_u32, beq_eq_false_iff_ne]; omega
  have HL : Hid (¬ (a = 2 ^ (32 - 1) ∧ b = 2 ^ 32 - 1)) := Lib.hid (by omega)
  clear hl2
  have HV : Hid (numN 32 14 a b lz tz = (a / b, 0)) := by show divN 32 14 a b = _; rw [divN, if_neg hb0]; rw [if_pos rfl]
  have hbp : 0 < b := by omega
  have hsb : ¬ wrap32 (b : Int) = 0 := by rw [HB.out]; unfold sg; omega
  clear hl hb0 HL ha0
  go_enter Tryd.func117, Tryd.ntmps117
  go_wp2
  go_ret2
  refine ⟨?_, by trivial⟩
  rw [HV.out]
  refine rets2 (congrArg (Value.int .u64) ?_) rfl
  show _ = ((a / b : Nat) : Int); have := Nat.div_le_self a b; have e3 : (a : Int) / b = ((a / b : Nat) : Int) := by simp
  first | exact e3 | ((try rw [IntKind.wrap_u64]); rw [e3]; clear e3; generalize a / b = q at *; omega)
set_option maxRecDepth 100000 in
set_option maxHeartbeats 1600000 in
theorem num32_15_z (w : World) (a b lz tz : Nat) (ha : a < 4294967296) (hb : b < 4294967296) (h0 : b = 0) :
    Calls Tryd.prog 117 #[.int .i64 15, .int .u32 a, .int .u32 b, .int .u64 32] w fun e w' => e = .returned (.tuple #[.int .u64 ((numN 32 15 a b lz tz).1 : Int), .int .i8 (numN 32 15 a b lz tz).2]) ∧ w' = w := by
  have HA := Lib.hid (wrap32_n a ha); have HB := Lib.hid (wrap32_n b hb)
  have f0 : ((b : Int) == 0) = true := by rw [beq_iff_eq]; omega
  have HV : Hid (numN 32 15 a b lz tz = (0, 3)) := by show divN 32 15 a b = _; rw [divN, if_pos h0]
  clear h0
  go_enter Tryd.func117, Tryd.ntmps117
  go_wp2
  go_ret2
  exact ⟨by rw [HV.out]; exact rets2 rfl rfl, by trivial⟩
set_option maxRecDepth 100000 in
set_option maxHeartbeats 1600000 in
theorem num32_15_a (w : World) (a b lz tz : Nat) (ha : a < 4294967296) (hb : b < 4294967296) (hb0 : ¬ b = 0) (hl : ¬ a * 2 % 4294967296 = 0) :
    Calls Tryd.prog 117 #[.int .i64 15, .int .u32 a, .int .u32 b, .int .u64 32] w fun e w' => e = .returned (.tuple #[.int .u64 ((numN 32 15 a b lz tz).1 : Int), .int .i8 (numN 32 15 a b lz tz).2]) ∧ w' = w := by
  have HA := Lib.hid (wrap32_n a ha); have HB := Lib.hid (wrap32_n b hb)
  have f0 : ((b : Int) == 0) = false := by rw [beq_eq_false_iff_ne]; omega
  have f1 : ((a : Int) * 2 % 4294967296 == 0) = false := by rw [beq_eq_false_iff_ne]; omega
  have HL : Hid (¬ (a = 2 ^ (32 - 1) ∧ b = 2 ^ 32 - 1)) := Lib.hid (by omega)
  have HV : Hid (numN 32 15 a b lz tz = (un 32 ((sg 32 a).tmod (sg 32 b)), 0)) := by show divN 32 15 a b = _; rw [divN, if_neg hb0]; rw [if_neg (by omega), if_neg (by omega), if_neg HL.out, if_pos rfl]
  have hbp : 0 < b := by omega
  have hsb : ¬ wrap32 (b : Int) = 0 := by rw [HB.out]; unfold sg; omega
  clear hl hb0 HL
  go_enter Tryd.func117, Tryd.ntmps117
  go_wp2
  go_ret2
  refine ⟨?_, by trivial⟩
  rw [HV.out]
  refine rets2 (congrArg (Value.int .u64) ?_) rfl
  rw [un32, ← HA.out, ← HB.out]; (try rw [IntKind.wrap_u64]); (try rw [wrap32_mod])
set_option maxRecDepth 100000 in
set_option maxHeartbeats 1600000 in
theorem num32_15_b (w : World) (a b lz tz : Nat) (ha : a < 4294967296) (hb : b < 4294967296) (hb0 : ¬ b = 0) (hl : a = 0) :
    Calls Tryd.prog 117 #[.int .i64 15, .int .u32 a, .int .u32 b, .int .u64 32] w fun e w' => e = .returned (.tuple #[.int .u64 ((numN 32 15 a b lz tz).1 : Int), .int .i8 (numN 32 15 a b lz tz).2]) ∧ w' = w := by
  have HA := Lib.hid (wrap32_n a ha); have HB := Lib.hid (wrap32_n b hb)
  have f0 : ((b : Int) == 0) = false := by rw [beq_eq_false_iff_ne]; omega
  have f1 : ((a : Int) * 2 % 4294967296 == 0) = true := by rw [beq_iff_eq]; omega
  have f2 : ((a : Int) != 0) = false := by rw [bne_eq_false_iff_eq]; omega
  have HL : Hid (¬ (a = 2 ^ (32 - 1) ∧ b = 2 ^ 32 - 1)) := Lib.hid (by omega)
  have HV : Hid (numN 32 15 a b lz tz = (un 32 ((sg 32 a).tmod (sg 32 b)), 0)) := by show divN 32 15 a b = _; rw [divN, if_neg hb0]; rw [if_neg (by omega), if_neg (by omega), if_neg HL.out, if_pos rfl]
  have hbp : 0 < b := by omega
  have hsb : ¬ wrap32 (b : Int) = 0 := by rw [HB.out]; unfold sg; omega
  clear hl hb0 HL
  go_enter Tryd.func117, Tryd.ntmps117
  go_wp2
  go_ret2
  refine ⟨?_, by trivial⟩
  rw [HV.out]
  refine rets2 (congrArg (Value.int .u64) ?_) rfl
  rw [un32, ← HA.out, ← HB.out]; (try rw [IntKind.wrap_u64]); (try rw [wrap32_mod])
set_option maxRecDepth 100000 in
set_option maxHeartbeats 1600000 in
theorem num32_15_c (w : World) (a b lz tz : Nat) (ha : a < 4294967296) (hb : b < 4294967296) (hb0 : ¬ b = 0) (hl : a * 2 % 4294967296 = 0) (hl2 : ¬ b = 4294967295) (ha0 : ¬ a = 0) :
    Calls Tryd.prog 117 #[.int .i64 15, .int .u32 a, .int .u32 b, .int .u64 32] w fun e w' => e = .returned (.tuple #[.int .u64 ((numN 32 15 a b lz tz).1 : Int), .int .i8 (numN 32 15 a b lz tz).2]) ∧ w' = w := by
  have HA := Lib.hid (wrap32_n a ha); have HB := Lib.hid (wrap32_n b hb)
  have f0 : ((b : Int) == 0) = false := by rw [beq_eq_false_iff_ne]; omega
  have f1 : ((a : Int) * 2 % 4294967296 == 0) = true := by rw [beq_iff_eq]; omega
  have f2 : ((a : Int) != 0) = true := by rw [bne_iff_ne]; omega
  have f3 : ((b : Int) == bits BinOp.xor IntKind.u32 (if IntKind.u32.signed = true then -1 else IntKind.u32.max) 0) = false := by rw [all_u32, beq_eq_false_iff_ne]; omega
  have HL : Hid (¬ (a = 2 ^ (32 - 1) ∧ b = 2 ^ 32 - 1)) := Lib.hid (by omega)
  clear hl2
  have HV : Hid (numN 32 15 a b lz tz = (un 32 ((sg 32 a).tmod (sg 32 b)), 0)) := by show divN 32 15 a b = _; rw [divN, if_neg hb0]; rw [if_neg (by omega), if_neg (by omega), if_neg HL.out, if_pos rfl]
  have hbp : 0 < b := by omega
  have hsb : ¬ wrap32 (b : Int) = 0 := by rw [HB.out]; unfold sg; omega
  clear hl hb0 HL ha0
  go_enter Tryd.func117, Tryd.ntmps117
  go_wp2
  go_ret2
  refine ⟨?_, by trivial⟩
  rw [HV.out]
  refine rets2 (congrArg (Value.int .u64) ?_) rfl
  rw [un32, ← HA.out, ← HB.out]; (try rw [IntKind.wrap_u64]); (try rw [wrap32_mod])
set_option maxRecDepth 100000 in
set_option maxHeartbeats 1600000 in
theorem num32_16_z (w : World) (a b lz tz : Nat) (ha : a < 4294967296) (hb : b < 4294967296) (h0 : b = 0) :
    Calls Tryd.prog 117 #[.int .i64 16, .int .u32 a, .int .u32 b, .int .u64 32] w fun e w' => e = .returned (.tuple #[.int .u64 ((numN 32 16 a b lz tz).1 : Int), .int .i8 (numN 32 16 a b lz tz).2]) ∧ w' = w := by
  have HA := Lib.hid (wrap32_n a ha); have HB := Lib.hid (wrap32_n b hb)
  have f0 : ((b : Int) == 0) = true := by rw [beq_iff_eq]; omega
  have HV : Hid (numN 32 16 a b lz tz = (0, 3)) := by show divN 32 16 a b = _; rw [divN, if_pos h0]
  clear h0
  go_enter Tryd.func117, Tryd.ntmps117
  go_wp2
  go_ret2
  exact ⟨by rw [HV.out]; exact rets2 rfl rfl, by trivial⟩
set_option maxRecDepth 100000 in
set_option maxHeartbeats 1600000 in
theorem num32_16_a (w : World) (a b lz tz : Nat) (ha : a < 4294967296) (hb : b < 4294967296) (hb0 : ¬ b = 0) (hl : ¬ a * 2 % 4294967296 = 0) :
    Calls Tryd.prog 117 #[.int .i64 16, .int .u32 a, .int .u32 b, .int .u64 32] w fun e w' => e = .returned (.tuple #[.int .u64 ((numN 32 16 a b lz tz).1 : Int), .int .i8 (numN 32 16 a b lz tz).2]) ∧ w' = w := by
  have HA := Lib.hid (wrap32_n a ha); have HB := Lib.hid (wrap32_n b hb)
  have f0 : ((b : Int) == 0) = false := by rw [beq_eq_false_iff_ne]; omega
  have f1 : ((a : Int) * 2 % 4294967296 == 0) = false := by rw [beq_eq_false_iff_ne]; omega
  have HL : Hid (¬ (a = 2 ^ (32 - 1) ∧ b = 2 ^ 32 - 1)) := Lib.hid (by omega)
  have HV : Hid (numN 32 16 a b lz tz = (a % b, 0)) := by show divN 32 16 a b = _; rw [divN, if_neg hb0]; rw [if_neg (by omega), if_pos rfl]
  have hbp : 0 < b := by omega
  have hsb : ¬ wrap32 (b : Int) = 0 := by rw [HB.out]; unfold sg; omega
  clear hl hb0 HL
  go_enter Tryd.func117, Tryd.ntmps117
  go_wp2
  go_ret2
  refine ⟨?_, by trivial⟩
  rw [HV.out]
  refine rets2 (congrArg (Value.int .u64) ?_) rfl
  show _ = ((a % b : Nat) : Int); have := Nat.mod_le a b; have e3 : (a : Int) % b = ((a % b : Nat) : Int) := by simp
  first | exact e3 | ((try rw [IntKind.wrap_u64]); rw [e3]; clear e3; generalize a % b = q at *; omega)
set_option maxRecDepth 100000 in
set_option maxHeartbeats 1600000 in
theorem num32_16_b (w : World) (a b lz tz : Nat) (ha : a < 4294967296) (hb : b < 4294967296) (hb0 : ¬ b = 0) (hl : a = 0) :
    Calls Tryd.prog 117 #[.int .i64 16, .int .u32 a, .int .u32 b, .int .u64 32] w fun e w' => e = .returned (.tuple #[.int .u64 ((numN 32 16 a b lz tz).1 : Int), .int .i8 (numN 32 16 a b lz tz).2]) ∧ w' = w := by
  have HA := Lib.hid (wrap32_n a ha); have HB := Lib.hid (wrap32_n b hb)
  have f0 : ((b : Int) == 0) = false := by rw [beq_eq_false_iff_ne]; omega
  have f1 : ((a : Int) * 2 % 4294967296 == 0) = true := by rw [beq_iff_eq]; omega
  have f2 : ((a : Int) != 0) = false := by rw [bne_eq_false_iff_eq]; omega
  have HL : Hid (¬ (a = 2 ^ (32 - 1) ∧ b = 2 ^ 32 - 1)) := Lib.hid (by omega)
  have HV : Hid (numN 32 16 a b lz tz = (a % b, 0)) := by show divN 32 16 a b = _; rw [divN, if_neg hb0]; rw [if_neg (by omega), if_pos rfl]
  have hbp : 0 < b := by omega
  have hsb : ¬ wrap32 (b : Int) = 0 := by rw [HB.out]; unfold sg; omega
  clear hl hb0 HL
  go_enter Tryd.func117, Tryd.ntmps117
  go_wp2
  go_ret2
  refine ⟨?_, by trivial⟩
  rw [HV.out]
  refine rets2 (congrArg (Value.int .u64) ?_) rfl
  show _ = ((a % b : Nat) : Int); have := Nat.mod_le a b; have e3 : (a : Int) % b = ((a % b : Nat) : Int) := by simp
  first | exact e3 | ((try rw [IntKind.wrap_u64]); rw [e3]; clear e3; generalize a % b = q at *; omega)
set_option maxRecDepth 100000 in
set_option maxHeartbeats 1600000 in
theorem num32_16_c (w : World) (a b lz tz : Nat) (ha : a < 4294967296) (hb : b < 4294967296) (hb0 : ¬ b = 0) (hl : a * 2 % 4294967296 = 0) (hl2 : ¬ b = 4294967295) (ha0 : ¬ a = 0) :
    Calls Tryd.prog 117 #[.int .i64 16, .int .u32 a, .int .u32 b, .int .u64 32] w fun e w' => e = .returned (.tuple #[.int .u64 ((numN 32 16 a b lz tz).1 : Int), .int .i8 (numN 32 16 a b lz tz).2]) ∧ w' = w := by
  have HA := Lib.hid (wrap32_n a ha); have HB := Lib.hid (wrap32_n b hb)
  have f0 : ((b : Int) == 0) = false := by rw [beq_eq_false_iff_ne]; omega
  have f1 : ((a : Int) * 2 % 4294967296 == 0) = true := by rw [beq_iff_eq]; omega
  have f2 : ((a : Int) != 0) = true := by rw [bne_iff_ne]; omega
  have f3 : ((b : Int) == bits BinOp.xor IntKind.u32 (if IntKind.u32.signed = true then -1 else IntKind.u32.max) 0) = false := by rw [all_u32, beq_eq_false_iff_ne]; omega
  have HL : Hid (¬ (a = 2 ^ (32 - 1) ∧ b = 2 ^ 32 - 1)) := Lib.hid (by omega)
  clear hl2
  have HV : Hid (numN 32 16 a b lz tz = (a % b, 0)) := by show divN 32 16 a b = _; rw [divN, if_neg hb0]; rw [if_neg (by omega), if_pos rfl]
  have hbp : 0 < b := by omega
  have hsb : ¬ wrap32 (b : Int) = 0 := by rw [HB.out]; unfold sg; omega
  clear hl hb0 HL ha0
  go_enter Tryd.func117, Tryd.ntmps117
  go_wp2
  go_ret2
  refine ⟨?_, by trivial⟩
  rw [HV.out]
  refine rets2 (congrArg (Value.int .u64) ?_) rfl
  show _ = ((a % b : Nat) : Int); have := Nat.mod_le a b; have e3 : (a : Int) % b = ((a % b : Nat) : Int) := by simp
  first | exact e3 | ((try rw [IntKind.wrap_u64]); rw [e3]; clear e3; generalize a % b = q at *; omega)
set_option maxRecDepth 100000 in
set_option maxHeartbeats 1600000 in
theorem num64_13_z (w : World) (a b lz tz : Nat) (ha : a < 18446744073709551616) (hb : b < 18446744073709551616) (h0 : b = 0) :
    Calls Tryd.prog 116 #[.int .i64 13, .int .u64 a, .int .u64 b, .int .u64 64] w fun e w' => e = .returned (.tuple #[.int .u64 ((numN 64 13 a b lz tz).1 : Int), .int .i8 (numN 64 13 a b lz tz).2]) ∧ w' = w := by
  have HA := Lib.hid (wrap64_n a ha); have HB := Lib.hid (wrap64_n b hb)
  have f0 : ((b : Int) == 0) = true := by rw [beq_iff_eq]; omega
  have HV : Hid (numN 64 13 a b lz tz = (0, 3)) := by show divN 64 13 a b = _; rw [divN, if_pos h0]
  clear h0
  go_enter Tryd.func116, Tryd.ntmps116
  go_wp2
  go_ret2
  exact ⟨by rw [HV.out]; exact rets2 rfl rfl, by trivial⟩
set_option maxRecDepth 100000 in
set_option maxHeartbeats 1600000 in
theorem num64_13_a (w : World) (a b lz tz : Nat) (ha : a < 18446744073709551616) (hb : b < 18446744073709551616) (hb0 : ¬ b = 0) (hl : ¬ a * 2 % 18446744073709551616 = 0) :
    Calls Tryd.prog 116 #[.int .i64 13, .int .u64 a, .int .u64 b, .int .u64 64] w fun e w' => e = .returned (.tuple #[.int .u64 ((numN 64 13 a b lz tz).1 : Int), .int .i8 (numN 64 13 a b lz tz).2]) ∧ w' = w := by
  have HA := Lib.hid (wrap64_n a ha); have HB := Lib.hid (wrap64_n b hb)
  have f0 : ((b : Int) == 0) = false := by rw [beq_eq_false_iff_ne]; omega
  have f1 : (IntKind.u64.wrap ((a : Int) * 2) == 0) = false := by rw [beq_eq_false_iff_ne]; rw [IntKind.wrap_u64]; omega
  have HL : Hid (¬ (a = 2 ^ (64 - 1) ∧ b = 2 ^ 64 - 1)) := Lib.hid (by omega)
  have HV : Hid (numN 64 13 a b lz tz = (un 64 ((sg 64 a).tdiv (sg 64 b)), 0)) := by show divN 64 13 a b = _; rw [divN, if_neg hb0]; rw [if_neg (by omega), if_neg (by omega), if_neg HL.out, if_neg (by omega)]
  have hbp : 0 < b := by omega
  have hsb : ¬ wrap64 (b : Int) = 0 := by rw [HB.out]; unfold sg; omega
  clear hl hb0 HL
  go_enter Tryd.func116, Tryd.ntmps116
  go_wp2
  go_ret2
  refine ⟨?_, by trivial⟩
  rw [HV.out]
  refine rets2 (congrArg (Value.int .u64) ?_) rfl
  rw [un64, ← HA.out, ← HB.out]; (try rw [IntKind.wrap_u64]); (try rw [wrap64_mod])
set_option maxRecDepth 100000 in
set_option maxHeartbeats 1600000 in
theorem num64_13_b (w : World) (a b lz tz : Nat) (ha : a < 18446744073709551616) (hb : b < 18446744073709551616) (hb0 : ¬ b = 0) (hl : a = 0) :
    Calls Tryd.prog 116 #[.int .i64 13, .int .u64 a, .int .u64 b, .int .u64 64] w fun e w' => e = .returned (.tuple #[.int .u64 ((numN 64 13 a b lz tz).1 : Int), .int .i8 (numN 64 13 a b lz tz).2]) ∧ w' = w := by
  have HA := Lib.hid (wrap64_n a ha); have HB := Lib.hid (wrap64_n b hb)
  have f0 : ((b : Int) == 0) = false := by rw [beq_eq_false_iff_ne]; omega
  have f1 : (IntKind.u64.wrap ((a : Int) * 2) == 0) = true := by rw [beq_iff_eq]; rw [IntKind.wrap_u64]; omega
  have f2 : ((a : Int) != 0) = false := by rw [bne_eq_false_iff_eq]; omega
  have HL : Hid (¬ (a = 2 ^ (64 - 1) ∧ b = 2 ^ 64 - 1)) := Lib.hid (by omega)
  have HV : Hid (numN 64 13 a b lz tz = (un 64 ((sg 64 a).tdiv (sg 64 b)), 0)) := by show divN 64 13 a b = _; rw [divN, if_neg hb0]; rw [if_neg (by omega), if_neg (by omega), if_neg HL.out, if_neg (by omega)]
  have hbp : 0 < b := by omega
  have hsb : ¬ wrap64 (b : Int) = 0 := by rw [HB.out]; unfold sg; omega
  clear hl hb0 HL
  go_enter Tryd.func116, Tryd.ntmps116
  go_wp2
  go_ret2
  refine ⟨?_, by trivial⟩
  rw [HV.out]
  refine rets2 (congrArg (Value.int .u64) ?_) rfl
  rw [un64, ← HA.out, ← HB.out]; (try rw [IntKind.wrap_u64]); (try rw [wrap64_mod])
set_option maxRecDepth 100000 in
set_option maxHeartbeats 1600000 in
theorem num64_13_c (w : World) (a b lz tz : Nat) (ha : a < 18446744073709551616) (hb : b < 18446744073709551616) (hb0 : ¬ b = 0) (hl : a * 2 % 18446744073709551616 = 0) (hl2 : ¬ b = 18446744073709551615) (ha0 : ¬ a = 0) :
    Calls Tryd.prog 116 #[.int .i64 13, .int .u64 a, .int .u64 b, .int .u64 64] w fun e w' => e = .returned (.tuple #[.int .u64 ((numN 64 13 a b lz tz).1 : Int), .int .i8 (numN 64 13 a b lz tz).2]) ∧ w' = w := by
  have HA := Lib.hid (wrap64_n a ha); have HB := Lib.hid (wrap64_n b hb)
  have f0 : ((b : Int) == 0) = false := by rw [beq_eq_false_iff_ne]; omega
  have f1 : (IntKind.u64.wrap ((a : Int) * 2) == 0) = true := by rw [beq_iff_eq]; rw [IntKind.wrap_u64]; omega
  have f2 : ((a : Int) != 0) = true := by rw [bne_iff_ne]; omega
  have f3 : ((b : Int) == bits BinOp.xor IntKind.u64 (if IntKind.u64.signed = true then -1 else IntKind.u64.max) 0) = false := by rw [all_u64, beq_eq_false_iff_ne]; omega
  have HL : Hid (¬ (a = 2 ^ (64 - 1) ∧ b = 2 ^ 64 - 1)) := Lib.hid (by omega)
  clear hl2
  have HV : Hid (numN 64 13 a b lz tz = (un 64 ((sg 64 a).tdiv (sg 64 b)), 0)) := by show divN 64 13 a b = _; rw [divN, if_neg hb0]; rw [if_neg (by omega), if_neg (by omega), if_neg HL.out, if_neg (by omega)]
  have hbp : 0 < b := by omega
  have hsb : ¬ wrap64 (b : Int) = 0 := by rw [HB.out]; unfold sg; omega
  clear hl hb0 HL ha0
  go_enter Tryd.func116, Tryd.ntmps116
  go_wp2
  go_ret2
  refine ⟨?_, by trivial⟩
  rw [HV.out]
  refine rets2 (congrArg (Value.int .u64) ?_) rfl
  rw [un64, ← HA.out, ← HB.out]; (try rw [IntKind.wrap_u64]); (try rw [wrap64_mod])
set_option maxRecDepth 100000 in
set_option maxHeartbeats 1600000 in
theorem num64_14_z (w : World) (a b lz tz : Nat) (ha : a < 18446744073709551616) (hb : b < 18446744073709551616) (h0 : b = 0) :
    Calls Tryd.prog 116 #[.int .i64 14, .int .u64 a, .int .u64 b, .int .u64 64] w fun e w' => e = .returned (.tuple #[.int .u64 ((numN 64 14 a b lz tz).1 : Int), .int .i8 (numN 64 14 a b lz tz).2]) ∧ w' = w := by
  have HA := Lib.hid (wrap64_n a ha); have HB := Lib.hid (wrap64_n b hb)
  have f0 : ((b : Int) == 0) = true := by rw [beq_iff_eq]; omega
  have HV : Hid (numN 64 14 a b lz tz = (0, 3)) := by show divN 64 14 a b = _; rw [divN, if_pos h0]
  clear h0
  go_enter Tryd.func116, Tryd.ntmps116
  go_wp2
  go_ret2
  exact ⟨by rw [HV.out]; exact rets2 rfl rfl, by trivial⟩
set_option maxRecDepth 100000 in
set_option maxHeartbeats 1600000 in
theorem num64_14_a (w : World) (a b lz tz : Nat) (ha : a < 18446744073709551616) (hb : b < 18446744073709551616) (hb0 : ¬ b = 0) (hl : ¬ a * 2 % 18446744073709551616 = 0) :
    Calls Tryd.prog 116 #[.int .i64 14, .int .u64 a, .int .u64 b, .int .u64 64] w fun e w' => e = .returned (.tuple #[.int .u64 ((numN 64 14 a b lz tz).1 : Int), .int .i8 (numN 64 14 a b lz tz).2]) ∧ w' = w := by
  have HA := Lib.hid (wrap64_n a ha); have HB := Lib.hid (wrap64_n b hb)
  have f0 : ((b : Int) == 0) = false := by rw [beq_eq_false_iff_ne]; omega
  have f1 : (IntKind.u64.wrap ((a : Int) * 2) == 0) = false := by rw [beq_eq_false_iff_ne]; rw [IntKind.wrap_u64]; omega
  have HL : Hid (¬ (a = 2 ^ (64 - 1) ∧ b = 2 ^ 64 - 1)) := Lib.hid (by omega)
  have HV : Hid (numN 64 14 a b lz tz = (a / b, 0)) := by show divN 64 14 a b = _; rw [divN, if_neg hb0]; rw [if_pos rfl]
  have hbp : 0 < b := by omega
  have hsb : ¬ wrap64 (b : Int) = 0 := by rw [HB.out]; unfold sg; omega
  clear hl hb0 HL
  go_enter Tryd.func116, Tryd.ntmps116
  go_wp2
  go_ret2
  refine ⟨?_, by trivial⟩
  rw [HV.out]
  refine rets2 (congrArg (Value.int .u64) ?_) rfl
  show _ = ((a / b : Nat) : Int); have := Nat.div_le_self a b; have e3 : (a : Int) / b = ((a / b : Nat) : Int) := by simp
  first | exact e3 | ((try rw [IntKind.wrap_u64]); rw [e3]; clear e3; generalize a / b = q at *; omega)
set_option maxRecDepth 100000 in
set_option maxHeartbeats 1600000 in
theorem num64_14_b (w : World) (a b lz tz : Nat) (ha : a < 18446744073709551616) (hb : b < 18446744073709551616) (hb0 : ¬ b = 0) (hl : a = 0) :
    Calls Tryd.prog 116 #[.int .i64 14, .int .u64 a, .int .u64 b, .int .u64 64] w fun e w' => e = .returned (.tuple #[.int .u64 ((numN 64 14 a b lz tz).1 : Int), .int .i8 (numN 64 14 a b lz tz).2]) ∧ w' = w := by
  have HA := Lib.hid (wrap64_n a ha); have HB := Lib.hid (wrap64_n b hb)
  have f0 : ((b : Int) == 0) = false := by rw [beq_eq_false_iff_ne]; omega
  have f1 : (IntKind.u64.wrap ((a : Int) * 2) == 0) = true := by rw [beq_iff_eq]; rw [IntKind.wrap_u64]; omega
  have f2 : ((a : Int) != 0) = false := by rw [bne_eq_false_iff_eq]; omega
  have HL : Hid (¬ (a = 2 ^ (64 - 1) ∧ b = 2 ^ 64 - 1)) := Lib.hid (by omega)
  have HV : Hid (numN 64 14 a b lz tz = (a / b, 0)) := by show divN 64 14 a b = _; rw [divN, if_neg hb0]; rw [if_pos rfl]
  have hbp : 0 < b := by omega
  have hsb : ¬ wrap64 (b : Int) = 0 := by rw [HB.out]; unfold sg; omega
  clear hl hb0 HL
  go_enter Tryd.func116, Tryd.ntmps116
  go_wp2
  go_ret2
  refine ⟨?_, by trivial⟩
  rw [HV.out]
  refine rets2 (congrArg (Value.int .u64) ?_) rfl
  show _ = ((a / b : Nat) : Int); have := Nat.div_le_self a b; have e3 : (a : Int) / b = ((a / b : Nat) : Int) := by simp
  first | exact e3 | ((try rw [IntKind.wrap_u64]); rw [e3]; clear e3; generalize a / b = q at *; omega)
set_option maxRecDepth 100000 in
set_option maxHeartbeats 1600000 in
theorem num64_14_c (w : World) (a b lz tz : Nat) (ha : a < 18446744073709551616) (hb : b < 18446744073709551616) (hb0 : ¬ b = 0) (hl : a * 2 % 18446744073709551616 = 0) (hl2 : ¬ b = 18446744073709551615) (ha0 : ¬ a = 0) :
    Calls Tryd.prog 116 #[.int .i64 14, .int .u64 a, .int .u64 b, .int .u64 64] w fun e w' => e = .returned (.tuple #[.int .u64 ((numN 64 14 a b lz tz).1 : Int), .int .i8 (numN 64 14 a b lz tz).2]) ∧ w' = w := by
  have HA := Lib.hid (wrap64_n a ha); have HB := Lib.hid (wrap64_n b hb)
  have f0 : ((b : Int) == 0) = false := by rw [beq_eq_false_iff_ne]; omega
  have f1 : (IntKind.u64.wrap ((a : Int) * 2) == 0) = true := by rw [beq_iff_eq]; rw [IntKind.wrap_u64]; omega
  have f2 : ((a : Int) != 0) = true := by rw [bne_iff_ne]; omega
  have f3 : ((b : Int) == bits BinOp.xor IntKind.u64 (if IntKind.u64.signed = true then -1 else IntKind.u64.max) 0) = false := by rw [all_u64, beq_eq_false_iff_ne]; omega
  have HL : Hid (¬ (a = 2 ^ (64 - 1) ∧ b = 2 ^ 64 - 1)) := Lib.hid (by omega)
  clear hl2
  have HV : Hid (numN 64 14 a b lz tz = (a / b, 0)) := by show divN 64 14 a b = _; rw [divN, if_neg hb0]; rw [if_pos rfl]
  have hbp : 0 < b := by omega
  have hsb : ¬ wrap64 (b : Int) = 0 := by rw [HB.out]; unfold sg; omega
  clear hl hb0 HL ha0
  go_enter Tryd.func116, Tryd.ntmps116
  go_wp2
  go_ret2
  refine ⟨?_, by trivial⟩
  rw [HV.out]
  refine rets2 (congrArg (Value.int .u64) ?_) rfl
  show _ = ((a / b : Nat) : Int); have := Nat.div_le_self a b; have e3 : (a : Int) / b = ((a / b : Nat) : Int) := by simp
  first | exact e3 | ((try rw [IntKind.wrap_u64]); rw [e3]; clear e3; generalize a / b = q at *; omega)
set_option maxRecDepth 100000 in
set_option maxHeartbeats 1600000 in
theorem num64_15_z (w : World) (a b lz tz : Nat) (ha : a < 18446744073709551616) (hb : b < 18446744073709551616) (h0 : b = 0) :
    Calls Tryd.prog 116 #[.int .i64 15, .int .u64 a, .int .u64 b, .int .u64 64] w fun e w' => e = .returned (.tuple #[.int .u64 ((numN 64 15 a b lz tz).1 : Int), .int .i8 (numN 64 15 a b lz tz).2]) ∧ w' = w := by
  have HA := Lib.hid (wrap64_n a ha); have HB := Lib.hid (wrap64_n b hb)
  have f0 : ((b : Int) == 0) = true := by rw [beq_iff_eq]; omega
  have HV : Hid (numN 64 15 a b lz tz = (0, 3)) := by show divN 64 15 a b = _; rw [divN, if_pos h0]
  clear h0
  go_enter Tryd.func116, Tryd.ntmps116
  go_wp2
  go_ret2
  exact ⟨by rw [HV.out]; exact rets2 rfl rfl, by trivial⟩
set_option maxRecDepth 100000 in
set_option maxHeartbeats 1600000 in
theorem num64_15_a (w : World) (a b lz tz : Nat) (ha : a < 18446744073709551616) (hb : b < 18446744073709551616) (hb0 : ¬ b = 0) (hl : ¬ a * 2 % 18446744073709551616 = 0) :
    Calls Tryd.prog 116 #[.int .i64 15, .int .u64 a, .int .u64 b, .int .u64 64] w fun e w' => e = .returned (.tuple #[.int .u64 ((numN 64 15 a b lz tz).1 : Int), .int .i8 (numN 64 15 a b lz tz).2]) ∧ w' = w := by
  have HA := Lib.hid (wrap64_n a ha); have HB := Lib.hid (wrap64_n b hb)
  have f0 : ((b : Int) == 0) = false := by rw [beq_eq_false_iff_ne]; omega
  have f1 : (IntKind.u64.wrap ((a : Int) * 2) == 0) = false := by rw [beq_eq_false_iff_ne]; rw [IntKind.wrap_u64]; omega
  have HL : Hid (¬ (a = 2 ^ (64 - 1) ∧ b = 2 ^ 64 - 1)) := Lib.hid (by omega)
  have HV : Hid (numN 64 15 a b lz tz = (un 64 ((sg 64 a).tmod (sg 64 b)), 0)) := by show divN 64 15 a b = _; rw [divN, if_neg hb0]; rw [if_neg (by omega), if_neg (by omega), if_neg HL.out, if_pos rfl]
  have hbp : 0 < b := by omega
  have hsb : ¬ wrap64 (b : Int) = 0 := by rw [HB.out]; unfold sg; omega
  clear hl hb0 HL
  go_enter Tryd.func116, Tryd.ntmps116
  go_wp2
  go_ret2
  refine ⟨?_, by trivial⟩
  rw [HV.out]
  refine rets2 (congrArg (Value.int .u64) ?_) rfl
  rw [un64, ← HA.out, ← HB.out]; (try rw [IntKind.wrap_u64]); (try rw [wrap64_mod])
set_option maxRecDepth 100000 in
set_option maxHeartbeats 1600000 in
theorem num64_15_b (w : World) (a b lz tz : Nat) (ha : a < 18446744073709551616) (hb : b < 18446744073709551616) (hb0 : ¬ b = 0) (hl : a = 0) :
    Calls Tryd.prog 116 #[.int .i64 15, .int .u64 a, .int .u64 b, .int .u64 64] w fun e w' => e = .returned (.tuple #[.int .u64 ((numN 64 15 a b lz tz).1 : Int), .int .i8 (numN 64 15 a b lz tz).2]) ∧ w' = w := by
  have HA := Lib.hid (wrap64_n a ha); have HB := Lib.hid (wrap64_n b hb)
  have f0 : ((b : Int) == 0) = false := by rw [beq_eq_false_iff_ne]; omega
  have f1 : (IntKind.u64.wrap ((a : Int) * 2) == 0) = true := by rw [beq_iff_eq]; rw [IntKind.wrap_u64]; omega
  have f2 : ((a : Int) != 0) = false := by rw [bne_eq_false_iff_eq]; omega
  have HL : Hid (¬ (a = 2 ^ (64 - 1) ∧ b = 2 ^ 64 - 1)) := Lib.hid (by omega)
  have HV : Hid (numN 64 15 a b lz tz = (un 64 ((sg 64 a).tmod (sg 64 b)), 0)) := by show divN 64 15 a b = _; rw [divN, if_neg hb0]; rw [if_neg (by omega), if_neg (by omega), if_neg HL.out, if_pos rfl]
  have hbp : 0 < b := by omega
  have hsb : ¬ wrap64 (b : Int) = 0 := by rw [HB.out]; unfold sg; omega
  clear hl hb0 HL
  go_enter Tryd.func116, Tryd.ntmps116
  go_wp2
  go_ret2
  refine ⟨?_, by trivial⟩
  rw [HV.out]
  refine rets2 (congrArg (Value.int .u64) ?_) rfl
  rw [un64, ← HA.out, ← HB.out]; (try rw [IntKind.wrap_u64]); (try rw [wrap64_mod])
set_option maxRecDepth 100000 in
set_option maxHeartbeats 1600000 in
theorem num64_15_c (w : World) (a b lz tz : Nat) (ha : a < 18446744073709551616) (hb : b < 18446744073709551616) (hb0 : ¬ b = 0) (hl : a * 2 % 18446744073709551616 = 0) (hl2 : ¬ b = 18446744073709551615) (ha0 : ¬ a = 0) :
    Calls Tryd.prog 116 #[.int .i64 15, .int .u64 a, .int .u64 b, .int .u64 64] w fun e w' => e = .returned (.tuple #[.int .u64 ((numN 64 15 a b lz tz).1 : Int), .int .i8 (numN 64 15 a b lz tz).2]) ∧ w' = w := by
  have HA := Lib.hid (wrap64_n a ha); have HB := Lib.hid (wrap64_n b hb)
  have f0 : ((b : Int) == 0) = false := by rw [beq_eq_false_iff_ne]; omega
  have f1 : (IntKind.u64.wrap ((a : Int) * 2) == 0) = true := by rw [beq_iff_eq]; rw [IntKind.wrap_u64]; omega
  have f2 : ((a : Int) != 0) = true := by rw [bne_iff_ne]; omega
  have f3 : ((b : Int) == bits BinOp.xor IntKind.u64 (if IntKind.u64.signed = true then -1 else IntKind.u64.max) 0) = false := by rw [all_u64, beq_eq_false_iff_ne]; omega
  have HL : Hid (¬ (a = 2 ^ (64 - 1) ∧ b = 2 ^ 64 - 1)) := Lib.hid (by omega)
  clear hl2
  have HV : Hid (numN 64 15 a b lz tz = (un 64 ((sg 64 a).tmod (sg 64 b)), 0)) := by show divN 64 15 a b = _; rw [divN, if_neg hb0]; rw [if_neg (by omega), if_neg (by omega), if_neg HL.out, if_pos rfl]
  have hbp : 0 < b := by omega
  have hsb : ¬ wrap64 (b : Int) = 0 := by rw [HB.out]; unfold sg; omega
  clear hl hb0 HL ha0
  go_enter Tryd.func116, Tryd.ntmps116
  go_wp2
  go_ret2
  refine ⟨?_, by trivial⟩
  rw [HV.out]
  refine rets2 (congrArg (Value.int .u64) ?_) rfl
  rw [un64, ← HA.out, ← HB.out]; (try rw [IntKind.wrap_u64]); (try rw [wrap64_mod])
set_option maxRecDepth 100000 in
set_option maxHeartbeats 1600000 in
theorem num64_16_z (w : World) (a b lz tz : Nat) (ha : a < 18446744073709551616) (hb : b < 18446744073709551616) (h0 : b = 0) :
    Calls Tryd.prog 116 #[.int .i64 16, .int .u64 a, .int .u64 b, .int .u64 64] w fun e w' => e = .returned (.tuple #[.int .u64 ((numN 64 16 a b lz tz).1 : Int), .int .i8 (numN 64 16 a b lz tz).2]) ∧ w' = w := by
  have HA := Lib.hid (wrap64_n a ha); have HB := Lib.hid (wrap64_n b hb)
  have f0 : ((b : Int) == 0) = true := by rw [beq_iff_eq]; omega
  have HV : Hid (numN 64 16 a b lz tz = (0, 3)) := by show divN 64 16 a b = _; rw [divN, if_pos h0]
  clear h0
  go_enter Tryd.func116, Tryd.ntmps116
  go_wp2
  go_ret2
  exact ⟨by rw [HV.out]; exact rets2 rfl rfl, by trivial⟩
set_option maxRecDepth 100000 in
set_option maxHeartbeats 1600000 in
theorem num64_16_a (w : World) (a b lz tz : Nat) (ha : a < 18446744073709551616) (hb : b < 18446744073709551616) (hb0 : ¬ b = 0) (hl : ¬ a * 2 % 18446744073709551616 = 0) :
    Calls Tryd.prog 116 #[.int .i64 16, .int .u64 a, .int .u64 b, .int .u64 64] w fun e w' => e = .returned (.tuple #[.int .u64 ((numN 64 16 a b lz tz).1 : Int), .int .i8 (numN 64 16 a b lz tz).2]) ∧ w' = w := by
  have HA := Lib.hid (wrap64_n a ha); have HB := Lib.hid (wrap64_n b hb)
  have f0 : ((b : Int) == 0) = false := by rw [beq_eq_false_iff_ne]; omega
  have f1 : (IntKind.u64.wrap ((a : Int) * 2) == 0) = false := by rw [beq_eq_false_iff_ne]; rw [IntKind.wrap_u64]; omega
  have HL : Hid (¬ (a = 2 ^ (64 - 1) ∧ b = 2 ^ 64 - 1)) := Lib.hid (by omega)
  have HV : Hid (numN 64 16 a b lz tz = (a % b, 0)) := by show divN 64 16 a b = _; rw [divN, if_neg hb0]; rw [if_neg (by omega), if_pos rfl]
  have hbp : 0 < b := by omega
  have hsb : ¬ wrap64 (b : Int) = 0 := by rw [HB.out]; unfold sg; omega
  clear hl hb0 HL
  go_enter Tryd.func116, Tryd.ntmps116
  go_wp2
  go_ret2
  refine ⟨?_, by trivial⟩
  rw [HV.out]
  refine rets2 (congrArg (Value.int .u64) ?_) rfl
  show _ = ((a % b : Nat) : Int); have := Nat.mod_le a b; have e3 : (a : Int) % b = ((a % b : Nat) : Int) := by simp
  first | exact e3 | ((try rw [IntKind.wrap_u64]); rw [e3]; clear e3; generalize a % b = q at *; omega)
set_option maxRecDepth 100000 in
set_option maxHeartbeats 1600000 in
theorem num64_16_b (w : World) (a b lz tz : Nat) (ha : a < 18446744073709551616) (hb : b < 18446744073709551616) (hb0 : ¬ b = 0) (hl : a = 0) :
    Calls Tryd.prog 116 #[.int .i64 16, .int .u64 a, .int .u64 b, .int .u64 64] w fun e w' => e = .returned (.tuple #[.int .u64 ((numN 64 16 a b lz tz).1 : Int), .int .i8 (numN 64 16 a b lz tz).2]) ∧ w' = w := by
  have HA := Lib.hid (wrap64_n a ha); have HB := Lib.hid (wrap64_n b hb)
  have f0 : ((b : Int) == 0) = false := by rw [beq_eq_false_iff_ne]; omega
  have f1 : (IntKind.u64.wrap ((a : Int) * 2) == 0) = true := by rw [beq_iff_eq]; rw [IntKind.wrap_u64]; omega
  have f2 : ((a : Int) != 0) = false := by rw [bne_eq_false_iff_eq]; omega
  have HL : Hid (¬ (a = 2 ^ (64 - 1) ∧ b = 2 ^ 64 - 1)) := Lib.hid (by omega)
  have HV : Hid (numN 64 16 a b lz tz = (a % b, 0)) := by show divN 64 16 a b = _; rw [divN, if_neg hb0]; rw [if_neg (by omega), if_pos rfl]
  have hbp : 0 < b := by omega
  have hsb : ¬ wrap64 (b : Int) = 0 := by rw [HB.out]; unfold sg; omega
  clear hl hb0 HL
  go_enter Tryd.func116, Tryd.ntmps116
  go_wp2
  go_ret2
  refine ⟨?_, by trivial⟩
  rw [HV.out]
  refine rets2 (congrArg (Value.int .u64) ?_) rfl
  show _ = ((a % b : Nat) : Int); have := Nat.mod_le a b; have e3 : (a : Int) % b = ((a % b : Nat) : Int) := by simp
  first | exact e3 | ((try rw [IntKind.wrap_u64]); rw [e3]; clear e3; generalize a % b = q at *; omega)
set_option maxRecDepth 100000 in
set_option maxHeartbeats 1600000 in
theorem num64_16_c (w : World) (a b lz tz : Nat) (ha : a < 18446744073709551616) (hb : b < 18446744073709551616) (hb0 : ¬ b = 0) (hl : a * 2 % 18446744073709551616 = 0) (hl2 : ¬ b = 18446744073709551615) (ha0 : ¬ a = 0) :
    Calls Tryd.prog 116 #[.int .i64 16, .int .u64 a, .int .u64 b, .int .u64 64] w fun e w' => e = .returned (.tuple #[.int .u64 ((numN 64 16 a b lz tz).1 : Int), .int .i8 (numN 64 16 a b lz tz).2]) ∧ w' = w := by
  have HA := Lib.hid (wrap64_n a ha); have HB := Lib.hid (wrap64_n b hb)
  have f0 : ((b : Int) == 0) = false := by rw [beq_eq_false_iff_ne]; omega
  have f1 : (IntKind.u64.wrap ((a : Int) * 2) == 0) = true := by rw [beq_iff_eq]; rw [IntKind.wrap_u64]; omega
  have f2 : ((a : Int) != 0) = true := by rw [bne_iff_ne]; omega
  have f3 : ((b : Int) == bits BinOp.xor IntKind.u64 (if IntKind.u64.signed = true then -1 else IntKind.u64.max) 0) = false := by rw [all_u64, beq_eq_false_iff_ne]; omega
  have HL : Hid (¬ (a = 2 ^ (64 - 1) ∧ b = 2 ^ 64 - 1)) := Lib.hid (by omega)
  clear hl2
  have HV : Hid (numN 64 16 a b lz tz = (a % b, 0)) := by show divN 64 16 a b = _; rw [divN, if_neg hb0]; rw [if_neg (by omega), if_pos rfl]
  have hbp : 0 < b := by omega
  have hsb : ¬ wrap64 (b : Int) = 0 := by rw [HB.out]; unfold sg; omega
  clear hl hb0 HL ha0
  go_enter Tryd.func116, Tryd.ntmps116
  go_wp2
  go_ret2
  refine ⟨?_, by trivial⟩
  rw [HV.out]
  refine rets2 (congrArg (Value.int .u64) ?_) rfl
  show _ = ((a % b : Nat) : Int); have := Nat.mod_le a b; have e3 : (a : Int) % b = ((a % b : Nat) : Int) := by simp
  first | exact e3 | ((try rw [IntKind.wrap_u64]); rw [e3]; clear e3; generalize a % b = q at *; omega)
set_option maxRecDepth 100000 in
set_option maxHeartbeats 1600000 in
theorem num32_13_d (w : World) (a b lz tz : Nat) (ha : a < 4294967296) (hb : b < 4294967296) (hl : a = 2147483648) (hl2 : b = 4294967295) :
    Calls Tryd.prog 117 #[.int .i64 13, .int .u32 a, .int .u32 b, .int .u64 32] w fun e w' => e = .returned (.tuple #[.int .u64 ((numN 32 13 a b lz tz).1 : Int), .int .i8 (numN 32 13 a b lz tz).2]) ∧ w' = w := by
  have HA := Lib.hid (wrap32_n a ha); have HB := Lib.hid (wrap32_n b hb)
  have hb0 : ¬ b = 0 := by omega
  have f0 : ((b : Int) == 0) = false := by rw [beq_eq_false_iff_ne]; omega
  have f1 : ((a : Int) * 2 % 4294967296 == 0) = true := by rw [beq_iff_eq]; omega
  have f2 : ((a : Int) != 0) = true := by rw [bne_iff_ne]; omega
  have f3 : ((b : Int) == bits BinOp.xor IntKind.u32 (if IntKind.u32.signed = true then -1 else IntKind.u32.max) 0) = true := by rw [all_u32, beq_iff_eq]; omega
  have HV : Hid (numN 32 13 a b lz tz = (0, 4)) := by show divN 32 13 a b = _; rw [divN, if_neg hb0]; rw [if_neg (by omega), if_neg (by omega), if_pos (by omega), if_neg (by omega)]
  have hbp : 0 < b := by omega
  clear hl hl2 hb0
  go_enter Tryd.func117, Tryd.ntmps117
  go_wp2
  go_ret2
  refine ⟨?_, by trivial⟩
  rw [HV.out]
  refine rets2 (congrArg (Value.int .u64) ?_) rfl
  rfl
set_option maxRecDepth 100000 in
set_option maxHeartbeats 1600000 in
theorem num32_14_d (w : World) (a b lz tz : Nat) (ha : a < 4294967296) (hb : b < 4294967296) (hl : a = 2147483648) (hl2 : b = 4294967295) :
    Calls Tryd.prog 117 #[.int .i64 14, .int .u32 a, .int .u32 b, .int .u64 32] w fun e w' => e = .returned (.tuple #[.int .u64 ((numN 32 14 a b lz tz).1 : Int), .int .i8 (numN 32 14 a b lz tz).2]) ∧ w' = w := by
  have HA := Lib.hid (wrap32_n a ha); have HB := Lib.hid (wrap32_n b hb)
  have hb0 : ¬ b = 0 := by omega
  have f0 : ((b : Int) == 0) = false := by rw [beq_eq_false_iff_ne]; omega
  have f1 : ((a : Int) * 2 % 4294967296 == 0) = true := by rw [beq_iff_eq]; omega
  have f2 : ((a : Int) != 0) = true := by rw [bne_iff_ne]; omega
  have f3 : ((b : Int) == bits BinOp.xor IntKind.u32 (if IntKind.u32.signed = true then -1 else IntKind.u32.max) 0) = true := by rw [all_u32, beq_iff_eq]; omega
  have HV : Hid (numN 32 14 a b lz tz = (a / b, 0)) := by show divN 32 14 a b = _; rw [divN, if_neg hb0]; rw [if_pos rfl]
  have hbp : 0 < b := by omega
  clear hl hl2 hb0
  go_enter Tryd.func117, Tryd.ntmps117
  go_wp2
  go_ret2
  refine ⟨?_, by trivial⟩
  rw [HV.out]
  refine rets2 (congrArg (Value.int .u64) ?_) rfl
  show _ = ((a / b : Nat) : Int); have := Nat.div_le_self a b; have e3 : (a : Int) / b = ((a / b : Nat) : Int) := by simp
  first | exact e3 | ((try rw [IntKind.wrap_u64]); rw [e3]; clear e3; generalize a / b = q at *; omega)
set_option maxRecDepth 100000 in
set_option maxHeartbeats 1600000 in
theorem num32_15_d (w : World) (a b lz tz : Nat) (ha : a < 4294967296) (hb : b < 4294967296) (hl : a = 2147483648) (hl2 : b = 4294967295) :
    Calls Tryd.prog 117 #[.int .i64 15, .int .u32 a, .int .u32 b, .int .u64 32] w fun e w' => e = .returned (.tuple #[.int .u64 ((numN 32 15 a b lz tz).1 : Int), .int .i8 (numN 32 15 a b lz tz).2]) ∧ w' = w := by
  have HA := Lib.hid (wrap32_n a ha); have HB := Lib.hid (wrap32_n b hb)
  have hb0 : ¬ b = 0 := by omega
  have f0 : ((b : Int) == 0) = false := by rw [beq_eq_false_iff_ne]; omega
  have f1 : ((a : Int) * 2 % 4294967296 == 0) = true := by rw [beq_iff_eq]; omega
  have f2 : ((a : Int) != 0) = true := by rw [bne_iff_ne]; omega
  have f3 : ((b : Int) == bits BinOp.xor IntKind.u32 (if IntKind.u32.signed = true then -1 else IntKind.u32.max) 0) = true := by rw [all_u32, beq_iff_eq]; omega
  have HV : Hid (numN 32 15 a b lz tz = (0, 0)) := by show divN 32 15 a b = _; rw [divN, if_neg hb0]; rw [if_neg (by omega), if_neg (by omega), if_pos (by omega), if_pos rfl]
  have hbp : 0 < b := by omega
  clear hl hl2 hb0
  go_enter Tryd.func117, Tryd.ntmps117
  go_wp2
  go_ret2
  refine ⟨?_, by trivial⟩
  rw [HV.out]
  refine rets2 (congrArg (Value.int .u64) ?_) rfl
  rfl
set_option maxRecDepth 100000 in
set_option maxHeartbeats 1600000 in
theorem num32_16_d (w : World) (a b lz tz : Nat) (ha : a < 4294967296) (hb : b < 4294967296) (hl : a = 2147483648) (hl2 : b = 4294967295) :
    Calls Tryd.prog 117 #[.int .i64 16, .int .u32 a, .int .u32 b, .int .u64 32] w fun e w' => e = .returned (.tuple #[.int .u64 ((numN 32 16 a b lz tz).1 : Int), .int .i8 (numN 32 16 a b lz tz).2]) ∧ w' = w := by
  have HA := Lib.hid (wrap32_n a ha); have HB := Lib.hid (wrap32_n b hb)
  have hb0 : ¬ b = 0 := by omega
  have f0 : ((b : Int) == 0) = false := by rw [beq_eq_false_iff_ne]; omega
  have f1 : ((a : Int) * 2 % 4294967296 == 0) = true := by rw [beq_iff_eq]; omega
  have f2 : ((a : Int) != 0) = true := by rw [bne_iff_ne]; omega
  have f3 : ((b : Int) == bits BinOp.xor IntKind.u32 (if IntKind.u32.signed = true then -1 else IntKind.u32.max) 0) = true := by rw [all_u32, beq_iff_eq]; omega
  have HV : Hid (numN 32 16 a b lz tz = (a % b, 0)) := by show divN 32 16 a b = _; rw [divN, if_neg hb0]; rw [if_neg (by omega), if_pos rfl]
  have hbp : 0 < b := by omega
  clear hl hl2 hb0
  go_enter Tryd.func117, Tryd.ntmps117
  go_wp2
  go_ret2
  refine ⟨?_, by trivial⟩
  rw [HV.out]
  refine rets2 (congrArg (Value.int .u64) ?_) rfl
  show _ = ((a % b : Nat) : Int); have := Nat.mod_le a b; have e3 : (a : Int) % b = ((a % b : Nat) : Int) := by simp
  first | exact e3 | ((try rw [IntKind.wrap_u64]); rw [e3]; clear e3; generalize a % b = q at *; omega)
set_option maxRecDepth 100000 in
set_option maxHeartbeats 1600000 in
theorem num64_13_d (w : World) (a b lz tz : Nat) (ha : a < 18446744073709551616) (hb : b < 18446744073709551616) (hl : a = 9223372036854775808) (hl2 : b = 18446744073709551615) :
    Calls Tryd.prog 116 #[.int .i64 13, .int .u64 a, .int .u64 b, .int .u64 64] w fun e w' => e = .returned (.tuple #[.int .u64 ((numN 64 13 a b lz tz).1 : Int), .int .i8 (numN 64 13 a b lz tz).2]) ∧ w' = w := by
  have HA := Lib.hid (wrap64_n a ha); have HB := Lib.hid (wrap64_n b hb)
  have hb0 : ¬ b = 0 := by omega
  have f0 : ((b : Int) == 0) = false := by rw [beq_eq_false_iff_ne]; omega
  have f1 : (IntKind.u64.wrap ((a : Int) * 2) == 0) = true := by rw [beq_iff_eq]; rw [IntKind.wrap_u64]; omega
  have f2 : ((a : Int) != 0) = true := by rw [bne_iff_ne]; omega
  have f3 : ((b : Int) == bits BinOp.xor IntKind.u64 (if IntKind.u64.signed = true then -1 else IntKind.u64.max) 0) = true := by rw [all_u64, beq_iff_eq]; omega
  have HV : Hid (numN 64 13 a b lz tz = (0, 4)) := by show divN 64 13 a b = _; rw [divN, if_neg hb0]; rw [if_neg (by omega), if_neg (by omega), if_pos (by omega), if_neg (by omega)]
  have hbp : 0 < b := by omega
  clear hl hl2 hb0
  go_enter Tryd.func116, Tryd.ntmps116
  go_wp2
  go_ret2
  refine ⟨?_, by trivial⟩
  rw [HV.out]
  refine rets2 (congrArg (Value.int .u64) ?_) rfl
  rfl
set_option maxRecDepth 100000 in
set_option maxHeartbeats 1600000 in
theorem num64_14_d (w : World) (a b lz tz : Nat) (ha : a < 18446744073709551616) (hb : b < 18446744073709551616) (hl : a = 9223372036854775808) (hl2 : b = 18446744073709551615) :
    Calls Tryd.prog 116 #[.int .i64 14, .int .u64 a, .int .u64 b, .int .u64 64] w fun e w' => e = .returned (.tuple #[.int .u64 ((numN 64 14 a b lz tz).1 : Int), .int .i8 (numN 64 14 a b lz tz).2]) ∧ w' = w := by
  have HA := Lib.hid (wrap64_n a ha); have HB := Lib.hid (wrap64_n b hb)
  have hb0 : ¬ b = 0 := by omega
  have f0 : ((b : Int) == 0) = false := by rw [beq_eq_false_iff_ne]; omega
  have f1 : (IntKind.u64.wrap ((a : Int) * 2) == 0) = true := by rw [beq_iff_eq]; rw [IntKind.wrap_u64]; omega
  have f2 : ((a : Int) != 0) = true := by rw [bne_iff_ne]; omega
  have f3 : ((b : Int) == bits BinOp.xor IntKind.u64 (if IntKind.u64.signed = true then -1 else IntKind.u64.max) 0) = true := by rw [all_u64, beq_iff_eq]; omega
  have HV : Hid (numN 64 14 a b lz tz = (a / b, 0)) := by show divN 64 14 a b = _; rw [divN, if_neg hb0]; rw [if_pos rfl]
  have hbp : 0 < b := by omega
  clear hl hl2 hb0
  go_enter Tryd.func116, Tryd.ntmps116
  go_wp2
  go_ret2
  refine ⟨?_, by trivial⟩
  rw [HV.out]
  refine rets2 (congrArg (Value.int .u64) ?_) rfl
  show _ = ((a / b : Nat) : Int); have := Nat.div_le_self a b; have e3 : (a : Int) / b = ((a / b : Nat) : Int) := by simp
  first | exact e3 | ((try rw [IntKind.wrap_u64]); rw [e3]; clear e3; generalize a / b = q at *; omega)
set_option maxRecDepth 100000 in
set_option maxHeartbeats 1600000 in
theorem num64_15_d (w : World) (a b lz tz : Nat) (ha : a < 18446744073709551616) (hb : b < 18446744073709551616) (hl : a = 9223372036854775808) (hl2 : b = 18446744073709551615) :
    Calls Tryd.prog 116 #[.int .i64 15, .int .u64 a, .int .u64 b, .int .u64 64] w fun e w' => e = .returned (.tuple #[.int .u64 ((numN 64 15 a b lz tz).1 : Int), .int .i8 (numN 64 15 a b lz tz).2]) ∧ w' = w := by
  have HA := Lib.hid (wrap64_n a ha); have HB := Lib.hid (wrap64_n b hb)
  have hb0 : ¬ b = 0 := by omega
  have f0 : ((b : Int) == 0) = false := by rw [beq_eq_false_iff_ne]; omega
  have f1 : (IntKind.u64.wrap ((a : Int) * 2) == 0) = true := by rw [beq_iff_eq]; rw [IntKind.wrap_u64]; omega
  have f2 : ((a : Int) != 0) = true := by rw [bne_iff_ne]; omega
  have f3 : ((b : Int) == bits BinOp.xor IntKind.u64 (if IntKind.u64.signed = true then -1 else IntKind.u64.max) 0) = true := by rw [all_u64, beq_iff_eq]; omega
  have HV : Hid (numN 64 15 a b lz tz = (0, 0)) := by show divN 64 15 a b = _; rw [divN, if_neg hb0]; rw [if_neg (by omega), if_neg (by omega), if_pos (by omega), if_pos rfl]
  have hbp : 0 < b := by omega
  clear hl hl2 hb0
  go_enter Tryd.func116, Tryd.ntmps116
  go_wp2
  go_ret2
  refine ⟨?_, by trivial⟩
  rw [HV.out]
  refine rets2 (congrArg (Value.int .u64) ?_) rfl
  rfl
set_option maxRecDepth 100000 in
set_option maxHeartbeats 1600000 in
theorem num64_16_d (w : World) (a b lz tz : Nat) (ha : a < 18446744073709551616) (hb : b < 18446744073709551616) (hl : a = 9223372036854775808) (hl2 : b = 18446744073709551615) :
    Calls Tryd.prog 116 #[.int .i64 16, .int .u64 a, .int .u64 b, .int .u64 64] w fun e w' => e = .returned (.tuple #[.int .u64 ((numN 64 16 a b lz tz).1 : Int), .int .i8 (numN 64 16 a b lz tz).2]) ∧ w' = w := by
  have HA := Lib.hid (wrap64_n a ha); have HB := Lib.hid (wrap64_n b hb)
  have hb0 : ¬ b = 0 := by omega
  have f0 : ((b : Int) == 0) = false := by rw [beq_eq_false_iff_ne]; omega
  have f1 : (IntKind.u64.wrap ((a : Int) * 2) == 0) = true := by rw [beq_iff_eq]; rw [IntKind.wrap_u64]; omega
  have f2 : ((a : Int) != 0) = true := by rw [bne_iff_ne]; omega
  have f3 : ((b : Int) == bits BinOp.xor IntKind.u64 (if IntKind.u64.signed = true then -1 else IntKind.u64.max) 0) = true := by rw [all_u64, beq_iff_eq]; omega
  have HV : Hid (numN 64 16 a b lz tz = (a % b, 0)) := by show divN 64 16 a b = _; rw [divN, if_neg hb0]; rw [if_neg (by omega), if_pos rfl]
  have hbp : 0 < b := by omega
  clear hl hl2 hb0
  go_enter Tryd.func116, Tryd.ntmps116
  go_wp2
  go_ret2
  refine ⟨?_, by trivial⟩
  rw [HV.out]
  refine rets2 (congrArg (Value.int .u64) ?_) rfl
  show _ = ((a % b : Nat) : Int); have := Nat.mod_le a b; have e3 : (a : Int) % b = ((a % b : Nat) : Int) := by simp
  first | exact e3 | ((try rw [IntKind.wrap_u64]); rw [e3]; clear e3; generalize a % b = q at *; omega)
end Go.Proofs.YtmlniifdipeboaaDoor
