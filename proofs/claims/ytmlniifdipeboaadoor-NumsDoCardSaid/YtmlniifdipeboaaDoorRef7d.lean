/- flagonref07.number, all places but the quotients. -/
import Derived.Test.YtmlniifdipeboaaDoorRef7c
namespace Go.Proofs.YtmlniifdipeboaaDoor
open Go Go.RowKit

theorem dvd64 {n : Nat} (hn : n ≤ 64) : 2 ^ n ∣ 18446744073709551616 := ⟨2 ^ (64 - n), by rw [← Nat.pow_add, show n + (64 - n) = 64 by omega]⟩
theorem sub_n {n a b : Nat} (hn : n ≤ 64) (hb : b < 2 ^ n) : (a + (18446744073709551616 - b)) % 18446744073709551616 % 2 ^ n = (a + (2 ^ n - b)) % 2 ^ n := by
  obtain ⟨k, hk⟩ := dvd64 hn
  have hp := Nat.two_pow_pos n
  rw [Nat.mod_mod_of_dvd _ ⟨k, hk⟩, hk]
  have hk1 : 1 ≤ k := by rcases Nat.eq_zero_or_pos k with rfl | h; simp at hk; exact h
  have e : a + (2 ^ n * k - b) = (a + (2 ^ n - b)) + 2 ^ n * (k - 1) := by
    have : 2 ^ n * k = 2 ^ n * (k - 1) + 2 ^ n := by rw [← Nat.mul_succ]; congr 1; omega
    omega
  rw [e, Nat.add_mul_mod_self_left]
theorem lt64 {n a : Nat} (hn : n ≤ 64) (ha : a < 2 ^ n) : a < 18446744073709551616 := Nat.lt_of_lt_of_le ha (Nat.pow_le_pow_right (by omega) hn)
theorem ret_u {a b : Nat} {k : Int} (h : a = b) : Ending.returned (.tuple #[.int .u64 a, .int .i8 k]) = .returned (.tuple #[.int .u64 b, .int .i8 k]) := by rw [h]
theorem tr_dec {p q : Prop} [Decidable p] [Decidable q] (h : p ↔ q) : tr (decide p) = tr (decide q) := by rw [show decide p = decide q from by rw [decide_eq_decide]; exact h]

set_option maxRecDepth 100000 in
set_option maxHeartbeats 1600000 in
theorem refn_0 (w : World) (a b n : Nat) (hn : 2 ≤ n ∧ n ≤ 64) (ha : a < 2 ^ n) (hb : b < 2 ^ n) :
    Calls Tryd.prog 121 #[.string ⟨#[101, 113, 122]⟩, .int .u64 a, .int .u64 b, .int .i64 n] w fun e w' => e = .returned (.tuple #[.int .u64 ((numN n 0 a b (hiN n a n) (loN n a n)).1 : Nat), .int .i8 (numN n 0 a b (hiN n a n) (loN n a n)).2]) ∧ w' = w := by
  have HO := Lib.hid (ref_ones w a n ⟨by omega, hn.2⟩)
  have HA := Lib.hid ha; have HB := Lib.hid hb
  have la := lt64 hn.2 ha; have lb := lt64 hn.2 hb
  go_enter Tryd.func121, Tryd.ntmps121
  go_wp2_with fail
  refine HO.out.mono ?_
  rintro e w1 ⟨rfl, rfl⟩
  go_wp2_with fail
  refine (ref_truth _ _).mono ?_
  rintro e w1 ⟨rfl, rfl⟩
  go_wp2
  go_ret2
  exact ⟨ret_u (by show _ = tr (decide (a = 0)); congr 1; rw [Bool.eq_iff_iff]; simp), rfl⟩
set_option maxRecDepth 100000 in
set_option maxHeartbeats 1600000 in
theorem refn_1 (w : World) (a b n : Nat) (hn : 2 ≤ n ∧ n ≤ 64) (ha : a < 2 ^ n) (hb : b < 2 ^ n) :
    Calls Tryd.prog 121 #[.string ⟨#[101, 113]⟩, .int .u64 a, .int .u64 b, .int .i64 n] w fun e w' => e = .returned (.tuple #[.int .u64 ((numN n 1 a b (hiN n a n) (loN n a n)).1 : Nat), .int .i8 (numN n 1 a b (hiN n a n) (loN n a n)).2]) ∧ w' = w := by
  have HO := Lib.hid (ref_ones w a n ⟨by omega, hn.2⟩)
  have HA := Lib.hid ha; have HB := Lib.hid hb
  have la := lt64 hn.2 ha; have lb := lt64 hn.2 hb
  go_enter Tryd.func121, Tryd.ntmps121
  go_wp2_with fail
  refine HO.out.mono ?_
  rintro e w1 ⟨rfl, rfl⟩
  go_wp2_with fail
  refine (ref_truth _ _).mono ?_
  rintro e w1 ⟨rfl, rfl⟩
  go_wp2
  go_ret2
  exact ⟨ret_u (by show _ = tr (decide (a = b)); congr 1; rw [Bool.eq_iff_iff]; simp; omega), rfl⟩
set_option maxRecDepth 100000 in
set_option maxHeartbeats 1600000 in
theorem refn_2 (w : World) (a b n : Nat) (hn : 2 ≤ n ∧ n ≤ 64) (ha : a < 2 ^ n) (hb : b < 2 ^ n) :
    Calls Tryd.prog 121 #[.string ⟨#[110, 101]⟩, .int .u64 a, .int .u64 b, .int .i64 n] w fun e w' => e = .returned (.tuple #[.int .u64 ((numN n 2 a b (hiN n a n) (loN n a n)).1 : Nat), .int .i8 (numN n 2 a b (hiN n a n) (loN n a n)).2]) ∧ w' = w := by
  have HO := Lib.hid (ref_ones w a n ⟨by omega, hn.2⟩)
  have HA := Lib.hid ha; have HB := Lib.hid hb
  have la := lt64 hn.2 ha; have lb := lt64 hn.2 hb
  go_enter Tryd.func121, Tryd.ntmps121
  go_wp2_with fail
  refine HO.out.mono ?_
  rintro e w1 ⟨rfl, rfl⟩
  go_wp2_with fail
  refine (ref_truth _ _).mono ?_
  rintro e w1 ⟨rfl, rfl⟩
  go_wp2
  go_ret2
  exact ⟨ret_u (by show _ = tr (decide (a ≠ b)); congr 1; rw [Bool.eq_iff_iff]; simp; omega), rfl⟩
set_option maxRecDepth 100000 in
set_option maxHeartbeats 1600000 in
theorem refn_3 (w : World) (a b n : Nat) (hn : 2 ≤ n ∧ n ≤ 64) (ha : a < 2 ^ n) (hb : b < 2 ^ n) :
    Calls Tryd.prog 121 #[.string ⟨#[108, 116, 115]⟩, .int .u64 a, .int .u64 b, .int .i64 n] w fun e w' => e = .returned (.tuple #[.int .u64 ((numN n 3 a b (hiN n a n) (loN n a n)).1 : Nat), .int .i8 (numN n 3 a b (hiN n a n) (loN n a n)).2]) ∧ w' = w := by
  have HO := Lib.hid (ref_ones w a n ⟨by omega, hn.2⟩)
  have HA := Lib.hid ha; have HB := Lib.hid hb
  have la := lt64 hn.2 ha; have lb := lt64 hn.2 hb
  go_enter Tryd.func121, Tryd.ntmps121
  go_wp2_with fail
  refine HO.out.mono ?_
  rintro e w1 ⟨rfl, rfl⟩
  go_wp2_with fail
  refine (ref_below _ a b n ⟨by omega, hn.2⟩ HA.out HB.out).mono ?_
  rintro e w1 ⟨rfl, rfl⟩
  go_wp2_with fail
  refine (ref_truth _ _).mono ?_
  rintro e w1 ⟨rfl, rfl⟩
  go_wp2
  go_ret2
  exact ⟨rfl, rfl⟩
set_option maxRecDepth 100000 in
set_option maxHeartbeats 1600000 in
theorem refn_4 (w : World) (a b n : Nat) (hn : 2 ≤ n ∧ n ≤ 64) (ha : a < 2 ^ n) (hb : b < 2 ^ n) :
    Calls Tryd.prog 121 #[.string ⟨#[108, 116, 117]⟩, .int .u64 a, .int .u64 b, .int .i64 n] w fun e w' => e = .returned (.tuple #[.int .u64 ((numN n 4 a b (hiN n a n) (loN n a n)).1 : Nat), .int .i8 (numN n 4 a b (hiN n a n) (loN n a n)).2]) ∧ w' = w := by
  have HO := Lib.hid (ref_ones w a n ⟨by omega, hn.2⟩)
  have HA := Lib.hid ha; have HB := Lib.hid hb
  have la := lt64 hn.2 ha; have lb := lt64 hn.2 hb
  go_enter Tryd.func121, Tryd.ntmps121
  go_wp2_with fail
  refine HO.out.mono ?_
  rintro e w1 ⟨rfl, rfl⟩
  go_wp2_with fail
  refine (ref_truth _ _).mono ?_
  rintro e w1 ⟨rfl, rfl⟩
  go_wp2
  go_ret2
  exact ⟨ret_u (by show _ = tr (decide (a < b)); congr 1), rfl⟩
set_option maxRecDepth 100000 in
set_option maxHeartbeats 1600000 in
theorem refn_5 (w : World) (a b n : Nat) (hn : 2 ≤ n ∧ n ≤ 64) (ha : a < 2 ^ n) (hb : b < 2 ^ n) :
    Calls Tryd.prog 121 #[.string ⟨#[108, 101, 115]⟩, .int .u64 a, .int .u64 b, .int .i64 n] w fun e w' => e = .returned (.tuple #[.int .u64 ((numN n 5 a b (hiN n a n) (loN n a n)).1 : Nat), .int .i8 (numN n 5 a b (hiN n a n) (loN n a n)).2]) ∧ w' = w := by
  have HO := Lib.hid (ref_ones w a n ⟨by omega, hn.2⟩)
  have HA := Lib.hid ha; have HB := Lib.hid hb
  have la := lt64 hn.2 ha; have lb := lt64 hn.2 hb
  go_enter Tryd.func121, Tryd.ntmps121
  go_wp2_with fail
  refine HO.out.mono ?_
  rintro e w1 ⟨rfl, rfl⟩
  go_wp2_with fail
  refine (ref_below _ b a n ⟨by omega, hn.2⟩ HB.out HA.out).mono ?_
  rintro e w1 ⟨rfl, rfl⟩
  go_wp2_with fail
  refine (ref_truth _ _).mono ?_
  rintro e w1 ⟨rfl, rfl⟩
  go_wp2
  go_ret2
  exact ⟨ret_u (by show _ = tr (decide (sg n a ≤ sg n b)); congr 1; rw [Bool.eq_iff_iff]; simp), rfl⟩
set_option maxRecDepth 100000 in
set_option maxHeartbeats 1600000 in
theorem refn_6 (w : World) (a b n : Nat) (hn : 2 ≤ n ∧ n ≤ 64) (ha : a < 2 ^ n) (hb : b < 2 ^ n) :
    Calls Tryd.prog 121 #[.string ⟨#[108, 101, 117]⟩, .int .u64 a, .int .u64 b, .int .i64 n] w fun e w' => e = .returned (.tuple #[.int .u64 ((numN n 6 a b (hiN n a n) (loN n a n)).1 : Nat), .int .i8 (numN n 6 a b (hiN n a n) (loN n a n)).2]) ∧ w' = w := by
  have HO := Lib.hid (ref_ones w a n ⟨by omega, hn.2⟩)
  have HA := Lib.hid ha; have HB := Lib.hid hb
  have la := lt64 hn.2 ha; have lb := lt64 hn.2 hb
  go_enter Tryd.func121, Tryd.ntmps121
  go_wp2_with fail
  refine HO.out.mono ?_
  rintro e w1 ⟨rfl, rfl⟩
  go_wp2_with fail
  refine (ref_truth _ _).mono ?_
  rintro e w1 ⟨rfl, rfl⟩
  go_wp2
  go_ret2
  exact ⟨ret_u (by show _ = tr (decide (a ≤ b)); congr 1), rfl⟩
set_option maxRecDepth 100000 in
set_option maxHeartbeats 1600000 in
theorem refn_7 (w : World) (a b n : Nat) (hn : 2 ≤ n ∧ n ≤ 64) (ha : a < 2 ^ n) (hb : b < 2 ^ n) :
    Calls Tryd.prog 121 #[.string ⟨#[99, 108, 122]⟩, .int .u64 a, .int .u64 b, .int .i64 n] w fun e w' => e = .returned (.tuple #[.int .u64 ((numN n 7 a b (hiN n a n) (loN n a n)).1 : Nat), .int .i8 (numN n 7 a b (hiN n a n) (loN n a n)).2]) ∧ w' = w := by
  have HO := Lib.hid (ref_ones w a n ⟨by omega, hn.2⟩)
  have HA := Lib.hid ha; have HB := Lib.hid hb
  have la := lt64 hn.2 ha; have lb := lt64 hn.2 hb
  go_enter Tryd.func121, Tryd.ntmps121
  go_wp2_with fail
  refine HO.out.mono ?_
  rintro e w1 ⟨rfl, rfl⟩
  go_wp2
  go_ret2
  exact ⟨rfl, rfl⟩
set_option maxRecDepth 100000 in
set_option maxHeartbeats 1600000 in
theorem refn_8 (w : World) (a b n : Nat) (hn : 2 ≤ n ∧ n ≤ 64) (ha : a < 2 ^ n) (hb : b < 2 ^ n) :
    Calls Tryd.prog 121 #[.string ⟨#[99, 116, 122]⟩, .int .u64 a, .int .u64 b, .int .i64 n] w fun e w' => e = .returned (.tuple #[.int .u64 ((numN n 8 a b (hiN n a n) (loN n a n)).1 : Nat), .int .i8 (numN n 8 a b (hiN n a n) (loN n a n)).2]) ∧ w' = w := by
  have HO := Lib.hid (ref_ones w a n ⟨by omega, hn.2⟩)
  have HA := Lib.hid ha; have HB := Lib.hid hb
  have la := lt64 hn.2 ha; have lb := lt64 hn.2 hb
  go_enter Tryd.func121, Tryd.ntmps121
  go_wp2_with fail
  refine HO.out.mono ?_
  rintro e w1 ⟨rfl, rfl⟩
  go_wp2
  go_ret2
  exact ⟨rfl, rfl⟩
set_option maxRecDepth 100000 in
set_option maxHeartbeats 1600000 in
theorem refn_9 (w : World) (a b n : Nat) (hn : 2 ≤ n ∧ n ≤ 64) (ha : a < 2 ^ n) (hb : b < 2 ^ n) :
    Calls Tryd.prog 121 #[.string ⟨#[112, 111, 112]⟩, .int .u64 a, .int .u64 b, .int .i64 n] w fun e w' => e = .returned (.tuple #[.int .u64 ((numN n 9 a b (hiN n a n) (loN n a n)).1 : Nat), .int .i8 (numN n 9 a b (hiN n a n) (loN n a n)).2]) ∧ w' = w := by
  have HO := Lib.hid (ref_ones w a n ⟨by omega, hn.2⟩)
  have HA := Lib.hid ha; have HB := Lib.hid hb
  have la := lt64 hn.2 ha; have lb := lt64 hn.2 hb
  go_enter Tryd.func121, Tryd.ntmps121
  go_wp2_with fail
  refine HO.out.mono ?_
  rintro e w1 ⟨rfl, rfl⟩
  go_wp2
  go_ret2
  exact ⟨rfl, rfl⟩
set_option maxRecDepth 100000 in
set_option maxHeartbeats 1600000 in
theorem refn_10 (w : World) (a b n : Nat) (hn : 2 ≤ n ∧ n ≤ 64) (ha : a < 2 ^ n) (hb : b < 2 ^ n) :
    Calls Tryd.prog 121 #[.string ⟨#[97, 100, 100]⟩, .int .u64 a, .int .u64 b, .int .i64 n] w fun e w' => e = .returned (.tuple #[.int .u64 ((numN n 10 a b (hiN n a n) (loN n a n)).1 : Nat), .int .i8 (numN n 10 a b (hiN n a n) (loN n a n)).2]) ∧ w' = w := by
  have HO := Lib.hid (ref_ones w a n ⟨by omega, hn.2⟩)
  have HA := Lib.hid ha; have HB := Lib.hid hb
  have la := lt64 hn.2 ha; have lb := lt64 hn.2 hb
  obtain ⟨z, hz⟩ : ∃ z, z = (a + b) % 18446744073709551616 := ⟨_, rfl⟩
  have hzl : z < 18446744073709551616 := by rw [hz]; exact Nat.mod_lt _ (by decide)
  have e1 : IntKind.u64.wrap ((a : Int) + b) = (z : Int) := by rw [hz, IntKind.wrap_u64]; first | omega | simp
  have HZ : Hid (z % 2 ^ n = (numN n 10 a b (hiN n a n) (loN n a n)).1) := by show _ = _; show _ = (a + b) % 2 ^ n; rw [hz, Nat.mod_mod_of_dvd _ (dvd64 hn.2)]
  clear hz
  go_enter Tryd.func121, Tryd.ntmps121
  go_wp2_with fail
  refine HO.out.mono ?_
  rintro e w1 ⟨rfl, rfl⟩
  go_wp2_with fail
  refine (ref_low _ z n hzl hn.2).mono ?_
  rintro e w1 ⟨rfl, rfl⟩
  rw [HZ.out]
  go_wp2
  go_ret2
  exact ⟨rfl, rfl⟩
set_option maxRecDepth 100000 in
set_option maxHeartbeats 1600000 in
theorem refn_11 (w : World) (a b n : Nat) (hn : 2 ≤ n ∧ n ≤ 64) (ha : a < 2 ^ n) (hb : b < 2 ^ n) :
    Calls Tryd.prog 121 #[.string ⟨#[115, 117, 98]⟩, .int .u64 a, .int .u64 b, .int .i64 n] w fun e w' => e = .returned (.tuple #[.int .u64 ((numN n 11 a b (hiN n a n) (loN n a n)).1 : Nat), .int .i8 (numN n 11 a b (hiN n a n) (loN n a n)).2]) ∧ w' = w := by
  have HO := Lib.hid (ref_ones w a n ⟨by omega, hn.2⟩)
  have HA := Lib.hid ha; have HB := Lib.hid hb
  have la := lt64 hn.2 ha; have lb := lt64 hn.2 hb
  obtain ⟨z, hz⟩ : ∃ z, z = (a + (18446744073709551616 - b)) % 18446744073709551616 := ⟨_, rfl⟩
  have hzl : z < 18446744073709551616 := by rw [hz]; exact Nat.mod_lt _ (by decide)
  have e1 : IntKind.u64.wrap ((a : Int) - b) = (z : Int) := by rw [hz, IntKind.wrap_u64]; first | omega | simp
  have HZ : Hid (z % 2 ^ n = (numN n 11 a b (hiN n a n) (loN n a n)).1) := by show _ = _; rw [hz]; exact sub_n hn.2 hb
  clear hz
  go_enter Tryd.func121, Tryd.ntmps121
  go_wp2_with fail
  refine HO.out.mono ?_
  rintro e w1 ⟨rfl, rfl⟩
  go_wp2_with fail
  refine (ref_low _ z n hzl hn.2).mono ?_
  rintro e w1 ⟨rfl, rfl⟩
  rw [HZ.out]
  go_wp2
  go_ret2
  exact ⟨rfl, rfl⟩
set_option maxRecDepth 100000 in
set_option maxHeartbeats 1600000 in
theorem refn_12 (w : World) (a b n : Nat) (hn : 2 ≤ n ∧ n ≤ 64) (ha : a < 2 ^ n) (hb : b < 2 ^ n) :
    Calls Tryd.prog 121 #[.string ⟨#[109, 117, 108]⟩, .int .u64 a, .int .u64 b, .int .i64 n] w fun e w' => e = .returned (.tuple #[.int .u64 ((numN n 12 a b (hiN n a n) (loN n a n)).1 : Nat), .int .i8 (numN n 12 a b (hiN n a n) (loN n a n)).2]) ∧ w' = w := by
  have HO := Lib.hid (ref_ones w a n ⟨by omega, hn.2⟩)
  have HA := Lib.hid ha; have HB := Lib.hid hb
  have la := lt64 hn.2 ha; have lb := lt64 hn.2 hb
  obtain ⟨z, hz⟩ : ∃ z, z = (a * b) % 18446744073709551616 := ⟨_, rfl⟩
  have hzl : z < 18446744073709551616 := by rw [hz]; exact Nat.mod_lt _ (by decide)
  have e1 : IntKind.u64.wrap ((a : Int) * b) = (z : Int) := by rw [hz, IntKind.wrap_u64]; first | omega | simp
  have HZ : Hid (z % 2 ^ n = (numN n 12 a b (hiN n a n) (loN n a n)).1) := by show _ = _; show _ = a * b % 2 ^ n; rw [hz, Nat.mod_mod_of_dvd _ (dvd64 hn.2)]
  clear hz
  go_enter Tryd.func121, Tryd.ntmps121
  go_wp2_with fail
  refine HO.out.mono ?_
  rintro e w1 ⟨rfl, rfl⟩
  go_wp2_with fail
  refine (ref_low _ z n hzl hn.2).mono ?_
  rintro e w1 ⟨rfl, rfl⟩
  rw [HZ.out]
  go_wp2
  go_ret2
  exact ⟨rfl, rfl⟩
set_option maxRecDepth 100000 in
set_option maxHeartbeats 1600000 in
theorem refn_17 (w : World) (a b n : Nat) (hn : 2 ≤ n ∧ n ≤ 64) (ha : a < 2 ^ n) (hb : b < 2 ^ n) :
    Calls Tryd.prog 121 #[.string ⟨#[97, 110, 100]⟩, .int .u64 a, .int .u64 b, .int .i64 n] w fun e w' => e = .returned (.tuple #[.int .u64 ((numN n 17 a b (hiN n a n) (loN n a n)).1 : Nat), .int .i8 (numN n 17 a b (hiN n a n) (loN n a n)).2]) ∧ w' = w := by
  have HO := Lib.hid (ref_ones w a n ⟨by omega, hn.2⟩)
  have HA := Lib.hid ha; have HB := Lib.hid hb
  have la := lt64 hn.2 ha; have lb := lt64 hn.2 hb
  go_enter Tryd.func121, Tryd.ntmps121
  go_wp2_with fail
  refine HO.out.mono ?_
  rintro e w1 ⟨rfl, rfl⟩
  go_wp2_with fail
  refine (ref_and _ a b n ⟨by omega, hn.2⟩).mono ?_
  rintro e w1 ⟨rfl, rfl⟩
  rw [bits_and HA.out HB.out]
  go_wp2
  go_ret2
  exact ⟨rfl, rfl⟩
set_option maxRecDepth 100000 in
set_option maxHeartbeats 1600000 in
theorem refn_18 (w : World) (a b n : Nat) (hn : 2 ≤ n ∧ n ≤ 64) (ha : a < 2 ^ n) (hb : b < 2 ^ n) :
    Calls Tryd.prog 121 #[.string ⟨#[111, 114]⟩, .int .u64 a, .int .u64 b, .int .i64 n] w fun e w' => e = .returned (.tuple #[.int .u64 ((numN n 18 a b (hiN n a n) (loN n a n)).1 : Nat), .int .i8 (numN n 18 a b (hiN n a n) (loN n a n)).2]) ∧ w' = w := by
  have HO := Lib.hid (ref_ones w a n ⟨by omega, hn.2⟩)
  have HA := Lib.hid ha; have HB := Lib.hid hb
  have la := lt64 hn.2 ha; have lb := lt64 hn.2 hb
  go_enter Tryd.func121, Tryd.ntmps121
  go_wp2_with fail
  refine HO.out.mono ?_
  rintro e w1 ⟨rfl, rfl⟩
  go_wp2_with fail
  refine (ref_or _ a b n ⟨by omega, hn.2⟩).mono ?_
  rintro e w1 ⟨rfl, rfl⟩
  rw [bits_or HA.out HB.out]
  go_wp2
  go_ret2
  exact ⟨rfl, rfl⟩
set_option maxRecDepth 100000 in
set_option maxHeartbeats 1600000 in
theorem refn_19 (w : World) (a b n : Nat) (hn : 2 ≤ n ∧ n ≤ 64) (ha : a < 2 ^ n) (hb : b < 2 ^ n) :
    Calls Tryd.prog 121 #[.string ⟨#[120, 111, 114]⟩, .int .u64 a, .int .u64 b, .int .i64 n] w fun e w' => e = .returned (.tuple #[.int .u64 ((numN n 19 a b (hiN n a n) (loN n a n)).1 : Nat), .int .i8 (numN n 19 a b (hiN n a n) (loN n a n)).2]) ∧ w' = w := by
  have HO := Lib.hid (ref_ones w a n ⟨by omega, hn.2⟩)
  have HA := Lib.hid ha; have HB := Lib.hid hb
  have la := lt64 hn.2 ha; have lb := lt64 hn.2 hb
  go_enter Tryd.func121, Tryd.ntmps121
  go_wp2_with fail
  refine HO.out.mono ?_
  rintro e w1 ⟨rfl, rfl⟩
  go_wp2_with fail
  refine (ref_xor _ a b n ⟨by omega, hn.2⟩).mono ?_
  rintro e w1 ⟨rfl, rfl⟩
  rw [bits_xor HA.out HB.out]
  go_wp2
  go_ret2
  exact ⟨rfl, rfl⟩
set_option maxRecDepth 100000 in
set_option maxHeartbeats 1600000 in
theorem refn_20 (w : World) (a b n : Nat) (hn : 2 ≤ n ∧ n ≤ 64) (ha : a < 2 ^ n) (hb : b < 2 ^ n) :
    Calls Tryd.prog 121 #[.string ⟨#[115, 104, 108]⟩, .int .u64 a, .int .u64 b, .int .i64 n] w fun e w' => e = .returned (.tuple #[.int .u64 ((numN n 20 a b (hiN n a n) (loN n a n)).1 : Nat), .int .i8 (numN n 20 a b (hiN n a n) (loN n a n)).2]) ∧ w' = w := by
  have HO := Lib.hid (ref_ones w a n ⟨by omega, hn.2⟩)
  have HA := Lib.hid ha; have HB := Lib.hid hb
  have la := lt64 hn.2 ha; have lb := lt64 hn.2 hb
  obtain ⟨j, hj⟩ : ∃ j, b % n = j := ⟨_, rfl⟩
  have hm : j < n := by rw [← hj]; exact Nat.mod_lt _ (by omega)
  have e1 : IntKind.u64.wrap (n : Int) = (n : Int) := IntWalk.u64_in _ ⟨by omega, by omega⟩
  have e2 : (b : Int) % n = (j : Int) := by rw [← hj]; exact (Int.natCast_emod _ _).symm
  have e3 : (b : Int).tmod n = (j : Int) := by rw [Int.tmod_eq_emod_of_nonneg (Int.natCast_nonneg _)]; exact e2
  have e4 : IntKind.i64.wrap (j : Int) = (j : Int) := IntWalk.i64_in _ ⟨by omega, by omega⟩
  have e5 : ((n : Int) == 0) = false := by rw [beq_eq_false_iff_ne]; omega
  have HJ := Lib.hid hj
  clear hj
  obtain ⟨sv, hsv⟩ : ∃ s, a * 2 ^ j % 2 ^ n = s := ⟨_, rfl⟩
  have HSv := Lib.hid hsv
  clear hsv
  go_enter Tryd.func121, Tryd.ntmps121
  go_wp2_with fail
  refine HO.out.mono ?_
  rintro e w1 ⟨rfl, rfl⟩
  go_wp2_with fail
  refine (ref_shl _ a j n ⟨by omega, hn.2⟩ hm).mono ?_
  rintro e w1 ⟨rfl, rfl⟩
  rw [bits_shl hm, HSv.out]
  go_wp2
  go_ret2
  exact ⟨ret_u (by show _ = a * 2 ^ (b % n) % 2 ^ n; rw [HJ.out, HSv.out]), rfl⟩
set_option maxRecDepth 100000 in
set_option maxHeartbeats 1600000 in
theorem refn_21 (w : World) (a b n : Nat) (hn : 2 ≤ n ∧ n ≤ 64) (ha : a < 2 ^ n) (hb : b < 2 ^ n) :
    Calls Tryd.prog 121 #[.string ⟨#[115, 104, 114, 115]⟩, .int .u64 a, .int .u64 b, .int .i64 n] w fun e w' => e = .returned (.tuple #[.int .u64 ((numN n 21 a b (hiN n a n) (loN n a n)).1 : Nat), .int .i8 (numN n 21 a b (hiN n a n) (loN n a n)).2]) ∧ w' = w := by
  have HO := Lib.hid (ref_ones w a n ⟨by omega, hn.2⟩)
  have HA := Lib.hid ha; have HB := Lib.hid hb
  have la := lt64 hn.2 ha; have lb := lt64 hn.2 hb
  obtain ⟨j, hj⟩ : ∃ j, b % n = j := ⟨_, rfl⟩
  have hm : j < n := by rw [← hj]; exact Nat.mod_lt _ (by omega)
  have e1 : IntKind.u64.wrap (n : Int) = (n : Int) := IntWalk.u64_in _ ⟨by omega, by omega⟩
  have e2 : (b : Int) % n = (j : Int) := by rw [← hj]; exact (Int.natCast_emod _ _).symm
  have e3 : (b : Int).tmod n = (j : Int) := by rw [Int.tmod_eq_emod_of_nonneg (Int.natCast_nonneg _)]; exact e2
  have e4 : IntKind.i64.wrap (j : Int) = (j : Int) := IntWalk.i64_in _ ⟨by omega, by omega⟩
  have e5 : ((n : Int) == 0) = false := by rw [beq_eq_false_iff_ne]; omega
  have HJ := Lib.hid hj
  clear hj
  go_enter Tryd.func121, Tryd.ntmps121
  go_wp2_with fail
  refine HO.out.mono ?_
  rintro e w1 ⟨rfl, rfl⟩
  go_wp2_with fail
  refine (ref_shrs _ a j n ⟨by omega, hn.2⟩ hm).mono ?_
  rintro e w1 ⟨rfl, rfl⟩
  rw [bits_shrs hm HA.out]
  go_wp2
  go_ret2
  exact ⟨ret_u (by show _ = un n (sg n a / 2 ^ (b % n)); rw [HJ.out]), rfl⟩
set_option maxRecDepth 100000 in
set_option maxHeartbeats 1600000 in
theorem refn_22 (w : World) (a b n : Nat) (hn : 2 ≤ n ∧ n ≤ 64) (ha : a < 2 ^ n) (hb : b < 2 ^ n) :
    Calls Tryd.prog 121 #[.string ⟨#[115, 104, 114, 117]⟩, .int .u64 a, .int .u64 b, .int .i64 n] w fun e w' => e = .returned (.tuple #[.int .u64 ((numN n 22 a b (hiN n a n) (loN n a n)).1 : Nat), .int .i8 (numN n 22 a b (hiN n a n) (loN n a n)).2]) ∧ w' = w := by
  have HO := Lib.hid (ref_ones w a n ⟨by omega, hn.2⟩)
  have HA := Lib.hid ha; have HB := Lib.hid hb
  have la := lt64 hn.2 ha; have lb := lt64 hn.2 hb
  obtain ⟨j, hj⟩ : ∃ j, b % n = j := ⟨_, rfl⟩
  have hm : j < n := by rw [← hj]; exact Nat.mod_lt _ (by omega)
  have e1 : IntKind.u64.wrap (n : Int) = (n : Int) := IntWalk.u64_in _ ⟨by omega, by omega⟩
  have e2 : (b : Int) % n = (j : Int) := by rw [← hj]; exact (Int.natCast_emod _ _).symm
  have e3 : (b : Int).tmod n = (j : Int) := by rw [Int.tmod_eq_emod_of_nonneg (Int.natCast_nonneg _)]; exact e2
  have e4 : IntKind.i64.wrap (j : Int) = (j : Int) := IntWalk.i64_in _ ⟨by omega, by omega⟩
  have e5 : ((n : Int) == 0) = false := by rw [beq_eq_false_iff_ne]; omega
  have HJ := Lib.hid hj
  clear hj
  go_enter Tryd.func121, Tryd.ntmps121
  go_wp2_with fail
  refine HO.out.mono ?_
  rintro e w1 ⟨rfl, rfl⟩
  go_wp2_with fail
  refine (ref_shru _ a j n ⟨by omega, hn.2⟩ hm).mono ?_
  rintro e w1 ⟨rfl, rfl⟩
  rw [bits_shru HA.out]
  go_wp2
  go_ret2
  exact ⟨ret_u (by show _ = a / 2 ^ (b % n); rw [HJ.out]), rfl⟩
set_option maxRecDepth 100000 in
set_option maxHeartbeats 1600000 in
theorem refn_23 (w : World) (a b n : Nat) (hn : 2 ≤ n ∧ n ≤ 64) (ha : a < 2 ^ n) (hb : b < 2 ^ n) :
    Calls Tryd.prog 121 #[.string ⟨#[114, 111, 116, 108]⟩, .int .u64 a, .int .u64 b, .int .i64 n] w fun e w' => e = .returned (.tuple #[.int .u64 ((numN n 23 a b (hiN n a n) (loN n a n)).1 : Nat), .int .i8 (numN n 23 a b (hiN n a n) (loN n a n)).2]) ∧ w' = w := by
  have HO := Lib.hid (ref_ones w a n ⟨by omega, hn.2⟩)
  have HA := Lib.hid ha; have HB := Lib.hid hb
  have la := lt64 hn.2 ha; have lb := lt64 hn.2 hb
  obtain ⟨j, hj⟩ : ∃ j, b % n = j := ⟨_, rfl⟩
  have hm : j < n := by rw [← hj]; exact Nat.mod_lt _ (by omega)
  have e1 : IntKind.u64.wrap (n : Int) = (n : Int) := IntWalk.u64_in _ ⟨by omega, by omega⟩
  have e2 : (b : Int) % n = (j : Int) := by rw [← hj]; exact (Int.natCast_emod _ _).symm
  have e3 : (b : Int).tmod n = (j : Int) := by rw [Int.tmod_eq_emod_of_nonneg (Int.natCast_nonneg _)]; exact e2
  have e4 : IntKind.i64.wrap (j : Int) = (j : Int) := IntWalk.i64_in _ ⟨by omega, by omega⟩
  have e5 : ((n : Int) == 0) = false := by rw [beq_eq_false_iff_ne]; omega
  have HJ := Lib.hid hj
  clear hj
  go_enter Tryd.func121, Tryd.ntmps121
  go_wp2_with fail
  refine HO.out.mono ?_
  rintro e w1 ⟨rfl, rfl⟩
  go_wp2_with fail
  refine (ref_rotl _ a j n ⟨by omega, hn.2⟩ hm).mono ?_
  rintro e w1 ⟨rfl, rfl⟩
  rw [bits_rotl hm HA.out]
  go_wp2
  go_ret2
  exact ⟨ret_u (by show _ = rotlN n a (b % n); rw [HJ.out]), rfl⟩
set_option maxRecDepth 100000 in
set_option maxHeartbeats 1600000 in
theorem refn_24 (w : World) (a b n : Nat) (hn : 2 ≤ n ∧ n ≤ 64) (ha : a < 2 ^ n) (hb : b < 2 ^ n) :
    Calls Tryd.prog 121 #[.string ⟨#[114, 111, 116, 114]⟩, .int .u64 a, .int .u64 b, .int .i64 n] w fun e w' => e = .returned (.tuple #[.int .u64 ((numN n 24 a b (hiN n a n) (loN n a n)).1 : Nat), .int .i8 (numN n 24 a b (hiN n a n) (loN n a n)).2]) ∧ w' = w := by
  have HO := Lib.hid (ref_ones w a n ⟨by omega, hn.2⟩)
  have HA := Lib.hid ha; have HB := Lib.hid hb
  have la := lt64 hn.2 ha; have lb := lt64 hn.2 hb
  obtain ⟨j, hj⟩ : ∃ j, b % n = j := ⟨_, rfl⟩
  have hm : j < n := by rw [← hj]; exact Nat.mod_lt _ (by omega)
  have e1 : IntKind.u64.wrap (n : Int) = (n : Int) := IntWalk.u64_in _ ⟨by omega, by omega⟩
  have e2 : (b : Int) % n = (j : Int) := by rw [← hj]; exact (Int.natCast_emod _ _).symm
  have e3 : (b : Int).tmod n = (j : Int) := by rw [Int.tmod_eq_emod_of_nonneg (Int.natCast_nonneg _)]; exact e2
  have e4 : IntKind.i64.wrap (j : Int) = (j : Int) := IntWalk.i64_in _ ⟨by omega, by omega⟩
  have e5 : ((n : Int) == 0) = false := by rw [beq_eq_false_iff_ne]; omega
  have HJ := Lib.hid hj
  clear hj
  go_enter Tryd.func121, Tryd.ntmps121
  go_wp2_with fail
  refine HO.out.mono ?_
  rintro e w1 ⟨rfl, rfl⟩
  go_wp2_with fail
  refine (ref_rotr _ a j n ⟨by omega, hn.2⟩ hm).mono ?_
  rintro e w1 ⟨rfl, rfl⟩
  rw [bits_rotr hm HA.out]
  go_wp2
  go_ret2
  exact ⟨ret_u (by show _ = rotlN n a ((n - b % n) % n); rw [HJ.out]), rfl⟩
end Go.Proofs.YtmlniifdipeboaaDoor
