/- flagonref07's small functions: bit, low, negative, minus, size, below, signed, truth. -/
import Derived.Test.YtmlniifdipeboaaDoorVal
import Derived.Test.YtmlniifdipeboaaDoorAgree
namespace Go.Proofs.YtmlniifdipeboaaDoor
open Go Go.RowKit

/-- Bit i of a number. -/
def bitN (v i : Nat) : Nat := v / 2 ^ i % 2
theorem bitN_le (v i : Nat) : bitN v i ≤ 1 := by unfold bitN; omega
theorem shl1 {n : Nat} (hn : n < 64) : IntKind.u64.wrap (1 * 2 ^ n) = ((2 ^ n : Nat) : Int) ∧ IntKind.u64.wrap (2 ^ n) = ((2 ^ n : Nat) : Int) := by
  have h : 2 ^ n < 2 ^ 64 := Nat.pow_lt_pow_right (by omega) hn
  have e : IntKind.u64.wrap (((2 ^ n : Nat) : Int)) = ((2 ^ n : Nat) : Int) := w64_nat h
  constructor
  · rw [Int.one_mul]; simpa using e
  · simpa using e

set_option maxRecDepth 100000 in
theorem ref_bit (w : World) (v i : Nat) (hi : i < 64) :
    Calls Tryd.prog 171 #[.int .u64 v, .int .i64 i] w fun e w' => e = .returned (.int .u64 (bitN v i)) ∧ w' = w := by
  have e1 : ((v : Int) / 2 ^ i).tmod 2 = (bitN v i : Int) := by
    have e0 : (v : Int) / 2 ^ i = ((v / 2 ^ i : Nat) : Int) := by simp
    rw [e0, Int.tmod_eq_emod_of_nonneg (Int.natCast_nonneg _)]; unfold bitN; simp
  have hi0 : (0 : Int) ≤ i := by omega
  generalize bitN v i = r at *
  go_enter Tryd.func171, Tryd.ntmps171
  go_wp2
  all_goals go_ret
  all_goals exact ⟨rfl, rfl⟩
set_option maxRecDepth 100000 in
theorem ref_low (w : World) (v n : Nat) (hv : v < 18446744073709551616) (hn : n ≤ 64) :
    Calls Tryd.prog 119 #[.int .u64 v, .int .i64 n] w fun e w' => e = .returned (.int .u64 (v % 2 ^ n : Nat)) ∧ w' = w := by
  by_cases h : n = 64
  · subst h
    have e1 : v % 2 ^ 64 = v := Nat.mod_eq_of_lt hv
    rw [e1]
    go_enter Tryd.func119, Tryd.ntmps119
    go_wp2
    go_ret
    exact ⟨rfl, rfl⟩
  · have hb : ((n : Int) == 64) = false := by rw [beq_eq_false_iff_ne]; omega
    obtain ⟨e2, e3⟩ := shl1 (n := n) (by omega)
    have hp := Nat.two_pow_pos n
    have e4 : (v : Int) % ((2 ^ n : Nat) : Int) = ((v % 2 ^ n : Nat) : Int) := by simp
    have e5 : (((2 ^ n : Nat) : Int) == 0) = false := by rw [beq_eq_false_iff_ne]; omega
    have hn0 : (0 : Int) ≤ n := by omega
    have HE := Lib.hid e3
    generalize v % 2 ^ n = r at *
    generalize 2 ^ n = q at *
    go_enter Tryd.func119, Tryd.ntmps119
    go_wp2
    go_ret
    exact ⟨ret_int e4, rfl⟩
set_option maxRecDepth 100000 in
theorem ref_negative (w : World) (v n : Nat) (hn : 1 ≤ n ∧ n ≤ 64) :
    Calls Tryd.prog 154 #[.int .u64 v, .int .i64 n] w fun e w' => e = .returned (.bool (decide (bitN v (n - 1) = 1))) ∧ w' = w := by
  have e1 : IntKind.i64.wrap ((n : Int) - 1) = ((n - 1 : Nat) : Int) := by rw [IntWalk.i64_in _ ⟨by omega, by omega⟩]; omega
  have H := Lib.hid (ref_bit w v (n - 1) (by omega))
  have hr := bitN_le v (n - 1)
  obtain ⟨r, hr0⟩ : ∃ r, bitN v (n - 1) = r := ⟨_, rfl⟩
  rw [hr0] at hr H ⊢
  clear hr0
  go_enter Tryd.func154, Tryd.ntmps154
  go_wp2_with fail
  refine H.out.mono ?_
  rintro e w1 ⟨rfl, rfl⟩
  rcases (show r = 0 ∨ r = 1 by omega) with rfl | rfl
  all_goals go_wp2
  all_goals go_ret
  all_goals exact ⟨rfl, rfl⟩
/-- The top bit of a number of n bits. -/
theorem neg_sg {n v : Nat} (hn : 1 ≤ n) (hv : v < 2 ^ n) : (bitN v (n - 1) = 1) ↔ sg n v < 0 := by
  have e := two_half (n := n) (by omega)
  have h2 : ((2 ^ n : Nat) : Int) = 2 ^ n := by simp
  have hp := Nat.two_pow_pos (n - 1)
  unfold bitN sg
  by_cases h : v < 2 ^ (n - 1)
  · rw [Nat.div_eq_of_lt h, if_pos h]; omega
  · have : v / 2 ^ (n - 1) = 1 := Nat.div_eq_of_lt_le (by omega) (by omega)
    rw [this, if_neg h]; omega
set_option maxRecDepth 100000 in
theorem ref_minus (w : World) (v n : Nat) (hv : v < 18446744073709551616) (hn : n ≤ 64) :
    Calls Tryd.prog 161 #[.int .u64 v, .int .i64 n] w fun e w' => e = .returned (.int .u64 ((18446744073709551616 - v) % 18446744073709551616 % 2 ^ n : Nat)) ∧ w' = w := by
  have e1 : IntKind.u64.wrap (-(v : Int)) = (((18446744073709551616 - v) % 18446744073709551616 : Nat) : Int) := by rw [IntKind.wrap_u64]; omega
  have H := Lib.hid (ref_low w ((18446744073709551616 - v) % 18446744073709551616) n (Nat.mod_lt _ (by decide)) hn)
  generalize (18446744073709551616 - v) % 18446744073709551616 = u at *
  go_enter Tryd.func161, Tryd.ntmps161
  go_wp2_with fail
  refine H.out.mono ?_
  rintro e w1 ⟨rfl, rfl⟩
  go_wp2
  go_ret
  exact ⟨rfl, rfl⟩
theorem minus_n {n v : Nat} (hn : n ≤ 64) (hv : v < 2 ^ n) : (18446744073709551616 - v) % 18446744073709551616 % 2 ^ n = (2 ^ n - v) % 2 ^ n := by
  have hd : 2 ^ n ∣ 18446744073709551616 := ⟨2 ^ (64 - n), by rw [← Nat.pow_add, show n + (64 - n) = 64 by omega]⟩
  obtain ⟨k, hk⟩ := hd
  have hp := Nat.two_pow_pos n
  rw [Nat.mod_mod_of_dvd _ ⟨k, hk⟩, hk]
  have hk1 : 1 ≤ k := by rcases Nat.eq_zero_or_pos k with rfl | h; simp at hk; exact h
  have e : 2 ^ n * k - v = (2 ^ n - v) + 2 ^ n * (k - 1) := by
    have : 2 ^ n * k = 2 ^ n * (k - 1) + 2 ^ n := by rw [← Nat.mul_succ]; congr 1; omega
    omega
  rw [e, Nat.add_mul_mod_self_left]
theorem size_n {n v : Nat} (hn : 1 ≤ n) (hv : v < 2 ^ n) : (if sg n v < 0 then (2 ^ n - v) % 2 ^ n else v) = (sg n v).natAbs := by
  have e := two_half (n := n) (by omega)
  have h2 : ((2 ^ n : Nat) : Int) = 2 ^ n := by simp
  have hp := Nat.two_pow_pos (n - 1)
  unfold sg
  by_cases h : v < 2 ^ (n - 1)
  · rw [if_pos h, if_neg (by omega)]; omega
  · rw [if_neg h, if_pos (by omega), Nat.mod_eq_of_lt (by omega)]; omega
set_option maxRecDepth 100000 in
theorem ref_size (w : World) (v n : Nat) (hn : 1 ≤ n ∧ n ≤ 64) (hv : v < 2 ^ n) :
    Calls Tryd.prog 160 #[.int .u64 v, .int .i64 n] w fun e w' => e = .returned (.int .u64 (sg n v).natAbs) ∧ w' = w := by
  have hv64 : v < 18446744073709551616 := Nat.lt_of_lt_of_le hv (Nat.pow_le_pow_right (by omega) hn.2)
  have H := Lib.hid (ref_negative w v n hn)
  have H2 := Lib.hid (ref_minus w v n hv64 hn.2)
  rw [minus_n hn.2 hv] at H2
  have hs := size_n hn.1 hv
  have HS := Lib.hid hs
  have hiff := neg_sg hn.1 hv
  by_cases hneg : sg n v < 0
  · have hd : decide (bitN v (n - 1) = 1) = true := decide_eq_true (hiff.2 hneg)
    rw [hd] at H
    rw [if_pos hneg] at hs
    rw [hs] at H2
    clear hs hiff hd HS hneg
    go_enter Tryd.func160, Tryd.ntmps160
    go_wp2_with fail
    refine H.out.mono ?_
    rintro e w1 ⟨rfl, rfl⟩
    go_wp2_with fail
    refine H2.out.mono ?_
    rintro e w1 ⟨rfl, rfl⟩
    go_wp2
    go_ret
    exact ⟨rfl, rfl⟩
  · have hd : decide (bitN v (n - 1) = 1) = false := decide_eq_false fun h => hneg (hiff.1 h)
    rw [hd] at H
    rw [if_neg hneg] at hs
    have HS2 := Lib.hid hs
    clear hiff hd HS hneg H2 hs
    go_enter Tryd.func160, Tryd.ntmps160
    go_wp2_with fail
    refine H.out.mono ?_
    rintro e w1 ⟨rfl, rfl⟩
    go_wp2
    go_ret
    exact ⟨ret_int (by rw [← HS2.out]), rfl⟩
set_option maxRecDepth 100000 in
theorem ref_truth (w : World) (b : Bool) :
    Calls Tryd.prog 156 #[.bool b] w fun e w' => e = .returned (.int .u64 (tr b)) ∧ w' = w := by
  cases b
  all_goals
    go_enter Tryd.func156, Tryd.ntmps156
    go_wp2
    go_ret
    exact ⟨rfl, rfl⟩
set_option maxRecDepth 100000 in
theorem ref_below (w : World) (a b n : Nat) (hn : 1 ≤ n ∧ n ≤ 64) (ha : a < 2 ^ n) (hb : b < 2 ^ n) :
    Calls Tryd.prog 157 #[.int .u64 a, .int .u64 b, .int .i64 n] w fun e w' => e = .returned (.bool (decide (sg n a < sg n b))) ∧ w' = w := by
  have HA := Lib.hid (ref_negative w a n hn)
  have HB := Lib.hid (ref_negative w b n hn)
  have ia := neg_sg hn.1 ha
  have ib := neg_sg hn.1 hb
  have h2 : ((2 ^ n : Nat) : Int) = 2 ^ n := by simp
  have HR : Hid (sg n a < sg n b ↔ (if (decide (bitN a (n - 1) = 1)) = (decide (bitN b (n - 1) = 1)) then a < b else decide (bitN a (n - 1) = 1) = true)) := by
    show _ ↔ _
    by_cases xa : bitN a (n - 1) = 1 <;> by_cases xb : bitN b (n - 1) = 1
    · have := ia.1 xa; have := ib.1 xb; simp [xa, xb]; unfold sg at *; split at * <;> split at * <;> omega
    · have := ia.1 xa; have := fun h => xb (ib.2 h); simp [xa, xb]; omega
    · have := fun h => xa (ia.2 h); have := ib.1 xb; simp [xa, xb]; omega
    · have := fun h => xa (ia.2 h); have := fun h => xb (ib.2 h); simp [xa, xb]; unfold sg at *; split at * <;> split at * <;> omega
  clear ia ib h2
  generalize decide (bitN a (n - 1) = 1) = x at *
  generalize decide (bitN b (n - 1) = 1) = y at *
  cases x <;> cases y
  all_goals
    go_enter Tryd.func157, Tryd.ntmps157
    go_wp2_with fail
    refine HA.out.mono ?_
    rintro e w1 ⟨rfl, rfl⟩
    go_wp2_with fail
    refine HB.out.mono ?_
    rintro e w1 ⟨rfl, rfl⟩
    go_wp2_with (refine HA.out.mono ?_; rintro e w1 ⟨rfl, rfl⟩)
    go_ret
    exact ⟨ret_bool (Bool.eq_iff_iff.2 ⟨fun h => decide_eq_true (HR.out.2 (by first | (simp; done) | (simp at h; done) | simpa using h)), fun h => by have := HR.out.1 (of_decide_eq_true h); first | (simp; done) | (simp at this; done) | simpa using this⟩), rfl⟩
end Go.Proofs.YtmlniifdipeboaaDoor
