/- flagonref07.shifted. -/
import Derived.Test.YtmlniifdipeboaaDoorRef7b
namespace Go.Proofs.YtmlniifdipeboaaDoor
open Go Go.RowKit

def fShl (v b _n i : Nat) : Nat := if b ≤ i then bitN v (i - b) else 0
theorem fShl_le (v b n i : Nat) : fShl v b n i ≤ 1 := by unfold fShl; split <;> first | exact bitN_le _ _ | omega
set_option maxRecDepth 100000 in
set_option maxHeartbeats 3200000 in
theorem ref_shl (w : World) (v b n : Nat) (hn : 1 ≤ n ∧ n ≤ 64) (hb : b < n) :
    Calls Tryd.prog 159 #[.string ⟨#[115, 104, 108]⟩, .int .u64 v, .int .i64 b, .int .i64 n] w fun e w' => e = .returned (.int .u64 (sumB (fShl v b n) n)) ∧ w' = w := by
  go_enter Tryd.func159, Tryd.ntmps159
  go_wp2
  go_loopw [9, 10] (fun u i wr => ∃ k : Nat, k ≤ n ∧ i = .int .i64 k ∧ u = .int .u64 (sumB (fShl v b n) k) ∧ wr = w) (fun _ i _ => n - (intOf i).toNat)
  case atStart => exact ⟨0, by omega, rfl, rfl, rfl⟩
  case round =>
    obtain ⟨k, hk, rfl, rfl, rfl⟩ := hrel
    by_cases hlt : k < n
    · have hle : 2 ^ k ≤ 2 ^ 63 := Nat.pow_le_pow_right (by omega) (by omega)
      have HS : Hid (sumB (fShl v b n) (k + 1) = sumB (fShl v b n) k + fShl v b n k * 2 ^ k) := Lib.hid rfl
      have hlt' : sumB (fShl v b n) k < 2 ^ k := sumB_lt (fShl_le v b n) k
      generalize sumB (fShl v b n) k = u at *
      obtain ⟨e2, e3⟩ := shl1 (n := k) (by omega)
      have hk0 : (0 : Int) ≤ k := by omega
      have w1 : IntKind.u64.wrap ((u : Int) + ((2 ^ k : Nat) : Int)) = ((u + 2 ^ k : Nat) : Int) := by rw [IntWalk.u64_in _ ⟨by omega, by omega⟩]; push_cast; rfl
      generalize 2 ^ k = q at *
      by_cases h : b ≤ k
      · have w2 : IntKind.i64.wrap ((k : Int) - b) = ((k - b : Nat) : Int) := by rw [IntWalk.i64_in _ ⟨by omega, by omega⟩]; omega
        have HF : Hid (fShl v b n k = bitN v (k - b)) := by show _ = _; rw [fShl, if_pos h]
        have HB := Lib.hid (ref_bit wr v (k - b) (by omega))
        have hx := bitN_le v (k - b)
        generalize bitN v (k - b) = x at *
        rw [HF.out] at HS
        clear HF
        rcases (show x = 0 ∨ x = 1 by omega) with rfl | rfl
        all_goals
          go_wp2_with fail
          (try (exfalso; omega))
          refine HB.out.mono ?_
          rintro e w' ⟨rfl, rfl⟩
          go_wp2
          go_roundw
        all_goals first
          | exact ⟨k + 1, by omega, by go_num, by rw [HS.out]; simp, by trivial⟩
          | (simp [intOf]; omega)
      · have w2 : IntKind.i64.wrap ((k : Int) - b) = (k : Int) - b := IntWalk.i64_in _ ⟨by omega, by omega⟩
        have HF : Hid (fShl v b n k = 0) := by show _ = _; rw [fShl, if_neg h]
        rw [HF.out] at HS
        clear HF
        go_wp2
        all_goals try (exfalso; omega)
        all_goals go_roundw
        all_goals first
          | exact ⟨k + 1, by omega, by go_num, by rw [HS.out]; simp, by trivial⟩
          | (simp [intOf]; omega)
    · obtain rfl : k = n := by omega
      go_wp2
      go_ret
      exact ⟨rfl, rfl⟩
def fShru (v b n i : Nat) : Nat := if i + b < n then bitN v (i + b) else 0
theorem fShru_le (v b n i : Nat) : fShru v b n i ≤ 1 := by unfold fShru; split <;> first | exact bitN_le _ _ | omega
set_option maxRecDepth 100000 in
set_option maxHeartbeats 3200000 in
theorem ref_shru (w : World) (v b n : Nat) (hn : 1 ≤ n ∧ n ≤ 64) (hb : b < n) :
    Calls Tryd.prog 159 #[.string ⟨#[115, 104, 114, 117]⟩, .int .u64 v, .int .i64 b, .int .i64 n] w fun e w' => e = .returned (.int .u64 (sumB (fShru v b n) n)) ∧ w' = w := by
  go_enter Tryd.func159, Tryd.ntmps159
  go_wp2
  go_loopw [9, 10] (fun u i wr => ∃ k : Nat, k ≤ n ∧ i = .int .i64 k ∧ u = .int .u64 (sumB (fShru v b n) k) ∧ wr = w) (fun _ i _ => n - (intOf i).toNat)
  case atStart => exact ⟨0, by omega, rfl, rfl, rfl⟩
  case round =>
    obtain ⟨k, hk, rfl, rfl, rfl⟩ := hrel
    by_cases hlt : k < n
    · have hle : 2 ^ k ≤ 2 ^ 63 := Nat.pow_le_pow_right (by omega) (by omega)
      have HS : Hid (sumB (fShru v b n) (k + 1) = sumB (fShru v b n) k + fShru v b n k * 2 ^ k) := Lib.hid rfl
      have hlt' : sumB (fShru v b n) k < 2 ^ k := sumB_lt (fShru_le v b n) k
      generalize sumB (fShru v b n) k = u at *
      obtain ⟨e2, e3⟩ := shl1 (n := k) (by omega)
      have hk0 : (0 : Int) ≤ k := by omega
      have w1 : IntKind.u64.wrap ((u : Int) + ((2 ^ k : Nat) : Int)) = ((u + 2 ^ k : Nat) : Int) := by rw [IntWalk.u64_in _ ⟨by omega, by omega⟩]; push_cast; rfl
      generalize 2 ^ k = q at *
      by_cases h : k + b < n
      · have w2 : IntKind.i64.wrap ((k : Int) + b) = ((k + b : Nat) : Int) := by rw [IntWalk.i64_in _ ⟨by omega, by omega⟩]; omega
        have HF : Hid (fShru v b n k = bitN v (k + b)) := by show _ = _; rw [fShru, if_pos h]
        have HB := Lib.hid (ref_bit wr v (k + b) (by omega))
        have hx := bitN_le v (k + b)
        generalize bitN v (k + b) = x at *
        rw [HF.out] at HS
        clear HF
        rcases (show x = 0 ∨ x = 1 by omega) with rfl | rfl
        all_goals
          go_wp2_with fail
          (try (exfalso; omega))
          refine HB.out.mono ?_
          rintro e w' ⟨rfl, rfl⟩
          go_wp2
          go_roundw
        all_goals first
          | exact ⟨k + 1, by omega, by go_num, by rw [HS.out]; simp, by trivial⟩
          | (simp [intOf]; omega)
      · have w2 : IntKind.i64.wrap ((k : Int) + b) = ((k + b : Nat) : Int) := by rw [IntWalk.i64_in _ ⟨by omega, by omega⟩]; omega
        have HF : Hid (fShru v b n k = 0) := by show _ = _; rw [fShru, if_neg h]
        rw [HF.out] at HS
        clear HF
        go_wp2
        all_goals try (exfalso; omega)
        all_goals go_roundw
        all_goals first
          | exact ⟨k + 1, by omega, by go_num, by rw [HS.out]; simp, by trivial⟩
          | (simp [intOf]; omega)
    · obtain rfl : k = n := by omega
      go_wp2
      go_ret
      exact ⟨rfl, rfl⟩
def fShrs (v b n i : Nat) : Nat := if i + b < n then bitN v (i + b) else bitN v (n - 1)
theorem fShrs_le (v b n i : Nat) : fShrs v b n i ≤ 1 := by unfold fShrs; split <;> first | exact bitN_le _ _ | omega
set_option maxRecDepth 100000 in
set_option maxHeartbeats 3200000 in
theorem ref_shrs (w : World) (v b n : Nat) (hn : 1 ≤ n ∧ n ≤ 64) (hb : b < n) :
    Calls Tryd.prog 159 #[.string ⟨#[115, 104, 114, 115]⟩, .int .u64 v, .int .i64 b, .int .i64 n] w fun e w' => e = .returned (.int .u64 (sumB (fShrs v b n) n)) ∧ w' = w := by
  go_enter Tryd.func159, Tryd.ntmps159
  go_wp2
  go_loopw [9, 10] (fun u i wr => ∃ k : Nat, k ≤ n ∧ i = .int .i64 k ∧ u = .int .u64 (sumB (fShrs v b n) k) ∧ wr = w) (fun _ i _ => n - (intOf i).toNat)
  case atStart => exact ⟨0, by omega, rfl, rfl, rfl⟩
  case round =>
    obtain ⟨k, hk, rfl, rfl, rfl⟩ := hrel
    by_cases hlt : k < n
    · have hle : 2 ^ k ≤ 2 ^ 63 := Nat.pow_le_pow_right (by omega) (by omega)
      have HS : Hid (sumB (fShrs v b n) (k + 1) = sumB (fShrs v b n) k + fShrs v b n k * 2 ^ k) := Lib.hid rfl
      have hlt' : sumB (fShrs v b n) k < 2 ^ k := sumB_lt (fShrs_le v b n) k
      generalize sumB (fShrs v b n) k = u at *
      obtain ⟨e2, e3⟩ := shl1 (n := k) (by omega)
      have hk0 : (0 : Int) ≤ k := by omega
      have w1 : IntKind.u64.wrap ((u : Int) + ((2 ^ k : Nat) : Int)) = ((u + 2 ^ k : Nat) : Int) := by rw [IntWalk.u64_in _ ⟨by omega, by omega⟩]; push_cast; rfl
      generalize 2 ^ k = q at *
      by_cases h : k + b < n
      · have w2 : IntKind.i64.wrap ((k : Int) + b) = ((k + b : Nat) : Int) := by rw [IntWalk.i64_in _ ⟨by omega, by omega⟩]; omega
        have HF : Hid (fShrs v b n k = bitN v (k + b)) := by show _ = _; rw [fShrs, if_pos h]
        have HB := Lib.hid (ref_bit wr v (k + b) (by omega))
        have hx := bitN_le v (k + b)
        generalize bitN v (k + b) = x at *
        rw [HF.out] at HS
        clear HF
        rcases (show x = 0 ∨ x = 1 by omega) with rfl | rfl
        all_goals
          go_wp2_with fail
          (try (exfalso; omega))
          refine HB.out.mono ?_
          rintro e w' ⟨rfl, rfl⟩
          go_wp2
          go_roundw
        all_goals first
          | exact ⟨k + 1, by omega, by go_num, by rw [HS.out]; simp, by trivial⟩
          | (simp [intOf]; omega)
      · have w2 : IntKind.i64.wrap ((k : Int) + b) = ((k + b : Nat) : Int) := by rw [IntWalk.i64_in _ ⟨by omega, by omega⟩]; omega
        have w3 : IntKind.i64.wrap ((n : Int) - 1) = ((n - 1 : Nat) : Int) := by rw [IntWalk.i64_in _ ⟨by omega, by omega⟩]; omega
        have HF : Hid (fShrs v b n k = bitN v (n - 1)) := by show _ = _; rw [fShrs, if_neg h]
        have HB := Lib.hid (ref_bit wr v (n - 1) (by omega))
        have hx := bitN_le v (n - 1)
        generalize bitN v (n - 1) = x at *
        rw [HF.out] at HS
        clear HF
        rcases (show x = 0 ∨ x = 1 by omega) with rfl | rfl
        all_goals
          go_wp2_with fail
          (try (exfalso; omega))
          refine HB.out.mono ?_
          rintro e w' ⟨rfl, rfl⟩
          go_wp2
          go_roundw
        all_goals first
          | exact ⟨k + 1, by omega, by go_num, by rw [HS.out]; simp, by trivial⟩
          | (simp [intOf]; omega)
    · obtain rfl : k = n := by omega
      go_wp2
      go_ret
      exact ⟨rfl, rfl⟩
def fRotl (v b n i : Nat) : Nat := bitN v ((i + n - b) % n)
theorem fRotl_le (v b n i : Nat) : fRotl v b n i ≤ 1 := by unfold fRotl; exact bitN_le _ _
set_option maxRecDepth 100000 in
set_option maxHeartbeats 3200000 in
theorem ref_rotl (w : World) (v b n : Nat) (hn : 1 ≤ n ∧ n ≤ 64) (hb : b < n) :
    Calls Tryd.prog 159 #[.string ⟨#[114, 111, 116, 108]⟩, .int .u64 v, .int .i64 b, .int .i64 n] w fun e w' => e = .returned (.int .u64 (sumB (fRotl v b n) n)) ∧ w' = w := by
  go_enter Tryd.func159, Tryd.ntmps159
  go_wp2
  go_loopw [9, 10] (fun u i wr => ∃ k : Nat, k ≤ n ∧ i = .int .i64 k ∧ u = .int .u64 (sumB (fRotl v b n) k) ∧ wr = w) (fun _ i _ => n - (intOf i).toNat)
  case atStart => exact ⟨0, by omega, rfl, rfl, rfl⟩
  case round =>
    obtain ⟨k, hk, rfl, rfl, rfl⟩ := hrel
    by_cases hlt : k < n
    · have hle : 2 ^ k ≤ 2 ^ 63 := Nat.pow_le_pow_right (by omega) (by omega)
      have HS : Hid (sumB (fRotl v b n) (k + 1) = sumB (fRotl v b n) k + fRotl v b n k * 2 ^ k) := Lib.hid rfl
      have hlt' : sumB (fRotl v b n) k < 2 ^ k := sumB_lt (fRotl_le v b n) k
      generalize sumB (fRotl v b n) k = u at *
      obtain ⟨e2, e3⟩ := shl1 (n := k) (by omega)
      have hk0 : (0 : Int) ≤ k := by omega
      have w1 : IntKind.u64.wrap ((u : Int) + ((2 ^ k : Nat) : Int)) = ((u + 2 ^ k : Nat) : Int) := by rw [IntWalk.u64_in _ ⟨by omega, by omega⟩]; push_cast; rfl
      generalize 2 ^ k = q at *
      have hmod : (k + n - b) % n < n := Nat.mod_lt _ (by omega)
      have hnz : ((n : Int) == 0) = false := by rw [beq_eq_false_iff_ne]; omega
      have w2 : IntKind.i64.wrap ((k : Int) - b) = (k : Int) - b := IntWalk.i64_in _ ⟨by omega, by omega⟩
      have w3 : IntKind.i64.wrap ((k : Int) - b + n) = ((k + n - b : Nat) : Int) := by rw [IntWalk.i64_in _ ⟨by omega, by omega⟩]; omega
      have w4 : ((k + n - b : Nat) : Int).tmod n = (((k + n - b) % n : Nat) : Int) := by rw [Int.tmod_eq_emod_of_nonneg (Int.natCast_nonneg _)]; exact (Int.natCast_emod _ _).symm
      have w5 : IntKind.i64.wrap (((k + n - b) % n : Nat) : Int) = (((k + n - b) % n : Nat) : Int) := IntWalk.i64_in _ ⟨by omega, by omega⟩
      generalize hj : (k + n - b) % n = j at *
      have HF : Hid (fRotl v b n k = bitN v (j)) := by show _ = _; rw [fRotl, hj]
      have HB := Lib.hid (ref_bit wr v (j) (by omega))
      have hx := bitN_le v (j)
      generalize bitN v (j) = x at *
      rw [HF.out] at HS
      clear HF
      rcases (show x = 0 ∨ x = 1 by omega) with rfl | rfl
      all_goals
        go_wp2_with fail
        (try (exfalso; omega))
        refine HB.out.mono ?_
        rintro e w' ⟨rfl, rfl⟩
        go_wp2
        go_roundw
      all_goals first
        | exact ⟨k + 1, by omega, by go_num, by rw [HS.out]; simp, by trivial⟩
        | (simp [intOf]; omega)
    · obtain rfl : k = n := by omega
      go_wp2
      go_ret
      exact ⟨rfl, rfl⟩
def fRotr (v b n i : Nat) : Nat := bitN v ((i + b) % n)
theorem fRotr_le (v b n i : Nat) : fRotr v b n i ≤ 1 := by unfold fRotr; exact bitN_le _ _
set_option maxRecDepth 100000 in
set_option maxHeartbeats 3200000 in
theorem ref_rotr (w : World) (v b n : Nat) (hn : 1 ≤ n ∧ n ≤ 64) (hb : b < n) :
    Calls Tryd.prog 159 #[.string ⟨#[114, 111, 116, 114]⟩, .int .u64 v, .int .i64 b, .int .i64 n] w fun e w' => e = .returned (.int .u64 (sumB (fRotr v b n) n)) ∧ w' = w := by
  go_enter Tryd.func159, Tryd.ntmps159
  go_wp2
  go_loopw [9, 10] (fun u i wr => ∃ k : Nat, k ≤ n ∧ i = .int .i64 k ∧ u = .int .u64 (sumB (fRotr v b n) k) ∧ wr = w) (fun _ i _ => n - (intOf i).toNat)
  case atStart => exact ⟨0, by omega, rfl, rfl, rfl⟩
  case round =>
    obtain ⟨k, hk, rfl, rfl, rfl⟩ := hrel
    by_cases hlt : k < n
    · have hle : 2 ^ k ≤ 2 ^ 63 := Nat.pow_le_pow_right (by omega) (by omega)
      have HS : Hid (sumB (fRotr v b n) (k + 1) = sumB (fRotr v b n) k + fRotr v b n k * 2 ^ k) := Lib.hid rfl
      have hlt' : sumB (fRotr v b n) k < 2 ^ k := sumB_lt (fRotr_le v b n) k
      generalize sumB (fRotr v b n) k = u at *
      obtain ⟨e2, e3⟩ := shl1 (n := k) (by omega)
      have hk0 : (0 : Int) ≤ k := by omega
      have w1 : IntKind.u64.wrap ((u : Int) + ((2 ^ k : Nat) : Int)) = ((u + 2 ^ k : Nat) : Int) := by rw [IntWalk.u64_in _ ⟨by omega, by omega⟩]; push_cast; rfl
      generalize 2 ^ k = q at *
      have hmod : (k + b) % n < n := Nat.mod_lt _ (by omega)
      have hnz : ((n : Int) == 0) = false := by rw [beq_eq_false_iff_ne]; omega
      have w3 : IntKind.i64.wrap ((k : Int) + b) = ((k + b : Nat) : Int) := by rw [IntWalk.i64_in _ ⟨by omega, by omega⟩]; omega
      have w4 : ((k + b : Nat) : Int).tmod n = (((k + b) % n : Nat) : Int) := by rw [Int.tmod_eq_emod_of_nonneg (Int.natCast_nonneg _)]; exact (Int.natCast_emod _ _).symm
      have w5 : IntKind.i64.wrap (((k + b) % n : Nat) : Int) = (((k + b) % n : Nat) : Int) := IntWalk.i64_in _ ⟨by omega, by omega⟩
      generalize hj : (k + b) % n = j at *
      have w6 : ((k : Int) + b) % (n : Int) = (j : Int) := by rw [← hj]; simp
      have HF : Hid (fRotr v b n k = bitN v (j)) := by show _ = _; rw [fRotr, hj]
      have HB := Lib.hid (ref_bit wr v (j) (by omega))
      have hx := bitN_le v (j)
      generalize bitN v (j) = x at *
      rw [HF.out] at HS
      clear HF
      rcases (show x = 0 ∨ x = 1 by omega) with rfl | rfl
      all_goals
        go_wp2_with fail
        (try (exfalso; omega))
        refine HB.out.mono ?_
        rintro e w' ⟨rfl, rfl⟩
        go_wp2
        go_roundw
      all_goals first
        | exact ⟨k + 1, by omega, by go_num, by rw [HS.out]; simp, by trivial⟩
        | (simp [intOf]; omega)
    · obtain rfl : k = n := by omega
      go_wp2
      go_ret
      exact ⟨rfl, rfl⟩
theorem sumB_congr {f g : Nat → Nat} : ∀ n, (∀ i, i < n → f i = g i) → sumB f n = sumB g n
  | 0, _ => rfl
  | n + 1, h => by rw [sumB, sumB, sumB_congr n fun i hi => h i (by omega), h n (by omega)]
theorem bits_shl {n v b : Nat} (hb : b < n) : sumB (fShl v b n) n = v * 2 ^ b % 2 ^ n := sumB_of (Nat.mod_lt _ (Nat.two_pow_pos n)) fun i hi => by
  have _ := hb
  rw [fShl, bit_test (v * 2 ^ b % 2 ^ n), Nat.testBit_mod_two_pow, Nat.testBit_mul_two_pow]
  by_cases h : b ≤ i
  · rw [if_pos h, bit_test]; simp [hi, h]
  · rw [if_neg h]; simp [h]
theorem testBit_top {n v i : Nat} (hv : v < 2 ^ n) (h : n ≤ i) : v.testBit i = false := Nat.testBit_lt_two_pow (Nat.lt_of_lt_of_le hv (Nat.pow_le_pow_right (by omega) h))
theorem bits_shru {n v b : Nat} (hv : v < 2 ^ n) : sumB (fShru v b n) n = v / 2 ^ b := sumB_of (Nat.lt_of_le_of_lt (Nat.div_le_self _ _) hv) fun i _ => by
  rw [fShru, bit_test (v / 2 ^ b), Nat.testBit_div_two_pow]
  by_cases h : i + b < n
  · rw [if_pos h, bit_test]
  · rw [if_neg h, testBit_top hv (by omega)]; rfl
theorem bits_rotl {n v b : Nat} (hb : b < n) (hv : v < 2 ^ n) : sumB (fRotl v b n) n = rotlN n v b := sumB_of (rotlN_lt (Nat.le_of_lt hb) hv) fun i hi => by
  have hm : 2 ^ n = 2 ^ (n - b) * 2 ^ b := by rw [← Nat.pow_add]; congr 1; omega
  have hlt : v / 2 ^ (n - b) < 2 ^ b := Nat.div_lt_of_lt_mul (by rw [← hm]; exact hv)
  rw [fRotl, bit_test, bit_test, rotlN, Nat.mul_comm, Nat.testBit_two_pow_mul_add _ hlt]
  by_cases h : i < b
  · rw [if_pos h, Nat.testBit_div_two_pow, show (i + n - b) % n = i + (n - b) by rw [Nat.mod_eq_of_lt (by omega)]; omega]
  · rw [if_neg h, Nat.testBit_mod_two_pow, show (i + n - b) % n = i - b by rw [show i + n - b = (i - b) + n by omega, Nat.add_mod_right, Nat.mod_eq_of_lt (by omega)], decide_eq_true (show i - b < n - b by omega), Bool.true_and]
theorem bits_rotr {n v b : Nat} (hb : b < n) (hv : v < 2 ^ n) : sumB (fRotr v b n) n = rotlN n v ((n - b) % n) := by
  have h0 : (n - b) % n < n := Nat.mod_lt _ (by omega)
  rw [← bits_rotl h0 hv]
  refine sumB_congr n fun i hi => ?_
  rw [fRotr, fRotl]
  congr 1
  rcases Nat.eq_zero_or_pos b with rfl | h2
  · simp [Nat.mod_eq_of_lt hi]
  · rw [Nat.mod_eq_of_lt (show n - b < n by omega), show i + n - (n - b) = i + b by omega]
theorem bits_shrs {n v b : Nat} (hb : b < n) (hv : v < 2 ^ n) : sumB (fShrs v b n) n = un n (sg n v / 2 ^ b) := sumB_of (un_lt _ _) fun i hi => by
  have e := two_half (n := n) (by omega)
  have h2 : ((2 ^ n : Nat) : Int) = 2 ^ n := by simp
  have hm : 2 ^ n = 2 ^ (n - b) * 2 ^ b := by rw [← Nat.pow_add]; congr 1; omega
  have hq : v / 2 ^ b < 2 ^ (n - b) := Nat.div_lt_of_lt_mul (by rw [Nat.mul_comm, ← hm]; exact hv)
  have hpb := Nat.two_pow_pos b
  have hle : 2 ^ (n - b) ≤ 2 ^ n := Nat.pow_le_pow_right (by omega) (by omega)
  have key : un n (sg n v / 2 ^ b) = if v < 2 ^ (n - 1) then v / 2 ^ b else v / 2 ^ b + (2 ^ n - 2 ^ (n - b)) := by
    unfold sg un
    by_cases h : v < 2 ^ (n - 1)
    · rw [if_pos h, if_pos h]
      have e1 : (v : Int) / 2 ^ b = ((v / 2 ^ b : Nat) : Int) := by simp
      rw [e1, ← h2, ← Int.natCast_emod, Int.toNat_natCast, Nat.mod_eq_of_lt (by omega)]
    · rw [if_neg h, if_neg h]
      have e1 : ((v : Int) - 2 ^ n) / 2 ^ b = ((v / 2 ^ b : Nat) : Int) - ((2 ^ (n - b) : Nat) : Int) := by
        have h5 : ((2 ^ b : Nat) : Int) = 2 ^ b := by simp
        have h6 : (v : Int) / 2 ^ b = ((v / 2 ^ b : Nat) : Int) := by simp
        have h7 : (2 : Int) ^ n = ((2 ^ (n - b) : Nat) : Int) * 2 ^ b := by rw [← h2, hm, ← h5, Int.natCast_mul]
        rw [h7, Int.sub_eq_add_neg, ← Int.neg_mul, Int.add_mul_ediv_right _ _ (by omega), h6]
        omega
      rw [e1, ← h2]
      have e2 : ((v / 2 ^ b : Nat) : Int) - ((2 ^ (n - b) : Nat) : Int) + ((2 ^ n : Nat) : Int) = ((v / 2 ^ b + (2 ^ n - 2 ^ (n - b)) : Nat) : Int) := by omega
      rw [← Int.add_emod_right, e2, ← Int.natCast_emod, Int.toNat_natCast, Nat.mod_eq_of_lt (by omega)]
  rw [key, fShrs]
  have htop : bitN v (n - 1) = 1 ↔ ¬ v < 2 ^ (n - 1) := by
    rw [neg_sg (by omega) hv]; unfold sg; split <;> omega
  by_cases h : v < 2 ^ (n - 1)
  · rw [if_pos h, bit_test (v / 2 ^ b), Nat.testBit_div_two_pow]
    by_cases h3 : i + b < n
    · rw [if_pos h3, bit_test]
    · rw [if_neg h3, testBit_top hv (by omega)]
      have := bitN_le v (n - 1)
      have : ¬ bitN v (n - 1) = 1 := fun c => htop.1 c h
      simp; omega
  · have e3 : v / 2 ^ b + (2 ^ n - 2 ^ (n - b)) = 2 ^ (n - b) * (2 ^ b - 1) + v / 2 ^ b := by
      rw [Nat.mul_sub, Nat.mul_one, ← hm]; omega
    rw [if_neg h, e3, bit_test (2 ^ (n - b) * (2 ^ b - 1) + v / 2 ^ b), Nat.testBit_two_pow_mul_add _ hq]
    by_cases h3 : i + b < n
    · rw [if_pos h3, if_pos (by omega), Nat.testBit_div_two_pow, bit_test]
    · rw [if_neg h3, if_neg (by omega), Nat.testBit_two_pow_sub_one, htop.2 h, decide_eq_true (show i - (n - b) < b by omega)]
      rfl
end Go.Proofs.YtmlniifdipeboaaDoor
