/- flagonref07's signed, ones, bitwise. -/
import Derived.Test.YtmlniifdipeboaaDoorRef7a
namespace Go.Proofs.YtmlniifdipeboaaDoor
open Go Go.RowKit

theorem signed_n {m n v : Nat} (hm : 1 ≤ m ∧ m < 64) (hmn : m ≤ n ∧ n ≤ 64) (hv : v < 2 ^ m) : (if sg m v < 0 then (v + (18446744073709551616 - 2 ^ m)) % 2 ^ n else v) = un n (sg m v) := by
  have h2 : ((2 ^ m : Nat) : Int) = 2 ^ m := by simp
  have h3 : ((2 ^ n : Nat) : Int) = 2 ^ n := by simp
  have hle : 2 ^ m ≤ 2 ^ n := Nat.pow_le_pow_right (by omega) hmn.1
  have hle2 : 2 ^ n ≤ 18446744073709551616 := (Nat.pow_le_pow_right (by omega) hmn.2 : 2 ^ n ≤ 2 ^ 64)
  have hp := Nat.two_pow_pos (m - 1)
  have e := two_half (n := m) (by omega)
  have hd : 2 ^ n ∣ 18446744073709551616 := ⟨2 ^ (64 - n), by rw [← Nat.pow_add, show n + (64 - n) = 64 by omega]⟩
  obtain ⟨k, hk⟩ := hd
  have hk1 : 1 ≤ k := by rcases Nat.eq_zero_or_pos k with rfl | h; simp at hk; exact h
  unfold sg un
  by_cases h : v < 2 ^ (m - 1)
  · rw [if_pos h, if_neg (by omega), Int.emod_eq_of_lt (by omega) (by omega)]; omega
  · rw [if_neg h, if_pos (by omega)]
    have e1 : v + (18446744073709551616 - 2 ^ m) = (v + 2 ^ n - 2 ^ m) + 2 ^ n * (k - 1) := by
      have : 2 ^ n * k = 2 ^ n * (k - 1) + 2 ^ n := by rw [← Nat.mul_succ]; congr 1; omega
      omega
    rw [e1, Nat.add_mul_mod_self_left, Nat.mod_eq_of_lt (by omega)]
    have e2 : ((v : Int) - 2 ^ m) % 2 ^ n = (v : Int) - 2 ^ m + 2 ^ n := by
      rw [← Int.add_emod_right, Int.emod_eq_of_lt (by omega) (by omega)]
    rw [e2]; omega
set_option maxRecDepth 100000 in
set_option maxHeartbeats 800000 in
theorem ref_signed (w : World) (v m n : Nat) (hm : 1 ≤ m ∧ m < 64) (hmn : m ≤ n ∧ n ≤ 64) (hv : v < 18446744073709551616) :
    Calls Tryd.prog 120 #[.int .u64 v, .int .i64 m, .int .i64 n] w fun e w' => e = .returned (.int .u64 (un n (sg m (v % 2 ^ m)))) ∧ w' = w := by
  have H1 := Lib.hid (ref_low w v m hv (by omega))
  have hlt : v % 2 ^ m < 2 ^ m := Nat.mod_lt _ (Nat.two_pow_pos m)
  generalize v % 2 ^ m = u at *
  have H2 := Lib.hid (ref_negative w u m ⟨hm.1, by omega⟩)
  have hs := signed_n hm hmn hlt
  have hiff := neg_sg hm.1 hlt
  have hple : 2 ^ m ≤ 2 ^ 63 := Nat.pow_le_pow_right (by omega) (by omega)
  have H3 := Lib.hid (ref_low w (u + (18446744073709551616 - 2 ^ m)) n (by omega) hmn.2)
  obtain ⟨_, e3⟩ := shl1 (n := m) (by omega)
  have hm0 : (0 : Int) ≤ m := by omega
  have e4 : IntKind.u64.wrap ((u : Int) - ((2 ^ m : Nat) : Int)) = ((u + (18446744073709551616 - 2 ^ m) : Nat) : Int) := by rw [IntKind.wrap_u64]; omega
  obtain ⟨r, hr⟩ : ∃ r, un n (sg m u) = r := ⟨_, rfl⟩
  rw [hr] at hs ⊢
  clear hr
  by_cases hneg : sg m u < 0
  · rw [decide_eq_true (hiff.2 hneg)] at H2
    rw [if_pos hneg] at hs
    rw [hs] at H3
    generalize u + (18446744073709551616 - 2 ^ m) = z at *
    generalize 2 ^ m = q at *
    clear hs hiff hneg
    go_enter Tryd.func120, Tryd.ntmps120
    go_wp2_with fail
    refine H1.out.mono ?_
    rintro e w1 ⟨rfl, rfl⟩
    go_wp2_with fail
    refine H2.out.mono ?_
    rintro e w1 ⟨rfl, rfl⟩
    go_wp2_with fail
    refine H3.out.mono ?_
    rintro e w1 ⟨rfl, rfl⟩
    go_wp2
    go_ret
    exact ⟨rfl, rfl⟩
  · rw [decide_eq_false fun h => hneg (hiff.1 h)] at H2
    rw [if_neg hneg] at hs
    subst hs
    clear hiff hneg H3
    go_enter Tryd.func120, Tryd.ntmps120
    go_wp2_with fail
    refine H1.out.mono ?_
    rintro e w1 ⟨rfl, rfl⟩
    go_wp2_with fail
    refine H2.out.mono ?_
    rintro e w1 ⟨rfl, rfl⟩
    go_wp2
    go_ret
    exact ⟨rfl, rfl⟩

/-- Above the highest bit, below the lowest one, of those below i. -/
def hiN (n v : Nat) : Nat → Nat
  | 0 => n
  | i + 1 => if bitN v i = 1 then n - 1 - i else hiN n v i
def loN (n v : Nat) : Nat → Nat
  | 0 => n
  | i + 1 => if bitN v i = 1 ∧ loN n v i = n then i else loN n v i
theorem hiN_le (n v : Nat) : ∀ i, hiN n v i ≤ n
  | 0 => Nat.le_refl _
  | i + 1 => by rw [hiN]; have := hiN_le n v i; split <;> omega
theorem loN_le (n v : Nat) : ∀ i, i ≤ n → loN n v i ≤ n
  | 0, _ => Nat.le_refl _
  | i + 1, h => by rw [loN]; have := loN_le n v i (by omega); split <;> omega
theorem pop_succ (i v : Nat) : popN (i + 1) v = popN i v + bitN v i := by
  rw [popN_split 1 i, popN, popN]; unfold bitN; omega
set_option maxRecDepth 100000 in
set_option maxHeartbeats 1600000 in
theorem ref_ones (w : World) (v n : Nat) (hn : 1 ≤ n ∧ n ≤ 64) :
    Calls Tryd.prog 155 #[.int .u64 v, .int .i64 n] w fun e w' => e = .returned (.tuple #[.int .u64 (popN n v), .int .u64 (hiN n v n), .int .u64 (loN n v n)]) ∧ w' = w := by
  have hw : IntKind.u64.wrap (n : Int) = n := IntWalk.u64_in _ ⟨by omega, by omega⟩
  go_enter Tryd.func155, Tryd.ntmps155
  go_wp2
  go_loopw [7, 8, 9, 10] (fun c a u i wr => ∃ k : Nat, k ≤ n ∧ i = .int .i64 k ∧ c = .int .u64 (popN k v) ∧ a = .int .u64 (hiN n v k) ∧ u = .int .u64 (loN n v k) ∧ wr = w) (fun _ _ _ i _ => n - (intOf i).toNat)
  case atStart => exact ⟨0, by omega, rfl, by rw [popN]; rfl, rfl, rfl, rfl⟩
  case round =>
    obtain ⟨k, hk, rfl, rfl, rfl, rfl, rfl⟩ := hrel
    by_cases hlt : k < n
    · have hp := popN_le k v
      have P := Lib.hid (pop_succ k v)
      have HI : Hid (hiN n v (k + 1) = if bitN v k = 1 then n - 1 - k else hiN n v k) := Lib.hid rfl
      have LO : Hid (loN n v (k + 1) = if bitN v k = 1 ∧ loN n v k = n then k else loN n v k) := Lib.hid rfl
      have hb := bitN_le v k
      have hl := loN_le n v k (by omega)
      have HB := Lib.hid (ref_bit wr v k (by omega))
      generalize popN k v = c at *
      generalize hiN n v k = a at *
      generalize loN n v k = u at *
      generalize bitN v k = x at *
      have w1 : IntKind.u64.wrap ((c : Int) + 1) = ((c + 1 : Nat) : Int) := by rw [IntWalk.u64_in _ ⟨by omega, by omega⟩]; push_cast; rfl
      have w2 : IntKind.i64.wrap ((n : Int) - 1) = ((n - 1 : Nat) : Int) := by rw [IntWalk.i64_in _ ⟨by omega, by omega⟩]; omega
      have w3 : IntKind.i64.wrap (((n - 1 : Nat) : Int) - k) = ((n - 1 - k : Nat) : Int) := by rw [IntWalk.i64_in _ ⟨by omega, by omega⟩]; omega
      have w4 : IntKind.u64.wrap ((n - 1 - k : Nat) : Int) = ((n - 1 - k : Nat) : Int) := IntWalk.u64_in _ ⟨by omega, by omega⟩
      have w5 : IntKind.u64.wrap (k : Int) = (k : Int) := IntWalk.u64_in _ ⟨by omega, by omega⟩
      rcases (show x = 0 ∨ x = 1 by omega) with rfl | rfl
      · go_wp2_with fail
        refine HB.out.mono ?_
        rintro e w' ⟨rfl, rfl⟩
        go_wp2
        go_roundw
        case rel => exact ⟨k + 1, by omega, by go_num, by rw [P.out]; rfl, by rw [HI.out, if_neg (by omega)], by rw [LO.out, if_neg (by omega)], by trivial⟩
        case measure => simp [intOf]; omega
      · by_cases hu : u = n
        · have hu' : ((u : Int) == n) = true := by rw [beq_iff_eq]; omega
          have LO2 : Hid (loN n v (k + 1) = k) := by show _ = _; rw [LO.out, if_pos (by simpa using hu)]
          clear LO hu
          go_wp2_with fail
          refine HB.out.mono ?_
          rintro e w' ⟨rfl, rfl⟩
          go_wp2
          go_roundw
          case rel => exact ⟨k + 1, by omega, by go_num, by rw [P.out]; go_num, by rw [HI.out, if_pos (by trivial)], by rw [LO2.out], by trivial⟩
          case measure => simp [intOf]; omega
        · have hu' : ((u : Int) == n) = false := by rw [beq_eq_false_iff_ne]; omega
          have LO2 : Hid (loN n v (k + 1) = u) := by show _ = _; rw [LO.out, if_neg fun h => hu h.2]
          clear LO hu
          go_wp2_with fail
          refine HB.out.mono ?_
          rintro e w' ⟨rfl, rfl⟩
          go_wp2
          go_roundw
          case rel => exact ⟨k + 1, by omega, by go_num, by rw [P.out]; go_num, by rw [HI.out, if_pos (by trivial)], by rw [LO2.out], by trivial⟩
          case measure => simp [intOf]; omega
    · obtain rfl : k = n := by omega
      go_wp2
      go_ret3
      exact ⟨rets3 rfl rfl rfl, rfl⟩

/-- A number out of its bits. -/
def sumB (f : Nat → Nat) : Nat → Nat
  | 0 => 0
  | i + 1 => sumB f i + f i * 2 ^ i
theorem sumB_lt {f : Nat → Nat} (hf : ∀ i, f i ≤ 1) : ∀ n, sumB f n < 2 ^ n
  | 0 => by simp [sumB]
  | n + 1 => by
    have := sumB_lt hf n
    have h1 : f n * 2 ^ n ≤ 1 * 2 ^ n := Nat.mul_le_mul_right _ (hf n)
    rw [sumB, Nat.pow_succ]; omega
theorem sumB_eq {f : Nat → Nat} (x : Nat) : ∀ n, (∀ i, i < n → f i = bitN x i) → sumB f n = x % 2 ^ n
  | 0, _ => by simp [sumB, Nat.mod_one]
  | n + 1, h => by
    rw [sumB, sumB_eq x n fun i hi => h i (by omega), h n (by omega), Nat.mod_pow_succ, Nat.mul_comm]; rfl
theorem sumB_of {f : Nat → Nat} {x n : Nat} (hx : x < 2 ^ n) (h : ∀ i, i < n → f i = bitN x i) : sumB f n = x := by rw [sumB_eq x n h, Nat.mod_eq_of_lt hx]
theorem bit_test (x i : Nat) : bitN x i = (x.testBit i).toNat := by rw [Nat.toNat_testBit]; rfl
def fAnd (a b i : Nat) : Nat := bitN a i * bitN b i
theorem fAnd_le (a b i : Nat) : fAnd a b i ≤ 1 := by
  have h1 := bitN_le a i; have h2 := bitN_le b i
  unfold fAnd
  rcases (show bitN a i = 0 ∨ bitN a i = 1 by omega) with e1 | e1 <;> rcases (show bitN b i = 0 ∨ bitN b i = 1 by omega) with e2 | e2 <;> rw [e1, e2] <;> decide
set_option maxRecDepth 100000 in
set_option maxHeartbeats 3200000 in
theorem ref_and (w : World) (a b n : Nat) (hn : 1 ≤ n ∧ n ≤ 64) :
    Calls Tryd.prog 158 #[.string ⟨#[97, 110, 100]⟩, .int .u64 a, .int .u64 b, .int .i64 n] w fun e w' => e = .returned (.int .u64 (sumB (fAnd a b) n)) ∧ w' = w := by
  go_enter Tryd.func158, Tryd.ntmps158
  go_wp2
  go_loopw [9, 10] (fun u i wr => ∃ k : Nat, k ≤ n ∧ i = .int .i64 k ∧ u = .int .u64 (sumB (fAnd a b) k) ∧ wr = w) (fun _ i _ => n - (intOf i).toNat)
  case atStart => exact ⟨0, by omega, rfl, rfl, rfl⟩
  case round =>
    obtain ⟨k, hk, rfl, rfl, rfl⟩ := hrel
    by_cases hlt : k < n
    · have hle : 2 ^ k ≤ 2 ^ 63 := Nat.pow_le_pow_right (by omega) (by omega)
      have HS : Hid (sumB (fAnd a b) (k + 1) = sumB (fAnd a b) k + (fAnd a b) k * 2 ^ k) := Lib.hid rfl
      have hlt' : sumB (fAnd a b) k < 2 ^ k := sumB_lt (fAnd_le a b) k
      generalize sumB (fAnd a b) k = u at *
      obtain ⟨e2, e3⟩ := shl1 (n := k) (by omega)
      have hk0 : (0 : Int) ≤ k := by omega
      have w1 : IntKind.u64.wrap ((u : Int) + ((2 ^ k : Nat) : Int)) = ((u + 2 ^ k : Nat) : Int) := by rw [IntWalk.u64_in _ ⟨by omega, by omega⟩]; push_cast; rfl
      generalize 2 ^ k = q at *
      have HA := Lib.hid (ref_bit wr a k (by omega))
      have HB := Lib.hid (ref_bit wr b k (by omega))
      have HF : Hid (fAnd a b k = bitN a k * bitN b k) := Lib.hid rfl
      have ha := bitN_le a k; have hb := bitN_le b k
      generalize bitN a k = x at *
      generalize bitN b k = y at *
      rw [HF.out] at HS
      clear HF
      rcases (show x = 0 ∨ x = 1 by omega) with rfl | rfl <;> rcases (show y = 0 ∨ y = 1 by omega) with rfl | rfl
      all_goals
        go_wp2_with fail
        refine HA.out.mono ?_
        rintro e w' ⟨rfl, rfl⟩
        go_wp2_with fail
        refine HB.out.mono ?_
        rintro e w' ⟨rfl, rfl⟩
        go_wp2
        go_roundw
      all_goals first
        | exact ⟨k + 1, by omega, by go_num, by rw [HS.out]; simp, by trivial⟩
        | (simp [intOf]; omega)
    · obtain rfl : k = n := by omega
      go_wp2
      go_ret
      exact ⟨rfl, rfl⟩
def fOr (a b i : Nat) : Nat := bitN a i + bitN b i - bitN a i * bitN b i
theorem fOr_le (a b i : Nat) : fOr a b i ≤ 1 := by
  have h1 := bitN_le a i; have h2 := bitN_le b i
  unfold fOr
  rcases (show bitN a i = 0 ∨ bitN a i = 1 by omega) with e1 | e1 <;> rcases (show bitN b i = 0 ∨ bitN b i = 1 by omega) with e2 | e2 <;> rw [e1, e2] <;> decide
set_option maxRecDepth 100000 in
set_option maxHeartbeats 3200000 in
theorem ref_or (w : World) (a b n : Nat) (hn : 1 ≤ n ∧ n ≤ 64) :
    Calls Tryd.prog 158 #[.string ⟨#[111, 114]⟩, .int .u64 a, .int .u64 b, .int .i64 n] w fun e w' => e = .returned (.int .u64 (sumB (fOr a b) n)) ∧ w' = w := by
  go_enter Tryd.func158, Tryd.ntmps158
  go_wp2
  go_loopw [9, 10] (fun u i wr => ∃ k : Nat, k ≤ n ∧ i = .int .i64 k ∧ u = .int .u64 (sumB (fOr a b) k) ∧ wr = w) (fun _ i _ => n - (intOf i).toNat)
  case atStart => exact ⟨0, by omega, rfl, rfl, rfl⟩
  case round =>
    obtain ⟨k, hk, rfl, rfl, rfl⟩ := hrel
    by_cases hlt : k < n
    · have hle : 2 ^ k ≤ 2 ^ 63 := Nat.pow_le_pow_right (by omega) (by omega)
      have HS : Hid (sumB (fOr a b) (k + 1) = sumB (fOr a b) k + (fOr a b) k * 2 ^ k) := Lib.hid rfl
      have hlt' : sumB (fOr a b) k < 2 ^ k := sumB_lt (fOr_le a b) k
      generalize sumB (fOr a b) k = u at *
      obtain ⟨e2, e3⟩ := shl1 (n := k) (by omega)
      have hk0 : (0 : Int) ≤ k := by omega
      have w1 : IntKind.u64.wrap ((u : Int) + ((2 ^ k : Nat) : Int)) = ((u + 2 ^ k : Nat) : Int) := by rw [IntWalk.u64_in _ ⟨by omega, by omega⟩]; push_cast; rfl
      generalize 2 ^ k = q at *
      have HA := Lib.hid (ref_bit wr a k (by omega))
      have HB := Lib.hid (ref_bit wr b k (by omega))
      have HF : Hid (fOr a b k = bitN a k + bitN b k - bitN a k * bitN b k) := Lib.hid rfl
      have ha := bitN_le a k; have hb := bitN_le b k
      generalize bitN a k = x at *
      generalize bitN b k = y at *
      rw [HF.out] at HS
      clear HF
      rcases (show x = 0 ∨ x = 1 by omega) with rfl | rfl <;> rcases (show y = 0 ∨ y = 1 by omega) with rfl | rfl
      all_goals
        go_wp2_with fail
        refine HA.out.mono ?_
        rintro e w' ⟨rfl, rfl⟩
        go_wp2_with fail
        refine HB.out.mono ?_
        rintro e w' ⟨rfl, rfl⟩
        go_wp2
        go_roundw
      all_goals first
        | exact ⟨k + 1, by omega, by go_num, by rw [HS.out]; simp, by trivial⟩
        | (simp [intOf]; omega)
    · obtain rfl : k = n := by omega
      go_wp2
      go_ret
      exact ⟨rfl, rfl⟩
def fXor (a b i : Nat) : Nat := (bitN a i + bitN b i) % 2
theorem fXor_le (a b i : Nat) : fXor a b i ≤ 1 := by
  have h1 := bitN_le a i; have h2 := bitN_le b i
  unfold fXor
  rcases (show bitN a i = 0 ∨ bitN a i = 1 by omega) with e1 | e1 <;> rcases (show bitN b i = 0 ∨ bitN b i = 1 by omega) with e2 | e2 <;> rw [e1, e2] <;> decide
set_option maxRecDepth 100000 in
set_option maxHeartbeats 3200000 in
theorem ref_xor (w : World) (a b n : Nat) (hn : 1 ≤ n ∧ n ≤ 64) :
    Calls Tryd.prog 158 #[.string ⟨#[120, 111, 114]⟩, .int .u64 a, .int .u64 b, .int .i64 n] w fun e w' => e = .returned (.int .u64 (sumB (fXor a b) n)) ∧ w' = w := by
  go_enter Tryd.func158, Tryd.ntmps158
  go_wp2
  go_loopw [9, 10] (fun u i wr => ∃ k : Nat, k ≤ n ∧ i = .int .i64 k ∧ u = .int .u64 (sumB (fXor a b) k) ∧ wr = w) (fun _ i _ => n - (intOf i).toNat)
  case atStart => exact ⟨0, by omega, rfl, rfl, rfl⟩
  case round =>
    obtain ⟨k, hk, rfl, rfl, rfl⟩ := hrel
    by_cases hlt : k < n
    · have hle : 2 ^ k ≤ 2 ^ 63 := Nat.pow_le_pow_right (by omega) (by omega)
      have HS : Hid (sumB (fXor a b) (k + 1) = sumB (fXor a b) k + (fXor a b) k * 2 ^ k) := Lib.hid rfl
      have hlt' : sumB (fXor a b) k < 2 ^ k := sumB_lt (fXor_le a b) k
      generalize sumB (fXor a b) k = u at *
      obtain ⟨e2, e3⟩ := shl1 (n := k) (by omega)
      have hk0 : (0 : Int) ≤ k := by omega
      have w1 : IntKind.u64.wrap ((u : Int) + ((2 ^ k : Nat) : Int)) = ((u + 2 ^ k : Nat) : Int) := by rw [IntWalk.u64_in _ ⟨by omega, by omega⟩]; push_cast; rfl
      generalize 2 ^ k = q at *
      have HA := Lib.hid (ref_bit wr a k (by omega))
      have HB := Lib.hid (ref_bit wr b k (by omega))
      have HF : Hid (fXor a b k = (bitN a k + bitN b k) % 2) := Lib.hid rfl
      have ha := bitN_le a k; have hb := bitN_le b k
      generalize bitN a k = x at *
      generalize bitN b k = y at *
      rw [HF.out] at HS
      clear HF
      rcases (show x = 0 ∨ x = 1 by omega) with rfl | rfl <;> rcases (show y = 0 ∨ y = 1 by omega) with rfl | rfl
      all_goals
        go_wp2_with fail
        refine HA.out.mono ?_
        rintro e w' ⟨rfl, rfl⟩
        go_wp2_with fail
        refine HB.out.mono ?_
        rintro e w' ⟨rfl, rfl⟩
        go_wp2
        go_roundw
      all_goals first
        | exact ⟨k + 1, by omega, by go_num, by rw [HS.out]; simp, by trivial⟩
        | (simp [intOf]; omega)
    · obtain rfl : k = n := by omega
      go_wp2
      go_ret
      exact ⟨rfl, rfl⟩
theorem bits_and {n a b : Nat} (_ha : a < 2 ^ n) (hb : b < 2 ^ n) : sumB (fAnd a b) n = a &&& b := sumB_of (Nat.and_lt_two_pow _ hb) fun i _ => by
  rw [fAnd, bit_test, bit_test, bit_test, Nat.testBit_and]; cases a.testBit i <;> cases b.testBit i <;> rfl
theorem bits_or {n a b : Nat} (ha : a < 2 ^ n) (hb : b < 2 ^ n) : sumB (fOr a b) n = a ||| b := sumB_of (Nat.or_lt_two_pow ha hb) fun i _ => by
  rw [fOr, bit_test, bit_test, bit_test, Nat.testBit_or]; cases a.testBit i <;> cases b.testBit i <;> rfl
theorem bits_xor {n a b : Nat} (ha : a < 2 ^ n) (hb : b < 2 ^ n) : sumB (fXor a b) n = a ^^^ b := sumB_of (Nat.xor_lt_two_pow ha hb) fun i _ => by
  rw [fXor, bit_test, bit_test, bit_test, Nat.testBit_xor]; cases a.testBit i <;> cases b.testBit i <;> rfl
end Go.Proofs.YtmlniifdipeboaaDoor
