/- flagonlaw07.NumsDivide, walked. -/
import Derived.Test.YtmlniifdipeboaaDoorAgree
namespace Go.Proofs.YtmlniifdipeboaaDoor
open Go Go.RowKit

theorem trap32 {k x y : Nat} (hk : k ≤ 24) (hx : x < 4294967296) (hy : y < 4294967296) : trap (48 + k) x y = (numN 32 k x y 0 0).2 := by
  have h := (numOf_all ⟨k, by omega⟩).1
  simp only at h
  rw [trap, doN, if_neg (by simp [h]), if_neg (by omega), if_neg (by omega), Nat.mod_eq_of_lt hx, Nat.mod_eq_of_lt hy, Nat.add_sub_cancel_left]
theorem trap64 {k x y : Nat} (hk : k ≤ 24) : trap (80 + k) x y = (numN 64 k x y 0 0).2 := by
  have h := (numOf_all ⟨k, by omega⟩).2
  simp only at h
  rw [trap, doN, if_neg (by simp [h]), if_neg (by omega), if_pos (by omega), Nat.add_sub_cancel_left]
/-- Below, signed. -/
def blw (n a b : Nat) : Bool := decide (sg n a < sg n b)
/-- below: signed, as the bias says. -/
theorem law_below (w : World) (a b n : Nat) (T : Int) (hT : ((2 ^ (n - 1) : Nat) : Int) = T) (hn : 0 < n) (hn64 : n ≤ 64) (ha : a < 2 ^ n) (hb : b < 2 ^ n) :
    Calls Tryd.prog 55 #[.int .u64 a, .int .u64 b, .int .u64 T] w fun e w' => e = .returned (.bool (blw n a b)) ∧ w' = w := by
  have hle : 2 ^ n ≤ 2 ^ 64 := Nat.pow_le_pow_right (by omega) hn64
  have hle2 : 2 ^ (n - 1) < 2 ^ 64 := Nat.pow_lt_pow_right (by omega) (by omega)
  have e1 : bits .xor .u64 (a : Int) T = ((a ^^^ 2 ^ (n - 1) : Nat) : Int) := by rw [← hT]; exact bits_xor_u64_nat a _ (Nat.lt_of_lt_of_le ha hle) hle2
  have e2 : bits .xor .u64 (b : Int) T = ((b ^^^ 2 ^ (n - 1) : Nat) : Int) := by rw [← hT]; exact bits_xor_u64_nat b _ (Nat.lt_of_lt_of_le hb hle) hle2
  have h := Lib.hid (below_sg hn ha hb)
  generalize a ^^^ 2 ^ (n - 1) = x at *
  generalize b ^^^ 2 ^ (n - 1) = y at *
  clear hle hle2 hT hn hn64 ha hb
  go_enter Tryd.func55, Tryd.ntmps55
  go_wp2
  go_ret
  exact ⟨ret_bool (by rw [blw, decide_eq_decide]; have := h.out; omega), rfl⟩

/-- The signed quotient and what is left, as numbers of n bits. -/
theorem sg_divide {n a b : Nat} (hn : 2 ≤ n) (ha : a < 2 ^ n) (hb : b < 2 ^ n) (h0 : b ≠ 0) :
    (un n ((sg n a).tdiv (sg n b)) * b + un n ((sg n a).tmod (sg n b))) % 2 ^ n = a ∧
    sg n (un n ((sg n a).tmod (sg n b))) = (sg n a).tmod (sg n b) := by
  have hsa := sg_lt (n := n) (by omega) ha
  have hsb := sg_lt (n := n) (by omega) hb
  have hb0 : sg n b ≠ 0 := by
    intro c
    have := @sg_inj n b 0 hb (Nat.two_pow_pos n)
    have h1 : sg n 0 = 0 := by unfold sg; split <;> simp_all
    rw [h1] at this
    exact h0 (this.1 c)
  have hp : (0 : Int) < 2 ^ n := by have := Nat.two_pow_pos n; have h2 : ((2 ^ n : Nat) : Int) = 2 ^ n := by simp
                                    omega
  have e0 : (2 : Int) ^ n = 2 * 2 ^ (n - 1) := by
    rw [show n = (n - 1) + 1 by omega, Int.pow_succ, show n - 1 + 1 - 1 = n - 1 by omega, Int.mul_comm]
  refine ⟨?_, ?_⟩
  · obtain ⟨c1, e1⟩ := un_mod n ((sg n a).tdiv (sg n b))
    obtain ⟨c2, e2⟩ := un_mod n ((sg n a).tmod (sg n b))
    obtain ⟨c3, e3⟩ := @sg_mod n b
    obtain ⟨c4, e4⟩ := @sg_mod n a
    have h5 := Int.mul_tdiv_add_tmod (sg n a) (sg n b)
    have e6 : ((un n ((sg n a).tdiv (sg n b)) * b + un n ((sg n a).tmod (sg n b)) : Nat) : Int) = (a : Int) + (c4 + c2 + c1 * b - (sg n a).tdiv (sg n b) * c3) * 2 ^ n := by
      rw [Int.natCast_add, Int.natCast_mul, e1, e2]
      have e7 : (b : Int) = sg n b - c3 * 2 ^ n := by omega
      have e8 : (a : Int) = sg n b * (sg n a).tdiv (sg n b) + (sg n a).tmod (sg n b) - c4 * 2 ^ n := by omega
      rw [e8]
      generalize (sg n a).tdiv (sg n b) = q
      generalize (sg n a).tmod (sg n b) = r
      rw [Int.add_mul q, e7]
      simp only [Int.mul_sub, Int.add_mul, Int.sub_mul]
      have k1 : q * sg n b = sg n b * q := Int.mul_comm _ _
      have k2 : c1 * 2 ^ n * sg n b = c1 * sg n b * 2 ^ n := by rw [Int.mul_assoc, Int.mul_comm (2 ^ n), ← Int.mul_assoc]
      have k3 : c1 * 2 ^ n * (c3 * 2 ^ n) = c1 * (c3 * 2 ^ n) * 2 ^ n := by rw [Int.mul_assoc, Int.mul_comm (2 ^ n) (c3 * 2 ^ n), ← Int.mul_assoc]
      have k4 : q * (c3 * 2 ^ n) = q * c3 * 2 ^ n := by rw [Int.mul_assoc]
      rw [k1, k2, k3, k4]
      omega
    have e9 : (((un n ((sg n a).tdiv (sg n b)) * b + un n ((sg n a).tmod (sg n b))) % 2 ^ n : Nat) : Int) = (a : Int) := by
      rw [Int.natCast_emod, e6, show ((2 ^ n : Nat) : Int) = 2 ^ n by simp, Int.add_mul_emod_self_right]
      exact Int.emod_eq_of_lt (Int.natCast_nonneg _) (by rw [show (2 : Int) ^ n = ((2 ^ n : Nat) : Int) by simp]; exact Int.ofNat_lt.2 ha)
    exact Int.ofNat_inj.1 e9
  · have hr : -(2 : Int) ^ (n - 1) ≤ (sg n a).tmod (sg n b) ∧ (sg n a).tmod (sg n b) < 2 ^ (n - 1) := by
      have h1 := Int.natAbs_tmod (sg n a) (sg n b)
      have h2 : (sg n a).natAbs % (sg n b).natAbs ≤ (sg n a).natAbs := Nat.mod_le _ _
      have h3 : (sg n a).natAbs % (sg n b).natAbs < (sg n b).natAbs := Nat.mod_lt _ (Int.natAbs_pos.2 hb0)
      omega
    generalize (sg n a).tmod (sg n b) = r at *
    obtain ⟨c, e⟩ := un_mod n r
    have hu := un_lt n r
    have h2 : ((2 ^ n : Nat) : Int) = 2 ^ n := by simp
    have h3 : ((2 ^ (n - 1) : Nat) : Int) = 2 ^ (n - 1) := by simp
    have hc : c = 0 ∨ c = 1 := by
      have k1 : -1 < c := by
        rcases Int.lt_or_le c 0 with h | h
        · have : c * 2 ^ n ≤ -1 * 2 ^ n := Int.mul_le_mul_of_nonneg_right (by omega) (by omega)
          omega
        · omega
      have k2 : c < 2 := by
        rcases Int.lt_or_le c 2 with h | h
        · exact h
        · have : 2 * 2 ^ n ≤ c * 2 ^ n := Int.mul_le_mul_of_nonneg_right h (by omega)
          omega
      omega
    rcases hc with rfl | rfl
    · unfold sg
      split <;> omega
    · unfold sg
      split <;> omega
theorem sg_zero (n : Nat) : sg n 0 = 0 := by unfold sg; split <;> simp_all
theorem neg_mask (m n : Nat) (hn : n ≤ 64) (h0 : 0 < m) (hm : m < 2 ^ n) (M : Int) (hM : ((2 ^ n - 1 : Nat) : Int) = M) : bits .and .u64 (IntKind.u64.wrap (-(m : Int))) M = ((2 ^ n - m : Nat) : Int) := by
  have hle : 2 ^ n ≤ 2 ^ 64 := Nat.pow_le_pow_right (by omega) hn
  have hm64 : m < 18446744073709551616 := Nat.lt_of_lt_of_le hm hle
  have e1 : IntKind.u64.wrap (-(m : Int)) = ((18446744073709551616 - m : Nat) : Int) := by rw [IntKind.wrap_u64]; omega
  rw [e1, mask_and _ n (by omega) hn M hM]
  obtain ⟨k, hk⟩ : ∃ k, 18446744073709551616 - m = (2 ^ n - m) + 2 ^ n * k := by
    refine ⟨2 ^ (64 - n) - 1, ?_⟩
    have e2 : (2 : Nat) ^ 64 = 2 ^ n * 2 ^ (64 - n) := by rw [← Nat.pow_add]; congr 1; omega
    have e3 : 18446744073709551616 = 2 ^ n * 2 ^ (64 - n) := by rw [← e2]
    have hp := Nat.two_pow_pos (64 - n)
    rw [e3, Nat.mul_sub, Nat.mul_one]
    have h4 : 2 ^ n * 1 ≤ 2 ^ n * 2 ^ (64 - n) := Nat.mul_le_mul_left _ hp
    omega
  rw [hk, Nat.add_mul_mod_self_left, Nat.mod_eq_of_lt (by omega)]
/-- The size of a signed number. -/
theorem size_sg {n x : Nat} (hn : 2 ≤ n) (hx : x < 2 ^ n) : (sg n x < 0 → 0 < x ∧ ((2 ^ n - x : Nat) : Int) = (sg n x).natAbs) ∧ (¬ sg n x < 0 → (x : Int) = (sg n x).natAbs) := by
  have h2 : ((2 ^ n : Nat) : Int) = 2 ^ n := by simp
  have h3 := two_half (n := n) (by omega)
  unfold sg
  split <;> constructor <;> intro h <;> omega

set_option maxRecDepth 100000 in
set_option maxHeartbeats 12800000 in
theorem law_divide32_zero (w : World) (a0 b0 a b : Nat) (M1 : bits .and .u64 (a0 : Int) 4294967295 = (a : Int)) (M2 : bits .and .u64 (b0 : Int) 4294967295 = (b : Int)) (la : a < 4294967296) (lb : b < 4294967296) (hs : Wd w w) (h0 : b = 0) :
    Calls Tryd.prog 9 #[.int .u64 a0, .int .u64 b0, .bool false] w fun e w' => e = .returned (.bool true) ∧ Below w.heap.size w w' := by
  have HV13 : Hid (numN 32 13 a b 0 0 = (0, 3)) := by show divN 32 13 a b = _; rw [divN, if_pos h0]
  have HV14 : Hid (numN 32 14 a b 0 0 = (0, 3)) := by show divN 32 14 a b = _; rw [divN, if_pos h0]
  have HV15 : Hid (numN 32 15 a b 0 0 = (0, 3)) := by show divN 32 15 a b = _; rw [divN, if_pos h0]
  have HV16 : Hid (numN 32 16 a b 0 0 = (0, 3)) := by show divN 32 16 a b = _; rw [divN, if_pos h0]
  have E13 : val 61 a b = 0 := by rw [show val 61 a b = (numN 32 13 a b 0 0).1 from val32 (k := 13) (by omega) la lb, HV13.out]
  have T13 : trap 61 a b = 3 := by rw [show trap 61 a b = (numN 32 13 a b 0 0).2 from trap32 (k := 13) (by omega) la lb, HV13.out]
  have E14 : val 62 a b = 0 := by rw [show val 62 a b = (numN 32 14 a b 0 0).1 from val32 (k := 14) (by omega) la lb, HV14.out]
  have T14 : trap 62 a b = 3 := by rw [show trap 62 a b = (numN 32 14 a b 0 0).2 from trap32 (k := 14) (by omega) la lb, HV14.out]
  have E15 : val 63 a b = 0 := by rw [show val 63 a b = (numN 32 15 a b 0 0).1 from val32 (k := 15) (by omega) la lb, HV15.out]
  have T15 : trap 63 a b = 3 := by rw [show trap 63 a b = (numN 32 15 a b 0 0).2 from trap32 (k := 15) (by omega) la lb, HV15.out]
  have E16 : val 64 a b = 0 := by rw [show val 64 a b = (numN 32 16 a b 0 0).1 from val32 (k := 16) (by omega) la lb, HV16.out]
  have T16 : trap 64 a b = 3 := by rw [show trap 64 a b = (numN 32 16 a b 0 0).2 from trap32 (k := 16) (by omega) la lb, HV16.out]
  have f0 : ((b : Int) == 0) = true := by rw [beq_iff_eq]; omega
  clear h0
  go_enter Tryd.func9, Tryd.ntmps9
  go_wp2_with (first | (go_at_call 54; refine (law_do w _ _ _ _ _ rfl (by decide) (by first | assumption | omega | decide) (by first | assumption | omega | decide) (by assumption)).mono ?_; rintro e w' ⟨rfl, hs'⟩) | (go_at_call 55; refine (law_below _ _ _ 32 2147483648 rfl (by decide) (by decide) (by assumption) (by first | assumption | decide)).mono ?_; rintro e w' ⟨rfl, rfl⟩) | (go_at_call 53; refine (law_works07 w _ (by assumption)).mono ?_; rintro e w' ⟨rfl, hz'⟩))
  all_goals go_ret
  all_goals exact ⟨rfl, hz'.bel⟩

set_option maxRecDepth 100000 in
set_option maxHeartbeats 12800000 in
theorem law_divide32_least (w : World) (a0 b0 a b : Nat) (M1 : bits .and .u64 (a0 : Int) 4294967295 = (a : Int)) (M2 : bits .and .u64 (b0 : Int) 4294967295 = (b : Int)) (la : a < 4294967296) (lb : b < 4294967296) (hs : Wd w w) (h1 : a = 2147483648) (h2 : b = 4294967295) :
    Calls Tryd.prog 9 #[.int .u64 a0, .int .u64 b0, .bool false] w fun e w' => e = .returned (.bool true) ∧ Below w.heap.size w w' := by
  have h0 : b ≠ 0 := by omega
  have hq := Nat.div_add_mod a b
  have hr := Nat.mod_lt a (Nat.pos_of_ne_zero h0)
  have f0 : ((b : Int) == 0) = false := by rw [beq_eq_false_iff_ne]; omega
  have HV14 : Hid (numN 32 14 a b 0 0 = (a / b, 0)) := by show divN 32 14 a b = _; rw [divN, if_neg h0, if_pos rfl]
  have HV16 : Hid (numN 32 16 a b 0 0 = (a % b, 0)) := by show divN 32 16 a b = _; rw [divN, if_neg h0, if_neg (by omega), if_pos rfl]
  have E14 : val 62 a b = a / b := by rw [show val 62 a b = (numN 32 14 a b 0 0).1 from val32 (k := 14) (by omega) la lb, HV14.out]
  have T14 : trap 62 a b = 0 := by rw [show trap 62 a b = (numN 32 14 a b 0 0).2 from trap32 (k := 14) (by omega) la lb, HV14.out]
  have E16 : val 64 a b = a % b := by rw [show val 64 a b = (numN 32 16 a b 0 0).1 from val32 (k := 16) (by omega) la lb, HV16.out]
  have T16 : trap 64 a b = 0 := by rw [show trap 64 a b = (numN 32 16 a b 0 0).2 from trap32 (k := 16) (by omega) la lb, HV16.out]
  have u1 : IntKind.u64.wrap (((a / b : Nat) : Int) * (b : Int)) = ((b * (a / b) : Nat) : Int) := by rw [show ((a / b : Nat) : Int) * (b : Int) = ((b * (a / b) : Nat) : Int) by rw [Nat.mul_comm]; simp]; exact w64_nat (by omega)
  have u2 : IntKind.u64.wrap (((b * (a / b) : Nat) : Int) + ((a % b : Nat) : Int)) = (a : Int) := by rw [show ((b * (a / b) : Nat) : Int) + ((a % b : Nat) : Int) = (a : Int) by omega]; exact w64_nat (by omega)
  generalize hQ : b * (a / b) = Q at *
  generalize a / b = q at *
  generalize a % b = r at *
  clear hq hQ
  have HV13 : Hid (numN 32 13 a b 0 0 = (0, 4)) := by show divN 32 13 a b = _; rw [divN, if_neg h0, if_neg (by omega), if_neg (by omega), if_pos (by omega), if_neg (by omega)]
  have HV15 : Hid (numN 32 15 a b 0 0 = (0, 0)) := by show divN 32 15 a b = _; rw [divN, if_neg h0, if_neg (by omega), if_neg (by omega), if_pos (by omega), if_pos rfl]
  have E13 : val 61 a b = 0 := by rw [show val 61 a b = (numN 32 13 a b 0 0).1 from val32 (k := 13) (by omega) la lb, HV13.out]
  have T13 : trap 61 a b = 4 := by rw [show trap 61 a b = (numN 32 13 a b 0 0).2 from trap32 (k := 13) (by omega) la lb, HV13.out]
  have E15 : val 63 a b = 0 := by rw [show val 63 a b = (numN 32 15 a b 0 0).1 from val32 (k := 15) (by omega) la lb, HV15.out]
  have T15 : trap 63 a b = 0 := by rw [show trap 63 a b = (numN 32 15 a b 0 0).2 from trap32 (k := 15) (by omega) la lb, HV15.out]
  have f1 : ((a : Int) == 2147483648) = true := by rw [beq_iff_eq]; omega
  have f2 : ((b : Int) == 4294967295) = true := by rw [beq_iff_eq]; omega
  clear h1 h2 h0
  go_enter Tryd.func9, Tryd.ntmps9
  go_wp2_with (first | (go_at_call 54; refine (law_do w _ _ _ _ _ rfl (by decide) (by first | assumption | omega | decide) (by first | assumption | omega | decide) (by assumption)).mono ?_; rintro e w' ⟨rfl, hs'⟩) | (go_at_call 55; refine (law_below _ _ _ 32 2147483648 rfl (by decide) (by decide) (by assumption) (by first | assumption | decide)).mono ?_; rintro e w' ⟨rfl, rfl⟩) | (go_at_call 53; refine (law_works07 w _ (by assumption)).mono ?_; rintro e w' ⟨rfl, hz'⟩))
  all_goals go_ret
  all_goals exact ⟨rfl, hz'.bel⟩

set_option maxRecDepth 100000 in
set_option maxHeartbeats 12800000 in
theorem law_divide32_s00 (w : World) (a0 b0 a b : Nat) (M1 : bits .and .u64 (a0 : Int) 4294967295 = (a : Int)) (M2 : bits .and .u64 (b0 : Int) 4294967295 = (b : Int)) (la : a < 4294967296) (lb : b < 4294967296) (hs : Wd w w) (h0 : b ≠ 0) (hl : ¬ (a = 2 ^ (32 - 1) ∧ b = 2 ^ 32 - 1)) (hm : ¬ sg 32 (un 32 ((sg 32 a).tmod (sg 32 b))) < 0) (hbs : ¬ sg 32 b < 0) :
    Calls Tryd.prog 9 #[.int .u64 a0, .int .u64 b0, .bool false] w fun e w' => e = .returned (.bool true) ∧ Below w.heap.size w w' := by
  have HD := Lib.hid (sg_divide (n := 32) (by omega) la lb h0)
  have HV13 : Hid (numN 32 13 a b 0 0 = (un 32 ((sg 32 a).tdiv (sg 32 b)), 0)) := by show divN 32 13 a b = _; rw [divN, if_neg h0, if_neg (by omega), if_neg (by omega), if_neg hl, if_neg (by omega)]
  have HV15 : Hid (numN 32 15 a b 0 0 = (un 32 ((sg 32 a).tmod (sg 32 b)), 0)) := by show divN 32 15 a b = _; rw [divN, if_neg h0, if_neg (by omega), if_neg (by omega), if_neg hl, if_pos rfl]
  have E13 : val 61 a b = un 32 ((sg 32 a).tdiv (sg 32 b)) := by rw [show val 61 a b = (numN 32 13 a b 0 0).1 from val32 (k := 13) (by omega) la lb, HV13.out]
  have T13 : trap 61 a b = 0 := by rw [show trap 61 a b = (numN 32 13 a b 0 0).2 from trap32 (k := 13) (by omega) la lb, HV13.out]
  have E15 : val 63 a b = un 32 ((sg 32 a).tmod (sg 32 b)) := by rw [show val 63 a b = (numN 32 15 a b 0 0).1 from val32 (k := 15) (by omega) la lb, HV15.out]
  have T15 : trap 63 a b = 0 := by rw [show trap 63 a b = (numN 32 15 a b 0 0).2 from trap32 (k := 15) (by omega) la lb, HV15.out]
  have lm : un 32 ((sg 32 a).tmod (sg 32 b)) < 4294967296 := un_lt _ _
  have ls : un 32 ((sg 32 a).tdiv (sg 32 b)) < 4294967296 := un_lt _ _
  have f12 : (((a : Int) == 2147483648) = true ∧ ((b : Int) == 4294967295) = false) ∨ ((a : Int) == 2147483648) = false := by rw [beq_iff_eq, beq_eq_false_iff_ne, beq_eq_false_iff_ne]; omega
  have zm := size_sg (n := 32) (by omega) lm
  have zb := size_sg (n := 32) (by omega) lb
  have hmod := Int.natAbs_tmod (sg 32 a) (sg 32 b)
  have hsg := HD.out.2
  have hback := HD.out.1
  have hbn : (sg 32 b).natAbs ≠ 0 := by intro c; have c2 := Int.natAbs_eq_zero.1 c; rw [← sg_zero 32] at c2; exact h0 ((sg_inj lb (by decide)).1 c2)
  have hlt0 : (sg 32 a).natAbs % (sg 32 b).natAbs < (sg 32 b).natAbs := Nat.mod_lt _ (Nat.pos_of_ne_zero hbn)
  have hsame : (sg 32 a).tmod (sg 32 b) = 0 ∨ ((sg 32 a).tmod (sg 32 b) < 0 ↔ sg 32 a < 0) := by
    rcases Int.lt_or_le (sg 32 a) 0 with c | c
    · have h := Int.tmod_nonneg (sg 32 b) (show 0 ≤ -sg 32 a by omega)
      rw [Int.neg_tmod] at h
      generalize (sg 32 a).tmod (sg 32 b) = z at *
      omega
    · have h := Int.tmod_nonneg (sg 32 b) c
      generalize (sg 32 a).tmod (sg 32 b) = z at *
      omega
  have hq := Nat.div_add_mod a b
  have hr := Nat.mod_lt a (Nat.pos_of_ne_zero h0)
  have f0 : ((b : Int) == 0) = false := by rw [beq_eq_false_iff_ne]; omega
  have HV14 : Hid (numN 32 14 a b 0 0 = (a / b, 0)) := by show divN 32 14 a b = _; rw [divN, if_neg h0, if_pos rfl]
  have HV16 : Hid (numN 32 16 a b 0 0 = (a % b, 0)) := by show divN 32 16 a b = _; rw [divN, if_neg h0, if_neg (by omega), if_pos rfl]
  have E14 : val 62 a b = a / b := by rw [show val 62 a b = (numN 32 14 a b 0 0).1 from val32 (k := 14) (by omega) la lb, HV14.out]
  have T14 : trap 62 a b = 0 := by rw [show trap 62 a b = (numN 32 14 a b 0 0).2 from trap32 (k := 14) (by omega) la lb, HV14.out]
  have E16 : val 64 a b = a % b := by rw [show val 64 a b = (numN 32 16 a b 0 0).1 from val32 (k := 16) (by omega) la lb, HV16.out]
  have T16 : trap 64 a b = 0 := by rw [show trap 64 a b = (numN 32 16 a b 0 0).2 from trap32 (k := 16) (by omega) la lb, HV16.out]
  have u1 : IntKind.u64.wrap (((a / b : Nat) : Int) * (b : Int)) = ((b * (a / b) : Nat) : Int) := by rw [show ((a / b : Nat) : Int) * (b : Int) = ((b * (a / b) : Nat) : Int) by rw [Nat.mul_comm]; simp]; exact w64_nat (by omega)
  have u2 : IntKind.u64.wrap (((b * (a / b) : Nat) : Int) + ((a % b : Nat) : Int)) = (a : Int) := by rw [show ((b * (a / b) : Nat) : Int) + ((a % b : Nat) : Int) = (a : Int) by omega]; exact w64_nat (by omega)
  generalize hQ : b * (a / b) = Q at *
  generalize a / b = q at *
  generalize a % b = r at *
  clear hq hQ
  generalize un 32 ((sg 32 a).tdiv (sg 32 b)) = s at *
  generalize hmm : un 32 ((sg 32 a).tmod (sg 32 b)) = m at *
  rw [← hsg] at hmod hsame
  have b1 : blw 32 m 0 = false := by rw [blw, sg_zero]; simpa using hm
  have b2 : blw 32 b 0 = false := by rw [blw, sg_zero]; simpa using hbs
  have hnf : m < b := by have := zm.2 hm; have := zb.2 hbs; omega
  have b4 : m = 0 ∨ blw 32 a 0 = false := by
    rcases hsame with c | c
    · left; rw [← sg_zero 32] at c; exact (sg_inj lm (by decide)).1 c
    · right; rw [blw, sg_zero]; simp; omega
  obtain ⟨P2, hP2⟩ : ∃ x, x = s * b % 18446744073709551616 := ⟨_, rfl⟩
  obtain ⟨P3, hP3⟩ : ∃ x, x = (P2 + m) % 18446744073709551616 := ⟨_, rfl⟩
  have v1 : IntKind.u64.wrap ((s : Int) * (b : Int)) = (P2 : Int) := by rw [IntKind.wrap_u64, hP2]; simp
  have v2 : IntKind.u64.wrap ((P2 : Int) + (m : Int)) = (P3 : Int) := by rw [IntKind.wrap_u64]; omega
  have v3 : bits .and .u64 (P3 : Int) 4294967295 = (a : Int) := by
    rw [mask_and P3 32 (by omega) (by omega) 4294967295 rfl]
    have e1 : P3 % 2 ^ 32 = (s * b + m) % 2 ^ 32 := by
      rw [hP3, Nat.mod_mod_of_dvd _ (show 2 ^ 32 ∣ 18446744073709551616 by decide), hP2, Nat.add_mod, Nat.mod_mod_of_dvd _ (show 2 ^ 32 ∣ 18446744073709551616 by decide), ← Nat.add_mod]
    rw [e1, hback]
  clear hP2 hP3 hback hmod hsg hsame hlt0 hbn zm zb hm hbs hl h0 hmm HD HV13 HV14 HV15 HV16
  by_cases m0 : m = 0
  · subst m0
    have v4 : IntKind.u64.wrap (P2 : Int) = (P3 : Int) := by rw [← v2]; simp
    clear v2
    rcases f12 with ⟨f1, f2⟩ | f1
    · go_enter Tryd.func9, Tryd.ntmps9
      go_wp2_with (first | (go_at_call 54; refine (law_do w _ _ _ _ _ rfl (by decide) (by first | assumption | omega | decide) (by first | assumption | omega | decide) (by assumption)).mono ?_; rintro e w' ⟨rfl, hs'⟩) | (go_at_call 55; refine (law_below _ _ _ 32 2147483648 rfl (by decide) (by decide) (by assumption) (by first | assumption | decide)).mono ?_; rintro e w' ⟨rfl, rfl⟩) | (go_at_call 53; refine (law_works07 w _ (by assumption)).mono ?_; rintro e w' ⟨rfl, hz'⟩))
      all_goals go_ret
      all_goals exact ⟨rfl, hz'.bel⟩
    · go_enter Tryd.func9, Tryd.ntmps9
      go_wp2_with (first | (go_at_call 54; refine (law_do w _ _ _ _ _ rfl (by decide) (by first | assumption | omega | decide) (by first | assumption | omega | decide) (by assumption)).mono ?_; rintro e w' ⟨rfl, hs'⟩) | (go_at_call 55; refine (law_below _ _ _ 32 2147483648 rfl (by decide) (by decide) (by assumption) (by first | assumption | decide)).mono ?_; rintro e w' ⟨rfl, rfl⟩) | (go_at_call 53; refine (law_works07 w _ (by assumption)).mono ?_; rintro e w' ⟨rfl, hz'⟩))
      all_goals go_ret
      all_goals exact ⟨rfl, hz'.bel⟩
  · have b5 := b4.resolve_left m0
    clear b4 m0
    rcases f12 with ⟨f1, f2⟩ | f1
    · go_enter Tryd.func9, Tryd.ntmps9
      go_wp2_with (first | (go_at_call 54; refine (law_do w _ _ _ _ _ rfl (by decide) (by first | assumption | omega | decide) (by first | assumption | omega | decide) (by assumption)).mono ?_; rintro e w' ⟨rfl, hs'⟩) | (go_at_call 55; refine (law_below _ _ _ 32 2147483648 rfl (by decide) (by decide) (by assumption) (by first | assumption | decide)).mono ?_; rintro e w' ⟨rfl, rfl⟩) | (go_at_call 53; refine (law_works07 w _ (by assumption)).mono ?_; rintro e w' ⟨rfl, hz'⟩))
      all_goals go_ret
      all_goals exact ⟨rfl, hz'.bel⟩
    · go_enter Tryd.func9, Tryd.ntmps9
      go_wp2_with (first | (go_at_call 54; refine (law_do w _ _ _ _ _ rfl (by decide) (by first | assumption | omega | decide) (by first | assumption | omega | decide) (by assumption)).mono ?_; rintro e w' ⟨rfl, hs'⟩) | (go_at_call 55; refine (law_below _ _ _ 32 2147483648 rfl (by decide) (by decide) (by assumption) (by first | assumption | decide)).mono ?_; rintro e w' ⟨rfl, rfl⟩) | (go_at_call 53; refine (law_works07 w _ (by assumption)).mono ?_; rintro e w' ⟨rfl, hz'⟩))
      all_goals go_ret
      all_goals exact ⟨rfl, hz'.bel⟩

set_option maxRecDepth 100000 in
set_option maxHeartbeats 12800000 in
theorem law_divide32_s01 (w : World) (a0 b0 a b : Nat) (M1 : bits .and .u64 (a0 : Int) 4294967295 = (a : Int)) (M2 : bits .and .u64 (b0 : Int) 4294967295 = (b : Int)) (la : a < 4294967296) (lb : b < 4294967296) (hs : Wd w w) (h0 : b ≠ 0) (hl : ¬ (a = 2 ^ (32 - 1) ∧ b = 2 ^ 32 - 1)) (hm : ¬ sg 32 (un 32 ((sg 32 a).tmod (sg 32 b))) < 0) (hbs : sg 32 b < 0) :
    Calls Tryd.prog 9 #[.int .u64 a0, .int .u64 b0, .bool false] w fun e w' => e = .returned (.bool true) ∧ Below w.heap.size w w' := by
  have HD := Lib.hid (sg_divide (n := 32) (by omega) la lb h0)
  have HV13 : Hid (numN 32 13 a b 0 0 = (un 32 ((sg 32 a).tdiv (sg 32 b)), 0)) := by show divN 32 13 a b = _; rw [divN, if_neg h0, if_neg (by omega), if_neg (by omega), if_neg hl, if_neg (by omega)]
  have HV15 : Hid (numN 32 15 a b 0 0 = (un 32 ((sg 32 a).tmod (sg 32 b)), 0)) := by show divN 32 15 a b = _; rw [divN, if_neg h0, if_neg (by omega), if_neg (by omega), if_neg hl, if_pos rfl]
  have E13 : val 61 a b = un 32 ((sg 32 a).tdiv (sg 32 b)) := by rw [show val 61 a b = (numN 32 13 a b 0 0).1 from val32 (k := 13) (by omega) la lb, HV13.out]
  have T13 : trap 61 a b = 0 := by rw [show trap 61 a b = (numN 32 13 a b 0 0).2 from trap32 (k := 13) (by omega) la lb, HV13.out]
  have E15 : val 63 a b = un 32 ((sg 32 a).tmod (sg 32 b)) := by rw [show val 63 a b = (numN 32 15 a b 0 0).1 from val32 (k := 15) (by omega) la lb, HV15.out]
  have T15 : trap 63 a b = 0 := by rw [show trap 63 a b = (numN 32 15 a b 0 0).2 from trap32 (k := 15) (by omega) la lb, HV15.out]
  have lm : un 32 ((sg 32 a).tmod (sg 32 b)) < 4294967296 := un_lt _ _
  have ls : un 32 ((sg 32 a).tdiv (sg 32 b)) < 4294967296 := un_lt _ _
  have f12 : (((a : Int) == 2147483648) = true ∧ ((b : Int) == 4294967295) = false) ∨ ((a : Int) == 2147483648) = false := by rw [beq_iff_eq, beq_eq_false_iff_ne, beq_eq_false_iff_ne]; omega
  have zm := size_sg (n := 32) (by omega) lm
  have zb := size_sg (n := 32) (by omega) lb
  have hmod := Int.natAbs_tmod (sg 32 a) (sg 32 b)
  have hsg := HD.out.2
  have hback := HD.out.1
  have hbn : (sg 32 b).natAbs ≠ 0 := by intro c; have c2 := Int.natAbs_eq_zero.1 c; rw [← sg_zero 32] at c2; exact h0 ((sg_inj lb (by decide)).1 c2)
  have hlt0 : (sg 32 a).natAbs % (sg 32 b).natAbs < (sg 32 b).natAbs := Nat.mod_lt _ (Nat.pos_of_ne_zero hbn)
  have hsame : (sg 32 a).tmod (sg 32 b) = 0 ∨ ((sg 32 a).tmod (sg 32 b) < 0 ↔ sg 32 a < 0) := by
    rcases Int.lt_or_le (sg 32 a) 0 with c | c
    · have h := Int.tmod_nonneg (sg 32 b) (show 0 ≤ -sg 32 a by omega)
      rw [Int.neg_tmod] at h
      generalize (sg 32 a).tmod (sg 32 b) = z at *
      omega
    · have h := Int.tmod_nonneg (sg 32 b) c
      generalize (sg 32 a).tmod (sg 32 b) = z at *
      omega
  have hq := Nat.div_add_mod a b
  have hr := Nat.mod_lt a (Nat.pos_of_ne_zero h0)
  have f0 : ((b : Int) == 0) = false := by rw [beq_eq_false_iff_ne]; omega
  have HV14 : Hid (numN 32 14 a b 0 0 = (a / b, 0)) := by show divN 32 14 a b = _; rw [divN, if_neg h0, if_pos rfl]
  have HV16 : Hid (numN 32 16 a b 0 0 = (a % b, 0)) := by show divN 32 16 a b = _; rw [divN, if_neg h0, if_neg (by omega), if_pos rfl]
  have E14 : val 62 a b = a / b := by rw [show val 62 a b = (numN 32 14 a b 0 0).1 from val32 (k := 14) (by omega) la lb, HV14.out]
  have T14 : trap 62 a b = 0 := by rw [show trap 62 a b = (numN 32 14 a b 0 0).2 from trap32 (k := 14) (by omega) la lb, HV14.out]
  have E16 : val 64 a b = a % b := by rw [show val 64 a b = (numN 32 16 a b 0 0).1 from val32 (k := 16) (by omega) la lb, HV16.out]
  have T16 : trap 64 a b = 0 := by rw [show trap 64 a b = (numN 32 16 a b 0 0).2 from trap32 (k := 16) (by omega) la lb, HV16.out]
  have u1 : IntKind.u64.wrap (((a / b : Nat) : Int) * (b : Int)) = ((b * (a / b) : Nat) : Int) := by rw [show ((a / b : Nat) : Int) * (b : Int) = ((b * (a / b) : Nat) : Int) by rw [Nat.mul_comm]; simp]; exact w64_nat (by omega)
  have u2 : IntKind.u64.wrap (((b * (a / b) : Nat) : Int) + ((a % b : Nat) : Int)) = (a : Int) := by rw [show ((b * (a / b) : Nat) : Int) + ((a % b : Nat) : Int) = (a : Int) by omega]; exact w64_nat (by omega)
  generalize hQ : b * (a / b) = Q at *
  generalize a / b = q at *
  generalize a % b = r at *
  clear hq hQ
  generalize un 32 ((sg 32 a).tdiv (sg 32 b)) = s at *
  generalize hmm : un 32 ((sg 32 a).tmod (sg 32 b)) = m at *
  rw [← hsg] at hmod hsame
  have b1 : blw 32 m 0 = false := by rw [blw, sg_zero]; simpa using hm
  have b2 : blw 32 b 0 = true := by rw [blw, sg_zero]; simpa using hbs
  have hnf : m < (2 ^ 32 - b) := by have := zm.2 hm; have := zb.1 hbs |>.2; omega
  have n2 := neg_mask b 32 (by omega) (zb.1 hbs).1 lb 4294967295 rfl
  generalize 2 ^ 32 - b = far at *
  have b4 : m = 0 ∨ blw 32 a 0 = false := by
    rcases hsame with c | c
    · left; rw [← sg_zero 32] at c; exact (sg_inj lm (by decide)).1 c
    · right; rw [blw, sg_zero]; simp; omega
  obtain ⟨P2, hP2⟩ : ∃ x, x = s * b % 18446744073709551616 := ⟨_, rfl⟩
  obtain ⟨P3, hP3⟩ : ∃ x, x = (P2 + m) % 18446744073709551616 := ⟨_, rfl⟩
  have v1 : IntKind.u64.wrap ((s : Int) * (b : Int)) = (P2 : Int) := by rw [IntKind.wrap_u64, hP2]; simp
  have v2 : IntKind.u64.wrap ((P2 : Int) + (m : Int)) = (P3 : Int) := by rw [IntKind.wrap_u64]; omega
  have v3 : bits .and .u64 (P3 : Int) 4294967295 = (a : Int) := by
    rw [mask_and P3 32 (by omega) (by omega) 4294967295 rfl]
    have e1 : P3 % 2 ^ 32 = (s * b + m) % 2 ^ 32 := by
      rw [hP3, Nat.mod_mod_of_dvd _ (show 2 ^ 32 ∣ 18446744073709551616 by decide), hP2, Nat.add_mod, Nat.mod_mod_of_dvd _ (show 2 ^ 32 ∣ 18446744073709551616 by decide), ← Nat.add_mod]
    rw [e1, hback]
  clear hP2 hP3 hback hmod hsg hsame hlt0 hbn zm zb hm hbs hl h0 hmm HD HV13 HV14 HV15 HV16
  by_cases m0 : m = 0
  · subst m0
    have v4 : IntKind.u64.wrap (P2 : Int) = (P3 : Int) := by rw [← v2]; simp
    clear v2
    rcases f12 with ⟨f1, f2⟩ | f1
    · go_enter Tryd.func9, Tryd.ntmps9
      go_wp2_with (first | (go_at_call 54; refine (law_do w _ _ _ _ _ rfl (by decide) (by first | assumption | omega | decide) (by first | assumption | omega | decide) (by assumption)).mono ?_; rintro e w' ⟨rfl, hs'⟩) | (go_at_call 55; refine (law_below _ _ _ 32 2147483648 rfl (by decide) (by decide) (by assumption) (by first | assumption | decide)).mono ?_; rintro e w' ⟨rfl, rfl⟩) | (go_at_call 53; refine (law_works07 w _ (by assumption)).mono ?_; rintro e w' ⟨rfl, hz'⟩))
      all_goals go_ret
      all_goals exact ⟨rfl, hz'.bel⟩
    · go_enter Tryd.func9, Tryd.ntmps9
      go_wp2_with (first | (go_at_call 54; refine (law_do w _ _ _ _ _ rfl (by decide) (by first | assumption | omega | decide) (by first | assumption | omega | decide) (by assumption)).mono ?_; rintro e w' ⟨rfl, hs'⟩) | (go_at_call 55; refine (law_below _ _ _ 32 2147483648 rfl (by decide) (by decide) (by assumption) (by first | assumption | decide)).mono ?_; rintro e w' ⟨rfl, rfl⟩) | (go_at_call 53; refine (law_works07 w _ (by assumption)).mono ?_; rintro e w' ⟨rfl, hz'⟩))
      all_goals go_ret
      all_goals exact ⟨rfl, hz'.bel⟩
  · have b5 := b4.resolve_left m0
    clear b4 m0
    rcases f12 with ⟨f1, f2⟩ | f1
    · go_enter Tryd.func9, Tryd.ntmps9
      go_wp2_with (first | (go_at_call 54; refine (law_do w _ _ _ _ _ rfl (by decide) (by first | assumption | omega | decide) (by first | assumption | omega | decide) (by assumption)).mono ?_; rintro e w' ⟨rfl, hs'⟩) | (go_at_call 55; refine (law_below _ _ _ 32 2147483648 rfl (by decide) (by decide) (by assumption) (by first | assumption | decide)).mono ?_; rintro e w' ⟨rfl, rfl⟩) | (go_at_call 53; refine (law_works07 w _ (by assumption)).mono ?_; rintro e w' ⟨rfl, hz'⟩))
      all_goals go_ret
      all_goals exact ⟨rfl, hz'.bel⟩
    · go_enter Tryd.func9, Tryd.ntmps9
      go_wp2_with (first | (go_at_call 54; refine (law_do w _ _ _ _ _ rfl (by decide) (by first | assumption | omega | decide) (by first | assumption | omega | decide) (by assumption)).mono ?_; rintro e w' ⟨rfl, hs'⟩) | (go_at_call 55; refine (law_below _ _ _ 32 2147483648 rfl (by decide) (by decide) (by assumption) (by first | assumption | decide)).mono ?_; rintro e w' ⟨rfl, rfl⟩) | (go_at_call 53; refine (law_works07 w _ (by assumption)).mono ?_; rintro e w' ⟨rfl, hz'⟩))
      all_goals go_ret
      all_goals exact ⟨rfl, hz'.bel⟩

set_option maxRecDepth 100000 in
set_option maxHeartbeats 12800000 in
theorem law_divide32_s10 (w : World) (a0 b0 a b : Nat) (M1 : bits .and .u64 (a0 : Int) 4294967295 = (a : Int)) (M2 : bits .and .u64 (b0 : Int) 4294967295 = (b : Int)) (la : a < 4294967296) (lb : b < 4294967296) (hs : Wd w w) (h0 : b ≠ 0) (hl : ¬ (a = 2 ^ (32 - 1) ∧ b = 2 ^ 32 - 1)) (hm : sg 32 (un 32 ((sg 32 a).tmod (sg 32 b))) < 0) (hbs : ¬ sg 32 b < 0) :
    Calls Tryd.prog 9 #[.int .u64 a0, .int .u64 b0, .bool false] w fun e w' => e = .returned (.bool true) ∧ Below w.heap.size w w' := by
  have HD := Lib.hid (sg_divide (n := 32) (by omega) la lb h0)
  have HV13 : Hid (numN 32 13 a b 0 0 = (un 32 ((sg 32 a).tdiv (sg 32 b)), 0)) := by show divN 32 13 a b = _; rw [divN, if_neg h0, if_neg (by omega), if_neg (by omega), if_neg hl, if_neg (by omega)]
  have HV15 : Hid (numN 32 15 a b 0 0 = (un 32 ((sg 32 a).tmod (sg 32 b)), 0)) := by show divN 32 15 a b = _; rw [divN, if_neg h0, if_neg (by omega), if_neg (by omega), if_neg hl, if_pos rfl]
  have E13 : val 61 a b = un 32 ((sg 32 a).tdiv (sg 32 b)) := by rw [show val 61 a b = (numN 32 13 a b 0 0).1 from val32 (k := 13) (by omega) la lb, HV13.out]
  have T13 : trap 61 a b = 0 := by rw [show trap 61 a b = (numN 32 13 a b 0 0).2 from trap32 (k := 13) (by omega) la lb, HV13.out]
  have E15 : val 63 a b = un 32 ((sg 32 a).tmod (sg 32 b)) := by rw [show val 63 a b = (numN 32 15 a b 0 0).1 from val32 (k := 15) (by omega) la lb, HV15.out]
  have T15 : trap 63 a b = 0 := by rw [show trap 63 a b = (numN 32 15 a b 0 0).2 from trap32 (k := 15) (by omega) la lb, HV15.out]
  have lm : un 32 ((sg 32 a).tmod (sg 32 b)) < 4294967296 := un_lt _ _
  have ls : un 32 ((sg 32 a).tdiv (sg 32 b)) < 4294967296 := un_lt _ _
  have f12 : (((a : Int) == 2147483648) = true ∧ ((b : Int) == 4294967295) = false) ∨ ((a : Int) == 2147483648) = false := by rw [beq_iff_eq, beq_eq_false_iff_ne, beq_eq_false_iff_ne]; omega
  have zm := size_sg (n := 32) (by omega) lm
  have zb := size_sg (n := 32) (by omega) lb
  have hmod := Int.natAbs_tmod (sg 32 a) (sg 32 b)
  have hsg := HD.out.2
  have hback := HD.out.1
  have hbn : (sg 32 b).natAbs ≠ 0 := by intro c; have c2 := Int.natAbs_eq_zero.1 c; rw [← sg_zero 32] at c2; exact h0 ((sg_inj lb (by decide)).1 c2)
  have hlt0 : (sg 32 a).natAbs % (sg 32 b).natAbs < (sg 32 b).natAbs := Nat.mod_lt _ (Nat.pos_of_ne_zero hbn)
  have hsame : (sg 32 a).tmod (sg 32 b) = 0 ∨ ((sg 32 a).tmod (sg 32 b) < 0 ↔ sg 32 a < 0) := by
    rcases Int.lt_or_le (sg 32 a) 0 with c | c
    · have h := Int.tmod_nonneg (sg 32 b) (show 0 ≤ -sg 32 a by omega)
      rw [Int.neg_tmod] at h
      generalize (sg 32 a).tmod (sg 32 b) = z at *
      omega
    · have h := Int.tmod_nonneg (sg 32 b) c
      generalize (sg 32 a).tmod (sg 32 b) = z at *
      omega
  have hq := Nat.div_add_mod a b
  have hr := Nat.mod_lt a (Nat.pos_of_ne_zero h0)
  have f0 : ((b : Int) == 0) = false := by rw [beq_eq_false_iff_ne]; omega
  have HV14 : Hid (numN 32 14 a b 0 0 = (a / b, 0)) := by show divN 32 14 a b = _; rw [divN, if_neg h0, if_pos rfl]
  have HV16 : Hid (numN 32 16 a b 0 0 = (a % b, 0)) := by show divN 32 16 a b = _; rw [divN, if_neg h0, if_neg (by omega), if_pos rfl]
  have E14 : val 62 a b = a / b := by rw [show val 62 a b = (numN 32 14 a b 0 0).1 from val32 (k := 14) (by omega) la lb, HV14.out]
  have T14 : trap 62 a b = 0 := by rw [show trap 62 a b = (numN 32 14 a b 0 0).2 from trap32 (k := 14) (by omega) la lb, HV14.out]
  have E16 : val 64 a b = a % b := by rw [show val 64 a b = (numN 32 16 a b 0 0).1 from val32 (k := 16) (by omega) la lb, HV16.out]
  have T16 : trap 64 a b = 0 := by rw [show trap 64 a b = (numN 32 16 a b 0 0).2 from trap32 (k := 16) (by omega) la lb, HV16.out]
  have u1 : IntKind.u64.wrap (((a / b : Nat) : Int) * (b : Int)) = ((b * (a / b) : Nat) : Int) := by rw [show ((a / b : Nat) : Int) * (b : Int) = ((b * (a / b) : Nat) : Int) by rw [Nat.mul_comm]; simp]; exact w64_nat (by omega)
  have u2 : IntKind.u64.wrap (((b * (a / b) : Nat) : Int) + ((a % b : Nat) : Int)) = (a : Int) := by rw [show ((b * (a / b) : Nat) : Int) + ((a % b : Nat) : Int) = (a : Int) by omega]; exact w64_nat (by omega)
  generalize hQ : b * (a / b) = Q at *
  generalize a / b = q at *
  generalize a % b = r at *
  clear hq hQ
  generalize un 32 ((sg 32 a).tdiv (sg 32 b)) = s at *
  generalize hmm : un 32 ((sg 32 a).tmod (sg 32 b)) = m at *
  rw [← hsg] at hmod hsame
  have b1 : blw 32 m 0 = true := by rw [blw, sg_zero]; simpa using hm
  have b2 : blw 32 b 0 = false := by rw [blw, sg_zero]; simpa using hbs
  have hnf : (2 ^ 32 - m) < b := by have := zm.1 hm |>.2; have := zb.2 hbs; omega
  have n1 := neg_mask m 32 (by omega) (zm.1 hm).1 lm 4294967295 rfl
  generalize 2 ^ 32 - m = near at *
  have b3 : blw 32 a 0 = true := by rw [blw, sg_zero]; simp; omega
  obtain ⟨P2, hP2⟩ : ∃ x, x = s * b % 18446744073709551616 := ⟨_, rfl⟩
  obtain ⟨P3, hP3⟩ : ∃ x, x = (P2 + m) % 18446744073709551616 := ⟨_, rfl⟩
  have v1 : IntKind.u64.wrap ((s : Int) * (b : Int)) = (P2 : Int) := by rw [IntKind.wrap_u64, hP2]; simp
  have v2 : IntKind.u64.wrap ((P2 : Int) + (m : Int)) = (P3 : Int) := by rw [IntKind.wrap_u64]; omega
  have v3 : bits .and .u64 (P3 : Int) 4294967295 = (a : Int) := by
    rw [mask_and P3 32 (by omega) (by omega) 4294967295 rfl]
    have e1 : P3 % 2 ^ 32 = (s * b + m) % 2 ^ 32 := by
      rw [hP3, Nat.mod_mod_of_dvd _ (show 2 ^ 32 ∣ 18446744073709551616 by decide), hP2, Nat.add_mod, Nat.mod_mod_of_dvd _ (show 2 ^ 32 ∣ 18446744073709551616 by decide), ← Nat.add_mod]
    rw [e1, hback]
  clear hP2 hP3 hback hmod hsg hsame hlt0 hbn zm zb hm hbs hl h0 hmm HD HV13 HV14 HV15 HV16
  rcases f12 with ⟨f1, f2⟩ | f1
  · go_enter Tryd.func9, Tryd.ntmps9
    go_wp2_with (first | (go_at_call 54; refine (law_do w _ _ _ _ _ rfl (by decide) (by first | assumption | omega | decide) (by first | assumption | omega | decide) (by assumption)).mono ?_; rintro e w' ⟨rfl, hs'⟩) | (go_at_call 55; refine (law_below _ _ _ 32 2147483648 rfl (by decide) (by decide) (by assumption) (by first | assumption | decide)).mono ?_; rintro e w' ⟨rfl, rfl⟩) | (go_at_call 53; refine (law_works07 w _ (by assumption)).mono ?_; rintro e w' ⟨rfl, hz'⟩))
    all_goals go_ret
    all_goals exact ⟨rfl, hz'.bel⟩
  · go_enter Tryd.func9, Tryd.ntmps9
    go_wp2_with (first | (go_at_call 54; refine (law_do w _ _ _ _ _ rfl (by decide) (by first | assumption | omega | decide) (by first | assumption | omega | decide) (by assumption)).mono ?_; rintro e w' ⟨rfl, hs'⟩) | (go_at_call 55; refine (law_below _ _ _ 32 2147483648 rfl (by decide) (by decide) (by assumption) (by first | assumption | decide)).mono ?_; rintro e w' ⟨rfl, rfl⟩) | (go_at_call 53; refine (law_works07 w _ (by assumption)).mono ?_; rintro e w' ⟨rfl, hz'⟩))
    all_goals go_ret
    all_goals exact ⟨rfl, hz'.bel⟩

set_option maxRecDepth 100000 in
set_option maxHeartbeats 12800000 in
theorem law_divide32_s11 (w : World) (a0 b0 a b : Nat) (M1 : bits .and .u64 (a0 : Int) 4294967295 = (a : Int)) (M2 : bits .and .u64 (b0 : Int) 4294967295 = (b : Int)) (la : a < 4294967296) (lb : b < 4294967296) (hs : Wd w w) (h0 : b ≠ 0) (hl : ¬ (a = 2 ^ (32 - 1) ∧ b = 2 ^ 32 - 1)) (hm : sg 32 (un 32 ((sg 32 a).tmod (sg 32 b))) < 0) (hbs : sg 32 b < 0) :
    Calls Tryd.prog 9 #[.int .u64 a0, .int .u64 b0, .bool false] w fun e w' => e = .returned (.bool true) ∧ Below w.heap.size w w' := by
  have HD := Lib.hid (sg_divide (n := 32) (by omega) la lb h0)
  have HV13 : Hid (numN 32 13 a b 0 0 = (un 32 ((sg 32 a).tdiv (sg 32 b)), 0)) := by show divN 32 13 a b = _; rw [divN, if_neg h0, if_neg (by omega), if_neg (by omega), if_neg hl, if_neg (by omega)]
  have HV15 : Hid (numN 32 15 a b 0 0 = (un 32 ((sg 32 a).tmod (sg 32 b)), 0)) := by show divN 32 15 a b = _; rw [divN, if_neg h0, if_neg (by omega), if_neg (by omega), if_neg hl, if_pos rfl]
  have E13 : val 61 a b = un 32 ((sg 32 a).tdiv (sg 32 b)) := by rw [show val 61 a b = (numN 32 13 a b 0 0).1 from val32 (k := 13) (by omega) la lb, HV13.out]
  have T13 : trap 61 a b = 0 := by rw [show trap 61 a b = (numN 32 13 a b 0 0).2 from trap32 (k := 13) (by omega) la lb, HV13.out]
  have E15 : val 63 a b = un 32 ((sg 32 a).tmod (sg 32 b)) := by rw [show val 63 a b = (numN 32 15 a b 0 0).1 from val32 (k := 15) (by omega) la lb, HV15.out]
  have T15 : trap 63 a b = 0 := by rw [show trap 63 a b = (numN 32 15 a b 0 0).2 from trap32 (k := 15) (by omega) la lb, HV15.out]
  have lm : un 32 ((sg 32 a).tmod (sg 32 b)) < 4294967296 := un_lt _ _
  have ls : un 32 ((sg 32 a).tdiv (sg 32 b)) < 4294967296 := un_lt _ _
  have f12 : (((a : Int) == 2147483648) = true ∧ ((b : Int) == 4294967295) = false) ∨ ((a : Int) == 2147483648) = false := by rw [beq_iff_eq, beq_eq_false_iff_ne, beq_eq_false_iff_ne]; omega
  have zm := size_sg (n := 32) (by omega) lm
  have zb := size_sg (n := 32) (by omega) lb
  have hmod := Int.natAbs_tmod (sg 32 a) (sg 32 b)
  have hsg := HD.out.2
  have hback := HD.out.1
  have hbn : (sg 32 b).natAbs ≠ 0 := by intro c; have c2 := Int.natAbs_eq_zero.1 c; rw [← sg_zero 32] at c2; exact h0 ((sg_inj lb (by decide)).1 c2)
  have hlt0 : (sg 32 a).natAbs % (sg 32 b).natAbs < (sg 32 b).natAbs := Nat.mod_lt _ (Nat.pos_of_ne_zero hbn)
  have hsame : (sg 32 a).tmod (sg 32 b) = 0 ∨ ((sg 32 a).tmod (sg 32 b) < 0 ↔ sg 32 a < 0) := by
    rcases Int.lt_or_le (sg 32 a) 0 with c | c
    · have h := Int.tmod_nonneg (sg 32 b) (show 0 ≤ -sg 32 a by omega)
      rw [Int.neg_tmod] at h
      generalize (sg 32 a).tmod (sg 32 b) = z at *
      omega
    · have h := Int.tmod_nonneg (sg 32 b) c
      generalize (sg 32 a).tmod (sg 32 b) = z at *
      omega
  have hq := Nat.div_add_mod a b
  have hr := Nat.mod_lt a (Nat.pos_of_ne_zero h0)
  have f0 : ((b : Int) == 0) = false := by rw [beq_eq_false_iff_ne]; omega
  have HV14 : Hid (numN 32 14 a b 0 0 = (a / b, 0)) := by show divN 32 14 a b = _; rw [divN, if_neg h0, if_pos rfl]
  have HV16 : Hid (numN 32 16 a b 0 0 = (a % b, 0)) := by show divN 32 16 a b = _; rw [divN, if_neg h0, if_neg (by omega), if_pos rfl]
  have E14 : val 62 a b = a / b := by rw [show val 62 a b = (numN 32 14 a b 0 0).1 from val32 (k := 14) (by omega) la lb, HV14.out]
  have T14 : trap 62 a b = 0 := by rw [show trap 62 a b = (numN 32 14 a b 0 0).2 from trap32 (k := 14) (by omega) la lb, HV14.out]
  have E16 : val 64 a b = a % b := by rw [show val 64 a b = (numN 32 16 a b 0 0).1 from val32 (k := 16) (by omega) la lb, HV16.out]
  have T16 : trap 64 a b = 0 := by rw [show trap 64 a b = (numN 32 16 a b 0 0).2 from trap32 (k := 16) (by omega) la lb, HV16.out]
  have u1 : IntKind.u64.wrap (((a / b : Nat) : Int) * (b : Int)) = ((b * (a / b) : Nat) : Int) := by rw [show ((a / b : Nat) : Int) * (b : Int) = ((b * (a / b) : Nat) : Int) by rw [Nat.mul_comm]; simp]; exact w64_nat (by omega)
  have u2 : IntKind.u64.wrap (((b * (a / b) : Nat) : Int) + ((a % b : Nat) : Int)) = (a : Int) := by rw [show ((b * (a / b) : Nat) : Int) + ((a % b : Nat) : Int) = (a : Int) by omega]; exact w64_nat (by omega)
  generalize hQ : b * (a / b) = Q at *
  generalize a / b = q at *
  generalize a % b = r at *
  clear hq hQ
  generalize un 32 ((sg 32 a).tdiv (sg 32 b)) = s at *
  generalize hmm : un 32 ((sg 32 a).tmod (sg 32 b)) = m at *
  rw [← hsg] at hmod hsame
  have b1 : blw 32 m 0 = true := by rw [blw, sg_zero]; simpa using hm
  have b2 : blw 32 b 0 = true := by rw [blw, sg_zero]; simpa using hbs
  have hnf : (2 ^ 32 - m) < (2 ^ 32 - b) := by have := zm.1 hm |>.2; have := zb.1 hbs |>.2; omega
  have n1 := neg_mask m 32 (by omega) (zm.1 hm).1 lm 4294967295 rfl
  have n2 := neg_mask b 32 (by omega) (zb.1 hbs).1 lb 4294967295 rfl
  generalize 2 ^ 32 - m = near at *
  generalize 2 ^ 32 - b = far at *
  have b3 : blw 32 a 0 = true := by rw [blw, sg_zero]; simp; omega
  obtain ⟨P2, hP2⟩ : ∃ x, x = s * b % 18446744073709551616 := ⟨_, rfl⟩
  obtain ⟨P3, hP3⟩ : ∃ x, x = (P2 + m) % 18446744073709551616 := ⟨_, rfl⟩
  have v1 : IntKind.u64.wrap ((s : Int) * (b : Int)) = (P2 : Int) := by rw [IntKind.wrap_u64, hP2]; simp
  have v2 : IntKind.u64.wrap ((P2 : Int) + (m : Int)) = (P3 : Int) := by rw [IntKind.wrap_u64]; omega
  have v3 : bits .and .u64 (P3 : Int) 4294967295 = (a : Int) := by
    rw [mask_and P3 32 (by omega) (by omega) 4294967295 rfl]
    have e1 : P3 % 2 ^ 32 = (s * b + m) % 2 ^ 32 := by
      rw [hP3, Nat.mod_mod_of_dvd _ (show 2 ^ 32 ∣ 18446744073709551616 by decide), hP2, Nat.add_mod, Nat.mod_mod_of_dvd _ (show 2 ^ 32 ∣ 18446744073709551616 by decide), ← Nat.add_mod]
    rw [e1, hback]
  clear hP2 hP3 hback hmod hsg hsame hlt0 hbn zm zb hm hbs hl h0 hmm HD HV13 HV14 HV15 HV16
  rcases f12 with ⟨f1, f2⟩ | f1
  · go_enter Tryd.func9, Tryd.ntmps9
    go_wp2_with (first | (go_at_call 54; refine (law_do w _ _ _ _ _ rfl (by decide) (by first | assumption | omega | decide) (by first | assumption | omega | decide) (by assumption)).mono ?_; rintro e w' ⟨rfl, hs'⟩) | (go_at_call 55; refine (law_below _ _ _ 32 2147483648 rfl (by decide) (by decide) (by assumption) (by first | assumption | decide)).mono ?_; rintro e w' ⟨rfl, rfl⟩) | (go_at_call 53; refine (law_works07 w _ (by assumption)).mono ?_; rintro e w' ⟨rfl, hz'⟩))
    all_goals go_ret
    all_goals exact ⟨rfl, hz'.bel⟩
  · go_enter Tryd.func9, Tryd.ntmps9
    go_wp2_with (first | (go_at_call 54; refine (law_do w _ _ _ _ _ rfl (by decide) (by first | assumption | omega | decide) (by first | assumption | omega | decide) (by assumption)).mono ?_; rintro e w' ⟨rfl, hs'⟩) | (go_at_call 55; refine (law_below _ _ _ 32 2147483648 rfl (by decide) (by decide) (by assumption) (by first | assumption | decide)).mono ?_; rintro e w' ⟨rfl, rfl⟩) | (go_at_call 53; refine (law_works07 w _ (by assumption)).mono ?_; rintro e w' ⟨rfl, hz'⟩))
    all_goals go_ret
    all_goals exact ⟨rfl, hz'.bel⟩

set_option maxRecDepth 100000 in
set_option maxHeartbeats 12800000 in
theorem law_divide64_zero (w : World) (a0 b0 a b : Nat) (M1 : bits .and .u64 (a0 : Int) 18446744073709551615 = (a : Int)) (M2 : bits .and .u64 (b0 : Int) 18446744073709551615 = (b : Int)) (la : a < 18446744073709551616) (lb : b < 18446744073709551616) (hs : Wd w w) (h0 : b = 0) :
    Calls Tryd.prog 9 #[.int .u64 a0, .int .u64 b0, .bool true] w fun e w' => e = .returned (.bool true) ∧ Below w.heap.size w w' := by
  have HV13 : Hid (numN 64 13 a b 0 0 = (0, 3)) := by show divN 64 13 a b = _; rw [divN, if_pos h0]
  have HV14 : Hid (numN 64 14 a b 0 0 = (0, 3)) := by show divN 64 14 a b = _; rw [divN, if_pos h0]
  have HV15 : Hid (numN 64 15 a b 0 0 = (0, 3)) := by show divN 64 15 a b = _; rw [divN, if_pos h0]
  have HV16 : Hid (numN 64 16 a b 0 0 = (0, 3)) := by show divN 64 16 a b = _; rw [divN, if_pos h0]
  have E13 : val 93 a b = 0 := by rw [show val 93 a b = (numN 64 13 a b 0 0).1 from val64 (k := 13) (by omega), HV13.out]
  have T13 : trap 93 a b = 3 := by rw [show trap 93 a b = (numN 64 13 a b 0 0).2 from trap64 (k := 13) (by omega), HV13.out]
  have E14 : val 94 a b = 0 := by rw [show val 94 a b = (numN 64 14 a b 0 0).1 from val64 (k := 14) (by omega), HV14.out]
  have T14 : trap 94 a b = 3 := by rw [show trap 94 a b = (numN 64 14 a b 0 0).2 from trap64 (k := 14) (by omega), HV14.out]
  have E15 : val 95 a b = 0 := by rw [show val 95 a b = (numN 64 15 a b 0 0).1 from val64 (k := 15) (by omega), HV15.out]
  have T15 : trap 95 a b = 3 := by rw [show trap 95 a b = (numN 64 15 a b 0 0).2 from trap64 (k := 15) (by omega), HV15.out]
  have E16 : val 96 a b = 0 := by rw [show val 96 a b = (numN 64 16 a b 0 0).1 from val64 (k := 16) (by omega), HV16.out]
  have T16 : trap 96 a b = 3 := by rw [show trap 96 a b = (numN 64 16 a b 0 0).2 from trap64 (k := 16) (by omega), HV16.out]
  have f0 : ((b : Int) == 0) = true := by rw [beq_iff_eq]; omega
  clear h0
  go_enter Tryd.func9, Tryd.ntmps9
  go_wp2_with (first | (go_at_call 54; refine (law_do w _ _ _ _ _ rfl (by decide) (by first | assumption | omega | decide) (by first | assumption | omega | decide) (by assumption)).mono ?_; rintro e w' ⟨rfl, hs'⟩) | (go_at_call 55; refine (law_below _ _ _ 64 9223372036854775808 rfl (by decide) (by decide) (by assumption) (by first | assumption | decide)).mono ?_; rintro e w' ⟨rfl, rfl⟩) | (go_at_call 53; refine (law_works07 w _ (by assumption)).mono ?_; rintro e w' ⟨rfl, hz'⟩))
  all_goals go_ret
  all_goals exact ⟨rfl, hz'.bel⟩

set_option maxRecDepth 100000 in
set_option maxHeartbeats 12800000 in
theorem law_divide64_least (w : World) (a0 b0 a b : Nat) (M1 : bits .and .u64 (a0 : Int) 18446744073709551615 = (a : Int)) (M2 : bits .and .u64 (b0 : Int) 18446744073709551615 = (b : Int)) (la : a < 18446744073709551616) (lb : b < 18446744073709551616) (hs : Wd w w) (h1 : a = 9223372036854775808) (h2 : b = 18446744073709551615) :
    Calls Tryd.prog 9 #[.int .u64 a0, .int .u64 b0, .bool true] w fun e w' => e = .returned (.bool true) ∧ Below w.heap.size w w' := by
  have h0 : b ≠ 0 := by omega
  have hq := Nat.div_add_mod a b
  have hr := Nat.mod_lt a (Nat.pos_of_ne_zero h0)
  have f0 : ((b : Int) == 0) = false := by rw [beq_eq_false_iff_ne]; omega
  have HV14 : Hid (numN 64 14 a b 0 0 = (a / b, 0)) := by show divN 64 14 a b = _; rw [divN, if_neg h0, if_pos rfl]
  have HV16 : Hid (numN 64 16 a b 0 0 = (a % b, 0)) := by show divN 64 16 a b = _; rw [divN, if_neg h0, if_neg (by omega), if_pos rfl]
  have E14 : val 94 a b = a / b := by rw [show val 94 a b = (numN 64 14 a b 0 0).1 from val64 (k := 14) (by omega), HV14.out]
  have T14 : trap 94 a b = 0 := by rw [show trap 94 a b = (numN 64 14 a b 0 0).2 from trap64 (k := 14) (by omega), HV14.out]
  have E16 : val 96 a b = a % b := by rw [show val 96 a b = (numN 64 16 a b 0 0).1 from val64 (k := 16) (by omega), HV16.out]
  have T16 : trap 96 a b = 0 := by rw [show trap 96 a b = (numN 64 16 a b 0 0).2 from trap64 (k := 16) (by omega), HV16.out]
  have u1 : IntKind.u64.wrap (((a / b : Nat) : Int) * (b : Int)) = ((b * (a / b) : Nat) : Int) := by rw [show ((a / b : Nat) : Int) * (b : Int) = ((b * (a / b) : Nat) : Int) by rw [Nat.mul_comm]; simp]; exact w64_nat (by omega)
  have u2 : IntKind.u64.wrap (((b * (a / b) : Nat) : Int) + ((a % b : Nat) : Int)) = (a : Int) := by rw [show ((b * (a / b) : Nat) : Int) + ((a % b : Nat) : Int) = (a : Int) by omega]; exact w64_nat (by omega)
  generalize hQ : b * (a / b) = Q at *
  generalize a / b = q at *
  generalize a % b = r at *
  clear hq hQ
  have HV13 : Hid (numN 64 13 a b 0 0 = (0, 4)) := by show divN 64 13 a b = _; rw [divN, if_neg h0, if_neg (by omega), if_neg (by omega), if_pos (by omega), if_neg (by omega)]
  have HV15 : Hid (numN 64 15 a b 0 0 = (0, 0)) := by show divN 64 15 a b = _; rw [divN, if_neg h0, if_neg (by omega), if_neg (by omega), if_pos (by omega), if_pos rfl]
  have E13 : val 93 a b = 0 := by rw [show val 93 a b = (numN 64 13 a b 0 0).1 from val64 (k := 13) (by omega), HV13.out]
  have T13 : trap 93 a b = 4 := by rw [show trap 93 a b = (numN 64 13 a b 0 0).2 from trap64 (k := 13) (by omega), HV13.out]
  have E15 : val 95 a b = 0 := by rw [show val 95 a b = (numN 64 15 a b 0 0).1 from val64 (k := 15) (by omega), HV15.out]
  have T15 : trap 95 a b = 0 := by rw [show trap 95 a b = (numN 64 15 a b 0 0).2 from trap64 (k := 15) (by omega), HV15.out]
  have f1 : ((a : Int) == 9223372036854775808) = true := by rw [beq_iff_eq]; omega
  have f2 : ((b : Int) == 18446744073709551615) = true := by rw [beq_iff_eq]; omega
  clear h1 h2 h0
  go_enter Tryd.func9, Tryd.ntmps9
  go_wp2_with (first | (go_at_call 54; refine (law_do w _ _ _ _ _ rfl (by decide) (by first | assumption | omega | decide) (by first | assumption | omega | decide) (by assumption)).mono ?_; rintro e w' ⟨rfl, hs'⟩) | (go_at_call 55; refine (law_below _ _ _ 64 9223372036854775808 rfl (by decide) (by decide) (by assumption) (by first | assumption | decide)).mono ?_; rintro e w' ⟨rfl, rfl⟩) | (go_at_call 53; refine (law_works07 w _ (by assumption)).mono ?_; rintro e w' ⟨rfl, hz'⟩))
  all_goals go_ret
  all_goals exact ⟨rfl, hz'.bel⟩

set_option maxRecDepth 100000 in
set_option maxHeartbeats 12800000 in
theorem law_divide64_s00 (w : World) (a0 b0 a b : Nat) (M1 : bits .and .u64 (a0 : Int) 18446744073709551615 = (a : Int)) (M2 : bits .and .u64 (b0 : Int) 18446744073709551615 = (b : Int)) (la : a < 18446744073709551616) (lb : b < 18446744073709551616) (hs : Wd w w) (h0 : b ≠ 0) (hl : ¬ (a = 2 ^ (64 - 1) ∧ b = 2 ^ 64 - 1)) (hm : ¬ sg 64 (un 64 ((sg 64 a).tmod (sg 64 b))) < 0) (hbs : ¬ sg 64 b < 0) :
    Calls Tryd.prog 9 #[.int .u64 a0, .int .u64 b0, .bool true] w fun e w' => e = .returned (.bool true) ∧ Below w.heap.size w w' := by
  have HD := Lib.hid (sg_divide (n := 64) (by omega) la lb h0)
  have HV13 : Hid (numN 64 13 a b 0 0 = (un 64 ((sg 64 a).tdiv (sg 64 b)), 0)) := by show divN 64 13 a b = _; rw [divN, if_neg h0, if_neg (by omega), if_neg (by omega), if_neg hl, if_neg (by omega)]
  have HV15 : Hid (numN 64 15 a b 0 0 = (un 64 ((sg 64 a).tmod (sg 64 b)), 0)) := by show divN 64 15 a b = _; rw [divN, if_neg h0, if_neg (by omega), if_neg (by omega), if_neg hl, if_pos rfl]
  have E13 : val 93 a b = un 64 ((sg 64 a).tdiv (sg 64 b)) := by rw [show val 93 a b = (numN 64 13 a b 0 0).1 from val64 (k := 13) (by omega), HV13.out]
  have T13 : trap 93 a b = 0 := by rw [show trap 93 a b = (numN 64 13 a b 0 0).2 from trap64 (k := 13) (by omega), HV13.out]
  have E15 : val 95 a b = un 64 ((sg 64 a).tmod (sg 64 b)) := by rw [show val 95 a b = (numN 64 15 a b 0 0).1 from val64 (k := 15) (by omega), HV15.out]
  have T15 : trap 95 a b = 0 := by rw [show trap 95 a b = (numN 64 15 a b 0 0).2 from trap64 (k := 15) (by omega), HV15.out]
  have lm : un 64 ((sg 64 a).tmod (sg 64 b)) < 18446744073709551616 := un_lt _ _
  have ls : un 64 ((sg 64 a).tdiv (sg 64 b)) < 18446744073709551616 := un_lt _ _
  have f12 : (((a : Int) == 9223372036854775808) = true ∧ ((b : Int) == 18446744073709551615) = false) ∨ ((a : Int) == 9223372036854775808) = false := by rw [beq_iff_eq, beq_eq_false_iff_ne, beq_eq_false_iff_ne]; omega
  have zm := size_sg (n := 64) (by omega) lm
  have zb := size_sg (n := 64) (by omega) lb
  have hmod := Int.natAbs_tmod (sg 64 a) (sg 64 b)
  have hsg := HD.out.2
  have hback := HD.out.1
  have hbn : (sg 64 b).natAbs ≠ 0 := by intro c; have c2 := Int.natAbs_eq_zero.1 c; rw [← sg_zero 64] at c2; exact h0 ((sg_inj lb (by decide)).1 c2)
  have hlt0 : (sg 64 a).natAbs % (sg 64 b).natAbs < (sg 64 b).natAbs := Nat.mod_lt _ (Nat.pos_of_ne_zero hbn)
  have hsame : (sg 64 a).tmod (sg 64 b) = 0 ∨ ((sg 64 a).tmod (sg 64 b) < 0 ↔ sg 64 a < 0) := by
    rcases Int.lt_or_le (sg 64 a) 0 with c | c
    · have h := Int.tmod_nonneg (sg 64 b) (show 0 ≤ -sg 64 a by omega)
      rw [Int.neg_tmod] at h
      generalize (sg 64 a).tmod (sg 64 b) = z at *
      omega
    · have h := Int.tmod_nonneg (sg 64 b) c
      generalize (sg 64 a).tmod (sg 64 b) = z at *
      omega
  have hq := Nat.div_add_mod a b
  have hr := Nat.mod_lt a (Nat.pos_of_ne_zero h0)
  have f0 : ((b : Int) == 0) = false := by rw [beq_eq_false_iff_ne]; omega
  have HV14 : Hid (numN 64 14 a b 0 0 = (a / b, 0)) := by show divN 64 14 a b = _; rw [divN, if_neg h0, if_pos rfl]
  have HV16 : Hid (numN 64 16 a b 0 0 = (a % b, 0)) := by show divN 64 16 a b = _; rw [divN, if_neg h0, if_neg (by omega), if_pos rfl]
  have E14 : val 94 a b = a / b := by rw [show val 94 a b = (numN 64 14 a b 0 0).1 from val64 (k := 14) (by omega), HV14.out]
  have T14 : trap 94 a b = 0 := by rw [show trap 94 a b = (numN 64 14 a b 0 0).2 from trap64 (k := 14) (by omega), HV14.out]
  have E16 : val 96 a b = a % b := by rw [show val 96 a b = (numN 64 16 a b 0 0).1 from val64 (k := 16) (by omega), HV16.out]
  have T16 : trap 96 a b = 0 := by rw [show trap 96 a b = (numN 64 16 a b 0 0).2 from trap64 (k := 16) (by omega), HV16.out]
  have u1 : IntKind.u64.wrap (((a / b : Nat) : Int) * (b : Int)) = ((b * (a / b) : Nat) : Int) := by rw [show ((a / b : Nat) : Int) * (b : Int) = ((b * (a / b) : Nat) : Int) by rw [Nat.mul_comm]; simp]; exact w64_nat (by omega)
  have u2 : IntKind.u64.wrap (((b * (a / b) : Nat) : Int) + ((a % b : Nat) : Int)) = (a : Int) := by rw [show ((b * (a / b) : Nat) : Int) + ((a % b : Nat) : Int) = (a : Int) by omega]; exact w64_nat (by omega)
  generalize hQ : b * (a / b) = Q at *
  generalize a / b = q at *
  generalize a % b = r at *
  clear hq hQ
  generalize un 64 ((sg 64 a).tdiv (sg 64 b)) = s at *
  generalize hmm : un 64 ((sg 64 a).tmod (sg 64 b)) = m at *
  rw [← hsg] at hmod hsame
  have b1 : blw 64 m 0 = false := by rw [blw, sg_zero]; simpa using hm
  have b2 : blw 64 b 0 = false := by rw [blw, sg_zero]; simpa using hbs
  have hnf : m < b := by have := zm.2 hm; have := zb.2 hbs; omega
  have b4 : m = 0 ∨ blw 64 a 0 = false := by
    rcases hsame with c | c
    · left; rw [← sg_zero 64] at c; exact (sg_inj lm (by decide)).1 c
    · right; rw [blw, sg_zero]; simp; omega
  obtain ⟨P2, hP2⟩ : ∃ x, x = s * b % 18446744073709551616 := ⟨_, rfl⟩
  obtain ⟨P3, hP3⟩ : ∃ x, x = (P2 + m) % 18446744073709551616 := ⟨_, rfl⟩
  have v1 : IntKind.u64.wrap ((s : Int) * (b : Int)) = (P2 : Int) := by rw [IntKind.wrap_u64, hP2]; simp
  have v2 : IntKind.u64.wrap ((P2 : Int) + (m : Int)) = (P3 : Int) := by rw [IntKind.wrap_u64]; omega
  have v3 : bits .and .u64 (P3 : Int) 18446744073709551615 = (a : Int) := by
    rw [mask_and P3 64 (by omega) (by omega) 18446744073709551615 rfl]
    have e1 : P3 % 2 ^ 64 = (s * b + m) % 2 ^ 64 := by
      rw [hP3, Nat.mod_mod_of_dvd _ (show 2 ^ 64 ∣ 18446744073709551616 by decide), hP2, Nat.add_mod, Nat.mod_mod_of_dvd _ (show 2 ^ 64 ∣ 18446744073709551616 by decide), ← Nat.add_mod]
    rw [e1, hback]
  clear hP2 hP3 hback hmod hsg hsame hlt0 hbn zm zb hm hbs hl h0 hmm HD HV13 HV14 HV15 HV16
  by_cases m0 : m = 0
  · subst m0
    have v4 : IntKind.u64.wrap (P2 : Int) = (P3 : Int) := by rw [← v2]; simp
    clear v2
    rcases f12 with ⟨f1, f2⟩ | f1
    · go_enter Tryd.func9, Tryd.ntmps9
      go_wp2_with (first | (go_at_call 54; refine (law_do w _ _ _ _ _ rfl (by decide) (by first | assumption | omega | decide) (by first | assumption | omega | decide) (by assumption)).mono ?_; rintro e w' ⟨rfl, hs'⟩) | (go_at_call 55; refine (law_below _ _ _ 64 9223372036854775808 rfl (by decide) (by decide) (by assumption) (by first | assumption | decide)).mono ?_; rintro e w' ⟨rfl, rfl⟩) | (go_at_call 53; refine (law_works07 w _ (by assumption)).mono ?_; rintro e w' ⟨rfl, hz'⟩))
      all_goals go_ret
      all_goals exact ⟨rfl, hz'.bel⟩
    · go_enter Tryd.func9, Tryd.ntmps9
      go_wp2_with (first | (go_at_call 54; refine (law_do w _ _ _ _ _ rfl (by decide) (by first | assumption | omega | decide) (by first | assumption | omega | decide) (by assumption)).mono ?_; rintro e w' ⟨rfl, hs'⟩) | (go_at_call 55; refine (law_below _ _ _ 64 9223372036854775808 rfl (by decide) (by decide) (by assumption) (by first | assumption | decide)).mono ?_; rintro e w' ⟨rfl, rfl⟩) | (go_at_call 53; refine (law_works07 w _ (by assumption)).mono ?_; rintro e w' ⟨rfl, hz'⟩))
      all_goals go_ret
      all_goals exact ⟨rfl, hz'.bel⟩
  · have b5 := b4.resolve_left m0
    clear b4 m0
    rcases f12 with ⟨f1, f2⟩ | f1
    · go_enter Tryd.func9, Tryd.ntmps9
      go_wp2_with (first | (go_at_call 54; refine (law_do w _ _ _ _ _ rfl (by decide) (by first | assumption | omega | decide) (by first | assumption | omega | decide) (by assumption)).mono ?_; rintro e w' ⟨rfl, hs'⟩) | (go_at_call 55; refine (law_below _ _ _ 64 9223372036854775808 rfl (by decide) (by decide) (by assumption) (by first | assumption | decide)).mono ?_; rintro e w' ⟨rfl, rfl⟩) | (go_at_call 53; refine (law_works07 w _ (by assumption)).mono ?_; rintro e w' ⟨rfl, hz'⟩))
      all_goals go_ret
      all_goals exact ⟨rfl, hz'.bel⟩
    · go_enter Tryd.func9, Tryd.ntmps9
      go_wp2_with (first | (go_at_call 54; refine (law_do w _ _ _ _ _ rfl (by decide) (by first | assumption | omega | decide) (by first | assumption | omega | decide) (by assumption)).mono ?_; rintro e w' ⟨rfl, hs'⟩) | (go_at_call 55; refine (law_below _ _ _ 64 9223372036854775808 rfl (by decide) (by decide) (by assumption) (by first | assumption | decide)).mono ?_; rintro e w' ⟨rfl, rfl⟩) | (go_at_call 53; refine (law_works07 w _ (by assumption)).mono ?_; rintro e w' ⟨rfl, hz'⟩))
      all_goals go_ret
      all_goals exact ⟨rfl, hz'.bel⟩

set_option maxRecDepth 100000 in
set_option maxHeartbeats 12800000 in
theorem law_divide64_s01 (w : World) (a0 b0 a b : Nat) (M1 : bits .and .u64 (a0 : Int) 18446744073709551615 = (a : Int)) (M2 : bits .and .u64 (b0 : Int) 18446744073709551615 = (b : Int)) (la : a < 18446744073709551616) (lb : b < 18446744073709551616) (hs : Wd w w) (h0 : b ≠ 0) (hl : ¬ (a = 2 ^ (64 - 1) ∧ b = 2 ^ 64 - 1)) (hm : ¬ sg 64 (un 64 ((sg 64 a).tmod (sg 64 b))) < 0) (hbs : sg 64 b < 0) :
    Calls Tryd.prog 9 #[.int .u64 a0, .int .u64 b0, .bool true] w fun e w' => e = .returned (.bool true) ∧ Below w.heap.size w w' := by
  have HD := Lib.hid (sg_divide (n := 64) (by omega) la lb h0)
  have HV13 : Hid (numN 64 13 a b 0 0 = (un 64 ((sg 64 a).tdiv (sg 64 b)), 0)) := by show divN 64 13 a b = _; rw [divN, if_neg h0, if_neg (by omega), if_neg (by omega), if_neg hl, if_neg (by omega)]
  have HV15 : Hid (numN 64 15 a b 0 0 = (un 64 ((sg 64 a).tmod (sg 64 b)), 0)) := by show divN 64 15 a b = _; rw [divN, if_neg h0, if_neg (by omega), if_neg (by omega), if_neg hl, if_pos rfl]
  have E13 : val 93 a b = un 64 ((sg 64 a).tdiv (sg 64 b)) := by rw [show val 93 a b = (numN 64 13 a b 0 0).1 from val64 (k := 13) (by omega), HV13.out]
  have T13 : trap 93 a b = 0 := by rw [show trap 93 a b = (numN 64 13 a b 0 0).2 from trap64 (k := 13) (by omega), HV13.out]
  have E15 : val 95 a b = un 64 ((sg 64 a).tmod (sg 64 b)) := by rw [show val 95 a b = (numN 64 15 a b 0 0).1 from val64 (k := 15) (by omega), HV15.out]
  have T15 : trap 95 a b = 0 := by rw [show trap 95 a b = (numN 64 15 a b 0 0).2 from trap64 (k := 15) (by omega), HV15.out]
  have lm : un 64 ((sg 64 a).tmod (sg 64 b)) < 18446744073709551616 := un_lt _ _
  have ls : un 64 ((sg 64 a).tdiv (sg 64 b)) < 18446744073709551616 := un_lt _ _
  have f12 : (((a : Int) == 9223372036854775808) = true ∧ ((b : Int) == 18446744073709551615) = false) ∨ ((a : Int) == 9223372036854775808) = false := by rw [beq_iff_eq, beq_eq_false_iff_ne, beq_eq_false_iff_ne]; omega
  have zm := size_sg (n := 64) (by omega) lm
  have zb := size_sg (n := 64) (by omega) lb
  have hmod := Int.natAbs_tmod (sg 64 a) (sg 64 b)
  have hsg := HD.out.2
  have hback := HD.out.1
  have hbn : (sg 64 b).natAbs ≠ 0 := by intro c; have c2 := Int.natAbs_eq_zero.1 c; rw [← sg_zero 64] at c2; exact h0 ((sg_inj lb (by decide)).1 c2)
  have hlt0 : (sg 64 a).natAbs % (sg 64 b).natAbs < (sg 64 b).natAbs := Nat.mod_lt _ (Nat.pos_of_ne_zero hbn)
  have hsame : (sg 64 a).tmod (sg 64 b) = 0 ∨ ((sg 64 a).tmod (sg 64 b) < 0 ↔ sg 64 a < 0) := by
    rcases Int.lt_or_le (sg 64 a) 0 with c | c
    · have h := Int.tmod_nonneg (sg 64 b) (show 0 ≤ -sg 64 a by omega)
      rw [Int.neg_tmod] at h
      generalize (sg 64 a).tmod (sg 64 b) = z at *
      omega
    · have h := Int.tmod_nonneg (sg 64 b) c
      generalize (sg 64 a).tmod (sg 64 b) = z at *
      omega
  have hq := Nat.div_add_mod a b
  have hr := Nat.mod_lt a (Nat.pos_of_ne_zero h0)
  have f0 : ((b : Int) == 0) = false := by rw [beq_eq_false_iff_ne]; omega
  have HV14 : Hid (numN 64 14 a b 0 0 = (a / b, 0)) := by show divN 64 14 a b = _; rw [divN, if_neg h0, if_pos rfl]
  have HV16 : Hid (numN 64 16 a b 0 0 = (a % b, 0)) := by show divN 64 16 a b = _; rw [divN, if_neg h0, if_neg (by omega), if_pos rfl]
  have E14 : val 94 a b = a / b := by rw [show val 94 a b = (numN 64 14 a b 0 0).1 from val64 (k := 14) (by omega), HV14.out]
  have T14 : trap 94 a b = 0 := by rw [show trap 94 a b = (numN 64 14 a b 0 0).2 from trap64 (k := 14) (by omega), HV14.out]
  have E16 : val 96 a b = a % b := by rw [show val 96 a b = (numN 64 16 a b 0 0).1 from val64 (k := 16) (by omega), HV16.out]
  have T16 : trap 96 a b = 0 := by rw [show trap 96 a b = (numN 64 16 a b 0 0).2 from trap64 (k := 16) (by omega), HV16.out]
  have u1 : IntKind.u64.wrap (((a / b : Nat) : Int) * (b : Int)) = ((b * (a / b) : Nat) : Int) := by rw [show ((a / b : Nat) : Int) * (b : Int) = ((b * (a / b) : Nat) : Int) by rw [Nat.mul_comm]; simp]; exact w64_nat (by omega)
  have u2 : IntKind.u64.wrap (((b * (a / b) : Nat) : Int) + ((a % b : Nat) : Int)) = (a : Int) := by rw [show ((b * (a / b) : Nat) : Int) + ((a % b : Nat) : Int) = (a : Int) by omega]; exact w64_nat (by omega)
  generalize hQ : b * (a / b) = Q at *
  generalize a / b = q at *
  generalize a % b = r at *
  clear hq hQ
  generalize un 64 ((sg 64 a).tdiv (sg 64 b)) = s at *
  generalize hmm : un 64 ((sg 64 a).tmod (sg 64 b)) = m at *
  rw [← hsg] at hmod hsame
  have b1 : blw 64 m 0 = false := by rw [blw, sg_zero]; simpa using hm
  have b2 : blw 64 b 0 = true := by rw [blw, sg_zero]; simpa using hbs
  have hnf : m < (2 ^ 64 - b) := by have := zm.2 hm; have := zb.1 hbs |>.2; omega
  have n2 := neg_mask b 64 (by omega) (zb.1 hbs).1 lb 18446744073709551615 rfl
  generalize 2 ^ 64 - b = far at *
  have b4 : m = 0 ∨ blw 64 a 0 = false := by
    rcases hsame with c | c
    · left; rw [← sg_zero 64] at c; exact (sg_inj lm (by decide)).1 c
    · right; rw [blw, sg_zero]; simp; omega
  obtain ⟨P2, hP2⟩ : ∃ x, x = s * b % 18446744073709551616 := ⟨_, rfl⟩
  obtain ⟨P3, hP3⟩ : ∃ x, x = (P2 + m) % 18446744073709551616 := ⟨_, rfl⟩
  have v1 : IntKind.u64.wrap ((s : Int) * (b : Int)) = (P2 : Int) := by rw [IntKind.wrap_u64, hP2]; simp
  have v2 : IntKind.u64.wrap ((P2 : Int) + (m : Int)) = (P3 : Int) := by rw [IntKind.wrap_u64]; omega
  have v3 : bits .and .u64 (P3 : Int) 18446744073709551615 = (a : Int) := by
    rw [mask_and P3 64 (by omega) (by omega) 18446744073709551615 rfl]
    have e1 : P3 % 2 ^ 64 = (s * b + m) % 2 ^ 64 := by
      rw [hP3, Nat.mod_mod_of_dvd _ (show 2 ^ 64 ∣ 18446744073709551616 by decide), hP2, Nat.add_mod, Nat.mod_mod_of_dvd _ (show 2 ^ 64 ∣ 18446744073709551616 by decide), ← Nat.add_mod]
    rw [e1, hback]
  clear hP2 hP3 hback hmod hsg hsame hlt0 hbn zm zb hm hbs hl h0 hmm HD HV13 HV14 HV15 HV16
  by_cases m0 : m = 0
  · subst m0
    have v4 : IntKind.u64.wrap (P2 : Int) = (P3 : Int) := by rw [← v2]; simp
    clear v2
    rcases f12 with ⟨f1, f2⟩ | f1
    · go_enter Tryd.func9, Tryd.ntmps9
      go_wp2_with (first | (go_at_call 54; refine (law_do w _ _ _ _ _ rfl (by decide) (by first | assumption | omega | decide) (by first | assumption | omega | decide) (by assumption)).mono ?_; rintro e w' ⟨rfl, hs'⟩) | (go_at_call 55; refine (law_below _ _ _ 64 9223372036854775808 rfl (by decide) (by decide) (by assumption) (by first | assumption | decide)).mono ?_; rintro e w' ⟨rfl, rfl⟩) | (go_at_call 53; refine (law_works07 w _ (by assumption)).mono ?_; rintro e w' ⟨rfl, hz'⟩))
      all_goals go_ret
      all_goals exact ⟨rfl, hz'.bel⟩
    · go_enter Tryd.func9, Tryd.ntmps9
      go_wp2_with (first | (go_at_call 54; refine (law_do w _ _ _ _ _ rfl (by decide) (by first | assumption | omega | decide) (by first | assumption | omega | decide) (by assumption)).mono ?_; rintro e w' ⟨rfl, hs'⟩) | (go_at_call 55; refine (law_below _ _ _ 64 9223372036854775808 rfl (by decide) (by decide) (by assumption) (by first | assumption | decide)).mono ?_; rintro e w' ⟨rfl, rfl⟩) | (go_at_call 53; refine (law_works07 w _ (by assumption)).mono ?_; rintro e w' ⟨rfl, hz'⟩))
      all_goals go_ret
      all_goals exact ⟨rfl, hz'.bel⟩
  · have b5 := b4.resolve_left m0
    clear b4 m0
    rcases f12 with ⟨f1, f2⟩ | f1
    · go_enter Tryd.func9, Tryd.ntmps9
      go_wp2_with (first | (go_at_call 54; refine (law_do w _ _ _ _ _ rfl (by decide) (by first | assumption | omega | decide) (by first | assumption | omega | decide) (by assumption)).mono ?_; rintro e w' ⟨rfl, hs'⟩) | (go_at_call 55; refine (law_below _ _ _ 64 9223372036854775808 rfl (by decide) (by decide) (by assumption) (by first | assumption | decide)).mono ?_; rintro e w' ⟨rfl, rfl⟩) | (go_at_call 53; refine (law_works07 w _ (by assumption)).mono ?_; rintro e w' ⟨rfl, hz'⟩))
      all_goals go_ret
      all_goals exact ⟨rfl, hz'.bel⟩
    · go_enter Tryd.func9, Tryd.ntmps9
      go_wp2_with (first | (go_at_call 54; refine (law_do w _ _ _ _ _ rfl (by decide) (by first | assumption | omega | decide) (by first | assumption | omega | decide) (by assumption)).mono ?_; rintro e w' ⟨rfl, hs'⟩) | (go_at_call 55; refine (law_below _ _ _ 64 9223372036854775808 rfl (by decide) (by decide) (by assumption) (by first | assumption | decide)).mono ?_; rintro e w' ⟨rfl, rfl⟩) | (go_at_call 53; refine (law_works07 w _ (by assumption)).mono ?_; rintro e w' ⟨rfl, hz'⟩))
      all_goals go_ret
      all_goals exact ⟨rfl, hz'.bel⟩

set_option maxRecDepth 100000 in
set_option maxHeartbeats 12800000 in
theorem law_divide64_s10 (w : World) (a0 b0 a b : Nat) (M1 : bits .and .u64 (a0 : Int) 18446744073709551615 = (a : Int)) (M2 : bits .and .u64 (b0 : Int) 18446744073709551615 = (b : Int)) (la : a < 18446744073709551616) (lb : b < 18446744073709551616) (hs : Wd w w) (h0 : b ≠ 0) (hl : ¬ (a = 2 ^ (64 - 1) ∧ b = 2 ^ 64 - 1)) (hm : sg 64 (un 64 ((sg 64 a).tmod (sg 64 b))) < 0) (hbs : ¬ sg 64 b < 0) :
    Calls Tryd.prog 9 #[.int .u64 a0, .int .u64 b0, .bool true] w fun e w' => e = .returned (.bool true) ∧ Below w.heap.size w w' := by
  have HD := Lib.hid (sg_divide (n := 64) (by omega) la lb h0)
  have HV13 : Hid (numN 64 13 a b 0 0 = (un 64 ((sg 64 a).tdiv (sg 64 b)), 0)) := by show divN 64 13 a b = _; rw [divN, if_neg h0, if_neg (by omega), if_neg (by omega), if_neg hl, if_neg (by omega)]
  have HV15 : Hid (numN 64 15 a b 0 0 = (un 64 ((sg 64 a).tmod (sg 64 b)), 0)) := by show divN 64 15 a b = _; rw [divN, if_neg h0, if_neg (by omega), if_neg (by omega), if_neg hl, if_pos rfl]
  have E13 : val 93 a b = un 64 ((sg 64 a).tdiv (sg 64 b)) := by rw [show val 93 a b = (numN 64 13 a b 0 0).1 from val64 (k := 13) (by omega), HV13.out]
  have T13 : trap 93 a b = 0 := by rw [show trap 93 a b = (numN 64 13 a b 0 0).2 from trap64 (k := 13) (by omega), HV13.out]
  have E15 : val 95 a b = un 64 ((sg 64 a).tmod (sg 64 b)) := by rw [show val 95 a b = (numN 64 15 a b 0 0).1 from val64 (k := 15) (by omega), HV15.out]
  have T15 : trap 95 a b = 0 := by rw [show trap 95 a b = (numN 64 15 a b 0 0).2 from trap64 (k := 15) (by omega), HV15.out]
  have lm : un 64 ((sg 64 a).tmod (sg 64 b)) < 18446744073709551616 := un_lt _ _
  have ls : un 64 ((sg 64 a).tdiv (sg 64 b)) < 18446744073709551616 := un_lt _ _
  have f12 : (((a : Int) == 9223372036854775808) = true ∧ ((b : Int) == 18446744073709551615) = false) ∨ ((a : Int) == 9223372036854775808) = false := by rw [beq_iff_eq, beq_eq_false_iff_ne, beq_eq_false_iff_ne]; omega
  have zm := size_sg (n := 64) (by omega) lm
  have zb := size_sg (n := 64) (by omega) lb
  have hmod := Int.natAbs_tmod (sg 64 a) (sg 64 b)
  have hsg := HD.out.2
  have hback := HD.out.1
  have hbn : (sg 64 b).natAbs ≠ 0 := by intro c; have c2 := Int.natAbs_eq_zero.1 c; rw [← sg_zero 64] at c2; exact h0 ((sg_inj lb (by decide)).1 c2)
  have hlt0 : (sg 64 a).natAbs % (sg 64 b).natAbs < (sg 64 b).natAbs := Nat.mod_lt _ (Nat.pos_of_ne_zero hbn)
  have hsame : (sg 64 a).tmod (sg 64 b) = 0 ∨ ((sg 64 a).tmod (sg 64 b) < 0 ↔ sg 64 a < 0) := by
    rcases Int.lt_or_le (sg 64 a) 0 with c | c
    · have h := Int.tmod_nonneg (sg 64 b) (show 0 ≤ -sg 64 a by omega)
      rw [Int.neg_tmod] at h
      generalize (sg 64 a).tmod (sg 64 b) = z at *
      omega
    · have h := Int.tmod_nonneg (sg 64 b) c
      generalize (sg 64 a).tmod (sg 64 b) = z at *
      omega
  have hq := Nat.div_add_mod a b
  have hr := Nat.mod_lt a (Nat.pos_of_ne_zero h0)
  have f0 : ((b : Int) == 0) = false := by rw [beq_eq_false_iff_ne]; omega
  have HV14 : Hid (numN 64 14 a b 0 0 = (a / b, 0)) := by show divN 64 14 a b = _; rw [divN, if_neg h0, if_pos rfl]
  have HV16 : Hid (numN 64 16 a b 0 0 = (a % b, 0)) := by show divN 64 16 a b = _; rw [divN, if_neg h0, if_neg (by omega), if_pos rfl]
  have E14 : val 94 a b = a / b := by rw [show val 94 a b = (numN 64 14 a b 0 0).1 from val64 (k := 14) (by omega), HV14.out]
  have T14 : trap 94 a b = 0 := by rw [show trap 94 a b = (numN 64 14 a b 0 0).2 from trap64 (k := 14) (by omega), HV14.out]
  have E16 : val 96 a b = a % b := by rw [show val 96 a b = (numN 64 16 a b 0 0).1 from val64 (k := 16) (by omega), HV16.out]
  have T16 : trap 96 a b = 0 := by rw [show trap 96 a b = (numN 64 16 a b 0 0).2 from trap64 (k := 16) (by omega), HV16.out]
  have u1 : IntKind.u64.wrap (((a / b : Nat) : Int) * (b : Int)) = ((b * (a / b) : Nat) : Int) := by rw [show ((a / b : Nat) : Int) * (b : Int) = ((b * (a / b) : Nat) : Int) by rw [Nat.mul_comm]; simp]; exact w64_nat (by omega)
  have u2 : IntKind.u64.wrap (((b * (a / b) : Nat) : Int) + ((a % b : Nat) : Int)) = (a : Int) := by rw [show ((b * (a / b) : Nat) : Int) + ((a % b : Nat) : Int) = (a : Int) by omega]; exact w64_nat (by omega)
  generalize hQ : b * (a / b) = Q at *
  generalize a / b = q at *
  generalize a % b = r at *
  clear hq hQ
  generalize un 64 ((sg 64 a).tdiv (sg 64 b)) = s at *
  generalize hmm : un 64 ((sg 64 a).tmod (sg 64 b)) = m at *
  rw [← hsg] at hmod hsame
  have b1 : blw 64 m 0 = true := by rw [blw, sg_zero]; simpa using hm
  have b2 : blw 64 b 0 = false := by rw [blw, sg_zero]; simpa using hbs
  have hnf : (2 ^ 64 - m) < b := by have := zm.1 hm |>.2; have := zb.2 hbs; omega
  have n1 := neg_mask m 64 (by omega) (zm.1 hm).1 lm 18446744073709551615 rfl
  generalize 2 ^ 64 - m = near at *
  have b3 : blw 64 a 0 = true := by rw [blw, sg_zero]; simp; omega
  obtain ⟨P2, hP2⟩ : ∃ x, x = s * b % 18446744073709551616 := ⟨_, rfl⟩
  obtain ⟨P3, hP3⟩ : ∃ x, x = (P2 + m) % 18446744073709551616 := ⟨_, rfl⟩
  have v1 : IntKind.u64.wrap ((s : Int) * (b : Int)) = (P2 : Int) := by rw [IntKind.wrap_u64, hP2]; simp
  have v2 : IntKind.u64.wrap ((P2 : Int) + (m : Int)) = (P3 : Int) := by rw [IntKind.wrap_u64]; omega
  have v3 : bits .and .u64 (P3 : Int) 18446744073709551615 = (a : Int) := by
    rw [mask_and P3 64 (by omega) (by omega) 18446744073709551615 rfl]
    have e1 : P3 % 2 ^ 64 = (s * b + m) % 2 ^ 64 := by
      rw [hP3, Nat.mod_mod_of_dvd _ (show 2 ^ 64 ∣ 18446744073709551616 by decide), hP2, Nat.add_mod, Nat.mod_mod_of_dvd _ (show 2 ^ 64 ∣ 18446744073709551616 by decide), ← Nat.add_mod]
    rw [e1, hback]
  clear hP2 hP3 hback hmod hsg hsame hlt0 hbn zm zb hm hbs hl h0 hmm HD HV13 HV14 HV15 HV16
  rcases f12 with ⟨f1, f2⟩ | f1
  · go_enter Tryd.func9, Tryd.ntmps9
    go_wp2_with (first | (go_at_call 54; refine (law_do w _ _ _ _ _ rfl (by decide) (by first | assumption | omega | decide) (by first | assumption | omega | decide) (by assumption)).mono ?_; rintro e w' ⟨rfl, hs'⟩) | (go_at_call 55; refine (law_below _ _ _ 64 9223372036854775808 rfl (by decide) (by decide) (by assumption) (by first | assumption | decide)).mono ?_; rintro e w' ⟨rfl, rfl⟩) | (go_at_call 53; refine (law_works07 w _ (by assumption)).mono ?_; rintro e w' ⟨rfl, hz'⟩))
    all_goals go_ret
    all_goals exact ⟨rfl, hz'.bel⟩
  · go_enter Tryd.func9, Tryd.ntmps9
    go_wp2_with (first | (go_at_call 54; refine (law_do w _ _ _ _ _ rfl (by decide) (by first | assumption | omega | decide) (by first | assumption | omega | decide) (by assumption)).mono ?_; rintro e w' ⟨rfl, hs'⟩) | (go_at_call 55; refine (law_below _ _ _ 64 9223372036854775808 rfl (by decide) (by decide) (by assumption) (by first | assumption | decide)).mono ?_; rintro e w' ⟨rfl, rfl⟩) | (go_at_call 53; refine (law_works07 w _ (by assumption)).mono ?_; rintro e w' ⟨rfl, hz'⟩))
    all_goals go_ret
    all_goals exact ⟨rfl, hz'.bel⟩

set_option maxRecDepth 100000 in
set_option maxHeartbeats 12800000 in
theorem law_divide64_s11 (w : World) (a0 b0 a b : Nat) (M1 : bits .and .u64 (a0 : Int) 18446744073709551615 = (a : Int)) (M2 : bits .and .u64 (b0 : Int) 18446744073709551615 = (b : Int)) (la : a < 18446744073709551616) (lb : b < 18446744073709551616) (hs : Wd w w) (h0 : b ≠ 0) (hl : ¬ (a = 2 ^ (64 - 1) ∧ b = 2 ^ 64 - 1)) (hm : sg 64 (un 64 ((sg 64 a).tmod (sg 64 b))) < 0) (hbs : sg 64 b < 0) :
    Calls Tryd.prog 9 #[.int .u64 a0, .int .u64 b0, .bool true] w fun e w' => e = .returned (.bool true) ∧ Below w.heap.size w w' := by
  have HD := Lib.hid (sg_divide (n := 64) (by omega) la lb h0)
  have HV13 : Hid (numN 64 13 a b 0 0 = (un 64 ((sg 64 a).tdiv (sg 64 b)), 0)) := by show divN 64 13 a b = _; rw [divN, if_neg h0, if_neg (by omega), if_neg (by omega), if_neg hl, if_neg (by omega)]
  have HV15 : Hid (numN 64 15 a b 0 0 = (un 64 ((sg 64 a).tmod (sg 64 b)), 0)) := by show divN 64 15 a b = _; rw [divN, if_neg h0, if_neg (by omega), if_neg (by omega), if_neg hl, if_pos rfl]
  have E13 : val 93 a b = un 64 ((sg 64 a).tdiv (sg 64 b)) := by rw [show val 93 a b = (numN 64 13 a b 0 0).1 from val64 (k := 13) (by omega), HV13.out]
  have T13 : trap 93 a b = 0 := by rw [show trap 93 a b = (numN 64 13 a b 0 0).2 from trap64 (k := 13) (by omega), HV13.out]
  have E15 : val 95 a b = un 64 ((sg 64 a).tmod (sg 64 b)) := by rw [show val 95 a b = (numN 64 15 a b 0 0).1 from val64 (k := 15) (by omega), HV15.out]
  have T15 : trap 95 a b = 0 := by rw [show trap 95 a b = (numN 64 15 a b 0 0).2 from trap64 (k := 15) (by omega), HV15.out]
  have lm : un 64 ((sg 64 a).tmod (sg 64 b)) < 18446744073709551616 := un_lt _ _
  have ls : un 64 ((sg 64 a).tdiv (sg 64 b)) < 18446744073709551616 := un_lt _ _
  have f12 : (((a : Int) == 9223372036854775808) = true ∧ ((b : Int) == 18446744073709551615) = false) ∨ ((a : Int) == 9223372036854775808) = false := by rw [beq_iff_eq, beq_eq_false_iff_ne, beq_eq_false_iff_ne]; omega
  have zm := size_sg (n := 64) (by omega) lm
  have zb := size_sg (n := 64) (by omega) lb
  have hmod := Int.natAbs_tmod (sg 64 a) (sg 64 b)
  have hsg := HD.out.2
  have hback := HD.out.1
  have hbn : (sg 64 b).natAbs ≠ 0 := by intro c; have c2 := Int.natAbs_eq_zero.1 c; rw [← sg_zero 64] at c2; exact h0 ((sg_inj lb (by decide)).1 c2)
  have hlt0 : (sg 64 a).natAbs % (sg 64 b).natAbs < (sg 64 b).natAbs := Nat.mod_lt _ (Nat.pos_of_ne_zero hbn)
  have hsame : (sg 64 a).tmod (sg 64 b) = 0 ∨ ((sg 64 a).tmod (sg 64 b) < 0 ↔ sg 64 a < 0) := by
    rcases Int.lt_or_le (sg 64 a) 0 with c | c
    · have h := Int.tmod_nonneg (sg 64 b) (show 0 ≤ -sg 64 a by omega)
      rw [Int.neg_tmod] at h
      generalize (sg 64 a).tmod (sg 64 b) = z at *
      omega
    · have h := Int.tmod_nonneg (sg 64 b) c
      generalize (sg 64 a).tmod (sg 64 b) = z at *
      omega
  have hq := Nat.div_add_mod a b
  have hr := Nat.mod_lt a (Nat.pos_of_ne_zero h0)
  have f0 : ((b : Int) == 0) = false := by rw [beq_eq_false_iff_ne]; omega
  have HV14 : Hid (numN 64 14 a b 0 0 = (a / b, 0)) := by show divN 64 14 a b = _; rw [divN, if_neg h0, if_pos rfl]
  have HV16 : Hid (numN 64 16 a b 0 0 = (a % b, 0)) := by show divN 64 16 a b = _; rw [divN, if_neg h0, if_neg (by omega), if_pos rfl]
  have E14 : val 94 a b = a / b := by rw [show val 94 a b = (numN 64 14 a b 0 0).1 from val64 (k := 14) (by omega), HV14.out]
  have T14 : trap 94 a b = 0 := by rw [show trap 94 a b = (numN 64 14 a b 0 0).2 from trap64 (k := 14) (by omega), HV14.out]
  have E16 : val 96 a b = a % b := by rw [show val 96 a b = (numN 64 16 a b 0 0).1 from val64 (k := 16) (by omega), HV16.out]
  have T16 : trap 96 a b = 0 := by rw [show trap 96 a b = (numN 64 16 a b 0 0).2 from trap64 (k := 16) (by omega), HV16.out]
  have u1 : IntKind.u64.wrap (((a / b : Nat) : Int) * (b : Int)) = ((b * (a / b) : Nat) : Int) := by rw [show ((a / b : Nat) : Int) * (b : Int) = ((b * (a / b) : Nat) : Int) by rw [Nat.mul_comm]; simp]; exact w64_nat (by omega)
  have u2 : IntKind.u64.wrap (((b * (a / b) : Nat) : Int) + ((a % b : Nat) : Int)) = (a : Int) := by rw [show ((b * (a / b) : Nat) : Int) + ((a % b : Nat) : Int) = (a : Int) by omega]; exact w64_nat (by omega)
  generalize hQ : b * (a / b) = Q at *
  generalize a / b = q at *
  generalize a % b = r at *
  clear hq hQ
  generalize un 64 ((sg 64 a).tdiv (sg 64 b)) = s at *
  generalize hmm : un 64 ((sg 64 a).tmod (sg 64 b)) = m at *
  rw [← hsg] at hmod hsame
  have b1 : blw 64 m 0 = true := by rw [blw, sg_zero]; simpa using hm
  have b2 : blw 64 b 0 = true := by rw [blw, sg_zero]; simpa using hbs
  have hnf : (2 ^ 64 - m) < (2 ^ 64 - b) := by have := zm.1 hm |>.2; have := zb.1 hbs |>.2; omega
  have n1 := neg_mask m 64 (by omega) (zm.1 hm).1 lm 18446744073709551615 rfl
  have n2 := neg_mask b 64 (by omega) (zb.1 hbs).1 lb 18446744073709551615 rfl
  generalize 2 ^ 64 - m = near at *
  generalize 2 ^ 64 - b = far at *
  have b3 : blw 64 a 0 = true := by rw [blw, sg_zero]; simp; omega
  obtain ⟨P2, hP2⟩ : ∃ x, x = s * b % 18446744073709551616 := ⟨_, rfl⟩
  obtain ⟨P3, hP3⟩ : ∃ x, x = (P2 + m) % 18446744073709551616 := ⟨_, rfl⟩
  have v1 : IntKind.u64.wrap ((s : Int) * (b : Int)) = (P2 : Int) := by rw [IntKind.wrap_u64, hP2]; simp
  have v2 : IntKind.u64.wrap ((P2 : Int) + (m : Int)) = (P3 : Int) := by rw [IntKind.wrap_u64]; omega
  have v3 : bits .and .u64 (P3 : Int) 18446744073709551615 = (a : Int) := by
    rw [mask_and P3 64 (by omega) (by omega) 18446744073709551615 rfl]
    have e1 : P3 % 2 ^ 64 = (s * b + m) % 2 ^ 64 := by
      rw [hP3, Nat.mod_mod_of_dvd _ (show 2 ^ 64 ∣ 18446744073709551616 by decide), hP2, Nat.add_mod, Nat.mod_mod_of_dvd _ (show 2 ^ 64 ∣ 18446744073709551616 by decide), ← Nat.add_mod]
    rw [e1, hback]
  clear hP2 hP3 hback hmod hsg hsame hlt0 hbn zm zb hm hbs hl h0 hmm HD HV13 HV14 HV15 HV16
  rcases f12 with ⟨f1, f2⟩ | f1
  · go_enter Tryd.func9, Tryd.ntmps9
    go_wp2_with (first | (go_at_call 54; refine (law_do w _ _ _ _ _ rfl (by decide) (by first | assumption | omega | decide) (by first | assumption | omega | decide) (by assumption)).mono ?_; rintro e w' ⟨rfl, hs'⟩) | (go_at_call 55; refine (law_below _ _ _ 64 9223372036854775808 rfl (by decide) (by decide) (by assumption) (by first | assumption | decide)).mono ?_; rintro e w' ⟨rfl, rfl⟩) | (go_at_call 53; refine (law_works07 w _ (by assumption)).mono ?_; rintro e w' ⟨rfl, hz'⟩))
    all_goals go_ret
    all_goals exact ⟨rfl, hz'.bel⟩
  · go_enter Tryd.func9, Tryd.ntmps9
    go_wp2_with (first | (go_at_call 54; refine (law_do w _ _ _ _ _ rfl (by decide) (by first | assumption | omega | decide) (by first | assumption | omega | decide) (by assumption)).mono ?_; rintro e w' ⟨rfl, hs'⟩) | (go_at_call 55; refine (law_below _ _ _ 64 9223372036854775808 rfl (by decide) (by decide) (by assumption) (by first | assumption | decide)).mono ?_; rintro e w' ⟨rfl, rfl⟩) | (go_at_call 53; refine (law_works07 w _ (by assumption)).mono ?_; rintro e w' ⟨rfl, hz'⟩))
    all_goals go_ret
    all_goals exact ⟨rfl, hz'.bel⟩
theorem law_divide (w : World) (a0 b0 : Nat) (wide : Bool) (ha0 : a0 < 18446744073709551616) (hb0 : b0 < 18446744073709551616) (ht : Tb w) :
    Calls Tryd.prog 9 #[.int .u64 a0, .int .u64 b0, .bool wide] w fun e w' => e = .returned (.bool true) ∧ Below w.heap.size w w' := by
  cases wide
  · have M1 := mask_and a0 32 ha0 (by omega) 4294967295 rfl
    have M2 := mask_and b0 32 hb0 (by omega) 4294967295 rfl
    have la : a0 % 2 ^ 32 < 4294967296 := Nat.mod_lt _ (by decide)
    have lb : b0 % 2 ^ 32 < 4294967296 := Nat.mod_lt _ (by decide)
    generalize a0 % 2 ^ 32 = a at *
    generalize b0 % 2 ^ 32 = b at *
    by_cases h0 : b = 0
    · exact law_divide32_zero w a0 b0 a b M1 M2 la lb (Wd.refl ht) h0
    by_cases hl : a = 2 ^ (32 - 1) ∧ b = 2 ^ 32 - 1
    · exact law_divide32_least w a0 b0 a b M1 M2 la lb (Wd.refl ht) hl.1 hl.2
    by_cases hm : sg 32 (un 32 ((sg 32 a).tmod (sg 32 b))) < 0
    · by_cases hbs : sg 32 b < 0
      · exact law_divide32_s11 w a0 b0 a b M1 M2 la lb (Wd.refl ht) h0 hl hm hbs
      · exact law_divide32_s10 w a0 b0 a b M1 M2 la lb (Wd.refl ht) h0 hl hm hbs
    · by_cases hbs : sg 32 b < 0
      · exact law_divide32_s01 w a0 b0 a b M1 M2 la lb (Wd.refl ht) h0 hl hm hbs
      · exact law_divide32_s00 w a0 b0 a b M1 M2 la lb (Wd.refl ht) h0 hl hm hbs
  · have M1 := mask_and a0 64 ha0 (by omega) 18446744073709551615 rfl
    have M2 := mask_and b0 64 hb0 (by omega) 18446744073709551615 rfl
    have la : a0 % 2 ^ 64 < 18446744073709551616 := Nat.mod_lt _ (by decide)
    have lb : b0 % 2 ^ 64 < 18446744073709551616 := Nat.mod_lt _ (by decide)
    generalize a0 % 2 ^ 64 = a at *
    generalize b0 % 2 ^ 64 = b at *
    by_cases h0 : b = 0
    · exact law_divide64_zero w a0 b0 a b M1 M2 la lb (Wd.refl ht) h0
    by_cases hl : a = 2 ^ (64 - 1) ∧ b = 2 ^ 64 - 1
    · exact law_divide64_least w a0 b0 a b M1 M2 la lb (Wd.refl ht) hl.1 hl.2
    by_cases hm : sg 64 (un 64 ((sg 64 a).tmod (sg 64 b))) < 0
    · by_cases hbs : sg 64 b < 0
      · exact law_divide64_s11 w a0 b0 a b M1 M2 la lb (Wd.refl ht) h0 hl hm hbs
      · exact law_divide64_s10 w a0 b0 a b M1 M2 la lb (Wd.refl ht) h0 hl hm hbs
    · by_cases hbs : sg 64 b < 0
      · exact law_divide64_s01 w a0 b0 a b M1 M2 la lb (Wd.refl ht) h0 hl hm hbs
      · exact law_divide64_s00 w a0 b0 a b M1 M2 la lb (Wd.refl ht) h0 hl hm hbs
end Go.Proofs.YtmlniifdipeboaaDoor
