/- flagonref07.quotient. -/
import Derived.Test.YtmlniifdipeboaaDoorRef7c
namespace Go.Proofs.YtmlniifdipeboaaDoor
open Go Go.RowKit

theorem un_nat {n q : Nat} (h : q < 2 ^ n) : un n (q : Int) = q := by
  have h2 : ((2 ^ n : Nat) : Int) = 2 ^ n := by simp
  unfold un
  rw [Int.emod_eq_of_lt (by omega) (by omega)]; rfl
theorem un_neg {n q : Nat} (h : q < 2 ^ n) : un n (-(q : Int)) = (2 ^ n - q) % 2 ^ n := by
  have h2 : ((2 ^ n : Nat) : Int) = 2 ^ n := by simp
  have hp := Nat.two_pow_pos n
  unfold un
  rw [← Int.add_emod_right, show -(q : Int) + 2 ^ n = ((2 ^ n - q : Nat) : Int) by omega, ← h2, ← Int.natCast_emod, Int.toNat_natCast]
theorem quot_parts {n a b : Nat} (hn : 1 ≤ n) (ha : a < 2 ^ n) :
    un n ((sg n a).tdiv (sg n b)) = (if (decide (sg n a < 0)) = (decide (sg n b < 0)) then (sg n a).natAbs / (sg n b).natAbs else (2 ^ n - (sg n a).natAbs / (sg n b).natAbs) % 2 ^ n) ∧
    un n ((sg n a).tmod (sg n b)) = (if decide (sg n a < 0) = true then (2 ^ n - (sg n a).natAbs % (sg n b).natAbs) % 2 ^ n else (sg n a).natAbs % (sg n b).natAbs) ∧
    (sg n a).natAbs / (sg n b).natAbs < 2 ^ n ∧ (sg n a).natAbs % (sg n b).natAbs < 2 ^ n ∧ (sg n a).natAbs < 2 ^ n := by
  have hsa := sg_lt (n := n) (by omega) ha
  have e0 : (2 : Int) ^ n = 2 * 2 ^ (n - 1) := by
    rw [show n = (n - 1) + 1 by omega, Int.pow_succ, show n - 1 + 1 - 1 = n - 1 by omega, Int.mul_comm]
  have h2 : ((2 ^ n : Nat) : Int) = 2 ^ n := by simp
  have hp : (0 : Int) < 2 ^ (n - 1) := by have := Nat.two_pow_pos (n - 1); have h3 : ((2 ^ (n - 1) : Nat) : Int) = 2 ^ (n - 1) := (by simp); omega
  have hA : (sg n a).natAbs < 2 ^ n := by omega
  have hq : (sg n a).natAbs / (sg n b).natAbs < 2 ^ n := Nat.lt_of_le_of_lt (Nat.div_le_self _ _) hA
  have hr : (sg n a).natAbs % (sg n b).natAbs < 2 ^ n := Nat.lt_of_le_of_lt (Nat.mod_le _ _) hA
  refine ⟨?_, ?_, hq, hr, hA⟩
  · generalize sg n a = x at *
    generalize sg n b = y at *
    rcases Int.lt_or_le x 0 with hx | hx <;> rcases Int.lt_or_le y 0 with hy | hy
    · obtain ⟨p, rfl⟩ : ∃ p : Nat, x = -(p : Int) := ⟨x.natAbs, by omega⟩
      obtain ⟨q, rfl⟩ : ∃ q : Nat, y = -(q : Int) := ⟨y.natAbs, by omega⟩
      rw [if_pos (by rw [decide_eq_decide]; omega), Int.neg_tdiv, Int.tdiv_neg, Int.neg_neg]
      simp only [Int.natAbs_neg, Int.natAbs_natCast] at *
      exact un_nat hq
    · obtain ⟨p, rfl⟩ : ∃ p : Nat, x = -(p : Int) := ⟨x.natAbs, by omega⟩
      obtain ⟨q, rfl⟩ := Int.eq_ofNat_of_zero_le hy
      rw [if_neg (by rw [decide_eq_decide]; omega), Int.neg_tdiv]
      simp only [Int.natAbs_neg, Int.natAbs_natCast] at *
      exact un_neg hq
    · obtain ⟨p, rfl⟩ := Int.eq_ofNat_of_zero_le hx
      obtain ⟨q, rfl⟩ : ∃ q : Nat, y = -(q : Int) := ⟨y.natAbs, by omega⟩
      rw [if_neg (by rw [decide_eq_decide]; omega), Int.tdiv_neg]
      simp only [Int.natAbs_neg, Int.natAbs_natCast] at *
      exact un_neg hq
    · obtain ⟨p, rfl⟩ := Int.eq_ofNat_of_zero_le hx
      obtain ⟨q, rfl⟩ := Int.eq_ofNat_of_zero_le hy
      rw [if_pos (by rw [decide_eq_decide]; omega)]
      simp only [Int.natAbs_natCast] at *
      exact un_nat hq
  · generalize sg n a = x at *
    generalize sg n b = y at *
    have hm : x.tmod y = x.tmod (y.natAbs : Int) := by
      rcases Int.lt_or_le y 0 with hy | hy
      · obtain ⟨q, rfl⟩ : ∃ q : Nat, y = -(q : Int) := ⟨y.natAbs, by omega⟩
        rw [Int.tmod_neg, Int.natAbs_neg, Int.natAbs_natCast]
      · rw [Int.natAbs_of_nonneg hy]
    rw [hm]
    generalize y.natAbs = q at *
    rcases Int.lt_or_le x 0 with hx | hx
    · obtain ⟨p, rfl⟩ : ∃ p : Nat, x = -(p : Int) := ⟨x.natAbs, by omega⟩
      rw [if_pos (decide_eq_true hx), Int.neg_tmod]
      simp only [Int.natAbs_neg, Int.natAbs_natCast] at *
      exact un_neg hr
    · obtain ⟨p, rfl⟩ := Int.eq_ofNat_of_zero_le hx
      rw [if_neg (by simp)]
      simp only [Int.natAbs_natCast] at *
      exact un_nat hr

set_option maxRecDepth 100000 in
set_option maxHeartbeats 1600000 in
theorem ref_quotient (w : World) (a b n : Nat) (hn : 1 ≤ n ∧ n ≤ 64) (ha : a < 2 ^ n) (hb : b < 2 ^ n) (h0 : b ≠ 0) :
    Calls Tryd.prog 162 #[.int .u64 a, .int .u64 b, .int .i64 n] w fun e w' => e = .returned (.tuple #[.int .u64 (un n ((sg n a).tdiv (sg n b))), .int .u64 (un n ((sg n a).tmod (sg n b)))]) ∧ w' = w := by
  obtain ⟨q1, q2, q3, q4, q5⟩ := quot_parts (b := b) hn.1 ha
  have HSa := Lib.hid (ref_size w a n hn ha)
  have HSb := Lib.hid (ref_size w b n hn hb)
  have HNa := Lib.hid (ref_negative w a n hn)
  have HNb := Lib.hid (ref_negative w b n hn)
  have ea : decide (bitN a (n - 1) = 1) = decide (sg n a < 0) := by rw [decide_eq_decide]; exact neg_sg hn.1 ha
  have eb : decide (bitN b (n - 1) = 1) = decide (sg n b < 0) := by rw [decide_eq_decide]; exact neg_sg hn.1 hb
  rw [ea] at HNa
  rw [eb] at HNb
  have hB : (sg n b).natAbs ≠ 0 := by
    intro c
    have c2 := Int.natAbs_eq_zero.1 c
    have h1 : sg n 0 = 0 := by unfold sg; split <;> simp_all
    rw [← h1] at c2
    exact h0 ((sg_inj hb (Nat.two_pow_pos n)).1 c2)
  clear ea eb
  obtain ⟨X, hX⟩ : ∃ x, un n ((sg n a).tdiv (sg n b)) = x := ⟨_, rfl⟩
  obtain ⟨Y, hY⟩ : ∃ x, un n ((sg n a).tmod (sg n b)) = x := ⟨_, rfl⟩
  rw [hX] at q1 ⊢
  rw [hY] at q2 ⊢
  generalize decide (sg n a < 0) = x at *
  generalize decide (sg n b < 0) = y at *
  generalize (sg n a).natAbs = A at *
  generalize (sg n b).natAbs = B at *
  have e1 : (A : Int) / B = ((A / B : Nat) : Int) := (Int.natCast_ediv _ _).symm
  have e2 : (A : Int).tdiv B = ((A / B : Nat) : Int) := rfl
  have e3 : (A : Int).tmod B = ((A % B : Nat) : Int) := rfl
  have e4 : (A : Int) % B = ((A % B : Nat) : Int) := (Int.natCast_emod _ _).symm
  have e5 : ((B : Int) == 0) = false := by rw [beq_eq_false_iff_ne]; omega
  have hBp : 0 < B := by omega
  have hq64 : A / B < 18446744073709551616 := Nat.lt_of_lt_of_le q3 (Nat.pow_le_pow_right (by omega) hn.2)
  have hr64 : A % B < 18446744073709551616 := Nat.lt_of_lt_of_le q4 (Nat.pow_le_pow_right (by omega) hn.2)
  have HMq := Lib.hid (ref_minus w (A / B) n hq64 hn.2)
  have HMr := Lib.hid (ref_minus w (A % B) n hr64 hn.2)
  rw [minus_n hn.2 q3] at HMq
  rw [minus_n hn.2 q4] at HMr
  clear hX hY q5 h0 hB
  obtain ⟨Q, hQ⟩ : ∃ z, A / B = z := ⟨_, rfl⟩
  obtain ⟨R, hR⟩ : ∃ z, A % B = z := ⟨_, rfl⟩
  rw [hQ] at e1 e2 q1 q3 HMq hq64
  rw [hR] at e3 e4 q2 q4 HMr hr64
  clear hQ hR
  have e6 : IntKind.u64.wrap (Q : Int) = (Q : Int) := IntWalk.u64_in _ ⟨by omega, by omega⟩
  have e7 : IntKind.u64.wrap (R : Int) = (R : Int) := IntWalk.u64_in _ ⟨by omega, by omega⟩
  have HQ1 := Lib.hid q1; have HQ2 := Lib.hid q2
  clear q1 q2
  cases x <;> cases y
  · have h1 := HQ1.out; have h2 := HQ2.out
    rw [if_pos rfl] at h1
    rw [if_neg (by decide)] at h2
    have H1 := Lib.hid h1; have H2 := Lib.hid h2
    clear h1 h2 HQ1 HQ2
    go_enter Tryd.func162, Tryd.ntmps162
    go_wp2_with fail
    with_reducible refine HSa.out.mono ?_
    rintro e w' ⟨rfl, rfl⟩
    go_wp2_with fail
    with_reducible refine HSb.out.mono ?_
    rintro e w' ⟨rfl, rfl⟩
    go_wp2_with fail
    with_reducible refine HSa.out.mono ?_
    rintro e w' ⟨rfl, rfl⟩
    go_wp2_with fail
    with_reducible refine HSb.out.mono ?_
    rintro e w' ⟨rfl, rfl⟩
    go_wp2_with fail
    with_reducible refine HNa.out.mono ?_
    rintro e w' ⟨rfl, rfl⟩
    go_wp2_with fail
    with_reducible refine HNb.out.mono ?_
    rintro e w' ⟨rfl, rfl⟩
    go_wp2_with fail
    with_reducible refine HNa.out.mono ?_
    rintro e w' ⟨rfl, rfl⟩
    go_wp2
    go_ret2
    rw [H1.out, H2.out]
    exact ⟨rfl, rfl⟩
  · have h1 := HQ1.out; have h2 := HQ2.out
    rw [if_neg (by decide)] at h1
    rw [if_neg (by decide)] at h2
    have H1 := Lib.hid h1; have H2 := Lib.hid h2
    clear h1 h2 HQ1 HQ2
    go_enter Tryd.func162, Tryd.ntmps162
    go_wp2_with fail
    with_reducible refine HSa.out.mono ?_
    rintro e w' ⟨rfl, rfl⟩
    go_wp2_with fail
    with_reducible refine HSb.out.mono ?_
    rintro e w' ⟨rfl, rfl⟩
    go_wp2_with fail
    with_reducible refine HSa.out.mono ?_
    rintro e w' ⟨rfl, rfl⟩
    go_wp2_with fail
    with_reducible refine HSb.out.mono ?_
    rintro e w' ⟨rfl, rfl⟩
    go_wp2_with fail
    with_reducible refine HNa.out.mono ?_
    rintro e w' ⟨rfl, rfl⟩
    go_wp2_with fail
    with_reducible refine HNb.out.mono ?_
    rintro e w' ⟨rfl, rfl⟩
    go_wp2_with fail
    with_reducible refine HMq.out.mono ?_
    rintro e w' ⟨rfl, rfl⟩
    go_wp2_with fail
    with_reducible refine HNa.out.mono ?_
    rintro e w' ⟨rfl, rfl⟩
    go_wp2
    go_ret2
    rw [H1.out, H2.out]
    exact ⟨rfl, rfl⟩
  · have h1 := HQ1.out; have h2 := HQ2.out
    rw [if_neg (by decide)] at h1
    rw [if_pos rfl] at h2
    have H1 := Lib.hid h1; have H2 := Lib.hid h2
    clear h1 h2 HQ1 HQ2
    go_enter Tryd.func162, Tryd.ntmps162
    go_wp2_with fail
    with_reducible refine HSa.out.mono ?_
    rintro e w' ⟨rfl, rfl⟩
    go_wp2_with fail
    with_reducible refine HSb.out.mono ?_
    rintro e w' ⟨rfl, rfl⟩
    go_wp2_with fail
    with_reducible refine HSa.out.mono ?_
    rintro e w' ⟨rfl, rfl⟩
    go_wp2_with fail
    with_reducible refine HSb.out.mono ?_
    rintro e w' ⟨rfl, rfl⟩
    go_wp2_with fail
    with_reducible refine HNa.out.mono ?_
    rintro e w' ⟨rfl, rfl⟩
    go_wp2_with fail
    with_reducible refine HNb.out.mono ?_
    rintro e w' ⟨rfl, rfl⟩
    go_wp2_with fail
    with_reducible refine HMq.out.mono ?_
    rintro e w' ⟨rfl, rfl⟩
    go_wp2_with fail
    with_reducible refine HNa.out.mono ?_
    rintro e w' ⟨rfl, rfl⟩
    go_wp2_with fail
    with_reducible refine HMr.out.mono ?_
    rintro e w' ⟨rfl, rfl⟩
    go_wp2
    go_ret2
    rw [H1.out, H2.out]
    exact ⟨rfl, rfl⟩
  · have h1 := HQ1.out; have h2 := HQ2.out
    rw [if_pos rfl] at h1
    rw [if_pos rfl] at h2
    have H1 := Lib.hid h1; have H2 := Lib.hid h2
    clear h1 h2 HQ1 HQ2
    go_enter Tryd.func162, Tryd.ntmps162
    go_wp2_with fail
    with_reducible refine HSa.out.mono ?_
    rintro e w' ⟨rfl, rfl⟩
    go_wp2_with fail
    with_reducible refine HSb.out.mono ?_
    rintro e w' ⟨rfl, rfl⟩
    go_wp2_with fail
    with_reducible refine HSa.out.mono ?_
    rintro e w' ⟨rfl, rfl⟩
    go_wp2_with fail
    with_reducible refine HSb.out.mono ?_
    rintro e w' ⟨rfl, rfl⟩
    go_wp2_with fail
    with_reducible refine HNa.out.mono ?_
    rintro e w' ⟨rfl, rfl⟩
    go_wp2_with fail
    with_reducible refine HNb.out.mono ?_
    rintro e w' ⟨rfl, rfl⟩
    go_wp2_with fail
    with_reducible refine HNa.out.mono ?_
    rintro e w' ⟨rfl, rfl⟩
    go_wp2_with fail
    with_reducible refine HMr.out.mono ?_
    rintro e w' ⟨rfl, rfl⟩
    go_wp2
    go_ret2
    rw [H1.out, H2.out]
    exact ⟨rfl, rfl⟩
end Go.Proofs.YtmlniifdipeboaaDoor
