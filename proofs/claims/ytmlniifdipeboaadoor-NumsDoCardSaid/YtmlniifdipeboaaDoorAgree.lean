/- flagonlaw07.NumsAgree, walked. -/
import Derived.Test.YtmlniifdipeboaaDoorTurn
namespace Go.Proofs.YtmlniifdipeboaaDoor
open Go Go.RowKit

theorem numOf_all : ∀ k : Fin 25, numOf (48 + k.val) = true ∧ numOf (80 + k.val) = true := by decide +kernel
theorem val32 {k x y : Nat} (hk : k ≤ 24) (hx : x < 4294967296) (hy : y < 4294967296) : val (48 + k) x y = (numN 32 k x y 0 0).1 := by
  have h := (numOf_all ⟨k, by omega⟩).1
  simp only at h
  rw [val, doN, if_neg (by simp [h]), if_neg (by omega), if_neg (by omega), Nat.mod_eq_of_lt hx, Nat.mod_eq_of_lt hy, Nat.add_sub_cancel_left]
theorem val64 {k x y : Nat} (hk : k ≤ 24) : val (80 + k) x y = (numN 64 k x y 0 0).1 := by
  have h := (numOf_all ⟨k, by omega⟩).2
  simp only at h
  rw [val, doN, if_neg (by simp [h]), if_neg (by omega), if_pos (by omega), Nat.add_sub_cancel_left]
theorem not_mask (b n : Nat) (hn : n ≤ 64) (hb : b < 2 ^ n) (M : Int) (hM : ((2 ^ n - 1 : Nat) : Int) = M) : bits .and .u64 (bits .xor .u64 IntKind.u64.max (b : Int)) M = ((2 ^ n - 1 - b : Nat) : Int) := by
  have hle : 2 ^ n ≤ 2 ^ 64 := Nat.pow_le_pow_right (by omega) hn
  have hb64 : b < 18446744073709551616 := Nat.lt_of_lt_of_le hb hle
  have e1 : bits .xor .u64 IntKind.u64.max (b : Int) = ((18446744073709551615 - b : Nat) : Int) := by
    rw [show IntKind.u64.max = ((18446744073709551615 : Nat) : Int) by decide, bits_xor_u64_nat _ b (by decide) hb64, Nat.xor_comm]
    have := not_eq (n := 64) (x := b) hb64
    rw [show (2 : Nat) ^ 64 - 1 = 18446744073709551615 from rfl] at this
    rw [this]
  rw [e1, mask_and _ n (by omega) hn M hM]
  obtain ⟨m, hm⟩ : ∃ m, 18446744073709551615 - b = (2 ^ n - 1 - b) + 2 ^ n * m := by
    refine ⟨2 ^ (64 - n) - 1, ?_⟩
    have e2 : (2 : Nat) ^ 64 = 2 ^ n * 2 ^ (64 - n) := by rw [← Nat.pow_add]; congr 1; omega
    have e3 : 18446744073709551615 = 2 ^ n * 2 ^ (64 - n) - 1 := by rw [← e2]
    have hp := Nat.two_pow_pos (64 - n)
    rw [e3, Nat.mul_sub, Nat.mul_one]
    have h4 : 2 ^ n * 1 ≤ 2 ^ n * 2 ^ (64 - n) := Nat.mul_le_mul_left _ hp
    omega
  rw [hm, Nat.add_mul_mod_self_left, Nat.mod_eq_of_lt (by omega)]
theorem ones_div {n k : Nat} (hk : k ≤ n) : (2 ^ n - 1) / 2 ^ k = 2 ^ (n - k) - 1 := by
  have e2 : (2 : Nat) ^ n = 2 ^ (n - k) * 2 ^ k := by rw [← Nat.pow_add]; congr 1; omega
  have hp := Nat.two_pow_pos k
  have hp2 := Nat.two_pow_pos (n - k)
  rw [e2]
  have e3 : 2 ^ (n - k) * 2 ^ k - 1 = (2 ^ k - 1) + 2 ^ k * (2 ^ (n - k) - 1) := by
    rw [Nat.mul_sub, Nat.mul_one, Nat.mul_comm (2 ^ k) (2 ^ (n - k))]
    have h4 : 1 * 2 ^ k ≤ 2 ^ (n - k) * 2 ^ k := Nat.mul_le_mul_right _ hp2
    omega
  rw [e3, Nat.add_mul_div_left _ _ hp, Nat.div_eq_of_lt (by omega), Nat.zero_add]
theorem shr_mask (sa n k : Nat) (hn : n ≤ 64) (hk : k ≤ n) (hs : sa < 18446744073709551616) (M : Int) (hM : ((2 ^ n - 1 : Nat) : Int) = M) : bits .and .u64 (sa : Int) (M / 2 ^ k) = ((sa % 2 ^ (n - k) : Nat) : Int) := by
  refine mask_and sa (n - k) hs (by omega) _ ?_
  rw [← ones_div hk, ← hM]
  simp
/-- What the law asks of the numbers. -/
structure Agree (n a b : Nat) (f : Nat → Nat → Nat → Nat) (t s c d e x1 l1 l2 q u1 u2 ne le1 le2 xo o an z sr sa : Nat) : Prop where
  t1 : f 23 a b = t
  t2 : f 24 t b = a
  s1 : f 20 a b = s
  s2 : f 12 a (2 ^ (b % n)) = s
  c1 : f 9 t 0 = c
  c2 : f 9 a 0 = c
  d1 : f 10 a (2 ^ n - 1 - b) = x1
  d2 : f 10 x1 1 = d
  d3 : f 11 a b = d
  e1 : f 10 a b = e
  e2 : f 11 e b = a
  q1 : f 3 a b = l1
  q2 : f 1 a b = q
  q3 : f 3 b a = l2
  q4 : f 4 a b = u1
  q5 : f 4 b a = u2
  q6 : l1 + q + l2 = 1 ∧ u1 + q + u2 = 1 ∧ l1 ≤ 1 ∧ q ≤ 1 ∧ l2 ≤ 1 ∧ u1 ≤ 1 ∧ u2 ≤ 1
  n1 : f 2 a b = ne
  n2 : ne = 1 - q
  n3 : f 5 a b = le1
  n4 : le1 = 1 - l2
  n5 : f 6 a b = le2
  n6 : le2 = 1 - u2
  x1' : f 19 a b = xo
  x2 : f 18 a b = o
  x3 : f 17 a b = an
  x4 : f 11 o an = xo
  z1 : f 0 a 0 = z
  z2 : f 1 a 0 = z
  r1 : f 22 a b = sr
  r2 : sr = a / 2 ^ (b % n)
  r3 : f 21 a b = sa
  r4 : sa % 2 ^ (n - b % n) = sr
  lt : t < 2 ^ n ∧ x1 < 2 ^ n ∧ e < 2 ^ n ∧ o < 2 ^ n ∧ an < 2 ^ n ∧ sa < 2 ^ n
theorem agree {n a b : Nat} (hn : 2 ≤ n) (ha : a < 2 ^ n) (hb : b < 2 ^ n) :
    ∃ t s c d e x1 l1 l2 q u1 u2 ne le1 le2 xo o an z sr sa, Agree n a b (fun k x y => (numN n k x y 0 0).1) t s c d e x1 l1 l2 q u1 u2 ne le1 le2 xo o an z sr sa := by
  have hp := Nat.two_pow_pos n
  have hk : b % n < n := Nat.mod_lt _ (by omega)
  have hor := or_xor_and n a b ha hb
  have hol : a ||| b < 2 ^ n := Nat.or_lt_two_pow ha hb
  have hM1 : 1 < 2 ^ n := Nat.one_lt_two_pow (by omega)
  have hd : (2 : Nat) ^ n = 2 ^ (n - b % n) * 2 ^ (b % n) := by rw [← Nat.pow_add]; congr 1; omega
  refine ⟨_, _, _, _, _, _, _, _, _, _, _, _, _, _, _, _, _, _, _, _, ⟨rfl, ?_, rfl, rfl, rfl, ?_, rfl, rfl, ?_, rfl, ?_, rfl, rfl, rfl, rfl, rfl, ?_, rfl, ?_, rfl, ?_, rfl, ?_, rfl, rfl, rfl, ?_, rfl, ?_, rfl, rfl, rfl, ?_, ?_⟩⟩
  · exact rotl_back (by omega) hk ha
  · exact (popN_rotl (Nat.le_of_lt hk) ha).symm
  · show (a + (2 ^ n - b)) % 2 ^ n = ((a + (2 ^ n - 1 - b)) % 2 ^ n + 1) % 2 ^ n
    rw [Nat.mod_add_mod]; congr 1; omega
  · show ((a + b) % 2 ^ n + (2 ^ n - b)) % 2 ^ n = a
    rw [Nat.mod_add_mod, show a + b + (2 ^ n - b) = a + 2 ^ n by omega, Nat.add_mod_right, Nat.mod_eq_of_lt ha]
  · have hi := @sg_inj n a b ha hb
    show tr (decide (sg n a < sg n b)) + tr (decide (a = b)) + tr (decide (sg n b < sg n a)) = 1 ∧ tr (decide (a < b)) + tr (decide (a = b)) + tr (decide (b < a)) = 1 ∧ tr (decide (sg n a < sg n b)) ≤ 1 ∧ tr (decide (a = b)) ≤ 1 ∧ tr (decide (sg n b < sg n a)) ≤ 1 ∧ tr (decide (a < b)) ≤ 1 ∧ tr (decide (b < a)) ≤ 1
    have h01 : ∀ x : Bool, tr x ≤ 1 := by intro x; cases x <;> decide
    refine ⟨?_, ?_, h01 _, h01 _, h01 _, h01 _, h01 _⟩
    · rcases Int.lt_trichotomy (sg n a) (sg n b) with h | h | h
      · have h2 : ¬ a = b := fun e => by rw [e] at h; omega
        have h3 : ¬ sg n b < sg n a := by omega
        simp [tr, h, h2, h3]
      · have h2 : a = b := hi.1 h
        subst h2
        simp [tr]
      · have h2 : ¬ a = b := fun e => by rw [e] at h; omega
        have h3 : ¬ sg n a < sg n b := by omega
        simp [tr, h, h2, h3]
    · rcases Nat.lt_trichotomy a b with h | h | h
      · simp [tr, h, show ¬ a = b by omega, show ¬ b < a by omega]
      · subst h; simp [tr]
      · simp [tr, h, show ¬ a = b by omega, show ¬ a < b by omega]
  · show tr (decide (a ≠ b)) = 1 - tr (decide (a = b))
    by_cases h : a = b <;> simp [tr, h]
  · show tr (decide (sg n a ≤ sg n b)) = 1 - tr (decide (sg n b < sg n a))
    by_cases h : sg n b < sg n a
    · simp [tr, h, show ¬ sg n a ≤ sg n b by omega]
    · simp [tr, h, show sg n a ≤ sg n b by omega]
  · show tr (decide (a ≤ b)) = 1 - tr (decide (b < a))
    by_cases h : b < a
    · simp [tr, h, show ¬ a ≤ b by omega]
    · simp [tr, h, show a ≤ b by omega]
  · show ((a ||| b) + (2 ^ n - (a &&& b))) % 2 ^ n = a ^^^ b
    have hal : a &&& b < 2 ^ n := Nat.and_lt_two_pow _ hb
    rw [hor, show (a ^^^ b) + (a &&& b) + (2 ^ n - (a &&& b)) = (a ^^^ b) + 2 ^ n by omega, Nat.add_mod_right, Nat.mod_eq_of_lt (by omega)]
  · rfl
  · show un n (sg n a / 2 ^ (b % n)) % 2 ^ (n - b % n) = a / 2 ^ (b % n)
    generalize b % n = k at *
    obtain ⟨c, e⟩ := sg_mod (n := n) (x := a)
    obtain ⟨c2, e2⟩ := un_mod n (sg n a / 2 ^ k)
    have e3 : ((2 : Int) ^ n) = 2 ^ (n - k) * 2 ^ k := by have := congrArg (Nat.cast : Nat → Int) hd; simpa using this
    have e4 : sg n a / 2 ^ k = (a : Int) / 2 ^ k + c * 2 ^ (n - k) := by
      rw [e, e3, ← Int.mul_assoc, Int.add_mul_ediv_right _ _ (by have := Nat.two_pow_pos k; have h5 : ((2 ^ k : Nat) : Int) = 2 ^ k := by simp
                                                                 omega)]
    have hlt : a / 2 ^ k < 2 ^ (n - k) := Nat.div_lt_of_lt_mul (by rw [Nat.mul_comm, ← hd]; exact ha)
    have e5 : ((un n (sg n a / 2 ^ k) : Nat) : Int) = ((a / 2 ^ k : Nat) : Int) + (c + c2 * 2 ^ k) * 2 ^ (n - k) := by
      rw [e2, e4, e3, Int.add_mul, Int.mul_assoc c2, Int.mul_comm (2 ^ k) (2 ^ (n - k))]
      simp only [Int.natCast_ediv, Int.natCast_pow, Int.cast_ofNat_Int]
      omega
    have e6 : ((un n (sg n a / 2 ^ k) % 2 ^ (n - k) : Nat) : Int) = ((a / 2 ^ k : Nat) : Int) := by
      rw [Int.natCast_emod, e5, show ((2 ^ (n - k) : Nat) : Int) = 2 ^ (n - k) by simp, Int.add_mul_emod_self_right]
      exact Int.emod_eq_of_lt (Int.natCast_nonneg _) (by rw [show (2 : Int) ^ (n - k) = ((2 ^ (n - k) : Nat) : Int) by simp]; exact Int.ofNat_lt.2 hlt)
    exact Int.ofNat_inj.1 e6
  · exact ⟨rotlN_lt (Nat.le_of_lt hk) ha, Nat.mod_lt _ hp, Nat.mod_lt _ hp, hol, Nat.and_lt_two_pow _ hb, un_lt _ _⟩
set_option maxRecDepth 100000 in
set_option maxHeartbeats 12800000 in
theorem law_agree32 (w : World) (a0 b0 : Nat) (ha0 : a0 < 18446744073709551616) (hb0 : b0 < 18446744073709551616) (ht : Tb w) :
    Calls Tryd.prog 10 #[.int .u64 a0, .int .u64 b0, .bool false] w fun e w' => e = .returned (.bool true) ∧ Below w.heap.size w w' := by
  have M1 := mask_and a0 32 ha0 (by omega) 4294967295 rfl
  have M2 := mask_and b0 32 hb0 (by omega) 4294967295 rfl
  have la : a0 % 2 ^ 32 < 4294967296 := Nat.mod_lt _ (by decide)
  have lb : b0 % 2 ^ 32 < 4294967296 := Nat.mod_lt _ (by decide)
  generalize a0 % 2 ^ 32 = a at *
  generalize b0 % 2 ^ 32 = b at *
  obtain ⟨t, s, c, d, e, x1, l1, l2, q, u1, u2, ne, le1, le2, xo, o, an, z, sr, sa, G⟩ := agree (n := 32) (by omega) la lb
  have HG := Lib.hid G; clear G
  obtain ⟨g1, g2, g3, g4, g5, g6⟩ := HG.out.lt
  have lP : 2 ^ (b % 32) < 4294967296 := Nat.pow_lt_pow_right (by omega) (Nat.mod_lt _ (by decide))
  have lnb : 2 ^ 32 - 1 - b < 4294967296 := by omega
  have HPd : Hid (∃ P : Nat, P = 2 ^ (b % 32)) := ⟨_, rfl⟩
  obtain ⟨P, hP⟩ := HPd.out
  obtain ⟨nb, hnb⟩ : ∃ x : Nat, x = 2 ^ 32 - 1 - b := ⟨_, rfl⟩
  rw [← hP] at lP
  rw [← hnb] at lnb
  have HG1 : Hid (Agree 32 a b (fun k x y => (numN 32 k x y 0 0).1) t s c d e x1 l1 l2 q u1 u2 ne le1 le2 xo o an z sr sa) := HG
  change t < 4294967296 at g1; change x1 < 4294967296 at g2; change e < 4294967296 at g3; change o < 4294967296 at g4; change an < 4294967296 at g5; change sa < 4294967296 at g6
  have E_t1 : val 71 a b = t := (val32 (k := 23) (by omega) la lb).trans HG.out.t1
  have E_t2 : val 72 t b = a := (val32 (k := 24) (by omega) g1 lb).trans HG.out.t2
  have E_s1 : val 68 a b = s := (val32 (k := 20) (by omega) la lb).trans HG.out.s1
  have E_s2 : val 60 a P = s := by rw [hP]; exact (val32 (k := 12) (by omega) la (by rw [← hP]; exact lP)).trans HG.out.s2
  have E_c1 : val 57 t 0 = c := (val32 (k := 9) (by omega) g1 (by decide)).trans HG.out.c1
  have E_c2 : val 57 a 0 = c := (val32 (k := 9) (by omega) la (by decide)).trans HG.out.c2
  have E_d1 : val 58 a nb = x1 := by rw [hnb]; exact (val32 (k := 10) (by omega) la (by rw [← hnb]; exact lnb)).trans HG.out.d1
  have E_d2 : val 58 x1 1 = d := (val32 (k := 10) (by omega) g2 (by decide)).trans HG.out.d2
  have E_d3 : val 59 a b = d := (val32 (k := 11) (by omega) la lb).trans HG.out.d3
  have E_e1 : val 58 a b = e := (val32 (k := 10) (by omega) la lb).trans HG.out.e1
  have E_e2 : val 59 e b = a := (val32 (k := 11) (by omega) g3 lb).trans HG.out.e2
  have E_q1 : val 51 a b = l1 := (val32 (k := 3) (by omega) la lb).trans HG.out.q1
  have E_q2 : val 49 a b = q := (val32 (k := 1) (by omega) la lb).trans HG.out.q2
  have E_q3 : val 51 b a = l2 := (val32 (k := 3) (by omega) lb la).trans HG.out.q3
  have E_q4 : val 52 a b = u1 := (val32 (k := 4) (by omega) la lb).trans HG.out.q4
  have E_q5 : val 52 b a = u2 := (val32 (k := 4) (by omega) lb la).trans HG.out.q5
  have E_n1 : val 50 a b = ne := (val32 (k := 2) (by omega) la lb).trans HG.out.n1
  have E_n3 : val 53 a b = le1 := (val32 (k := 5) (by omega) la lb).trans HG.out.n3
  have E_n5 : val 54 a b = le2 := (val32 (k := 6) (by omega) la lb).trans HG.out.n5
  have E_x1p : val 67 a b = xo := (val32 (k := 19) (by omega) la lb).trans HG.out.x1'
  have E_x2 : val 66 a b = o := (val32 (k := 18) (by omega) la lb).trans HG.out.x2
  have E_x3 : val 65 a b = an := (val32 (k := 17) (by omega) la lb).trans HG.out.x3
  have E_x4 : val 59 o an = xo := (val32 (k := 11) (by omega) g4 g5).trans HG.out.x4
  have E_z1 : val 48 a 0 = z := (val32 (k := 0) (by omega) la (by decide)).trans HG.out.z1
  have E_z2 : val 49 a 0 = z := (val32 (k := 1) (by omega) la (by decide)).trans HG.out.z2
  have E_r1 : val 70 a b = sr := (val32 (k := 22) (by omega) la lb).trans HG.out.r1
  have E_r3 : val 69 a b = sa := (val32 (k := 21) (by omega) la lb).trans HG.out.r3
  have F1 : IntKind.u64.wrap ((2 : Int) ^ (b % 32)) = (P : Int) := by rw [show (2 : Int) ^ (b % 32) = ((2 ^ (b % 32) : Nat) : Int) by simp, ← hP]; exact w64_nat (by omega)
  have F2 := not_mask b 32 (by omega) lb 4294967295 rfl
  rw [← hnb] at F2
  have F3 : (a : Int) / 2 ^ (b % 32) = (sr : Int) := by rw [cast_shr, ← HG.out.r2]
  have F4 := shr_mask sa 32 (b % 32) (by omega) (Nat.le_of_lt (Nat.mod_lt _ (by decide))) (by omega) 4294967295 rfl
  rw [HG.out.r4] at F4
  obtain ⟨y1, y2, y3, y4, y5, y6, y7⟩ := HG.out.q6
  have n2 := HG.out.n2; have n4 := HG.out.n4; have n6 := HG.out.n6
  have S1 : ((l1 : Int) + q + l2 != 1) = false := by rw [bne_eq_false_iff_eq]; omega
  have S2 : ((u1 : Int) + q + u2 != 1) = false := by rw [bne_eq_false_iff_eq]; omega
  have S3 : ((ne : Int) != 1 - q) = false := by rw [bne_eq_false_iff_eq]; omega
  have S4 : ((le1 : Int) != 1 - l2) = false := by rw [bne_eq_false_iff_eq]; omega
  have S5 : ((le2 : Int) != 1 - u2) = false := by rw [bne_eq_false_iff_eq]; omega
  clear y1 y2 n2 n4 n6
  have HT := Lib.hid (Wd.refl ht); clear ht
  have hs := HT.out
  clear HPd HG1
  have HP := Lib.hid hP; have HNB := Lib.hid hnb; clear hP hnb
  go_enter Tryd.func10, Tryd.ntmps10
  go_wp2_with (first
      | (go_at_call 56; refine (law_value w _ _ _ _ _ rfl (by decide) (by first | assumption | omega) (by first | assumption | omega | decide) (by assumption)).mono ?_; rintro e w' ⟨rfl, hs'⟩))
  refine (law_works07 w _ (by assumption)).mono ?_
  rintro e w' ⟨rfl, hsz⟩
  go_wp2_with (first
      | (go_at_call 56; refine (law_value w _ _ _ _ _ rfl (by decide) (by first | assumption | omega) (by first | assumption | omega | decide) (by assumption)).mono ?_; rintro e w' ⟨rfl, hs'⟩))
  go_ret
  exact ⟨rfl, hs'.bel⟩
set_option maxRecDepth 100000 in
set_option maxHeartbeats 12800000 in
theorem law_agree64 (w : World) (a0 b0 : Nat) (ha0 : a0 < 18446744073709551616) (hb0 : b0 < 18446744073709551616) (ht : Tb w) :
    Calls Tryd.prog 10 #[.int .u64 a0, .int .u64 b0, .bool true] w fun e w' => e = .returned (.bool true) ∧ Below w.heap.size w w' := by
  have M1 := mask_and a0 64 ha0 (by omega) 18446744073709551615 rfl
  have M2 := mask_and b0 64 hb0 (by omega) 18446744073709551615 rfl
  have la : a0 % 2 ^ 64 < 18446744073709551616 := Nat.mod_lt _ (by decide)
  have lb : b0 % 2 ^ 64 < 18446744073709551616 := Nat.mod_lt _ (by decide)
  generalize a0 % 2 ^ 64 = a at *
  generalize b0 % 2 ^ 64 = b at *
  obtain ⟨t, s, c, d, e, x1, l1, l2, q, u1, u2, ne, le1, le2, xo, o, an, z, sr, sa, G⟩ := agree (n := 64) (by omega) la lb
  have HG := Lib.hid G; clear G
  obtain ⟨g1, g2, g3, g4, g5, g6⟩ := HG.out.lt
  have lP : 2 ^ (b % 64) < 18446744073709551616 := Nat.pow_lt_pow_right (by omega) (Nat.mod_lt _ (by decide))
  have lnb : 2 ^ 64 - 1 - b < 18446744073709551616 := by omega
  have HPd : Hid (∃ P : Nat, P = 2 ^ (b % 64)) := ⟨_, rfl⟩
  obtain ⟨P, hP⟩ := HPd.out
  obtain ⟨nb, hnb⟩ : ∃ x : Nat, x = 2 ^ 64 - 1 - b := ⟨_, rfl⟩
  rw [← hP] at lP
  rw [← hnb] at lnb
  have HG1 : Hid (Agree 64 a b (fun k x y => (numN 64 k x y 0 0).1) t s c d e x1 l1 l2 q u1 u2 ne le1 le2 xo o an z sr sa) := HG
  change t < 18446744073709551616 at g1; change x1 < 18446744073709551616 at g2; change e < 18446744073709551616 at g3; change o < 18446744073709551616 at g4; change an < 18446744073709551616 at g5; change sa < 18446744073709551616 at g6
  have E_t1 : val 103 a b = t := (val64 (k := 23) (by omega)).trans HG.out.t1
  have E_t2 : val 104 t b = a := (val64 (k := 24) (by omega)).trans HG.out.t2
  have E_s1 : val 100 a b = s := (val64 (k := 20) (by omega)).trans HG.out.s1
  have E_s2 : val 92 a P = s := by rw [hP]; exact (val64 (k := 12) (by omega)).trans HG.out.s2
  have E_c1 : val 89 t 0 = c := (val64 (k := 9) (by omega)).trans HG.out.c1
  have E_c2 : val 89 a 0 = c := (val64 (k := 9) (by omega)).trans HG.out.c2
  have E_d1 : val 90 a nb = x1 := by rw [hnb]; exact (val64 (k := 10) (by omega)).trans HG.out.d1
  have E_d2 : val 90 x1 1 = d := (val64 (k := 10) (by omega)).trans HG.out.d2
  have E_d3 : val 91 a b = d := (val64 (k := 11) (by omega)).trans HG.out.d3
  have E_e1 : val 90 a b = e := (val64 (k := 10) (by omega)).trans HG.out.e1
  have E_e2 : val 91 e b = a := (val64 (k := 11) (by omega)).trans HG.out.e2
  have E_q1 : val 83 a b = l1 := (val64 (k := 3) (by omega)).trans HG.out.q1
  have E_q2 : val 81 a b = q := (val64 (k := 1) (by omega)).trans HG.out.q2
  have E_q3 : val 83 b a = l2 := (val64 (k := 3) (by omega)).trans HG.out.q3
  have E_q4 : val 84 a b = u1 := (val64 (k := 4) (by omega)).trans HG.out.q4
  have E_q5 : val 84 b a = u2 := (val64 (k := 4) (by omega)).trans HG.out.q5
  have E_n1 : val 82 a b = ne := (val64 (k := 2) (by omega)).trans HG.out.n1
  have E_n3 : val 85 a b = le1 := (val64 (k := 5) (by omega)).trans HG.out.n3
  have E_n5 : val 86 a b = le2 := (val64 (k := 6) (by omega)).trans HG.out.n5
  have E_x1p : val 99 a b = xo := (val64 (k := 19) (by omega)).trans HG.out.x1'
  have E_x2 : val 98 a b = o := (val64 (k := 18) (by omega)).trans HG.out.x2
  have E_x3 : val 97 a b = an := (val64 (k := 17) (by omega)).trans HG.out.x3
  have E_x4 : val 91 o an = xo := (val64 (k := 11) (by omega)).trans HG.out.x4
  have E_z1 : val 80 a 0 = z := (val64 (k := 0) (by omega)).trans HG.out.z1
  have E_z2 : val 81 a 0 = z := (val64 (k := 1) (by omega)).trans HG.out.z2
  have E_r1 : val 102 a b = sr := (val64 (k := 22) (by omega)).trans HG.out.r1
  have E_r3 : val 101 a b = sa := (val64 (k := 21) (by omega)).trans HG.out.r3
  have F1 : IntKind.u64.wrap ((2 : Int) ^ (b % 64)) = (P : Int) := by rw [show (2 : Int) ^ (b % 64) = ((2 ^ (b % 64) : Nat) : Int) by simp, ← hP]; exact w64_nat (by omega)
  have F2 := not_mask b 64 (by omega) lb 18446744073709551615 rfl
  rw [← hnb] at F2
  have F3 : (a : Int) / 2 ^ (b % 64) = (sr : Int) := by rw [cast_shr, ← HG.out.r2]
  have F4 := shr_mask sa 64 (b % 64) (by omega) (Nat.le_of_lt (Nat.mod_lt _ (by decide))) (by omega) 18446744073709551615 rfl
  rw [HG.out.r4] at F4
  obtain ⟨y1, y2, y3, y4, y5, y6, y7⟩ := HG.out.q6
  have n2 := HG.out.n2; have n4 := HG.out.n4; have n6 := HG.out.n6
  have S1 : ((l1 : Int) + q + l2 != 1) = false := by rw [bne_eq_false_iff_eq]; omega
  have S2 : ((u1 : Int) + q + u2 != 1) = false := by rw [bne_eq_false_iff_eq]; omega
  have S3 : ((ne : Int) != 1 - q) = false := by rw [bne_eq_false_iff_eq]; omega
  have S4 : ((le1 : Int) != 1 - l2) = false := by rw [bne_eq_false_iff_eq]; omega
  have S5 : ((le2 : Int) != 1 - u2) = false := by rw [bne_eq_false_iff_eq]; omega
  clear y1 y2 n2 n4 n6
  have HT := Lib.hid (Wd.refl ht); clear ht
  have hs := HT.out
  clear HPd HG1
  have HP := Lib.hid hP; have HNB := Lib.hid hnb; clear hP hnb
  go_enter Tryd.func10, Tryd.ntmps10
  go_wp2_with (first
      | (go_at_call 56; refine (law_value w _ _ _ _ _ rfl (by decide) (by first | assumption | omega) (by first | assumption | omega | decide) (by assumption)).mono ?_; rintro e w' ⟨rfl, hs'⟩))
  refine (law_works07 w _ (by assumption)).mono ?_
  rintro e w' ⟨rfl, hsz⟩
  go_wp2_with (first
      | (go_at_call 56; refine (law_value w _ _ _ _ _ rfl (by decide) (by first | assumption | omega) (by first | assumption | omega | decide) (by assumption)).mono ?_; rintro e w' ⟨rfl, hs'⟩))
  go_ret
  exact ⟨rfl, hs'.bel⟩
theorem law_agree (w : World) (a b : Nat) (wide : Bool) (ha : a < 18446744073709551616) (hb : b < 18446744073709551616) (ht : Tb w) :
    Calls Tryd.prog 10 #[.int .u64 a, .int .u64 b, .bool wide] w fun e w' => e = .returned (.bool true) ∧ Below w.heap.size w w' := by
  cases wide
  · exact law_agree32 w a b ha hb ht
  · exact law_agree64 w a b ha hb ht
end Go.Proofs.YtmlniifdipeboaaDoor
