/- flagonlaw07.NumsRing, walked. -/
import Derived.Test.YtmlniifdipeboaaDoorAgree
namespace Go.Proofs.YtmlniifdipeboaaDoor
open Go Go.RowKit

/-- What the law asks of the numbers. -/
structure Ring (n a b c : Nat) (f : Nat → Nat → Nat → Nat) (ab mb x bc y mbc u mac an v nxa nxb obc p anc xab pa pn pm : Nat) : Prop where
  h1 : f 10 a b = ab
  h2 : f 10 b a = ab
  h3 : f 12 a b = mb
  h4 : f 12 b a = mb
  h5 : f 10 ab c = x
  h6 : f 10 b c = bc
  h7 : f 10 a bc = x
  h8 : f 12 mb c = y
  h9 : f 12 b c = mbc
  h10 : f 12 a mbc = y
  h11 : f 12 a bc = u
  h12 : f 12 a c = mac
  h13 : f 10 mb mac = u
  h14 : f 12 a 1 = a
  h15 : f 10 a 0 = a
  h16 : f 17 a b = an
  h17 : f 19 an (2 ^ n - 1) = v
  h18 : f 19 a (2 ^ n - 1) = nxa
  h19 : f 19 b (2 ^ n - 1) = nxb
  h20 : f 18 nxa nxb = v
  h21 : f 18 b c = obc
  h22 : f 17 a obc = p
  h23 : f 17 a c = anc
  h24 : f 18 an anc = p
  h25 : f 19 a b = xab
  h26 : f 19 xab b = a
  h27 : f 9 a 0 = pa
  h28 : f 9 nxa 0 = pn
  h29 : f 9 (2 ^ n - 1) 0 = pm
  sum : pa + pn = pm ∧ pa ≤ n ∧ pn ≤ n
  lt : ab < 2 ^ n ∧ mb < 2 ^ n ∧ bc < 2 ^ n ∧ mbc < 2 ^ n ∧ mac < 2 ^ n ∧ an < 2 ^ n ∧ nxa < 2 ^ n ∧ nxb < 2 ^ n ∧ obc < 2 ^ n ∧ anc < 2 ^ n ∧ xab < 2 ^ n
theorem demorgan {n a b : Nat} (ha : a < 2 ^ n) (hb : b < 2 ^ n) : (a ^^^ (2 ^ n - 1)) ||| (b ^^^ (2 ^ n - 1)) = (a &&& b) ^^^ (2 ^ n - 1) := by
  apply Nat.eq_of_testBit_eq
  intro i
  rw [Nat.testBit_or, Nat.testBit_xor, Nat.testBit_xor, Nat.testBit_xor, Nat.testBit_and, Nat.testBit_two_pow_sub_one]
  by_cases h : i < n
  · cases a.testBit i <;> cases b.testBit i <;> simp [h]
  · have hp : 2 ^ n ≤ 2 ^ i := Nat.pow_le_pow_right (by omega) (by omega)
    rw [Nat.testBit_lt_two_pow (Nat.lt_of_lt_of_le ha hp), Nat.testBit_lt_two_pow (Nat.lt_of_lt_of_le hb hp)]
    simp
theorem ring {n a b c : Nat} (_hn : 2 ≤ n) (ha : a < 2 ^ n) (hb : b < 2 ^ n) (hc : c < 2 ^ n) :
    ∃ ab mb x bc y mbc u mac an v nxa nxb obc p anc xab pa pn pm, Ring n a b c (fun k x y => (numN n k x y 0 0).1) ab mb x bc y mbc u mac an v nxa nxb obc p anc xab pa pn pm := by
  have hp := Nat.two_pow_pos n
  have hm : 2 ^ n - 1 < 2 ^ n := by omega
  refine ⟨_, _, _, _, _, _, _, _, _, _, _, _, _, _, _, _, _, _, _, ⟨rfl, ?_, rfl, ?_, rfl, rfl, ?_, rfl, rfl, ?_, rfl, rfl, ?_, ?_, ?_, rfl, rfl, rfl, rfl, ?_, rfl, rfl, rfl, ?_, rfl, ?_, rfl, rfl, rfl, ?_, ?_⟩⟩
  · show (b + a) % 2 ^ n = (a + b) % 2 ^ n
    rw [Nat.add_comm]
  · show b * a % 2 ^ n = a * b % 2 ^ n
    rw [Nat.mul_comm]
  · show (a + (b + c) % 2 ^ n) % 2 ^ n = ((a + b) % 2 ^ n + c) % 2 ^ n
    rw [Nat.add_mod_mod, Nat.mod_add_mod, Nat.add_assoc]
  · show a * (b * c % 2 ^ n) % 2 ^ n = a * b % 2 ^ n * c % 2 ^ n
    rw [Nat.mul_mod_mod, Nat.mod_mul_mod, Nat.mul_assoc]
  · show (a * b % 2 ^ n + a * c % 2 ^ n) % 2 ^ n = a * ((b + c) % 2 ^ n) % 2 ^ n
    rw [Nat.mul_mod_mod, Nat.mul_add, ← Nat.add_mod]
  · show a * 1 % 2 ^ n = a
    rw [Nat.mul_one, Nat.mod_eq_of_lt ha]
  · show (a + 0) % 2 ^ n = a
    rw [Nat.add_zero, Nat.mod_eq_of_lt ha]
  · exact demorgan ha hb
  · exact (Nat.and_or_distrib_left a b c).symm
  · show (a ^^^ b) ^^^ b = a
    rw [Nat.xor_assoc, Nat.xor_self, Nat.xor_zero]
  · show popN n a + popN n (a ^^^ (2 ^ n - 1)) = popN n (2 ^ n - 1) ∧ popN n a ≤ n ∧ popN n (a ^^^ (2 ^ n - 1)) ≤ n
    exact ⟨by rw [not_eq ha, popN_not n a ha, popN_ones], popN_le _ _, popN_le _ _⟩
  · exact ⟨Nat.mod_lt _ hp, Nat.mod_lt _ hp, Nat.mod_lt _ hp, Nat.mod_lt _ hp, Nat.mod_lt _ hp, Nat.and_lt_two_pow _ hb, Nat.xor_lt_two_pow ha hm, Nat.xor_lt_two_pow hb hm, Nat.or_lt_two_pow hb hc, Nat.and_lt_two_pow _ hc, Nat.xor_lt_two_pow ha hb⟩

set_option maxRecDepth 100000 in
set_option maxHeartbeats 12800000 in
theorem law_ring32 (w : World) (a0 b0 c0 : Nat) (ha0 : a0 < 18446744073709551616) (hb0 : b0 < 18446744073709551616) (hc0 : c0 < 18446744073709551616) (ht : Tb w) :
    Calls Tryd.prog 13 #[.int .u64 a0, .int .u64 b0, .int .u64 c0, .bool false] w fun e w' => e = .returned (.bool true) ∧ Below w.heap.size w w' := by
  have M1 := mask_and a0 32 ha0 (by omega) 4294967295 rfl
  have la : a0 % 2 ^ 32 < 4294967296 := Nat.mod_lt _ (by decide)
  generalize a0 % 2 ^ 32 = a at *
  have M2 := mask_and b0 32 hb0 (by omega) 4294967295 rfl
  have lb : b0 % 2 ^ 32 < 4294967296 := Nat.mod_lt _ (by decide)
  generalize b0 % 2 ^ 32 = b at *
  have M3 := mask_and c0 32 hc0 (by omega) 4294967295 rfl
  have lc : c0 % 2 ^ 32 < 4294967296 := Nat.mod_lt _ (by decide)
  generalize c0 % 2 ^ 32 = c at *
  obtain ⟨ab, mb, x, bc, y, mbc, u, mac, an, v, nxa, nxb, obc, p, anc, xab, pa, pn, pm, G⟩ := ring (n := 32) (by omega) la lb lc
  have HG := Lib.hid G; clear G
  obtain ⟨g1, g2, g3, g4, g5, g6, g7, g8, g9, g10, g11⟩ := HG.out.lt
  change ab < 4294967296 at g1
  change mb < 4294967296 at g2
  change bc < 4294967296 at g3
  change mbc < 4294967296 at g4
  change mac < 4294967296 at g5
  change an < 4294967296 at g6
  change nxa < 4294967296 at g7
  change nxb < 4294967296 at g8
  change obc < 4294967296 at g9
  change anc < 4294967296 at g10
  change xab < 4294967296 at g11
  have E_h1 : val 58 a b = ab := (val32 (k := 10) (by omega) la lb).trans HG.out.h1
  have E_h2 : val 58 b a = ab := (val32 (k := 10) (by omega) lb la).trans HG.out.h2
  have E_h3 : val 60 a b = mb := (val32 (k := 12) (by omega) la lb).trans HG.out.h3
  have E_h4 : val 60 b a = mb := (val32 (k := 12) (by omega) lb la).trans HG.out.h4
  have E_h5 : val 58 ab c = x := (val32 (k := 10) (by omega) g1 lc).trans HG.out.h5
  have E_h6 : val 58 b c = bc := (val32 (k := 10) (by omega) lb lc).trans HG.out.h6
  have E_h7 : val 58 a bc = x := (val32 (k := 10) (by omega) la g3).trans HG.out.h7
  have E_h8 : val 60 mb c = y := (val32 (k := 12) (by omega) g2 lc).trans HG.out.h8
  have E_h9 : val 60 b c = mbc := (val32 (k := 12) (by omega) lb lc).trans HG.out.h9
  have E_h10 : val 60 a mbc = y := (val32 (k := 12) (by omega) la g4).trans HG.out.h10
  have E_h11 : val 60 a bc = u := (val32 (k := 12) (by omega) la g3).trans HG.out.h11
  have E_h12 : val 60 a c = mac := (val32 (k := 12) (by omega) la lc).trans HG.out.h12
  have E_h13 : val 58 mb mac = u := (val32 (k := 10) (by omega) g2 g5).trans HG.out.h13
  have E_h14 : val 60 a 1 = a := (val32 (k := 12) (by omega) la (by decide)).trans HG.out.h14
  have E_h15 : val 58 a 0 = a := (val32 (k := 10) (by omega) la (by decide)).trans HG.out.h15
  have E_h16 : val 65 a b = an := (val32 (k := 17) (by omega) la lb).trans HG.out.h16
  have E_h17 : val 67 an 4294967295 = v := (val32 (k := 19) (by omega) g6 (by decide)).trans HG.out.h17
  have E_h18 : val 67 a 4294967295 = nxa := (val32 (k := 19) (by omega) la (by decide)).trans HG.out.h18
  have E_h19 : val 67 b 4294967295 = nxb := (val32 (k := 19) (by omega) lb (by decide)).trans HG.out.h19
  have E_h20 : val 66 nxa nxb = v := (val32 (k := 18) (by omega) g7 g8).trans HG.out.h20
  have E_h21 : val 66 b c = obc := (val32 (k := 18) (by omega) lb lc).trans HG.out.h21
  have E_h22 : val 65 a obc = p := (val32 (k := 17) (by omega) la g9).trans HG.out.h22
  have E_h23 : val 65 a c = anc := (val32 (k := 17) (by omega) la lc).trans HG.out.h23
  have E_h24 : val 66 an anc = p := (val32 (k := 18) (by omega) g6 g10).trans HG.out.h24
  have E_h25 : val 67 a b = xab := (val32 (k := 19) (by omega) la lb).trans HG.out.h25
  have E_h26 : val 67 xab b = a := (val32 (k := 19) (by omega) g11 lb).trans HG.out.h26
  have E_h27 : val 57 a 0 = pa := (val32 (k := 9) (by omega) la (by decide)).trans HG.out.h27
  have E_h28 : val 57 nxa 0 = pn := (val32 (k := 9) (by omega) g7 (by decide)).trans HG.out.h28
  have E_h29 : val 57 4294967295 0 = pm := (val32 (k := 9) (by omega) (by decide) (by decide)).trans HG.out.h29
  obtain ⟨y1, y2, y3⟩ := HG.out.sum
  have S1 : ((pa : Int) + pn == pm) = true := by rw [beq_iff_eq]; omega
  clear y1
  have hs := Wd.refl ht
  clear ht
  go_enter Tryd.func13, Tryd.ntmps13
  go_wp2_with (first
    | (go_at_call 56; refine (law_value w _ _ _ _ _ rfl (by decide) (by first | assumption | omega | decide) (by first | assumption | omega | decide) (by assumption)).mono ?_; rintro e w' ⟨rfl, hs'⟩))
  refine (law_works07 w _ (by assumption)).mono ?_
  rintro e w' ⟨rfl, hsz⟩
  go_wp2_with (first
    | (go_at_call 56; refine (law_value w _ _ _ _ _ rfl (by decide) (by first | assumption | omega | decide) (by first | assumption | omega | decide) (by assumption)).mono ?_; rintro e w' ⟨rfl, hs'⟩))
  go_ret
  exact ⟨rfl, hs'.bel⟩

set_option maxRecDepth 100000 in
set_option maxHeartbeats 12800000 in
theorem law_ring64 (w : World) (a0 b0 c0 : Nat) (ha0 : a0 < 18446744073709551616) (hb0 : b0 < 18446744073709551616) (hc0 : c0 < 18446744073709551616) (ht : Tb w) :
    Calls Tryd.prog 13 #[.int .u64 a0, .int .u64 b0, .int .u64 c0, .bool true] w fun e w' => e = .returned (.bool true) ∧ Below w.heap.size w w' := by
  have M1 := mask_and a0 64 ha0 (by omega) 18446744073709551615 rfl
  have la : a0 % 2 ^ 64 < 18446744073709551616 := Nat.mod_lt _ (by decide)
  generalize a0 % 2 ^ 64 = a at *
  have M2 := mask_and b0 64 hb0 (by omega) 18446744073709551615 rfl
  have lb : b0 % 2 ^ 64 < 18446744073709551616 := Nat.mod_lt _ (by decide)
  generalize b0 % 2 ^ 64 = b at *
  have M3 := mask_and c0 64 hc0 (by omega) 18446744073709551615 rfl
  have lc : c0 % 2 ^ 64 < 18446744073709551616 := Nat.mod_lt _ (by decide)
  generalize c0 % 2 ^ 64 = c at *
  obtain ⟨ab, mb, x, bc, y, mbc, u, mac, an, v, nxa, nxb, obc, p, anc, xab, pa, pn, pm, G⟩ := ring (n := 64) (by omega) la lb lc
  have HG := Lib.hid G; clear G
  obtain ⟨g1, g2, g3, g4, g5, g6, g7, g8, g9, g10, g11⟩ := HG.out.lt
  change ab < 18446744073709551616 at g1
  change mb < 18446744073709551616 at g2
  change bc < 18446744073709551616 at g3
  change mbc < 18446744073709551616 at g4
  change mac < 18446744073709551616 at g5
  change an < 18446744073709551616 at g6
  change nxa < 18446744073709551616 at g7
  change nxb < 18446744073709551616 at g8
  change obc < 18446744073709551616 at g9
  change anc < 18446744073709551616 at g10
  change xab < 18446744073709551616 at g11
  have E_h1 : val 90 a b = ab := (val64 (k := 10) (by omega)).trans HG.out.h1
  have E_h2 : val 90 b a = ab := (val64 (k := 10) (by omega)).trans HG.out.h2
  have E_h3 : val 92 a b = mb := (val64 (k := 12) (by omega)).trans HG.out.h3
  have E_h4 : val 92 b a = mb := (val64 (k := 12) (by omega)).trans HG.out.h4
  have E_h5 : val 90 ab c = x := (val64 (k := 10) (by omega)).trans HG.out.h5
  have E_h6 : val 90 b c = bc := (val64 (k := 10) (by omega)).trans HG.out.h6
  have E_h7 : val 90 a bc = x := (val64 (k := 10) (by omega)).trans HG.out.h7
  have E_h8 : val 92 mb c = y := (val64 (k := 12) (by omega)).trans HG.out.h8
  have E_h9 : val 92 b c = mbc := (val64 (k := 12) (by omega)).trans HG.out.h9
  have E_h10 : val 92 a mbc = y := (val64 (k := 12) (by omega)).trans HG.out.h10
  have E_h11 : val 92 a bc = u := (val64 (k := 12) (by omega)).trans HG.out.h11
  have E_h12 : val 92 a c = mac := (val64 (k := 12) (by omega)).trans HG.out.h12
  have E_h13 : val 90 mb mac = u := (val64 (k := 10) (by omega)).trans HG.out.h13
  have E_h14 : val 92 a 1 = a := (val64 (k := 12) (by omega)).trans HG.out.h14
  have E_h15 : val 90 a 0 = a := (val64 (k := 10) (by omega)).trans HG.out.h15
  have E_h16 : val 97 a b = an := (val64 (k := 17) (by omega)).trans HG.out.h16
  have E_h17 : val 99 an 18446744073709551615 = v := (val64 (k := 19) (by omega)).trans HG.out.h17
  have E_h18 : val 99 a 18446744073709551615 = nxa := (val64 (k := 19) (by omega)).trans HG.out.h18
  have E_h19 : val 99 b 18446744073709551615 = nxb := (val64 (k := 19) (by omega)).trans HG.out.h19
  have E_h20 : val 98 nxa nxb = v := (val64 (k := 18) (by omega)).trans HG.out.h20
  have E_h21 : val 98 b c = obc := (val64 (k := 18) (by omega)).trans HG.out.h21
  have E_h22 : val 97 a obc = p := (val64 (k := 17) (by omega)).trans HG.out.h22
  have E_h23 : val 97 a c = anc := (val64 (k := 17) (by omega)).trans HG.out.h23
  have E_h24 : val 98 an anc = p := (val64 (k := 18) (by omega)).trans HG.out.h24
  have E_h25 : val 99 a b = xab := (val64 (k := 19) (by omega)).trans HG.out.h25
  have E_h26 : val 99 xab b = a := (val64 (k := 19) (by omega)).trans HG.out.h26
  have E_h27 : val 89 a 0 = pa := (val64 (k := 9) (by omega)).trans HG.out.h27
  have E_h28 : val 89 nxa 0 = pn := (val64 (k := 9) (by omega)).trans HG.out.h28
  have E_h29 : val 89 18446744073709551615 0 = pm := (val64 (k := 9) (by omega)).trans HG.out.h29
  obtain ⟨y1, y2, y3⟩ := HG.out.sum
  have S1 : ((pa : Int) + pn == pm) = true := by rw [beq_iff_eq]; omega
  clear y1
  have hs := Wd.refl ht
  clear ht
  go_enter Tryd.func13, Tryd.ntmps13
  go_wp2_with (first
    | (go_at_call 56; refine (law_value w _ _ _ _ _ rfl (by decide) (by first | assumption | omega | decide) (by first | assumption | omega | decide) (by assumption)).mono ?_; rintro e w' ⟨rfl, hs'⟩))
  refine (law_works07 w _ (by assumption)).mono ?_
  rintro e w' ⟨rfl, hsz⟩
  go_wp2_with (first
    | (go_at_call 56; refine (law_value w _ _ _ _ _ rfl (by decide) (by first | assumption | omega | decide) (by first | assumption | omega | decide) (by assumption)).mono ?_; rintro e w' ⟨rfl, hs'⟩))
  go_ret
  exact ⟨rfl, hs'.bel⟩
theorem law_ring (w : World) (a b c : Nat) (wide : Bool) (ha : a < 18446744073709551616) (hb : b < 18446744073709551616) (hc : c < 18446744073709551616) (ht : Tb w) :
    Calls Tryd.prog 13 #[.int .u64 a, .int .u64 b, .int .u64 c, .bool wide] w fun e w' => e = .returned (.bool true) ∧ Below w.heap.size w w' := by
  cases wide
  · exact law_ring32 w a b c ha hb hc ht
  · exact law_ring64 w a b c ha hb hc ht
end Go.Proofs.YtmlniifdipeboaaDoor
