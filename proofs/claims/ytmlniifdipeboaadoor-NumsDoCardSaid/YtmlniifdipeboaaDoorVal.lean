/- flagonlaw07's helpers: value, do, below; works. -/
import Derived.Test.YtmlniifdipeboaaDoorDo
namespace Go.Proofs.YtmlniifdipeboaaDoor
open Go Go.RowKit

/-- The table lies, and nothing below the first world has turned. -/
structure Wd (w0 w : World) : Prop where
  tb : Tb w
  bel : Below w0.heap.size w0 w
theorem Wd.refl {w : World} (h : Tb w) : Wd w w := ⟨h, Below.refl _ _⟩
theorem Wd.step {w0 w w' : World} (h : Wd w0 w) (hb : Below w.heap.size w w') : Wd w0 w' := ⟨h.tb.bel hb, below_next h.bel hb⟩

/-- An opcode of numbers that is not clz or ctz. -/
def nice (op : Nat) : Bool := decide (op < 256 ∧ op ≠ 55 ∧ op ≠ 56 ∧ op ≠ 87 ∧ op ≠ 88)
def val (op a b : Nat) : Nat := (doN op a b).1
def trap (op a b : Nat) : Int := (doN op a b).2
theorem divN_lt {n k a b : Nat} (ha : a < 2 ^ n) (_hb : b < 2 ^ n) : (divN n k a b).1 < 2 ^ n := by
  have hp := Nat.two_pow_pos n
  unfold divN
  split
  · exact hp
  split
  · exact Nat.lt_of_le_of_lt (Nat.div_le_self _ _) ha
  split
  · exact Nat.lt_of_le_of_lt (Nat.mod_le _ _) ha
  split
  · exact hp
  split <;> exact un_lt _ _
theorem tr_lt (b : Bool) {n : Nat} (hn : 1 ≤ n) : tr b < 2 ^ n := by
  have h1 : 2 ^ 1 ≤ 2 ^ n := Nat.pow_le_pow_right (by omega) hn
  have h2 : tr b ≤ 1 := by unfold tr; split <;> omega
  omega
theorem numN_lt {n k a b : Nat} (hn : 7 ≤ n) (ha : a < 2 ^ n) (hb : b < 2 ^ n) : (numN n k a b 0 0).1 < 2 ^ n := by
  have hp := Nat.two_pow_pos n
  have hn1 : 1 ≤ n := by omega
  have hpop : popN n a < 2 ^ n := Nat.lt_of_le_of_lt (popN_le n a) Nat.lt_two_pow_self
  have hd := divN_lt (k := 13) ha hb; have hd2 := divN_lt (k := 14) ha hb; have hd3 := divN_lt (k := 15) ha hb; have hd4 := divN_lt (k := 16) ha hb
  have hm : b % n ≤ n := Nat.le_of_lt (Nat.mod_lt _ (by omega))
  have hm2 : (n - b % n) % n ≤ n := Nat.le_of_lt (Nat.mod_lt _ (by omega))
  unfold numN
  split
  · exact tr_lt _ hn1
  · exact tr_lt _ hn1
  · exact tr_lt _ hn1
  · exact tr_lt _ hn1
  · exact tr_lt _ hn1
  · exact tr_lt _ hn1
  · exact tr_lt _ hn1
  · exact hp
  · exact hp
  · exact hpop
  · exact Nat.mod_lt _ hp
  · exact Nat.mod_lt _ hp
  · exact Nat.mod_lt _ hp
  · exact hd
  · exact hd2
  · exact hd3
  · exact hd4
  · exact Nat.and_lt_two_pow _ hb
  · exact Nat.or_lt_two_pow ha hb
  · exact Nat.xor_lt_two_pow ha hb
  · exact Nat.mod_lt _ hp
  · exact un_lt _ _
  · exact Nat.lt_of_le_of_lt (Nat.div_le_self _ _) ha
  · exact rotlN_lt hm ha
  · exact rotlN_lt hm2 ha
theorem turnN_lt (op a : Nat) : turnN op a < 18446744073709551616 := by
  unfold turnN
  have h1 := un_lt 64 (sg 32 (a % 4294967296)); have h2 := un_lt 32 (sg 8 (a % 256)); have h3 := un_lt 32 (sg 16 (a % 65536))
  split
  · exact h1
  split
  · exact Nat.lt_of_lt_of_le h2 (by decide)
  split
  · exact Nat.lt_of_lt_of_le h3 (by decide)
  · omega
theorem val_lt {op a b : Nat} (ha : a < 18446744073709551616) (hb : b < 18446744073709551616) : val op a b < 18446744073709551616 := by
  unfold val doN
  split
  · exact Nat.two_pow_pos 64
  split
  · exact turnN_lt _ _
  split
  · exact numN_lt (n := 64) (by omega) ha hb
  · exact Nat.lt_of_lt_of_le (numN_lt (n := 32) (by omega) (Nat.mod_lt _ (by decide)) (Nat.mod_lt _ (by decide))) (by decide)

theorem nums_DoW (w0 w : World) (op a b : Nat) (M : Int) (hM : (op : Int) = M) (hn : nice op = true) (ha : a < 18446744073709551616) (hb : b < 18446744073709551616) (h : Wd w0 w) :
    Calls Tryd.prog 49 #[.int .u8 M, .int .u64 a, .int .u64 b] w fun e w' => e = .returned (.tuple #[.int .u64 (val op a b), .int .i8 (trap op a b)]) ∧ Wd w0 w' := by
  subst hM
  have hn' : op < 256 ∧ op ≠ 55 ∧ op ≠ 56 ∧ op ≠ 87 ∧ op ≠ 88 := of_decide_eq_true hn
  exact (nums_Do w op a b hn'.1 ha hb h.tb hn'.2.1 hn'.2.2.1 hn'.2.2.2.1 hn'.2.2.2.2).mono fun e w' ⟨he, hbl⟩ => ⟨he, h.step hbl⟩

set_option maxRecDepth 100000 in
set_option maxHeartbeats 1600000 in
theorem law_value (w0 w : World) (op a b : Nat) (M : Int) (hM : (op : Int) = M) (hn : nice op = true) (ha : a < 18446744073709551616) (hb : b < 18446744073709551616) (h : Wd w0 w) :
    Calls Tryd.prog 56 #[.int .u8 M, .int .u64 a, .int .u64 b] w fun e w' => e = .returned (.int .u64 (val op a b)) ∧ Wd w0 w' := by
  have H := Lib.hid (And.intro hM (And.intro hn h)); clear hM hn h
  go_enter Tryd.func56, Tryd.ntmps56
  go_wp2_with fail
  refine (nums_DoW w0 _ op a b M H.out.1 H.out.2.1 ha hb H.out.2.2).mono ?_
  rintro e w1 ⟨rfl, h1⟩
  have H1 := Lib.hid h1; clear h1
  go_wp2
  go_ret
  exact ⟨rfl, H1.out⟩
set_option maxRecDepth 100000 in
set_option maxHeartbeats 1600000 in
theorem law_do (w0 w : World) (op a b : Nat) (M : Int) (hM : (op : Int) = M) (hn : nice op = true) (ha : a < 18446744073709551616) (hb : b < 18446744073709551616) (h : Wd w0 w) :
    Calls Tryd.prog 54 #[.int .u8 M, .int .u64 a, .int .u64 b] w fun e w' => e = .returned (.tuple #[.int .u64 (val op a b), .bool (trap op a b == 0)]) ∧ Wd w0 w' := by
  have H := Lib.hid (And.intro hM (And.intro hn h)); clear hM hn h
  go_enter Tryd.func54, Tryd.ntmps54
  go_wp2_with fail
  refine (nums_DoW w0 _ op a b M H.out.1 H.out.2.1 ha hb H.out.2.2).mono ?_
  rintro e w1 ⟨rfl, h1⟩
  have H1 := Lib.hid h1; clear h1
  go_wp2
  go_ret2
  exact ⟨rfl, H1.out⟩
theorem ops_ok : nice 59 = true ∧ nice 96 = true ∧ nice 113 = true := by decide
theorem works_vals : doN 59 0 1 = (4294967295, 0) ∧ doN 96 7 0 = (0, 3) ∧ doN 113 2147483648 0 = (18446744071562067968, 0) := by decide +kernel
set_option maxRecDepth 100000 in
set_option maxHeartbeats 3200000 in
theorem law_works07 (w0 w : World) (h : Wd w0 w) :
    Calls Tryd.prog 53 #[] w fun e w' => e = .returned (.bool true) ∧ Wd w0 w' := by
  have H := Lib.hid h; clear h
  have V := Lib.hid works_vals
  go_enter Tryd.func53, Tryd.ntmps53
  go_wp2_with fail
  refine (nums_DoW w0 _ 59 0 1 _ rfl (by decide) (by decide) (by decide) H.out).mono ?_
  rintro e w1 ⟨he, h1⟩
  rw [val, trap, V.out.1] at he
  subst he
  have H1 := Lib.hid h1; clear h1 H
  go_wp2_with fail
  refine (nums_DoW w0 _ 96 7 0 _ rfl (by decide) (by decide) (by decide) H1.out).mono ?_
  rintro e w2 ⟨he, h2⟩
  rw [val, trap, V.out.2.1] at he
  subst he
  have H2 := Lib.hid h2; clear h2 H1
  go_wp2_with fail
  refine (nums_DoW w0 _ 113 2147483648 0 _ rfl (by decide) (by decide) (by decide) H2.out).mono ?_
  rintro e w3 ⟨he, h3⟩
  rw [val, trap, V.out.2.2] at he
  subst he
  have H3 := Lib.hid h3; clear h3 H2 V
  go_wp2_with fail
  refine (nums_Of _ 72 (by decide) H3.out.tb).mono ?_
  rintro e w4 ⟨he, h4⟩
  rw [show numOf 72 = true by decide] at he
  subst he
  have H4 := Lib.hid (H3.out.step h4); clear h4 H3
  go_wp2_with fail
  refine (nums_Of _ 24 (by decide) H4.out.tb).mono ?_
  rintro e w5 ⟨he, h5⟩
  rw [show numOf 24 = false by decide] at he
  subst he
  have H5 := Lib.hid (H4.out.step h5); clear h5 H4
  go_wp2
  go_ret
  exact ⟨rfl, H5.out⟩
end Go.Proofs.YtmlniifdipeboaaDoor
