/- The plain laws of numbers. -/
import Derived.Test.YtmlniifdipeboaaDoorNum
namespace Go.Proofs.YtmlniifdipeboaaDoor
open Go Go.RowKit

theorem two_half {n : Nat} (hn : 0 < n) : 2 ^ n = 2 * 2 ^ (n - 1) := by
  rw [show n = (n - 1) + 1 by omega, Nat.pow_succ, show n - 1 + 1 - 1 = n - 1 by omega, Nat.mul_comm]
theorem xor_top {n x : Nat} (hn : 0 < n) (h : x < 2 ^ n) : x ^^^ 2 ^ (n - 1) = if x < 2 ^ (n - 1) then x + 2 ^ (n - 1) else x - 2 ^ (n - 1) := by
  have e := two_half hn
  have hp := Nat.two_pow_pos (n - 1)
  generalize hk : n - 1 = k at *
  have e1 : (x ^^^ 2 ^ k) % 2 ^ k = x % 2 ^ k := by rw [Nat.xor_mod_two_pow]; simp
  have e2 : (x ^^^ 2 ^ k) / 2 ^ k = x / 2 ^ k ^^^ 1 := by rw [Nat.xor_div_two_pow]; simp [Nat.div_self hp]
  have d := Nat.div_add_mod (x ^^^ 2 ^ k) (2 ^ k)
  have dx := Nat.div_add_mod x (2 ^ k)
  rw [e1, e2] at d
  split
  · rename_i hlt
    rw [Nat.div_eq_of_lt hlt] at d dx
    simp at d dx
    omega
  · rename_i hge
    have : x / 2 ^ k = 1 := Nat.div_eq_of_lt_le (by omega) (by omega)
    rw [this] at d dx
    simp at d dx
    omega
theorem below_sg {n a b : Nat} (hn : 0 < n) (ha : a < 2 ^ n) (hb : b < 2 ^ n) : (a ^^^ 2 ^ (n - 1) < b ^^^ 2 ^ (n - 1)) ↔ sg n a < sg n b := by
  have e := two_half hn
  have h1 : ((2 ^ (n - 1) : Nat) : Int) = 2 ^ (n - 1) := by simp
  have h2 : ((2 ^ n : Nat) : Int) = 2 ^ n := by simp
  rw [xor_top hn ha, xor_top hn hb, sg, sg]
  split <;> split <;> omega
theorem sg_inj {n a b : Nat} (ha : a < 2 ^ n) (hb : b < 2 ^ n) : sg n a = sg n b ↔ a = b :=
  ⟨fun h => by rw [← un_sg ha, h, un_sg hb], fun h => by rw [h]⟩
theorem or_xor_and : ∀ (n a b : Nat), a < 2 ^ n → b < 2 ^ n → a ||| b = (a ^^^ b) + (a &&& b) := by
  intro n
  induction n with
  | zero => intro a b ha hb; obtain rfl : a = 0 := by omega
            obtain rfl : b = 0 := by omega
            rfl
  | succ n ih =>
    intro a b ha hb
    have i := ih (a / 2) (b / 2) (by rw [Nat.pow_succ] at ha; omega) (by rw [Nat.pow_succ] at hb; omega)
    have o1 : (a ||| b) / 2 = a / 2 ||| b / 2 := Nat.or_div_two
    have o2 : (a ^^^ b) / 2 = a / 2 ^^^ b / 2 := Nat.xor_div_two
    have o3 : (a &&& b) / 2 = a / 2 &&& b / 2 := Nat.and_div_two
    have m : ∀ x y : Nat, x < 2 → y < 2 → x ||| y = (x ^^^ y) + (x &&& y) ∧ (x ^^^ y) < 2 ∧ (x &&& y) < 2 := by
      intro x y hx hy
      have hx' : x = 0 ∨ x = 1 := by omega
      have hy' : y = 0 ∨ y = 1 := by omega
      rcases hx' with rfl | rfl <;> rcases hy' with rfl | rfl <;> decide
    have m1 : (a ||| b) % 2 = a % 2 ||| b % 2 := by have := Nat.or_mod_two_pow (a := a) (b := b) (n := 1); simpa using this
    have m2 : (a ^^^ b) % 2 = a % 2 ^^^ b % 2 := by have := Nat.xor_mod_two_pow (a := a) (b := b) (n := 1); simpa using this
    have m3 : (a &&& b) % 2 = a % 2 &&& b % 2 := by have := Nat.and_mod_two_pow (a := a) (b := b) (n := 1); simpa using this
    have k := m (a % 2) (b % 2) (by omega) (by omega)
    rw [← m1, ← m2, ← m3] at k
    rw [← o1, ← o2, ← o3] at i
    omega
end Go.Proofs.YtmlniifdipeboaaDoor
