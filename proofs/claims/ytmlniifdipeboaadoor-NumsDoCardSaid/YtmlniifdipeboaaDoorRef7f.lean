/- flagonref07.number: the quotients. -/
import Derived.Test.YtmlniifdipeboaaDoorRef7d
import Derived.Test.YtmlniifdipeboaaDoorRef7e
namespace Go.Proofs.YtmlniifdipeboaaDoor
open Go Go.RowKit

theorem least_iff {n a b : Nat} (hn : 2 ≤ n) (ha : a < 2 ^ n) (hb : b < 2 ^ n) : ((sg n a).natAbs = 2 ^ (n - 1) ↔ a = 2 ^ (n - 1)) ∧ (a = 2 ^ (n - 1) → sg n a < 0) ∧ ((2 ^ n - b) % 2 ^ n = 1 ↔ b = 2 ^ n - 1) := by
  have e := two_half (n := n) (by omega)
  have h2 : ((2 ^ n : Nat) : Int) = 2 ^ n := by simp
  have hp := Nat.two_pow_pos (n - 1)
  have h4 : 2 ≤ 2 ^ (n - 1) := Nat.pow_le_pow_right (n := 2) (i := 1) (by omega) (by omega)
  refine ⟨?_, ?_, ?_⟩
  · unfold sg; split <;> omega
  · intro h; unfold sg; split <;> omega
  · rcases Nat.eq_zero_or_pos b with rfl | h0
    · simp; omega
    · rw [Nat.mod_eq_of_lt (by omega)]; omega
theorem rem_least {n a b : Nat} (hn : 2 ≤ n) (ha : a = 2 ^ (n - 1)) (hb : b = 2 ^ n - 1) : un n ((sg n a).tmod (sg n b)) = 0 := by
  have _ := ha
  have e := two_half (n := n) (by omega)
  have h2 : ((2 ^ n : Nat) : Int) = 2 ^ n := by simp
  have hp := Nat.two_pow_pos (n - 1)
  have h4 : 2 ≤ 2 ^ (n - 1) := Nat.pow_le_pow_right (n := 2) (i := 1) (by omega) (by omega)
  have hs : sg n b = -1 := by unfold sg; rw [if_neg (by omega)]; omega
  rw [hs, Int.tmod_neg, Int.tmod_one]
  unfold un; simp
end Go.Proofs.YtmlniifdipeboaaDoor
