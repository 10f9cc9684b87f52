/- What bits.LeadingZeros64 and TrailingZeros64 count is what the document's answer counts: plain. -/
import Derived.Test.YtmlniifdipeboaaDoorRef7b
import Derived.Lib.BitFns
import Derived.Lib.TrailingZeros
namespace Go.Proofs.YtmlniifdipeboaaDoor
open Go Go.RowKit

theorem bit_mod (v i : Nat) : v % 2 ^ (i + 1) = v % 2 ^ i + 2 ^ i * bitN v i := Nat.mod_pow_succ
theorem hi_len {n v : Nat} (hn : n ≤ 64) : ∀ i, i ≤ n → hiN n v i = n - Lib.bitLen (v % 2 ^ i)
  | 0, _ => by rw [hiN, Nat.pow_zero, Nat.mod_one, show Lib.bitLen 0 = 0 by decide]; rfl
  | i + 1, h => by
    rw [hiN, bit_mod, hi_len hn i (by omega)]
    have hb := bitN_le v i
    rcases (show bitN v i = 0 ∨ bitN v i = 1 by omega) with e | e
    · rw [e, if_neg (by omega), Nat.mul_zero, Nat.add_zero]
    · rw [e, if_pos rfl, Nat.mul_one]
      have hm : v % 2 ^ i < 2 ^ i := Nat.mod_lt _ (Nat.two_pow_pos i)
      have hle : 2 ^ (i + 1) ≤ 2 ^ 64 := Nat.pow_le_pow_right (by omega) (by omega)
      rw [Nat.pow_succ] at hle
      rw [Lib.bitLen_shift i (v % 2 ^ i + 2 ^ i) (by omega) (by omega)]
      have e1 : (v % 2 ^ i + 2 ^ i) / 2 ^ i = 1 := Nat.div_eq_of_lt_le (by omega) (by omega)
      rw [e1, show Lib.bitLen 1 = 1 by decide]
      omega
theorem hi_all {n v : Nat} (hn : n ≤ 64) (hv : v < 2 ^ n) : hiN n v n = n - Lib.bitLen v := by rw [hi_len hn n (Nat.le_refl _), Nat.mod_eq_of_lt hv]
/-- Below the lowest bit. -/
theorem lo_spec {n v : Nat} : ∀ i, i ≤ n → (v % 2 ^ i = 0 ∧ loN n v i = n) ∨ (∃ k, k < i ∧ loN n v i = k ∧ v % 2 ^ k = 0 ∧ bitN v k = 1)
  | 0, _ => .inl ⟨by rw [Nat.pow_zero, Nat.mod_one], rfl⟩
  | i + 1, h => by
    rw [loN, bit_mod]
    have hb := bitN_le v i
    rcases lo_spec (n := n) (v := v) i (by omega) with ⟨h1, h2⟩ | ⟨k, k1, k2, k3, k4⟩
    · rcases (show bitN v i = 0 ∨ bitN v i = 1 by omega) with e | e
      · left; rw [e, if_neg (by omega), h1, Nat.mul_zero]; exact ⟨rfl, h2⟩
      · right; rw [if_pos ⟨e, h2⟩]; exact ⟨i, by omega, rfl, h1, e⟩
    · right; rw [if_neg (show ¬ (bitN v i = 1 ∧ loN n v i = n) by omega)]; exact ⟨k, by omega, k2, k3, k4⟩
theorem lo_all {n v k : Nat} (hk : k < n) (h1 : v % 2 ^ k = 0) (h2 : bitN v k = 1) : loN n v n = k := by
  rcases lo_spec (n := n) (v := v) n (Nat.le_refl _) with ⟨h3, _⟩ | ⟨j, j1, j2, j3, j4⟩
  · exfalso
    have e : v % 2 ^ (k + 1) = v % 2 ^ n % 2 ^ (k + 1) := (Nat.mod_mod_of_dvd _ (Nat.pow_dvd_pow 2 (by omega))).symm
    rw [h3, Nat.zero_mod, bit_mod, h1, h2] at e
    have := Nat.two_pow_pos k; omega
  · rw [j2]
    rcases Nat.lt_trichotomy j k with h | h | h
    · exfalso
      have e : v % 2 ^ (j + 1) = v % 2 ^ k % 2 ^ (j + 1) := (Nat.mod_mod_of_dvd _ (Nat.pow_dvd_pow 2 (by omega))).symm
      rw [h1, Nat.zero_mod, bit_mod, j3, j4] at e
      have := Nat.two_pow_pos j; omega
    · exact h
    · exfalso
      have e : v % 2 ^ (k + 1) = v % 2 ^ j % 2 ^ (k + 1) := (Nat.mod_mod_of_dvd _ (Nat.pow_dvd_pow 2 (by omega))).symm
      rw [j3, Nat.zero_mod, bit_mod, h1, h2] at e
      have := Nat.two_pow_pos k; omega
theorem lo_zero (n : Nat) : loN n 0 n = n := by
  rcases lo_spec (n := n) (v := 0) n (Nat.le_refl _) with ⟨_, h⟩ | ⟨k, _, _, _, h⟩
  · exact h
  · unfold bitN at h; simp at h
/-- The lowest bit of a number: where. -/
theorem lo_ctz {n v : Nat} (hn : n ≤ 64) (hv : v < 2 ^ n) (h0 : v ≠ 0) : loN n v n = Lib.ctz 64 v := by
  have h64 : v < 2 ^ 64 := Nat.lt_of_lt_of_le hv (Nat.pow_le_pow_right (by omega) hn)
  obtain ⟨m, hm, hf⟩ := Lib.ctzFrom_spec 64 v (by omega) h64
  rw [Lib.ctz, if_neg h0]
  generalize Lib.ctzFrom 64 v = c at *
  have hp := Nat.two_pow_pos c
  have hc : c < n := by
    rcases Nat.lt_or_ge c n with h | h
    · exact h
    · exfalso
      have h1 : 2 ^ n ≤ 2 ^ c := Nat.pow_le_pow_right (by omega) h
      have h2 : 2 ^ c * 1 ≤ 2 ^ c * (2 * m + 1) := Nat.mul_le_mul_left _ (by omega)
      omega
  refine lo_all hc (by rw [hm]; exact Nat.mul_mod_right _ _) ?_
  unfold bitN
  rw [hm, Nat.mul_div_cancel_left _ hp]; omega
end Go.Proofs.YtmlniifdipeboaaDoor
