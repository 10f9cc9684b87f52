/- Numbers of two widths, plain. -/
import Derived.Test.YtmlniifdipeboaaDoorLib
namespace Go.Proofs.YtmlniifdipeboaaDoor
open Go Go.RowKit

/-- A number of n bits with its sign; and back. -/
def sg (n x : Nat) : Int := if x < 2 ^ (n - 1) then (x : Int) else (x : Int) - 2 ^ n
def un (n : Nat) (z : Int) : Nat := (z % (2 : Int) ^ n).toNat
/-- How many of the lowest n bits are 1. -/
def popN : Nat → Nat → Nat
  | 0, _ => 0
  | n + 1, x => x % 2 + popN n (x / 2)
def tr (b : Bool) : Nat := if b then 1 else 0
/-- To the left around; n bits. -/
def rotlN (n a k : Nat) : Nat := a % 2 ^ (n - k) * 2 ^ k + a / 2 ^ (n - k)
/-- Quotients and what is left: k: 13 to 16. -/
def divN (n k a b : Nat) : Nat × Int :=
  if b = 0 then (0, 3)
  else if k = 14 then (a / b, 0)
  else if k = 16 then (a % b, 0)
  else if a = 2 ^ (n - 1) ∧ b = 2 ^ n - 1 then (0, if k = 15 then 0 else 4)
  else if k = 15 then (un n ((sg n a).tmod (sg n b)), 0)
  else (un n ((sg n a).tdiv (sg n b)), 0)
/-- The instruction at the place k, of n bits; lz, tz: the answers of clz and ctz. -/
def numN (n k a b : Nat) (lz tz : Nat) : Nat × Int :=
  match k with
  | 0 => (tr (a = 0), 0)
  | 1 => (tr (a = b), 0)
  | 2 => (tr (a ≠ b), 0)
  | 3 => (tr (sg n a < sg n b), 0)
  | 4 => (tr (a < b), 0)
  | 5 => (tr (sg n a ≤ sg n b), 0)
  | 6 => (tr (a ≤ b), 0)
  | 7 => (lz, 0)
  | 8 => (tz, 0)
  | 9 => (popN n a, 0)
  | 10 => ((a + b) % 2 ^ n, 0)
  | 11 => ((a + (2 ^ n - b)) % 2 ^ n, 0)
  | 12 => (a * b % 2 ^ n, 0)
  | 13 => divN n 13 a b
  | 14 => divN n 14 a b
  | 15 => divN n 15 a b
  | 16 => divN n 16 a b
  | 17 => (a &&& b, 0)
  | 18 => (a ||| b, 0)
  | 19 => (a ^^^ b, 0)
  | 20 => (a * 2 ^ (b % n) % 2 ^ n, 0)
  | 21 => (un n (sg n a / 2 ^ (b % n)), 0)
  | 22 => (a / 2 ^ (b % n), 0)
  | 23 => (rotlN n a (b % n), 0)
  | _ => (rotlN n a ((n - b % n) % n), 0)

theorem popN_split (m : Nat) : ∀ (n x : Nat), popN (n + m) x = popN n x + popN m (x / 2 ^ n)
  | 0, x => by simp [popN]
  | n + 1, x => by
    rw [Nat.add_right_comm, popN, popN, popN_split m n, Nat.add_assoc, Nat.pow_succ, Nat.mul_comm (2 ^ n) 2, Nat.div_div_eq_div_mul]
theorem popN_mod (n : Nat) : ∀ (m x : Nat), m ≤ n → popN m (x % 2 ^ n) = popN m x := by
  intro m
  induction m generalizing n with
  | zero => intro x _; rfl
  | succ m ih =>
    intro x h
    match n, h with
    | n + 1, h =>
      rw [popN, popN]
      have e1 : x % 2 ^ (n + 1) % 2 = x % 2 := Nat.mod_mod_of_dvd _ ⟨2 ^ n, by rw [Nat.pow_succ, Nat.mul_comm]⟩
      have e2 : x % 2 ^ (n + 1) / 2 = x / 2 % 2 ^ n := by rw [Nat.pow_succ, Nat.mul_comm, Nat.mod_mul_right_div_self]
      rw [e1, e2, ih n (x / 2) (by omega)]
theorem popN_mul (k : Nat) : ∀ (m x : Nat), popN (k + m) (x * 2 ^ k) = popN m x := by
  intro m x
  have h0 : ∀ j, j ≤ k → popN j (x * 2 ^ k) = 0 := by
    intro j
    induction j with
    | zero => intro _; rfl
    | succ j ih =>
      intro h
      rw [popN_split 1 j, ih (by omega)]
      have e : x * 2 ^ k / 2 ^ j = x * 2 ^ (k - j) := by
        rw [show (2 : Nat) ^ k = 2 ^ (k - j) * 2 ^ j by rw [← Nat.pow_add]; congr 1; omega, ← Nat.mul_assoc, Nat.mul_div_cancel _ (Nat.two_pow_pos j)]
      have e2 : x * 2 ^ (k - j) % 2 = 0 := by
        rw [show k - j = (k - j - 1) + 1 by omega, Nat.pow_succ, ← Nat.mul_assoc]; exact Nat.mul_mod_left _ _
      rw [e]; simp [popN, e2]
  rw [popN_split m k, h0 k (Nat.le_refl k), Nat.zero_add, Nat.mul_div_cancel _ (Nat.two_pow_pos k)]
theorem popN_le (n : Nat) : ∀ x, popN n x ≤ n := by
  induction n with
  | zero => intro x; exact Nat.le_refl 0
  | succ n ih => intro x; rw [popN]; have := ih (x / 2); omega
/-- Turned around, as many bits are 1. -/
theorem popN_rotl {n a k : Nat} (hk : k ≤ n) (ha : a < 2 ^ n) : popN n (rotlN n a k) = popN n a := by
  have hm : 2 ^ n = 2 ^ (n - k) * 2 ^ k := by rw [← Nat.pow_add]; congr 1; omega
  have hlt : a / 2 ^ (n - k) < 2 ^ k := Nat.div_lt_of_lt_mul (by rw [← hm]; exact ha)
  have e1 : popN n (rotlN n a k) = popN k (rotlN n a k) + popN (n - k) (rotlN n a k / 2 ^ k) := by
    rw [← popN_split (n - k) k]; congr 1; omega
  have e2 : rotlN n a k / 2 ^ k = a % 2 ^ (n - k) := by
    rw [rotlN, Nat.add_comm, Nat.add_mul_div_right _ _ (Nat.two_pow_pos k), Nat.div_eq_of_lt hlt, Nat.zero_add]
  have e3 : popN k (rotlN n a k) = popN k (a / 2 ^ (n - k)) := by
    rw [← popN_mod k k (rotlN n a k) (Nat.le_refl k), rotlN, Nat.add_comm, Nat.add_mul_mod_self_right, Nat.mod_eq_of_lt hlt]
  have e4 : popN n a = popN (n - k) a + popN k (a / 2 ^ (n - k)) := by
    rw [← popN_split k (n - k)]; congr 1; omega
  rw [e1, e2, e3, e4, popN_mod (n - k) (n - k) a (Nat.le_refl _)]
  omega
theorem not_eq {n x : Nat} (h : x < 2 ^ n) : x ^^^ (2 ^ n - 1) = 2 ^ n - 1 - x := by
  have h1 : (BitVec.ofNat n x ^^^ BitVec.allOnes n).toNat = x ^^^ (2 ^ n - 1) := by
    rw [BitVec.toNat_xor, BitVec.toNat_ofNat, BitVec.toNat_allOnes, Nat.mod_eq_of_lt h]
  rw [← h1, BitVec.xor_allOnes, BitVec.toNat_not, BitVec.toNat_ofNat, Nat.mod_eq_of_lt h]
theorem popN_not : ∀ (n x : Nat), x < 2 ^ n → popN n x + popN n (2 ^ n - 1 - x) = n
  | 0, _, _ => rfl
  | n + 1, x, h => by
    have hp := Nat.two_pow_pos n
    have h2 : 2 ^ (n + 1) = 2 * 2 ^ n := by rw [Nat.pow_succ, Nat.mul_comm]
    have ih := popN_not n (x / 2) (by omega)
    have e1 : (2 ^ (n + 1) - 1 - x) / 2 = 2 ^ n - 1 - x / 2 := by omega
    have e2 : (2 ^ (n + 1) - 1 - x) % 2 = 1 - x % 2 := by omega
    rw [popN, popN, e1, e2]
    omega
theorem popN_ones (n : Nat) : popN n (2 ^ n - 1) = n := by
  have h := popN_not n 0 (Nat.two_pow_pos n)
  have h0 : ∀ n, popN n 0 = 0 := by
    intro n
    induction n with
    | zero => rfl
    | succ n ih => rw [popN, Nat.zero_div, ih]
  rw [h0, Nat.sub_zero] at h
  omega
theorem rotlN_lt {n a k : Nat} (hk : k ≤ n) (ha : a < 2 ^ n) : rotlN n a k < 2 ^ n := by
  have hm : 2 ^ n = 2 ^ (n - k) * 2 ^ k := by rw [← Nat.pow_add]; congr 1; omega
  have h1 : a / 2 ^ (n - k) < 2 ^ k := Nat.div_lt_of_lt_mul (by rw [← hm]; exact ha)
  have h2 : a % 2 ^ (n - k) < 2 ^ (n - k) := Nat.mod_lt _ (Nat.two_pow_pos _)
  have h3 : (a % 2 ^ (n - k) + 1) * 2 ^ k ≤ 2 ^ (n - k) * 2 ^ k := Nat.mul_le_mul_right _ h2
  rw [Nat.succ_mul] at h3
  rw [rotlN, hm]
  omega
/-- To the left around and back. -/
theorem rotl_back {n a k : Nat} (_hn : 0 < n) (hk : k < n) (ha : a < 2 ^ n) : rotlN n (rotlN n a k) ((n - k) % n) = a := by
  rcases Nat.eq_zero_or_pos k with rfl | h0
  · have e : rotlN n a 0 = a := by simp [rotlN, Nat.mod_eq_of_lt ha, Nat.div_eq_of_lt ha]
    have e2 : (n - 0) % n = 0 := by simp
    rw [e2, e, e]
  · have hm : 2 ^ n = 2 ^ (n - k) * 2 ^ k := by rw [← Nat.pow_add]; congr 1; omega
    have hlt : a / 2 ^ (n - k) < 2 ^ k := Nat.div_lt_of_lt_mul (by rw [← hm]; exact ha)
    have e1 : (n - k) % n = n - k := Nat.mod_eq_of_lt (by omega)
    have e2 : rotlN n a k / 2 ^ k = a % 2 ^ (n - k) := by
      rw [rotlN, Nat.add_comm, Nat.add_mul_div_right _ _ (Nat.two_pow_pos k), Nat.div_eq_of_lt hlt, Nat.zero_add]
    have e3 : rotlN n a k % 2 ^ k = a / 2 ^ (n - k) := by
      rw [rotlN, Nat.add_comm, Nat.add_mul_mod_self_right, Nat.mod_eq_of_lt hlt]
    rw [e1]
    conv => lhs; rw [rotlN]
    rw [show n - (n - k) = k by omega, e2, e3]
    have := Nat.div_add_mod a (2 ^ (n - k))
    rw [Nat.mul_comm] at this
    exact this
/-- Bits of one number beside those of another. -/
theorem or_add {x y k : Nat} (h : y < 2 ^ k) : x * 2 ^ k ||| y = x * 2 ^ k + y := by
  rw [Nat.mul_comm]; exact (Nat.two_pow_add_eq_or_of_lt h x).symm
theorem sg_lt {n x : Nat} (hn : 0 < n) (h : x < 2 ^ n) : -(2 : Int) ^ (n - 1) ≤ sg n x ∧ sg n x < 2 ^ (n - 1) := by
  have e : (2 : Int) ^ n = 2 * 2 ^ (n - 1) := by
    rw [show n = (n - 1) + 1 by omega, Int.pow_succ, show n - 1 + 1 - 1 = n - 1 by omega, Int.mul_comm]
  have h1 : ((2 ^ (n - 1) : Nat) : Int) = 2 ^ (n - 1) := by simp
  have h2 : ((2 ^ n : Nat) : Int) = 2 ^ n := by simp
  unfold sg
  split <;> omega
theorem sg_mod {n x : Nat} : ∃ c : Int, sg n x = x + c * 2 ^ n := by
  unfold sg
  split
  · exact ⟨0, by simp⟩
  · exact ⟨-1, by omega⟩
theorem un_sg {n x : Nat} (h : x < 2 ^ n) : un n (sg n x) = x := by
  obtain ⟨c, e⟩ := sg_mod (n := n) (x := x)
  rw [un, e, Int.add_mul_emod_self_right]
  have h2 : ((2 ^ n : Nat) : Int) = 2 ^ n := by simp
  rw [Int.emod_eq_of_lt (by omega) (by omega)]
  rfl
theorem un_lt (n : Nat) (z : Int) : un n z < 2 ^ n := by
  have h2 : ((2 ^ n : Nat) : Int) = 2 ^ n := by simp
  have h3 : (0 : Int) < 2 ^ n := by have := Nat.two_pow_pos n; omega
  have h4 := Int.emod_nonneg z (by omega : (2 : Int) ^ n ≠ 0)
  have h5 := Int.emod_lt_of_pos z h3
  unfold un
  omega
theorem un_mod (n : Nat) (z : Int) : ∃ c : Int, (un n z : Int) = z + c * 2 ^ n := by
  have h2 : ((2 ^ n : Nat) : Int) = 2 ^ n := by simp
  have h3 : (0 : Int) < 2 ^ n := by have := Nat.two_pow_pos n; omega
  have h4 := Int.emod_nonneg z (by omega : (2 : Int) ^ n ≠ 0)
  refine ⟨-(z / 2 ^ n), ?_⟩
  have h5 := Int.emod_add_mul_ediv z (2 ^ n)
  unfold un
  rw [Int.toNat_of_nonneg h4, Int.neg_mul, Int.mul_comm (z / 2 ^ n)]
  omega
attribute [irreducible] popN
end Go.Proofs.YtmlniifdipeboaaDoor
