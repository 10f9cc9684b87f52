/- How many bits are 1: the sum by halves, quarters and bytes counts them. -/
import Derived.Test.YtmlniifdipeboaaDoorNumLaw
namespace Go.Proofs.YtmlniifdipeboaaDoor
open Go Go.RowKit

/-- A byte, n times. -/
def rep (m : Nat) : Nat → Nat
  | 0 => 0
  | n + 1 => m + 256 * rep m n
theorem and_low {d y m M : Nat} (hd : d < 256) (hm : m < 256) : (d + 256 * y) &&& (m + 256 * M) = (d &&& m) + 256 * (y &&& M) := by
  have e1 : ((d + 256 * y) &&& (m + 256 * M)) % 2 ^ 8 = d &&& m := by
    rw [Nat.and_mod_two_pow]
    congr 1 <;> omega
  have e2 : ((d + 256 * y) &&& (m + 256 * M)) / 2 ^ 8 = y &&& M := by
    rw [Nat.and_div_two_pow]
    congr 1 <;> omega
  have := Nat.div_add_mod ((d + 256 * y) &&& (m + 256 * M)) (2 ^ 8)
  rw [e1, e2] at this
  omega
def s1 (n x : Nat) : Nat := (x / 2 &&& rep 85 n) + (x &&& rep 85 n)
def s2 (n x : Nat) : Nat := (x / 4 &&& rep 51 n) + (x &&& rep 51 n)
def s3 (n x : Nat) : Nat := (x / 16 + x) &&& rep 15 n
def f1 (d : Nat) : Nat := (d / 2 &&& 85) + (d &&& 85)
def f2 (d : Nat) : Nat := (d / 4 &&& 51) + (d &&& 51)
theorem k1 : ∀ (d : Fin 256) (c : Fin 2), (d.val / 2 + 128 * c.val) &&& 85 = d.val / 2 &&& 85 := by decide +kernel
theorem k2 : ∀ (d : Fin 256) (c : Fin 4), (d.val / 4 + 64 * c.val) &&& 51 = d.val / 4 &&& 51 := by decide +kernel
theorem k3 : ∀ (d : Fin 256), f1 d.val < 256 ∧ f2 (f1 d.val) < 256 ∧ f2 (f1 d.val) / 16 ≤ 4 ∧ f2 (f1 d.val) % 16 ≤ 4 ∧ f2 (f1 d.val) / 16 + f2 (f1 d.val) % 16 = popN 8 d.val := by decide +kernel
theorem k4 : ∀ (d : Fin 256) (c : Fin 16), d.val / 16 ≤ 4 → d.val % 16 ≤ 4 → c.val ≤ 4 → (d.val / 16 + d.val + 16 * c.val) &&& 15 = d.val / 16 + d.val % 16 := by decide +kernel
theorem s1_step {n d y : Nat} (hd : d < 256) : s1 (n + 1) (d + 256 * y) = f1 d + 256 * s1 n y := by
  have e : (d + 256 * y) / 2 = (d / 2 + 128 * (y % 2)) + 256 * (y / 2) := by omega
  have h := k1 ⟨d, hd⟩ ⟨y % 2, by omega⟩
  simp only at h
  rw [s1, rep, e, and_low (by omega) (by omega), and_low hd (by omega), h, s1, f1]
  omega
theorem s2_step {n d y : Nat} (hd : d < 256) : s2 (n + 1) (d + 256 * y) = f2 d + 256 * s2 n y := by
  have e : (d + 256 * y) / 4 = (d / 4 + 64 * (y % 4)) + 256 * (y / 4) := by omega
  have h := k2 ⟨d, hd⟩ ⟨y % 4, by omega⟩
  simp only at h
  rw [s2, rep, e, and_low (by omega) (by omega), and_low hd (by omega), h, s2, f2]
  omega
theorem s3_step {n d y : Nat} (hd : d < 256) (h1 : d / 16 ≤ 4) (h2 : d % 16 ≤ 4) (hy : y % 16 ≤ 4) : s3 (n + 1) (d + 256 * y) = (d / 16 + d % 16) + 256 * s3 n y := by
  have e : (d + 256 * y) / 16 + (d + 256 * y) = (d / 16 + d + 16 * (y % 16)) + 256 * (y / 16 + y) := by omega
  have h := k4 ⟨d, hd⟩ ⟨y % 16, by omega⟩ h1 h2 hy
  simp only at h
  rw [s3, rep, e, and_low (by omega) (by omega), h, s3]
/-- The bytes' counts, byte by byte. -/
def dig : Nat → Nat → Nat
  | 0, _ => 0
  | n + 1, x => popN 8 (x % 256) + 256 * dig n (x / 256)
theorem swar : ∀ (n x : Nat), x < 256 ^ n → s3 n (s2 n (s1 n x)) = dig n x ∧ s2 n (s1 n x) % 16 ≤ 4 ∧ s1 n x < 256 ^ n ∧ s2 n (s1 n x) < 256 ^ n
  | 0, x, _ => by simp [s1, s2, s3, rep, dig]
  | n + 1, x, h => by
    have hx : x = x % 256 + 256 * (x / 256) := by omega
    have hd : x % 256 < 256 := by omega
    obtain ⟨i1, i2, i3, i4⟩ := swar n (x / 256) (by rw [Nat.pow_succ] at h; omega)
    obtain ⟨a1, a2, a3, a4, a5⟩ := k3 ⟨x % 256, hd⟩
    simp only at a1 a2 a3 a4 a5
    have e1 : s1 (n + 1) x = f1 (x % 256) + 256 * s1 n (x / 256) := by conv => lhs; rw [hx]
                                                                       exact s1_step hd
    have e2 : s2 (n + 1) (s1 (n + 1) x) = f2 (f1 (x % 256)) + 256 * s2 n (s1 n (x / 256)) := by rw [e1]; exact s2_step a1
    have e3 : s3 (n + 1) (s2 (n + 1) (s1 (n + 1) x)) = dig (n + 1) x := by rw [e2, s3_step a2 a3 a4 i2, i1, a5, dig]
    refine ⟨e3, by rw [e2]; omega, ?_, ?_⟩
    · rw [e1, Nat.pow_succ]; omega
    · rw [e2, Nat.pow_succ]; omega
theorem pop_bytes (n y : Nat) : popN (8 + n) y = popN 8 (y % 256) + popN n (y / 256) := by
  have h := popN_mod 8 8 y (Nat.le_refl _)
  rw [show (2 : Nat) ^ 8 = 256 from rfl] at h
  rw [popN_split n 8, show (2 : Nat) ^ 8 = 256 from rfl, h]
theorem horner {X p0 p1 R1 R2 R3 p2 : Nat} (h : X = p0 + 256 * R1) (h1 : R1 = p1 + 256 * R2) (h2 : R2 = p2 + 256 * R3) (b0 : p0 ≤ 8) (_b1 : p1 ≤ 8) (_b2 : p2 ≤ 8) :
    X / 256 = R1 ∧ X + R1 = (p0 + p1) + 256 * (p1 + p2) + 65536 * (R2 + R3) := by subst h h1 h2; omega
theorem hdiv2 {a b R : Nat} (ha : a ≤ 16) (hb : b ≤ 16) : (a + 256 * b + 65536 * R) / 65536 = R := by omega
theorem hdiv4 {a b c d R : Nat} (ha : a ≤ 32) (hb : b ≤ 32) (hc : c ≤ 32) (hd : d ≤ 32) : (a + 256 * b + 65536 * c + 16777216 * d + 4294967296 * R) / 4294967296 = R := by omega
theorem hmod {a q : Nat} (h : a ≤ 64) : (a + 256 * q) % 128 = a := by omega
/-- The sum of the bytes, by halves. -/
theorem sum8 {X3 X4 X5 X6 p0 p1 p2 p3 p4 p5 p6 p7 : Nat} (b0 : p0 ≤ 8) (b1 : p1 ≤ 8) (b2 : p2 ≤ 8) (b3 : p3 ≤ 8) (b4 : p4 ≤ 8) (b5 : p5 ≤ 8) (b6 : p6 ≤ 8) (b7 : p7 ≤ 8)
    (h3 : X3 = p0 + 256 * (p1 + 256 * (p2 + 256 * (p3 + 256 * (p4 + 256 * (p5 + 256 * (p6 + 256 * (p7 + 256 * 0)))))))) (h4 : X4 = X3 + X3 / 256) (h5 : X5 = X4 + X4 / 65536) (h6 : X6 = X5 + X5 / 4294967296) :
    X6 % 128 = p0 + (p1 + (p2 + (p3 + (p4 + (p5 + (p6 + (p7 + 0))))))) := by
  obtain ⟨R7, r7⟩ : ∃ R, R = p7 + 256 * 0 := ⟨_, rfl⟩
  rw [← r7] at h3
  obtain ⟨R6, r6⟩ : ∃ R, R = p6 + 256 * R7 := ⟨_, rfl⟩
  rw [← r6] at h3
  obtain ⟨R5, r5⟩ : ∃ R, R = p5 + 256 * R6 := ⟨_, rfl⟩
  rw [← r5] at h3
  obtain ⟨R4, r4⟩ : ∃ R, R = p4 + 256 * R5 := ⟨_, rfl⟩
  rw [← r4] at h3
  obtain ⟨R3, r3⟩ : ∃ R, R = p3 + 256 * R4 := ⟨_, rfl⟩
  rw [← r3] at h3
  obtain ⟨R2, r2⟩ : ∃ R, R = p2 + 256 * R3 := ⟨_, rfl⟩
  rw [← r2] at h3
  obtain ⟨R1, r1⟩ : ∃ R, R = p1 + 256 * R2 := ⟨_, rfl⟩
  rw [← r1] at h3
  obtain ⟨d1, d2⟩ := horner h3 r1 r2 b0 b1 b2
  rw [d1, d2] at h4
  clear d1 d2 h3 r1
  have d3 : X4 / 65536 = R2 + R3 := by rw [h4]; exact hdiv2 (Nat.add_le_add b0 b1) (Nat.add_le_add b1 b2)
  rw [d3] at h5
  have q5 : X5 = (p0 + p1 + p2 + p3) + 256 * (p1 + p2 + p3 + p4) + 65536 * (p2 + p3 + p4 + p5) + 16777216 * (p3 + p4 + p5 + p6) + 4294967296 * (R4 + R5 + R6 + R7) := by
    clear h6 d3 r7 b0 b1 b2 b3 b4 b5 b6 b7
    subst h4 h5 r2 r3 r4 r5 r6
    omega
  have d4 : X5 / 4294967296 = R4 + R5 + R6 + R7 := by rw [q5]; exact hdiv4 (Nat.add_le_add (Nat.add_le_add (Nat.add_le_add b0 b1) b2) b3) (Nat.add_le_add (Nat.add_le_add (Nat.add_le_add b1 b2) b3) b4) (Nat.add_le_add (Nat.add_le_add (Nat.add_le_add b2 b3) b4) b5) (Nat.add_le_add (Nat.add_le_add (Nat.add_le_add b3 b4) b5) b6)
  rw [d4, q5] at h6
  obtain ⟨q, hq⟩ : ∃ q, X6 = (p0 + p1 + p2 + p3 + p4 + p5 + p6 + p7) + 256 * q := by
    refine ⟨(p1 + p2 + p3 + p4) + 256 * (p2 + p3 + p4 + p5) + 65536 * (p3 + p4 + p5 + p6) + 16777216 * (R4 + R5 + R6 + R7) + (R5 + R6 + R7), ?_⟩
    clear q5 d4 d3 h4 h5 b0 b1 b2 b3 b4 b5 b6 b7 r2 r3
    subst h6 r4 r5 r6 r7
    omega
  rw [hq, hmod (Nat.add_le_add (Nat.add_le_add (Nat.add_le_add (Nat.add_le_add (Nat.add_le_add (Nat.add_le_add (Nat.add_le_add b0 b1) b2) b3) b4) b5) b6) b7)]
  simp only [Nat.add_assoc, Nat.add_zero]
theorem dig_0 (x : Nat) : dig 0 x = 0 := rfl
theorem popN_0 (x : Nat) : popN 0 x = 0 := by rw [popN]
theorem dig_s (n x : Nat) : dig (n + 1) x = popN 8 (x % 256) + 256 * dig n (x / 256) := rfl
theorem pop_sum (x : Nat) {X3 X4 X5 X6 : Nat} (h3 : X3 = dig 8 x) (h4 : X4 = X3 + X3 / 256) (h5 : X5 = X4 + X4 / 65536) (h6 : X6 = X5 + X5 / 4294967296) : X6 % 128 = popN 64 x := by
  have e1 : popN 64 x = popN (8 + (8 + (8 + (8 + (8 + (8 + (8 + (8 + 0)))))))) x := rfl
  rw [pop_bytes, pop_bytes, pop_bytes, pop_bytes, pop_bytes, pop_bytes, pop_bytes, pop_bytes] at e1
  rw [popN_0] at e1
  rw [dig_s, dig_s, dig_s, dig_s, dig_s, dig_s, dig_s, dig_s, dig_0] at h3
  rw [e1]
  exact sum8 (popN_le _ _) (popN_le _ _) (popN_le _ _) (popN_le _ _) (popN_le _ _) (popN_le _ _) (popN_le _ _) (popN_le _ _) h3 h4 h5 h6
theorem dig_lt (x : Nat) : dig 8 x < 2000000000000000000 := by
  have b : ∀ y, popN 8 y ≤ 8 := popN_le 8
  have st : ∀ n x m, dig n (x / 256) ≤ m → dig (n + 1) x ≤ 8 + 256 * m := by
    intro n x m h
    have := b (x % 256)
    rw [dig]; omega
  have h := st 7 x _ (st 6 _ _ (st 5 _ _ (st 4 _ _ (st 3 _ _ (st 2 _ _ (st 1 _ _ (st 0 _ _ (Nat.le_refl _))))))))
  exact Nat.lt_of_le_of_lt h (by rw [dig]; decide)
theorem popN_zero (n : Nat) : popN n 0 = 0 := by
  induction n with
  | zero => rw [popN]
  | succ n ih => rw [popN, Nat.zero_div, ih]
attribute [irreducible] dig
theorem pop_narrow {a : Nat} (h : a < 4294967296) : popN 64 a = popN 32 a := by
  have e : popN 64 a = popN 32 a + popN 32 (a / 2 ^ 32) := popN_split 32 32 a
  rw [Nat.div_eq_of_lt (show a < 2 ^ 32 from h), popN_zero, Nat.add_zero] at e
  exact e
end Go.Proofs.YtmlniifdipeboaaDoor
