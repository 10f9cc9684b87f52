/- Numbers read: where, what, and back: plain. -/
import Derived.Test.YtmlniifdipeboaaDoorReadUvar
namespace Go.Proofs.YtmlniifdipeboaaDoor
open Go Go.RowKit

/-- Bytes. -/
def Bytes (l : List Int) : Prop := ∀ x ∈ l, 0 ≤ x ∧ x ≤ 255

theorem ruvGo_le (b : List Int) (p : Nat) : ∀ (f i v : Nat), (ruvGo b p f i v).2.2 = 0 → (ruvGo b p f i v).2.1 ≤ b.length ∧ p < (ruvGo b p f i v).2.1 := by
  intro f
  induction f with
  | zero => intro i v h; simp [ruvGo] at h
  | succ f ih =>
    intro i v h
    rw [ruvGo] at h ⊢
    split at h
    · simp at h
    · rename_i h1
      rw [if_neg h1]
      split at h
      · simp at h
      · rename_i h2
        rw [if_neg h2]
        split at h
        · rename_i h3
          rw [if_pos h3]
          split at h
          · simp at h
          · rename_i h4
            rw [if_neg h4]
            simp only
            omega
        · rename_i h3
          rw [if_neg h3]
          exact ih _ _ h
theorem ruv_le {b : List Int} {p : Nat} (h : (ruv b p).2.2 = 0) : (ruv b p).2.1 ≤ b.length := (ruvGo_le b p 10 0 0 h).1
theorem ruvGo_u64 (b : List Int) (p : Nat) : ∀ (f i v : Nat), f = 10 - i → v < 128 ^ i → (ruvGo b p f i v).1 ≤ 18446744073709551615 := by
  intro f
  induction f with
  | zero => intro i v _ _; simp [ruvGo]
  | succ f ih =>
    intro i v hf hv
    rw [ruvGo]
    split
    · simp
    · split
      · simp
      · rename_i h2
        have hs := step_lt (b.getD (p + i) 0).toNat hv
        split
        · split
          · simp
          · simp only
            have hm := mul_fits ((b.getD (p + i) 0).toNat % 128) i (by omega) (by omega) (fun e => by omega)
            rw [← pow_128] at hm
            by_cases h9 : i = 9
            · have : (128 : Nat) ^ 9 = 9223372036854775808 := by decide
              rw [h9] at hv hm ⊢
              have h3 : (b.getD (p + 9) 0).toNat % 128 ≤ 1 := by rw [h9] at h2; omega
              have h4 : (b.getD (p + 9) 0).toNat % 128 * 128 ^ 9 ≤ 1 * 128 ^ 9 := Nat.mul_le_mul_right _ h3
              omega
            · have h5 : (128 : Nat) ^ (i + 1) ≤ 128 ^ 9 := Nat.pow_le_pow_right (by omega) (by omega)
              have : (128 : Nat) ^ 9 = 9223372036854775808 := by decide
              omega
        · exact ih _ _ (by omega) hs
theorem ruv_u64 (b : List Int) (p : Nat) : (ruv b p).1 ≤ 18446744073709551615 := ruvGo_u64 b p 10 0 0 rfl (by simp)
theorem drop_at {b : List Int} {p : Nat} (h : p < b.length) : b.drop p = b.getD p 0 :: b.drop (p + 1) := by
  rw [List.drop_eq_getElem_cons h]
  congr 1
  simp [h]
theorem drop_more {b x rest : List Int} {p : Nat} (h : b.drop p = x ++ rest) : b.drop (p + x.length) = rest := by
  rw [← List.drop_drop, h, List.drop_left]
theorem drop_head {b rest : List Int} {p : Nat} {x : Int} (h : b.drop p = x :: rest) : p < b.length ∧ b.getD p 0 = x ∧ b.drop (p + 1) = rest := by
  have hl : p < b.length := by
    rcases Nat.lt_or_ge p b.length with h1 | h1
    · exact h1
    · rw [List.drop_eq_nil_of_le h1] at h; simp at h
  rw [drop_at hl] at h
  simp only [List.cons.injEq] at h
  exact ⟨hl, h.1, h.2⟩

/-- A number's bytes, read. -/
theorem ruvGo_uv (b : List Int) (p : Nat) (rest : List Int) : ∀ (f k t m : Nat), f + k = 10 → b.drop (p + k) = uv m ++ rest → (0 < k → 0 < m) → m * 128 ^ k < 18446744073709551616 →
    ruvGo b p f k t = (t + m * 128 ^ k, p + k + (uv m).length, 0) := by
  intro f
  induction f with
  | zero =>
    intro k t m hk hd h0 hm
    obtain rfl : k = 10 := by omega
    have := h0 (by omega)
    have e : (128 : Nat) ^ 10 = 1180591620717411303424 := by rfl
    rw [e] at hm
    omega
  | succ f ih =>
    intro k t m hk hd h0 hm
    have h9 : k = 9 → m ≤ 1 := by
      rintro rfl
      have e : (128 : Nat) ^ 9 = 9223372036854775808 := by rfl
      rw [e] at hm
      omega
    rw [ruvGo]
    by_cases h : m < 128
    · rw [uv_lo h] at hd ⊢
      obtain ⟨hl, hg, hr⟩ := drop_head hd
      rw [if_neg (by omega), hg, if_neg (by rintro ⟨a, c⟩; have := h9 a; omega), if_pos (by omega), if_neg (by rintro ⟨a, c⟩; have := h0 c; omega)]
      have e : ((m : Int).toNat % 128) = m := by rw [Int.toNat_natCast]; exact Nat.mod_eq_of_lt h
      rw [e]; rfl
    · rw [uv_hi h] at hd ⊢
      obtain ⟨hl, hg, hr⟩ := drop_head hd
      rw [if_neg (by omega), hg, if_neg (by rintro ⟨a, c⟩; have := h9 a; omega), if_neg (by omega)]
      have hx : m / 128 * 128 ^ (k + 1) + m % 128 * 128 ^ k = m * 128 ^ k := by
        have e1 : m / 128 * 128 ^ (k + 1) = (m / 128 * 128) * 128 ^ k := by rw [Nat.pow_succ, Nat.mul_comm (128 ^ k) 128, Nat.mul_assoc]
        rw [e1, ← Nat.add_mul]
        congr 1
        omega
      rw [ih (k + 1) _ (m / 128) (by omega) (by rw [show p + (k + 1) = p + k + 1 by omega]; exact hr) (fun _ => by omega) (by omega)]
      have e : ((((m % 128 + 128 : Nat) : Int)).toNat % 128) = m % 128 := by rw [Int.toNat_natCast]; omega
      rw [e]
      simp only [Prod.mk.injEq, List.length_cons, and_true]
      exact ⟨by omega, by omega⟩
/-- Bytes that are read as a number are the number's. -/
theorem ruvGo_inv (b : List Int) (hb : Bytes b) (p : Nat) : ∀ (f k t n q : Nat), f + k = 10 → ruvGo b p f k t = (n, q, 0) →
    ∃ m, b.drop (p + k) = uv m ++ b.drop q ∧ q = p + k + (uv m).length ∧ n = t + m * 128 ^ k ∧ (0 < k → 0 < m) := by
  intro f
  induction f with
  | zero => intro k t n q hk h; rw [ruvGo] at h; simp at h
  | succ f ih =>
    intro k t n q hk h
    rw [ruvGo] at h
    split at h
    · simp at h
    · rename_i hl
      have hl : p + k < b.length := by omega
      split at h
      · simp at h
      · rename_i h9
        have hd := drop_at hl
        have hc : 0 ≤ b.getD (p + k) 0 ∧ b.getD (p + k) 0 ≤ 255 := hb _ (by rw [List.getD_eq_getElem?_getD, List.getElem?_eq_getElem hl]; exact List.getElem_mem hl)
        generalize b.getD (p + k) 0 = c at *
        split at h
        · rename_i h1
          split at h
          · simp at h
          · rename_i h0
            simp only [Prod.mk.injEq, and_true] at h
            obtain ⟨rfl, rfl⟩ := h
            have hm : c.toNat < 128 := by omega
            refine ⟨c.toNat, ?_, ?_, ?_, fun hk => by omega⟩
            · rw [hd, uv_lo hm, Int.toNat_of_nonneg hc.1]; rfl
            · rw [uv_lo hm]; rfl
            · rw [Nat.mod_eq_of_lt hm]
        · rename_i h1
          obtain ⟨m, e1, e2, e3, e4⟩ := ih (k + 1) _ n q (by omega) h
          have hm := e4 (by omega)
          have hcm : c.toNat % 128 + 128 = c.toNat := by omega
          refine ⟨m * 128 + c.toNat % 128, ?_, ?_, ?_, fun _ => by omega⟩
          · rw [hd, uv_hi (by omega), show (m * 128 + c.toNat % 128) % 128 + 128 = c.toNat by omega, show (m * 128 + c.toNat % 128) / 128 = m by omega, Int.toNat_of_nonneg hc.1,
              List.cons_append, ← e1]
            rfl
          · rw [uv_hi (by omega), show (m * 128 + c.toNat % 128) / 128 = m by omega, List.length_cons, e2]; omega
          · rw [e3, Nat.add_mul, Nat.pow_succ, Nat.mul_assoc m, Nat.mul_comm 128 (128 ^ k)]; omega
theorem ruv_uv {b rest : List Int} {p n : Nat} (h : b.drop p = uv n ++ rest) (hn : n ≤ 18446744073709551615) : ruv b p = (n, p + (uv n).length, 0) := by
  rw [ruv, ruvGo_uv b p rest 10 0 0 n (by omega) (by simpa using h) (by omega) (by simp; omega)]
  simp
theorem ruv_inv {b : List Int} (hb : Bytes b) {p n q : Nat} (h : ruv b p = (n, q, 0)) : b.drop p = uv n ++ b.drop q ∧ q = p + (uv n).length := by
  obtain ⟨m, e1, e2, e3, _⟩ := ruvGo_inv b hb p 10 0 0 n q (by omega) h
  obtain rfl : n = m := by simpa using e3
  exact ⟨by simpa using e1, by simpa using e2⟩

end Go.Proofs.YtmlniifdipeboaaDoor
