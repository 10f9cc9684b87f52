/- The plain law of snap's bytes: what is written is read as itself; what is read was written so. No program in sight. -/
import Derived.Test.YthlkckpadjjbdaaDoorRead
import Derived.Test.YthlkckpadjjbdaaDoorWrite
namespace Go.Proofs.YthlkckpadjjbdaaDoor
open Go Go.RowKit

theorem drop_at {b : List Int} {p : Nat} (h : p < b.length) : b.drop p = b.getD p 0 :: b.drop (p + 1) := by
  rw [List.drop_eq_getElem_cons h]
  congr 1
  simp [h]
theorem drop_more {b x rest : List Int} {p : Nat} (h : b.drop p = x ++ rest) : b.drop (p + x.length) = rest := by
  rw [← List.drop_drop, h, List.drop_left]
theorem drop_head {b rest : List Int} {p : Nat} {x : Int} (h : b.drop p = x :: rest) : p < b.length ∧ b.getD p 0 = x ∧ b.drop (p + 1) = rest := by
  have hl : p < b.length := by
    rcases Nat.lt_or_ge p b.length with h1 | h1
    · exact h1
    · rw [List.drop_eq_nil_of_le h1] at h; simp at h
  rw [drop_at hl] at h
  simp only [List.cons.injEq] at h
  exact ⟨hl, h.1, h.2⟩

/-- A number's bytes, read. -/
theorem ruvGo_uv (b : List Int) (p : Nat) (rest : List Int) : ∀ (f k t m : Nat), f + k = 10 → b.drop (p + k) = uv m ++ rest → (0 < k → 0 < m) → m * 128 ^ k < 18446744073709551616 →
    ruvGo b p f k t = (t + m * 128 ^ k, p + k + (uv m).length, 0) := by
  intro f
  induction f with
  | zero =>
    intro k t m hk hd h0 hm
    obtain rfl : k = 10 := by omega
    have := h0 (by omega)
    have e : (128 : Nat) ^ 10 = 1180591620717411303424 := by rfl
    rw [e] at hm
    omega
  | succ f ih =>
    intro k t m hk hd h0 hm
    have h9 : k = 9 → m ≤ 1 := by
      rintro rfl
      have e : (128 : Nat) ^ 9 = 9223372036854775808 := by rfl
      rw [e] at hm
      omega
    rw [ruvGo]
    by_cases h : m < 128
    · rw [uv_lo h] at hd ⊢
      obtain ⟨hl, hg, hr⟩ := drop_head hd
      rw [if_neg (by omega), hg, if_neg (by rintro ⟨a, c⟩; have := h9 a; omega), if_pos (by omega), if_neg (by rintro ⟨a, c⟩; have := h0 c; omega)]
      have e : ((m : Int).toNat % 128) = m := by rw [Int.toNat_natCast]; exact Nat.mod_eq_of_lt h
      rw [e]; rfl
    · rw [uv_hi h] at hd ⊢
      obtain ⟨hl, hg, hr⟩ := drop_head hd
      rw [if_neg (by omega), hg, if_neg (by rintro ⟨a, c⟩; have := h9 a; omega), if_neg (by omega)]
      have hx : m / 128 * 128 ^ (k + 1) + m % 128 * 128 ^ k = m * 128 ^ k := by
        have e1 : m / 128 * 128 ^ (k + 1) = (m / 128 * 128) * 128 ^ k := by rw [Nat.pow_succ, Nat.mul_comm (128 ^ k) 128, Nat.mul_assoc]
        rw [e1, ← Nat.add_mul]
        congr 1
        omega
      rw [ih (k + 1) _ (m / 128) (by omega) (by rw [show p + (k + 1) = p + k + 1 by omega]; exact hr) (fun _ => by omega) (by omega)]
      have e : ((((m % 128 + 128 : Nat) : Int)).toNat % 128) = m % 128 := by rw [Int.toNat_natCast]; omega
      rw [e]
      simp only [Prod.mk.injEq, List.length_cons, and_true]
      exact ⟨by omega, by omega⟩
/-- Bytes that are read as a number are the number's. -/
theorem ruvGo_inv (b : List Int) (hb : Bytes b) (p : Nat) : ∀ (f k t n q : Nat), f + k = 10 → ruvGo b p f k t = (n, q, 0) →
    ∃ m, b.drop (p + k) = uv m ++ b.drop q ∧ q = p + k + (uv m).length ∧ n = t + m * 128 ^ k ∧ (0 < k → 0 < m) := by
  intro f
  induction f with
  | zero => intro k t n q hk h; rw [ruvGo] at h; simp at h
  | succ f ih =>
    intro k t n q hk h
    rw [ruvGo] at h
    split at h
    · simp at h
    · rename_i hl
      have hl : p + k < b.length := by omega
      split at h
      · simp at h
      · rename_i h9
        have hd := drop_at hl
        have hc : 0 ≤ b.getD (p + k) 0 ∧ b.getD (p + k) 0 ≤ 255 := hb _ (by rw [List.getD_eq_getElem?_getD, List.getElem?_eq_getElem hl]; exact List.getElem_mem hl)
        generalize b.getD (p + k) 0 = c at *
        split at h
        · rename_i h1
          split at h
          · simp at h
          · rename_i h0
            simp only [Prod.mk.injEq, and_true] at h
            obtain ⟨rfl, rfl⟩ := h
            have hm : c.toNat < 128 := by omega
            refine ⟨c.toNat, ?_, ?_, ?_, fun hk => by omega⟩
            · rw [hd, uv_lo hm, Int.toNat_of_nonneg hc.1]; rfl
            · rw [uv_lo hm]; rfl
            · rw [Nat.mod_eq_of_lt hm]
        · rename_i h1
          obtain ⟨m, e1, e2, e3, e4⟩ := ih (k + 1) _ n q (by omega) h
          have hm := e4 (by omega)
          have hcm : c.toNat % 128 + 128 = c.toNat := by omega
          refine ⟨m * 128 + c.toNat % 128, ?_, ?_, ?_, fun _ => by omega⟩
          · rw [hd, uv_hi (by omega), show (m * 128 + c.toNat % 128) % 128 + 128 = c.toNat by omega, show (m * 128 + c.toNat % 128) / 128 = m by omega, Int.toNat_of_nonneg hc.1,
              List.cons_append, ← e1]
            rfl
          · rw [uv_hi (by omega), show (m * 128 + c.toNat % 128) / 128 = m by omega, List.length_cons, e2]; omega
          · rw [e3, Nat.add_mul, Nat.pow_succ, Nat.mul_assoc m, Nat.mul_comm 128 (128 ^ k)]; omega
theorem ruv_uv {b rest : List Int} {p n : Nat} (h : b.drop p = uv n ++ rest) (hn : n ≤ 18446744073709551615) : ruv b p = (n, p + (uv n).length, 0) := by
  rw [ruv, ruvGo_uv b p rest 10 0 0 n (by omega) (by simpa using h) (by omega) (by simp; omega)]
  simp
theorem ruv_inv {b : List Int} (hb : Bytes b) {p n q : Nat} (h : ruv b p = (n, q, 0)) : b.drop p = uv n ++ b.drop q ∧ q = p + (uv n).length := by
  obtain ⟨m, e1, e2, e3, _⟩ := ruvGo_inv b hb p 10 0 0 n q (by omega) h
  obtain rfl : n = m := by simpa using e3
  exact ⟨by simpa using e1, by simpa using e2⟩

/-- The reader went over just these bytes. -/
structure Step (b : List Int) (r r' : RS) (x : List Int) : Prop where
  ok : r.e = 0
  go : r' = { r with at_ := r.at_ + x.length }
  bs : b.drop r.at_ = x ++ b.drop r'.at_
theorem Step.refl (b : List Int) {r : RS} (h : r.e = 0) : Step b r r [] := ⟨h, by simp, by simp⟩
theorem Step.trans {b : List Int} {r r1 r2 : RS} {x y : List Int} (h : Step b r r1 x) (k : Step b r1 r2 y) : Step b r r2 (x ++ y) := by
  obtain ⟨a1, rfl, a3⟩ := h
  obtain ⟨c1, rfl, c3⟩ := k
  exact ⟨a1, by simp [Nat.add_assoc], by rw [a3, c3, List.append_assoc]⟩
/-- The reader behind these bytes. -/
def RS.by (r : RS) (x : List Int) : RS := { r with at_ := r.at_ + x.length }
theorem RS.by_by (r : RS) (x y : List Int) : (r.by x).by y = r.by (x ++ y) := by simp [RS.by, Nat.add_assoc]
theorem RS.by_nil (r : RS) : r.by [] = r := rfl
theorem RS.by_e (r : RS) (x : List Int) : (r.by x).e = r.e := rfl
theorem by_drop {b x rest : List Int} {r : RS} (h : b.drop r.at_ = x ++ rest) : b.drop (r.by x).at_ = rest := drop_more h
theorem no_e (r : RS) (e : Int) (k : Nat) (he : e ≠ 0) : (r.no e k).e ≠ 0 := by
  unfold RS.no
  split
  · exact he
  · assumption

theorem rnum_fwd {b rest : List Int} {r : RS} {n most : Nat} (g : Int) (h : r.e = 0) (hd : b.drop r.at_ = uv n ++ rest) (hn : n ≤ most) (hm : most ≤ 18446744073709551615) : rnum b r most g = (n, r.by (uv n)) := by
  have e := ruv_uv hd (by omega)
  unfold rnum
  rw [e]
  rw [if_neg (by simp [h]), if_neg (by simp), if_neg (by simp; omega)]
  rfl
theorem rnum_inv {b : List Int} (hb : Bytes b) {r : RS} {most : Nat} {g : Int} (hg : g ≠ 0) (h : (rnum b r most g).2.e = 0) :
    Step b r (rnum b r most g).2 (uv (rnum b r most g).1) ∧ (rnum b r most g).1 ≤ most := by
  refine ⟨?_, rnum_le b r most g⟩
  unfold rnum at h ⊢
  split at h
  · exact absurd h (by assumption)
  · rename_i he
    split at h
    · exact absurd h (no_e _ _ _ (by assumption))
    · rename_i h2
      split at h
      · exact absurd h (no_e _ _ _ hg)
      · rename_i h3
        rw [if_neg he, if_neg h2, if_neg h3]
        obtain ⟨n, q, e, hx⟩ : ∃ n q e, ruv b r.at_ = (n, q, e) := ⟨_, _, _, rfl⟩
        rw [hx] at h2 ⊢
        obtain rfl : e = 0 := by simpa using h2
        obtain ⟨k1, rfl⟩ := ruv_inv hb hx
        exact ⟨by simpa using he, rfl, k1⟩
theorem wrap_small {x : Int} (h : 0 ≤ x ∧ x ≤ 127) : IntKind.i8.wrap x = x := IntWalk.i8_in _ ⟨by omega, by omega⟩
theorem roct_fwd {b rest : List Int} {r : RS} {x least most : Int} (h : r.e = 0) (hd : b.drop r.at_ = x :: rest) (hx : least ≤ x ∧ x ≤ most) (h0 : 0 ≤ least) (hm : most ≤ 127) : roct b r least most = (x, r.by [x]) := by
  obtain ⟨hl, hg, _⟩ := drop_head hd
  unfold roct
  rw [hg, if_neg (by simp [h]), if_neg (by omega), if_neg (by omega), wrap_small ⟨by omega, by omega⟩]
  rfl
theorem roct_inv {b : List Int} {r : RS} {least most : Int} (h0 : 0 ≤ least) (hm : most ≤ 127) (h : (roct b r least most).2.e = 0) :
    Step b r (roct b r least most).2 [(roct b r least most).1] ∧ least ≤ (roct b r least most).1 ∧ (roct b r least most).1 ≤ most := by
  unfold roct at h ⊢
  split at h
  · exact absurd h (by assumption)
  · rename_i he
    split at h
    · exact absurd h (no_e _ _ _ (by omega))
    · rename_i h2
      simp only at h
      split at h
      · exact absurd h (no_e _ _ _ (by omega))
      · rename_i h3
        rw [if_neg he, if_neg h2, if_neg h3, wrap_small ⟨by omega, by omega⟩]
        exact ⟨⟨by simpa using he, rfl, drop_at (by omega)⟩, by simp only; omega, by simp only; omega⟩
theorem rvalsGo_fwd {b rest : List Int} : ∀ (l : List Int) (r : RS) (acc : List Int), r.e = 0 → U64s l → b.drop r.at_ = (l.flatMap fun x => uv x.toNat) ++ rest →
    rvalsGo b l.length r acc = (acc ++ l, r.by (l.flatMap fun x => uv x.toNat)) := by
  intro l
  induction l with
  | nil => intro r acc h hu hd; simp [rvalsGo, RS.by]
  | cons x l ih =>
    intro r acc h hu hd
    have hx := hu x (by simp)
    rw [List.flatMap_cons, List.append_assoc] at hd
    have e := rnum_fwd 17 h hd (most := 18446744073709551615) (by omega) (by omega)
    rw [List.length_cons, rvalsGo, e]
    rw [if_neg (by simp [RS.by, h]), ih (r.by (uv x.toNat)) _ h (fun y hy => hu y (by simp [hy])) (by_drop hd), RS.by_by, List.flatMap_cons]
    simp only [Prod.mk.injEq, and_true]
    rw [Int.toNat_of_nonneg hx.1, List.append_assoc]
    rfl
theorem rvalsGo_inv {b : List Int} (hb : Bytes b) : ∀ (n : Nat) (r : RS) (acc : List Int), (rvalsGo b n r acc).2.e = 0 →
    ∃ l, l.length = n ∧ (rvalsGo b n r acc).1 = acc ++ l ∧ U64s l ∧ Step b r (rvalsGo b n r acc).2 (l.flatMap fun x => uv x.toNat) := by
  intro n
  induction n with
  | zero => intro r acc h; exact ⟨[], rfl, by simp [rvalsGo], by intro x hx; simp at hx, Step.refl b h⟩
  | succ n ih =>
    intro r acc h
    rw [rvalsGo] at h ⊢
    split at h
    · exact absurd h (by assumption)
    · rename_i he
      rw [if_neg he]
      have h1 := rnum_inv hb (g := 17) (by omega) (by simpa using he)
      obtain ⟨l, e1, e2, e3, e4⟩ := ih _ _ h
      refine ⟨((rnum b r 18446744073709551615 17).1 : Int) :: l, by simp [e1], by rw [e2, List.append_assoc]; rfl, ?_, ?_⟩
      · intro x hx
        rcases List.mem_cons.1 hx with rfl | hx
        · exact ⟨by omega, by have := h1.2; omega⟩
        · exact e3 x hx
      · rw [List.flatMap_cons, Int.toNat_natCast]
        exact h1.1.trans e4
theorem rvals_fwd {b rest : List Int} {r : RS} {l : List Int} {most : Nat} (h : r.e = 0) (hu : U64s l) (hl : l.length ≤ most) (hm : most ≤ 1000000) (hd : b.drop r.at_ = encVals l ++ rest) : rvals b r most = (l, r.by (encVals l)) := by
  rw [encVals, List.append_assoc] at hd
  have e := rnum_fwd 20 h hd hl (by omega)
  rw [rvals, e]
  simp only
  rw [rvalsGo_fwd l (r.by (uv l.length)) [] h hu (by_drop hd), RS.by_by]
  rfl
theorem rvals_inv {b : List Int} (hb : Bytes b) {r : RS} {most : Nat} (h : (rvals b r most).2.e = 0) :
    Step b r (rvals b r most).2 (encVals (rvals b r most).1) ∧ U64s (rvals b r most).1 ∧ (rvals b r most).1.length ≤ most := by
  unfold rvals at h ⊢
  obtain ⟨l, e1, e2, e3, e4⟩ := rvalsGo_inv hb _ _ _ h
  have h1 := rnum_inv hb (g := 20) (by omega) e4.ok
  rw [e2, List.nil_append]
  refine ⟨?_, e3, by rw [e1]; exact h1.2⟩
  rw [encVals, e1]
  exact h1.1.trans e4
end Go.Proofs.YthlkckpadjjbdaaDoor
