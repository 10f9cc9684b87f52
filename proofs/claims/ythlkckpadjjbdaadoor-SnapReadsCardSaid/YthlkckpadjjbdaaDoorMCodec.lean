/- The plain law of snap's bytes: what is written is read as itself; what is read was written so. No program in sight. The plain law of snap's bytes: frames and pages. The plain law of snap's bytes: the whole. The plain law of snap's bytes: what the laws lean on. -/
import Derived.Test.YthlkckpadjjbdaaDoorRead
import Derived.Test.YthlkckpadjjbdaaDoorWrite
namespace Go.Proofs.YthlkckpadjjbdaaDoor
open Go Go.RowKit

theorem drop_at {b : List Int} {p : Nat} (h : p < b.length) : b.drop p = b.getD p 0 :: b.drop (p + 1) := by
  rw [List.drop_eq_getElem_cons h]
  congr 1
  simp [h]
theorem drop_more {b x rest : List Int} {p : Nat} (h : b.drop p = x ++ rest) : b.drop (p + x.length) = rest := by
  rw [← List.drop_drop, h, List.drop_left]
theorem drop_head {b rest : List Int} {p : Nat} {x : Int} (h : b.drop p = x :: rest) : p < b.length ∧ b.getD p 0 = x ∧ b.drop (p + 1) = rest := by
  have hl : p < b.length := by
    rcases Nat.lt_or_ge p b.length with h1 | h1
    · exact h1
    · rw [List.drop_eq_nil_of_le h1] at h; simp at h
  rw [drop_at hl] at h
  simp only [List.cons.injEq] at h
  exact ⟨hl, h.1, h.2⟩

/-- A number's bytes, read. -/
theorem ruvGo_uv (b : List Int) (p : Nat) (rest : List Int) : ∀ (f k t m : Nat), f + k = 10 → b.drop (p + k) = uv m ++ rest → (0 < k → 0 < m) → m * 128 ^ k < 18446744073709551616 →
    ruvGo b p f k t = (t + m * 128 ^ k, p + k + (uv m).length, 0) := by
  intro f
  induction f with
  | zero =>
    intro k t m hk hd h0 hm
    obtain rfl : k = 10 := by omega
    have := h0 (by omega)
    have e : (128 : Nat) ^ 10 = 1180591620717411303424 := by rfl
    rw [e] at hm
    omega
  | succ f ih =>
    intro k t m hk hd h0 hm
    have h9 : k = 9 → m ≤ 1 := by
      rintro rfl
      have e : (128 : Nat) ^ 9 = 9223372036854775808 := by rfl
      rw [e] at hm
      omega
    rw [ruvGo]
    by_cases h : m < 128
    · rw [uv_lo h] at hd ⊢
      obtain ⟨hl, hg, hr⟩ := drop_head hd
      rw [if_neg (by omega), hg, if_neg (by rintro ⟨a, c⟩; have := h9 a; omega), if_pos (by omega), if_neg (by rintro ⟨a, c⟩; have := h0 c; omega)]
      have e : ((m : Int).toNat % 128) = m := by rw [Int.toNat_natCast]; exact Nat.mod_eq_of_lt h
      rw [e]; rfl
    · rw [uv_hi h] at hd ⊢
      obtain ⟨hl, hg, hr⟩ := drop_head hd
      rw [if_neg (by omega), hg, if_neg (by rintro ⟨a, c⟩; have := h9 a; omega), if_neg (by omega)]
      have hx : m / 128 * 128 ^ (k + 1) + m % 128 * 128 ^ k = m * 128 ^ k := by
        have e1 : m / 128 * 128 ^ (k + 1) = (m / 128 * 128) * 128 ^ k := by rw [Nat.pow_succ, Nat.mul_comm (128 ^ k) 128, Nat.mul_assoc]
        rw [e1, ← Nat.add_mul]
        congr 1
        omega
      rw [ih (k + 1) _ (m / 128) (by omega) (by rw [show p + (k + 1) = p + k + 1 by omega]; exact hr) (fun _ => by omega) (by omega)]
      have e : ((((m % 128 + 128 : Nat) : Int)).toNat % 128) = m % 128 := by rw [Int.toNat_natCast]; omega
      rw [e]
      simp only [Prod.mk.injEq, List.length_cons, and_true]
      exact ⟨by omega, by omega⟩
/-- Bytes that are read as a number are the number's. -/
theorem ruvGo_inv (b : List Int) (hb : Bytes b) (p : Nat) : ∀ (f k t n q : Nat), f + k = 10 → ruvGo b p f k t = (n, q, 0) →
    ∃ m, b.drop (p + k) = uv m ++ b.drop q ∧ q = p + k + (uv m).length ∧ n = t + m * 128 ^ k ∧ (0 < k → 0 < m) := by
  intro f
  induction f with
  | zero => intro k t n q hk h; rw [ruvGo] at h; simp at h
  | succ f ih =>
    intro k t n q hk h
    rw [ruvGo] at h
    split at h
    · simp at h
    · rename_i hl
      have hl : p + k < b.length := by omega
      split at h
      · simp at h
      · rename_i h9
        have hd := drop_at hl
        have hc : 0 ≤ b.getD (p + k) 0 ∧ b.getD (p + k) 0 ≤ 255 := hb _ (by rw [List.getD_eq_getElem?_getD, List.getElem?_eq_getElem hl]; exact List.getElem_mem hl)
        generalize b.getD (p + k) 0 = c at *
        split at h
        · rename_i h1
          split at h
          · simp at h
          · rename_i h0
            simp only [Prod.mk.injEq, and_true] at h
            obtain ⟨rfl, rfl⟩ := h
            have hm : c.toNat < 128 := by omega
            refine ⟨c.toNat, ?_, ?_, ?_, fun hk => by omega⟩
            · rw [hd, uv_lo hm, Int.toNat_of_nonneg hc.1]; rfl
            · rw [uv_lo hm]; rfl
            · rw [Nat.mod_eq_of_lt hm]
        · rename_i h1
          obtain ⟨m, e1, e2, e3, e4⟩ := ih (k + 1) _ n q (by omega) h
          have hm := e4 (by omega)
          have hcm : c.toNat % 128 + 128 = c.toNat := by omega
          refine ⟨m * 128 + c.toNat % 128, ?_, ?_, ?_, fun _ => by omega⟩
          · rw [hd, uv_hi (by omega), show (m * 128 + c.toNat % 128) % 128 + 128 = c.toNat by omega, show (m * 128 + c.toNat % 128) / 128 = m by omega, Int.toNat_of_nonneg hc.1,
              List.cons_append, ← e1]
            rfl
          · rw [uv_hi (by omega), show (m * 128 + c.toNat % 128) / 128 = m by omega, List.length_cons, e2]; omega
          · rw [e3, Nat.add_mul, Nat.pow_succ, Nat.mul_assoc m, Nat.mul_comm 128 (128 ^ k)]; omega
theorem ruv_uv {b rest : List Int} {p n : Nat} (h : b.drop p = uv n ++ rest) (hn : n ≤ 18446744073709551615) : ruv b p = (n, p + (uv n).length, 0) := by
  rw [ruv, ruvGo_uv b p rest 10 0 0 n (by omega) (by simpa using h) (by omega) (by simp; omega)]
  simp
theorem ruv_inv {b : List Int} (hb : Bytes b) {p n q : Nat} (h : ruv b p = (n, q, 0)) : b.drop p = uv n ++ b.drop q ∧ q = p + (uv n).length := by
  obtain ⟨m, e1, e2, e3, _⟩ := ruvGo_inv b hb p 10 0 0 n q (by omega) h
  obtain rfl : n = m := by simpa using e3
  exact ⟨by simpa using e1, by simpa using e2⟩

/-- The reader went over just these bytes. -/
structure Step (b : List Int) (r r' : RS) (x : List Int) : Prop where
  ok : r.e = 0
  go : r' = { r with at_ := r.at_ + x.length }
  bs : b.drop r.at_ = x ++ b.drop r'.at_
theorem Step.refl (b : List Int) {r : RS} (h : r.e = 0) : Step b r r [] := ⟨h, by simp, by simp⟩
theorem Step.trans {b : List Int} {r r1 r2 : RS} {x y : List Int} (h : Step b r r1 x) (k : Step b r1 r2 y) : Step b r r2 (x ++ y) := by
  obtain ⟨a1, rfl, a3⟩ := h
  obtain ⟨c1, rfl, c3⟩ := k
  exact ⟨a1, by simp [Nat.add_assoc], by rw [a3, c3, List.append_assoc]⟩
/-- The reader behind these bytes. -/
def RS.by (r : RS) (x : List Int) : RS := { r with at_ := r.at_ + x.length }
theorem RS.by_by (r : RS) (x y : List Int) : (r.by x).by y = r.by (x ++ y) := by simp [RS.by, Nat.add_assoc]
theorem RS.by_nil (r : RS) : r.by [] = r := rfl
theorem RS.by_e (r : RS) (x : List Int) : (r.by x).e = r.e := rfl
theorem by_drop {b x rest : List Int} {r : RS} (h : b.drop r.at_ = x ++ rest) : b.drop (r.by x).at_ = rest := drop_more h
theorem no_e (r : RS) (e : Int) (k : Nat) (he : e ≠ 0) : (r.no e k).e ≠ 0 := by
  unfold RS.no
  split
  · exact he
  · assumption

theorem rnum_fwd {b rest : List Int} {r : RS} {n most : Nat} (g : Int) (h : r.e = 0) (hd : b.drop r.at_ = uv n ++ rest) (hn : n ≤ most) (hm : most ≤ 18446744073709551615) : rnum b r most g = (n, r.by (uv n)) := by
  have e := ruv_uv hd (by omega)
  unfold rnum
  rw [e]
  rw [if_neg (by simp [h]), if_neg (by simp), if_neg (by simp; omega)]
  rfl
theorem rnum_inv {b : List Int} (hb : Bytes b) {r : RS} {most : Nat} {g : Int} (hg : g ≠ 0) (h : (rnum b r most g).2.e = 0) :
    Step b r (rnum b r most g).2 (uv (rnum b r most g).1) ∧ (rnum b r most g).1 ≤ most := by
  refine ⟨?_, rnum_le b r most g⟩
  unfold rnum at h ⊢
  split at h
  · exact absurd h (by assumption)
  · rename_i he
    split at h
    · exact absurd h (no_e _ _ _ (by assumption))
    · rename_i h2
      split at h
      · exact absurd h (no_e _ _ _ hg)
      · rename_i h3
        rw [if_neg he, if_neg h2, if_neg h3]
        obtain ⟨n, q, e, hx⟩ : ∃ n q e, ruv b r.at_ = (n, q, e) := ⟨_, _, _, rfl⟩
        rw [hx] at h2 ⊢
        obtain rfl : e = 0 := by simpa using h2
        obtain ⟨k1, rfl⟩ := ruv_inv hb hx
        exact ⟨by simpa using he, rfl, k1⟩
theorem wrap_small {x : Int} (h : 0 ≤ x ∧ x ≤ 127) : IntKind.i8.wrap x = x := IntWalk.i8_in _ ⟨by omega, by omega⟩
theorem roct_fwd {b rest : List Int} {r : RS} {x least most : Int} (h : r.e = 0) (hd : b.drop r.at_ = x :: rest) (hx : least ≤ x ∧ x ≤ most) (h0 : 0 ≤ least) (hm : most ≤ 127) : roct b r least most = (x, r.by [x]) := by
  obtain ⟨hl, hg, _⟩ := drop_head hd
  unfold roct
  rw [hg, if_neg (by simp [h]), if_neg (by omega), if_neg (by omega), wrap_small ⟨by omega, by omega⟩]
  rfl
theorem roct_inv {b : List Int} {r : RS} {least most : Int} (h0 : 0 ≤ least) (hm : most ≤ 127) (h : (roct b r least most).2.e = 0) :
    Step b r (roct b r least most).2 [(roct b r least most).1] ∧ least ≤ (roct b r least most).1 ∧ (roct b r least most).1 ≤ most := by
  unfold roct at h ⊢
  split at h
  · exact absurd h (by assumption)
  · rename_i he
    split at h
    · exact absurd h (no_e _ _ _ (by omega))
    · rename_i h2
      simp only at h
      split at h
      · exact absurd h (no_e _ _ _ (by omega))
      · rename_i h3
        rw [if_neg he, if_neg h2, if_neg h3, wrap_small ⟨by omega, by omega⟩]
        exact ⟨⟨by simpa using he, rfl, drop_at (by omega)⟩, by simp only; omega, by simp only; omega⟩
theorem rvalsGo_fwd {b rest : List Int} : ∀ (l : List Int) (r : RS) (acc : List Int), r.e = 0 → U64s l → b.drop r.at_ = (l.flatMap fun x => uv x.toNat) ++ rest →
    rvalsGo b l.length r acc = (acc ++ l, r.by (l.flatMap fun x => uv x.toNat)) := by
  intro l
  induction l with
  | nil => intro r acc h hu hd; simp [rvalsGo, RS.by]
  | cons x l ih =>
    intro r acc h hu hd
    have hx := hu x (by simp)
    rw [List.flatMap_cons, List.append_assoc] at hd
    have e := rnum_fwd 17 h hd (most := 18446744073709551615) (by omega) (by omega)
    rw [List.length_cons, rvalsGo, e]
    rw [if_neg (by simp [RS.by, h]), ih (r.by (uv x.toNat)) _ h (fun y hy => hu y (by simp [hy])) (by_drop hd), RS.by_by, List.flatMap_cons]
    simp only [Prod.mk.injEq, and_true]
    rw [Int.toNat_of_nonneg hx.1, List.append_assoc]
    rfl
theorem rvalsGo_inv {b : List Int} (hb : Bytes b) : ∀ (n : Nat) (r : RS) (acc : List Int), (rvalsGo b n r acc).2.e = 0 →
    ∃ l, l.length = n ∧ (rvalsGo b n r acc).1 = acc ++ l ∧ U64s l ∧ Step b r (rvalsGo b n r acc).2 (l.flatMap fun x => uv x.toNat) := by
  intro n
  induction n with
  | zero => intro r acc h; exact ⟨[], rfl, by simp [rvalsGo], by intro x hx; simp at hx, Step.refl b h⟩
  | succ n ih =>
    intro r acc h
    rw [rvalsGo] at h ⊢
    split at h
    · exact absurd h (by assumption)
    · rename_i he
      rw [if_neg he]
      have h1 := rnum_inv hb (g := 17) (by omega) (by simpa using he)
      obtain ⟨l, e1, e2, e3, e4⟩ := ih _ _ h
      refine ⟨((rnum b r 18446744073709551615 17).1 : Int) :: l, by simp [e1], by rw [e2, List.append_assoc]; rfl, ?_, ?_⟩
      · intro x hx
        rcases List.mem_cons.1 hx with rfl | hx
        · exact ⟨by omega, by have := h1.2; omega⟩
        · exact e3 x hx
      · rw [List.flatMap_cons, Int.toNat_natCast]
        exact h1.1.trans e4
theorem rvals_fwd {b rest : List Int} {r : RS} {l : List Int} {most : Nat} (h : r.e = 0) (hu : U64s l) (hl : l.length ≤ most) (hm : most ≤ 1000000) (hd : b.drop r.at_ = encVals l ++ rest) : rvals b r most = (l, r.by (encVals l)) := by
  rw [encVals, List.append_assoc] at hd
  have e := rnum_fwd 20 h hd hl (by omega)
  rw [rvals, e]
  simp only
  rw [rvalsGo_fwd l (r.by (uv l.length)) [] h hu (by_drop hd), RS.by_by]
  rfl
theorem rvals_inv {b : List Int} (hb : Bytes b) {r : RS} {most : Nat} (h : (rvals b r most).2.e = 0) :
    Step b r (rvals b r most).2 (encVals (rvals b r most).1) ∧ U64s (rvals b r most).1 ∧ (rvals b r most).1.length ≤ most := by
  unfold rvals at h ⊢
  obtain ⟨l, e1, e2, e3, e4⟩ := rvalsGo_inv hb _ _ _ h
  have h1 := rnum_inv hb (g := 20) (by omega) e4.ok
  rw [e2, List.nil_append]
  refine ⟨?_, e3, by rw [e1]; exact h1.2⟩
  rw [encVals, e1]
  exact h1.1.trans e4
end Go.Proofs.YthlkckpadjjbdaaDoor
namespace Go.Proofs.YthlkckpadjjbdaaDoor
open Go Go.RowKit

theorem okn_iff {n : Int} {m : Nat} : okn n m = true ↔ 0 ≤ n ∧ n ≤ m := by unfold okn; simp
theorem rframe_fwd {b rest : List Int} {r : RS} {f : FrameD} (h : r.e = 0) (hf : okFrame f = true) (hw : WfFrame f) (hd : b.drop r.at_ = encFrame f ++ rest) : rframe b r = (f, r.by (encFrame f)) := by
  simp only [okFrame, Bool.and_eq_true, okn_iff, decide_eq_true_eq] at hf
  obtain ⟨⟨⟨h1, h2⟩, h3⟩, h4⟩ := hf
  simp only [encFrame, List.append_assoc] at hd
  have e1 := rnum_fwd 17 h hd (most := 127) (by omega) (by omega)
  have d1 := by_drop hd
  have e2 := rnum_fwd 17 (r := r.by (uv f.fn.toNat)) h d1 (most := 2047) (by omega) (by omega)
  have d2 := by_drop d1
  have e3 := rvals_fwd (r := (r.by (uv f.fn.toNat)).by (uv f.pc.toNat)) h hw.loc h3 (by omega) d2
  have d3 := by_drop d2
  have e4 := rvals_fwd (r := ((r.by (uv f.fn.toNat)).by (uv f.pc.toNat)).by (encVals f.loc)) h hw.stk h4 (by omega) d3
  simp only [rframe, e1, e2, e3, e4]
  simp only [RS.by_by, encFrame]
  rw [Int.toNat_of_nonneg h1.1, Int.toNat_of_nonneg h2.1]
theorem rframe_inv {b : List Int} (hb : Bytes b) {r : RS} (h : (rframe b r).2.e = 0) : Step b r (rframe b r).2 (encFrame (rframe b r).1) ∧ okFrame (rframe b r).1 = true ∧ WfFrame (rframe b r).1 := by
  have h4 := rvals_inv hb h
  have h3 := rvals_inv hb h4.1.ok
  have h2 := rnum_inv hb (by omega) h3.1.ok
  have h1 := rnum_inv hb (by omega) h2.1.ok
  refine ⟨?_, ?_, ?_⟩
  · exact ((h1.1.trans h2.1).trans h3.1).trans h4.1
  · simp only [okFrame, Bool.and_eq_true, okn_iff, decide_eq_true_eq]
    have b1 := h1.2; have b2 := h2.2
    exact ⟨⟨⟨⟨by simp only [rframe]; omega, by simp only [rframe]; omega⟩, ⟨by simp only [rframe]; omega, by simp only [rframe]; omega⟩⟩, h3.2.2⟩, h4.2.2⟩
  · have b1 := h1.2; have b2 := h2.2
    exact ⟨⟨by simp only [rframe]; omega, by simp only [rframe]; omega⟩, ⟨by simp only [rframe]; omega, by simp only [rframe]; omega⟩, h3.2.1, h4.2.1⟩
theorem rframesGo_fwd {b rest : List Int} : ∀ (l : List FrameD) (r : RS) (acc : List FrameD), r.e = 0 → (∀ f ∈ l, okFrame f = true ∧ WfFrame f) → b.drop r.at_ = l.flatMap encFrame ++ rest →
    rframesGo b l.length r acc = (acc ++ l, r.by (l.flatMap encFrame)) := by
  intro l
  induction l with
  | nil => intro r acc h hu hd; simp [rframesGo, RS.by]
  | cons x l ih =>
    intro r acc h hu hd
    rw [List.flatMap_cons, List.append_assoc] at hd
    have e := rframe_fwd h (hu x (by simp)).1 (hu x (by simp)).2 hd
    rw [List.length_cons, rframesGo, e]
    simp only
    rw [ih (r.by (encFrame x)) _ h (fun y hy => hu y (by simp [hy])) (by_drop hd), RS.by_by, List.flatMap_cons, List.append_assoc]
    rfl
theorem rframesGo_inv {b : List Int} (hb : Bytes b) : ∀ (n : Nat) (r : RS) (acc : List FrameD), (rframesGo b n r acc).2.e = 0 →
    ∃ l, l.length = n ∧ (rframesGo b n r acc).1 = acc ++ l ∧ (∀ f ∈ l, okFrame f = true ∧ WfFrame f) ∧ Step b r (rframesGo b n r acc).2 (l.flatMap encFrame) := by
  intro n
  induction n with
  | zero => intro r acc h; exact ⟨[], rfl, by simp [rframesGo], by intro x hx; simp at hx, Step.refl b h⟩
  | succ n ih =>
    intro r acc h
    rw [rframesGo] at h ⊢
    obtain ⟨l, e1, e2, e3, e4⟩ := ih _ _ h
    have h1 := rframe_inv hb e4.ok
    refine ⟨(rframe b r).1 :: l, by simp [e1], by rw [e2, List.append_assoc]; rfl, ?_, ?_⟩
    · intro x hx
      rcases List.mem_cons.1 hx with rfl | hx
      · exact h1.2
      · exact e3 x hx
    · rw [List.flatMap_cons]
      exact h1.1.trans e4

/-- The pages from a to n that are not zero. -/
def pgF (ps : List (List Int)) (a n : Nat) : List Nat := (List.range' a (n - a)).filter fun i => ps.getD i [] ≠ zpage
theorem pgF_nz (ps : List (List Int)) (n : Nat) : nz ps n = pgF ps 0 n := by rw [nz, pgF, List.range_eq_range']; rfl
theorem pgF_nil {ps : List (List Int)} {a n : Nat} (h : ∀ j, a ≤ j → j < n → ps.getD j [] = zpage) : pgF ps a n = [] := by
  rw [pgF, List.filter_eq_nil_iff]
  intro j hj
  rw [List.mem_range'_1] at hj
  simpa using h j hj.1 (by omega)
theorem pgF_of_nil {ps : List (List Int)} {a n : Nat} (h : pgF ps a n = []) : ∀ j, a ≤ j → j < n → ps.getD j [] = zpage := by
  intro j h1 h2
  rw [pgF, List.filter_eq_nil_iff] at h
  have := h j (List.mem_range'_1.2 ⟨h1, by omega⟩)
  simpa using this
theorem range_cut {a i n : Nat} (h1 : a ≤ i) (h2 : i < n) : List.range' a (n - a) = List.range' a (i - a) ++ i :: List.range' (i + 1) (n - (i + 1)) := by
  have e := List.range'_append (s := a) (m := i - a) (n := n - i) (step := 1)
  rw [Nat.one_mul, show a + (i - a) = i by omega, show i - a + (n - i) = n - a by omega, show n - i = (n - (i + 1)) + 1 by omega, List.range'_succ] at e
  exact e.symm
theorem pgF_cons {ps : List (List Int)} {a i n : Nat} (h1 : a ≤ i) (h2 : i < n) (hz : ∀ j, a ≤ j → j < i → ps.getD j [] = zpage) (hi : ps.getD i [] ≠ zpage) : pgF ps a n = i :: pgF ps (i + 1) n := by
  have h0 : (List.range' a (i - a)).filter (fun i => ps.getD i [] ≠ zpage) = [] := by
    rw [List.filter_eq_nil_iff]
    intro j hj
    rw [List.mem_range'_1] at hj
    simpa using hz j hj.1 (by omega)
  rw [pgF, range_cut h1 h2, List.filter_append, h0, List.nil_append, List.filter_cons_of_pos (by simpa using hi)]
  rfl
theorem pgF_cons_inv {ps : List (List Int)} {a n i : Nat} {l : List Nat} (h : pgF ps a n = i :: l) : a ≤ i ∧ i < n ∧ (∀ j, a ≤ j → j < i → ps.getD j [] = zpage) ∧ ps.getD i [] ≠ zpage ∧ pgF ps (i + 1) n = l := by
  have hm : i ∈ pgF ps a n := by rw [h]; simp
  rw [pgF, List.mem_filter, List.mem_range'_1] at hm
  have h1 : a ≤ i := hm.1.1
  have h2 : i < n := by omega
  have h3 : ps.getD i [] ≠ zpage := by simpa using hm.2
  have hz : ∀ j, a ≤ j → j < i → ps.getD j [] = zpage := by
    intro j ha hj
    have hall : ∀ x ∈ (List.range' a (i - a)).filter (fun i => ps.getD i [] ≠ zpage), False := by
      intro x hx
      have e : pgF ps a n = (List.range' a (i - a)).filter (fun i => ps.getD i [] ≠ zpage) ++ (i :: List.range' (i + 1) (n - (i + 1))).filter (fun i => ps.getD i [] ≠ zpage) := by
        rw [pgF, range_cut h1 h2, List.filter_append]
      rw [h] at e
      have hxi : x < i := by
        rw [List.mem_filter, List.mem_range'_1] at hx
        omega
      generalize (List.range' a (i - a)).filter (fun i => ps.getD i [] ≠ zpage) = L at *
      match L, hx with
      | y :: L, hx =>
        have hy : i = y := by
          rw [List.cons_append] at e
          exact (List.cons.inj e).1
        subst hy
        rcases List.mem_cons.1 hx with rfl | hx
        · omega
        · have hp : (pgF ps a n).Pairwise (· < ·) := List.Pairwise.filter _ (List.pairwise_lt_range' (s := a) (n := n - a))
          rw [h, e, List.cons_append, List.pairwise_cons] at hp
          have := hp.1 x (List.mem_append_left _ hx)
          omega
    have hn : ¬ (ps.getD j [] ≠ zpage) := fun hc => hall j (List.mem_filter.2 ⟨List.mem_range'_1.2 ⟨ha, by omega⟩, by simpa using hc⟩)
    exact Decidable.not_not.1 hn
  refine ⟨h1, h2, hz, h3, ?_⟩
  rw [pgF_cons h1 h2 hz h3] at h
  exact (List.cons.inj h).2
theorem getD_set_ne {ps : List (List Int)} {i j : Nat} {x : List Int} (h : i ≠ j) : (ps.set i x).getD j [] = ps.getD j [] := by
  rw [List.getD_eq_getElem?_getD, List.getD_eq_getElem?_getD, List.getElem?_set_ne h]
theorem getD_set_self {ps : List (List Int)} {i : Nat} {x : List Int} (h : i < ps.length) : (ps.set i x).getD i [] = x := by
  rw [List.getD_eq_getElem?_getD, List.getElem?_set_self h]; rfl
def Page (y : List Int) : Prop := y.length = 4096 ∧ Bytes y
def encTail (ps : List (List Int)) (l : List Nat) : List Int := l.flatMap fun i => uv i ++ ps.getD i []
theorem ext_getD {ps qs : List (List Int)} (h : ps.length = qs.length) (he : ∀ j, j < qs.length → ps.getD j [] = qs.getD j []) : ps = qs := by
  apply List.ext_getElem h
  intro j h1 h2
  have := he j h2
  simpa [h1, h2] using this

theorem rpagesGo_fwd {b rest : List Int} {n : Nat} {qs : List (List Int)} (hq : qs.length = n) (hn : n ≤ 18446744073709551615) (hpg : ∀ y ∈ qs, Page y) : ∀ (l : List Nat) (r : RS) (behind : Nat) (ps : List (List Int)), r.e = 0 → ps.length = n → pgF qs behind n = l →
    (∀ j, j < behind → ps.getD j [] = qs.getD j []) → (∀ j, behind ≤ j → j < n → ps.getD j [] = zpage) → b.drop r.at_ = encTail qs l ++ rest →
    rpagesGo b n l.length r behind ps = (qs, r.by (encTail qs l)) := by
  intro l
  induction l with
  | nil =>
    intro r behind ps h hp hl h1 h2 hd
    have e : ps = qs := ext_getD (by omega) fun j hj => by
      rcases Nat.lt_or_ge j behind with hb | hb
      · exact h1 j hb
      · rw [h2 j hb (by omega), pgF_of_nil hl j hb (by omega)]
    rw [List.length_nil, rpagesGo, e]; rfl
  | cons i l ih =>
    intro r behind ps h hp hl h1 h2 hd
    obtain ⟨c1, c2, c3, c4, c5⟩ := pgF_cons_inv hl
    have e0 : encTail qs (i :: l) = uv i ++ (qs.getD i [] ++ encTail qs l) := by rw [encTail, List.flatMap_cons, List.append_assoc]; rfl
    rw [e0, List.append_assoc] at hd
    have e1 := rnum_fwd 17 h hd (most := 18446744073709551615) (by omega) (by omega)
    have d1 := by_drop hd
    rw [List.append_assoc] at d1
    have hpi : Page (qs.getD i []) := hpg _ (by
      rw [List.getD_eq_getElem?_getD, List.getElem?_eq_getElem (by omega)]
      exact List.getElem_mem _)
    have hlen : ¬ b.length - (r.by (uv i)).at_ < 4096 := by
      have := congrArg List.length d1
      rw [List.length_drop, List.length_append, hpi.1] at this
      omega
    have em : rpageMid b n r behind i (r.by (uv i)) = r.by (uv i) := rpageMid_ok h (by omega) (by omega) hlen
    have et : (b.drop (r.by (uv i)).at_).take 4096 = qs.getD i [] := by
      rw [d1, ← hpi.1]; exact List.take_left
    rw [List.length_cons, rpagesGo_step, rpageNo_eq, e1]
    simp only
    rw [em, rpageStep, if_neg (by simp [RS.by, h]), if_neg (by simp only; rw [et]; exact c4)]
    simp only
    rw [et]
    have hby : ({ r.by (uv i) with at_ := (r.by (uv i)).at_ + 4096 } : RS) = (r.by (uv i)).by (qs.getD i []) := by rw [RS.by, RS.by, hpi.1]
    rw [hby, ih ((r.by (uv i)).by (qs.getD i [])) (i + 1) (ps.set i (qs.getD i [])) h (by rw [List.length_set]; exact hp) c5 ?_ ?_ (by_drop d1), RS.by_by, RS.by_by, e0]
    · intro j hj
      by_cases hji : j = i
      · subst hji; rw [getD_set_self (by omega)]
      · rw [getD_set_ne (by omega)]
        rcases Nat.lt_or_ge j behind with hb | hb
        · exact h1 j hb
        · rw [h2 j hb (by omega), c3 j hb (by omega)]
    · intro j h3 h4
      rw [getD_set_ne (by omega)]
      exact h2 j (by omega) h4
theorem rpageMid_inv {b : List Int} {n : Nat} {r : RS} {behind i : Nat} {r1 : RS} (h : (rpageMid b n r behind i r1).e = 0) : r1.e = 0 ∧ i < n ∧ behind ≤ i ∧ 4096 ≤ b.length - r1.at_ := by
  by_cases h1 : r1.e = 0
  · by_cases h2 : n ≤ i
    · exfalso
      by_cases h3 : i < behind
      · unfold rpageMid at h
        simp only [h1, h2, and_self, if_true, h3] at h
        have e1 : ((r1.no 17 r.at_).no 18 r.at_).e ≠ 0 := no_e _ _ _ (by omega)
        rw [if_neg (fun hc => e1 hc.1)] at h
        exact e1 h
      · rw [rpageMid_17 h1 h2 h3] at h
        exact no_e _ _ _ (by omega) h
    · by_cases h3 : i < behind
      · exfalso
        rw [rpageMid_18 h1 h2 h3] at h
        exact no_e _ _ _ (by omega) h
      · by_cases h4 : b.length - r1.at_ < 4096
        · exfalso
          rw [rpageMid_10 h1 h2 h3 h4] at h
          exact no_e _ _ _ (by omega) h
        · exact ⟨h1, by omega, by omega, by omega⟩
  · rw [rpageMid_err h1] at h
    exact absurd h h1
theorem rpagesGo_inv {b : List Int} (hb : Bytes b) {n : Nat} : ∀ (k : Nat) (r : RS) (behind : Nat) (ps : List (List Int)), ps.length = n → (∀ y ∈ ps, Page y) → (∀ j, behind ≤ j → j < n → ps.getD j [] = zpage) → (rpagesGo b n k r behind ps).2.e = 0 →
    ∃ qs, (rpagesGo b n k r behind ps).1 = qs ∧ qs.length = n ∧ (∀ y ∈ qs, Page y) ∧ (∀ j, j < behind → qs.getD j [] = ps.getD j []) ∧ (pgF qs behind n).length = k ∧ Step b r (rpagesGo b n k r behind ps).2 (encTail qs (pgF qs behind n)) := by
  intro k
  induction k with
  | zero =>
    intro r behind ps hp hpg hz h
    refine ⟨ps, rfl, hp, hpg, fun _ _ => rfl, by rw [pgF_nil hz]; rfl, ?_⟩
    rw [pgF_nil hz]
    exact Step.refl b h
  | succ k ih =>
    intro r behind ps hp hpg hz h
    rw [rpagesGo_step, rpageNo_eq, rpageStep] at h ⊢
    obtain ⟨i, r1, hx⟩ : ∃ i r1, rnum b r 18446744073709551615 17 = (i, r1) := ⟨_, _, rfl⟩
    simp only [hx] at h ⊢
    split at h
    · exact absurd h (by assumption)
    · rename_i he
      obtain ⟨c1, c2, c3, c4⟩ := rpageMid_inv (Decidable.not_not.1 he)
      have em : rpageMid b n r behind i r1 = r1 := rpageMid_ok c1 (by omega) (by omega) (by omega)
      rw [em] at h he ⊢
      split at h
      · exact absurd h (no_e _ _ _ (by omega))
      · rename_i hnz
        rw [if_neg he, if_neg hnz]
        obtain ⟨pg, hpgd⟩ : ∃ pg, pg = (b.drop r1.at_).take 4096 := ⟨_, rfl⟩
        rw [← hpgd] at h hnz ⊢
        have hpl : pg.length = 4096 := by rw [hpgd, List.length_take, List.length_drop]; omega
        have hpB : Page pg := ⟨hpl, fun y hy => hb y (by rw [hpgd] at hy; exact List.mem_of_mem_drop (List.mem_of_mem_take hy))⟩
        obtain ⟨qs, e1, e2, e3, e4, e5, e6⟩ := ih _ (i + 1) (ps.set i pg) (by rw [List.length_set]; exact hp)
          (fun y hy => by rcases List.mem_or_eq_of_mem_set hy with hy | rfl; exact hpg y hy; exact hpB)
          (fun j h1 h2 => by rw [getD_set_ne (by omega)]; exact hz j (by omega) h2) h
        have hqi : qs.getD i [] = pg := by rw [e4 i (by omega), getD_set_self (by omega)]
        have hF : pgF qs behind n = i :: pgF qs (i + 1) n := pgF_cons c3 c2 (fun j h1 h2 => by rw [e4 j (by omega), getD_set_ne (by omega)]; exact hz j h1 (by omega)) (by rw [hqi]; exact hnz)
        refine ⟨qs, e1, e2, e3, fun j hj => by rw [e4 j (by omega), getD_set_ne (by omega)], by rw [hF, List.length_cons, e5], ?_⟩
        rw [hF]
        have e0 : encTail qs (i :: pgF qs (i + 1) n) = uv i ++ (pg ++ encTail qs (pgF qs (i + 1) n)) := by rw [encTail, List.flatMap_cons, List.append_assoc, hqi]; rfl
        rw [e0]
        have s1 := rnum_inv hb (r := r) (most := 18446744073709551615) (g := 17) (by omega) (by rw [hx]; exact c1)
        rw [hx] at s1
        refine s1.1.trans (Step.trans (r1 := { r1 with at_ := r1.at_ + 4096 }) ⟨c1, by rw [hpl], ?_⟩ e6)
        show b.drop r1.at_ = pg ++ b.drop (r1.at_ + 4096)
        rw [hpgd, ← List.drop_drop, List.take_append_drop]
theorem zpage_page : Page zpage := ⟨zpage_len, zpage_bytes⟩
theorem rep_getD {n j : Nat} (h : j < n) : (List.replicate n zpage).getD j [] = zpage := by
  rw [List.getD_eq_getElem?_getD, List.getElem?_replicate, if_pos h]; rfl
theorem rpages_fwd {b rest : List Int} {r : RS} {qs : List (List Int)} (h : r.e = 0) (hl : qs.length ≤ 64) (hpg : ∀ y ∈ qs, Page y) (hd : b.drop r.at_ = encPages qs ++ rest) : rpages b r = (qs, r.by (encPages qs)) := by
  simp only [encPages, List.append_assoc] at hd
  have e1 := rnum_fwd 20 h hd (most := 64) hl (by omega)
  have d1 := by_drop hd
  have e2 := rnum_fwd 20 (r := r.by (uv qs.length)) h d1 (most := qs.length) (nz_len _ _) (by omega)
  have d2 := by_drop d1
  unfold rpages
  simp only [e1, e2]
  have e3 := rpagesGo_fwd (b := b) (rest := rest) (n := qs.length) rfl (by omega) hpg (nz qs qs.length) ((r.by (uv qs.length)).by (uv (nz qs qs.length).length)) 0 (List.replicate qs.length zpage) h List.length_replicate (pgF_nz qs _).symm (fun j hj => absurd hj (by omega)) (fun j _ hj => rep_getD hj) d2
  rw [e3, RS.by_by, RS.by_by]
  rfl
theorem rpages_inv {b : List Int} (hb : Bytes b) {r : RS} (h : (rpages b r).2.e = 0) : Step b r (rpages b r).2 (encPages (rpages b r).1) ∧ (rpages b r).1.length ≤ 64 ∧ (∀ y ∈ (rpages b r).1, Page y) := by
  unfold rpages at h ⊢
  obtain ⟨qs, e1, e2, e3, _, e5, e6⟩ := rpagesGo_inv hb _ _ _ _ List.length_replicate (fun y hy => by rw [(List.mem_replicate.1 hy).2]; exact zpage_page) (fun j _ hj => rep_getD hj) h
  have h2 := rnum_inv hb (g := 20) (by omega) e6.ok
  have h1 := rnum_inv hb (g := 20) (by omega) h2.1.ok
  rw [e1]
  refine ⟨?_, by rw [e2]; exact h1.2, e3⟩
  have hs := h1.1.trans (h2.1.trans e6)
  have e : encPages qs = uv (rnum b r 64 20).1 ++ (uv (rnum b (rnum b r 64 20).2 (rnum b r 64 20).1 20).1 ++ encTail qs (pgF qs 0 (rnum b r 64 20).1)) := by
    rw [encPages, e2, pgF_nz, e5]; rfl
  rw [e]
  exact hs
end Go.Proofs.YthlkckpadjjbdaaDoor
namespace Go.Proofs.YthlkckpadjjbdaaDoor
open Go Go.RowKit

theorem magic_enc (s : StateD) : encState s = magic5 ++ ([s.ends] ++ ([s.trap] ++ (uv s.used.toNat ++ (uv s.replies.toNat ++ (encVals s.results ++ (encVals s.globals ++ (encPages s.pages ++ (uv s.frames.length ++ s.frames.flatMap encFrame)))))))) := by
  simp only [encState, encHead, List.append_assoc, magic5]; rfl
theorem okState_parts {s : StateD} (h : okState s = true) : (1 ≤ s.ends ∧ s.ends ≤ 3 ∧ 0 ≤ s.trap ∧ s.trap ≤ 6) ∧ (0 ≤ s.used ∧ s.used ≤ 4611686018427387904) ∧ (0 ≤ s.replies ∧ s.replies ≤ 9223372036854775807) ∧
    s.results.length ≤ 8 ∧ s.globals.length ≤ 64 ∧ (s.pages.length ≤ 64 ∧ ∀ x ∈ s.pages, x.length = 4096) ∧ s.frames.length ≤ 64 ∧ ∀ f ∈ s.frames, okFrame f = true := by
  simp only [okState, okEnds, okHead, okPages, Bool.and_eq_true, okn_iff, decide_eq_true_eq, List.all_eq_true] at h
  obtain ⟨⟨h1, ⟨⟨⟨⟨h2, h3⟩, h4⟩, h5⟩, h6⟩, h7⟩, h8⟩ := h
  exact ⟨h1, ⟨by omega, by omega⟩, ⟨by omega, by omega⟩, h4, h5, h6, h7, h8⟩
theorem okState_of {s : StateD} (h1 : 1 ≤ s.ends ∧ s.ends ≤ 3) (h2 : 0 ≤ s.trap ∧ s.trap ≤ 6) (h3 : 0 ≤ s.used ∧ s.used ≤ 4611686018427387904) (h4 : 0 ≤ s.replies ∧ s.replies ≤ 9223372036854775807)
    (h5 : s.results.length ≤ 8) (h6 : s.globals.length ≤ 64) (h7 : s.pages.length ≤ 64 ∧ ∀ x ∈ s.pages, x.length = 4096) (h8 : s.frames.length ≤ 64) (h9 : ∀ f ∈ s.frames, okFrame f = true) : okState s = true := by
  simp only [okState, okEnds, okHead, okPages, Bool.and_eq_true, okn_iff, decide_eq_true_eq, List.all_eq_true]
  exact ⟨⟨⟨h1.1, h1.2, h2.1, h2.2⟩, ⟨⟨⟨⟨⟨by omega, by omega⟩, ⟨by omega, by omega⟩⟩, h5⟩, h6⟩, h7⟩, h8⟩, h9⟩
def encMid (s : StateD) : List Int := [s.ends] ++ ([s.trap] ++ (uv s.used.toNat ++ (uv s.replies.toNat ++ (encVals s.results ++ (encVals s.globals ++ (encPages s.pages ++ uv s.frames.length))))))
theorem rhead_fwd {b rest : List Int} {s : StateD} (h : okState s = true) (hw : WfState s) (hd : b = encState s ++ rest) :
    rhead b = ({ s with frames := [] }, (⟨5, 0, 0⟩ : RS).by (encMid s), s.frames.length) ∧
    b.drop ((⟨5, 0, 0⟩ : RS).by (encMid s)).at_ = s.frames.flatMap encFrame ++ rest := by
  obtain ⟨h1, h2, h3, h4, h5, h6, h7, h8⟩ := okState_parts h
  have hd0 : b.drop (⟨5, 0, 0⟩ : RS).at_ = [s.ends] ++ ([s.trap] ++ (uv s.used.toNat ++ (uv s.replies.toNat ++ (encVals s.results ++ (encVals s.globals ++ (encPages s.pages ++ (uv s.frames.length ++ (s.frames.flatMap encFrame ++ rest)))))))) := by
    rw [hd, magic_enc]
    simp only [List.append_assoc]
    exact List.drop_left (l₁ := magic5)
  have e1 := roct_fwd (r := ⟨5, 0, 0⟩) rfl hd0 ⟨h1.1, h1.2.1⟩ (by omega) (by omega)
  have d1 := by_drop hd0
  have e2 := roct_fwd (r := (⟨5, 0, 0⟩ : RS).by [s.ends]) rfl d1 ⟨h1.2.2.1, h1.2.2.2⟩ (by omega) (by omega)
  have d2 := by_drop d1
  have e3 := rnum_fwd 17 (r := ((⟨5, 0, 0⟩ : RS).by [s.ends]).by [s.trap]) rfl d2 (most := 4611686018427387904) (by omega) (by omega)
  have d3 := by_drop d2
  have e4 := rnum_fwd 17 (r := (((⟨5, 0, 0⟩ : RS).by [s.ends]).by [s.trap]).by (uv s.used.toNat)) rfl d3 (most := 9223372036854775807) (by omega) (by omega)
  have d4 := by_drop d3
  have e5 := rvals_fwd (r := ((((⟨5, 0, 0⟩ : RS).by [s.ends]).by [s.trap]).by (uv s.used.toNat)).by (uv s.replies.toNat)) rfl hw.results h4 (by omega) d4
  have d5 := by_drop d4
  have e6 := rvals_fwd (r := (((((⟨5, 0, 0⟩ : RS).by [s.ends]).by [s.trap]).by (uv s.used.toNat)).by (uv s.replies.toNat)).by (encVals s.results)) rfl hw.globals h5 (by omega) d5
  have d6 := by_drop d5
  have e7 := rpages_fwd (r := ((((((⟨5, 0, 0⟩ : RS).by [s.ends]).by [s.trap]).by (uv s.used.toNat)).by (uv s.replies.toNat)).by (encVals s.results)).by (encVals s.globals)) rfl h6.1 (fun y hy => ⟨h6.2 y hy, hw.pages y hy⟩) d6
  have d7 := by_drop d6
  have e8 := rnum_fwd 20 (r := (((((((⟨5, 0, 0⟩ : RS).by [s.ends]).by [s.trap]).by (uv s.used.toNat)).by (uv s.replies.toNat)).by (encVals s.results)).by (encVals s.globals)).by (encPages s.pages)) rfl d7 (most := 64) h7 (by omega)
  have d8 := by_drop d7
  refine ⟨?_, ?_⟩
  · simp only [rhead, e1, e2, e3, e4, e5, e6, e7, e8]
    rw [Int.toNat_of_nonneg h2.1, Int.toNat_of_nonneg h3.1]
    simp only [RS.by_by, List.append_assoc, encMid]
  · simp only [RS.by_by, List.append_assoc] at d8
    exact d8
theorem rread_fwd {b rest : List Int} {s : StateD} (h : okState s = true) (hw : WfState s) (hd : b = encState s ++ rest) (hl : b.length ≤ 524288) :
    rread b = if rest = [] then (s, 0, 0) else (emptyS, 19, (encState s).length) := by
  obtain ⟨e1, d1⟩ := rhead_fwd h hw hd
  have hp := okState_parts h
  have e2 := rframesGo_fwd s.frames _ [] (show ((⟨5, 0, 0⟩ : RS).by (encMid s)).e = 0 from rfl) (fun f hf => ⟨hp.2.2.2.2.2.2.2 f hf, hw.frames f hf⟩) d1
  have h5 : ¬ b.length < 5 := by rw [hd, magic_enc]; simp [magic5]
  have h6 : b.take 5 = magic5 := by rw [hd, magic_enc, List.append_assoc]; exact List.take_left (l₁ := magic5)
  have ha : (encState s).length = 5 + (encMid s).length + (s.frames.flatMap encFrame).length := by
    rw [magic_enc, encMid]; simp only [List.length_append, magic5, List.length_cons, List.length_nil]; omega
  rw [rread, if_neg (by omega), if_neg (by rintro (c | c); exact h5 c; exact c h6), e1]
  simp only
  rw [e2]
  simp only [RS.by, List.nil_append]
  simp only [rlast]
  rw [← ha]
  by_cases hr : rest = []
  · rw [if_pos hr, if_neg (by rw [hd, hr]; simp)]
  · have hne : (encState s).length ≠ b.length := by rw [hd, List.length_append]; have := List.length_pos_iff.2 hr; omega
    simp [hr, hne, RS.no]
theorem rread_inv {b : List Int} (hb : Bytes b) (h : (rread b).2.1 = 0) : okState (rread b).1 = true ∧ WfState (rread b).1 ∧ encState (rread b).1 = b := by
  unfold rread at h ⊢
  split at h
  · simp at h
  · rename_i h1
    split at h
    · simp at h
    · rename_i h2
      rw [if_neg h1, if_neg h2]
      have hm : b.take 5 = magic5 := Decidable.byContradiction fun c => h2 (.inr c)
      simp only at h ⊢
      split at h
      · rename_i h3; exact absurd h h3
      · rename_i h3
        rw [if_neg h3]
        obtain ⟨fs, f1, f2, f3, f4⟩ : ∃ l, l.length = (rhead b).2.2 ∧ (rframesGo b (rhead b).2.2 (rhead b).2.1 []).1 = [] ++ l ∧ (∀ f ∈ l, okFrame f = true ∧ WfFrame f) ∧ Step b (rhead b).2.1 (rframesGo b (rhead b).2.2 (rhead b).2.1 []).2 (l.flatMap encFrame) := by
          refine rframesGo_inv hb _ _ _ ?_
          have h4 := Decidable.not_not.1 h3
          unfold rlast at h4
          split at h4
          · exact absurd h4 (no_e _ _ _ (by omega))
          · exact h4
        have hat : (rframesGo b (rhead b).2.2 (rhead b).2.1 []).2.at_ = b.length := by
          have h4 := Decidable.not_not.1 h3
          unfold rlast at h4
          split at h4
          · exact absurd h4 (no_e _ _ _ (by omega))
          · rename_i h5
            exact Decidable.byContradiction fun c => h5 ⟨h4, c⟩
        have k8 := rnum_inv hb (by omega) f4.ok
        have k7 := rpages_inv hb k8.1.ok
        have k6 := rvals_inv hb k7.1.ok
        have k5 := rvals_inv hb k6.1.ok
        have k4 := rnum_inv hb (by omega) k5.1.ok
        have k3 := rnum_inv hb (by omega) k4.1.ok
        have k2 := roct_inv (by omega) (by omega) k3.1.ok
        have k1 := roct_inv (by omega) (by omega) k2.1.ok
        have st := ((((((((k1.1.trans k2.1).trans k3.1).trans k4.1).trans k5.1).trans k6.1).trans k7.1).trans k8.1).trans f4).bs
        rw [hat, List.drop_length, List.append_nil] at st
        have b3 := k3.2; have b4 := k4.2; have b8 := k8.2
        rw [f2, List.nil_append]
        refine ⟨okState_of k1.2 k2.2 ⟨by simp only [rhead]; omega, by simp only [rhead]; omega⟩ ⟨by simp only [rhead]; omega, by simp only [rhead]; omega⟩ k5.2.2 k6.2.2 ⟨k7.2.1, fun x hx => (k7.2.2 x hx).1⟩ (by simp only; rw [f1]; exact b8) (fun f hf => (f3 f hf).1), ?_, ?_⟩
        · exact ⟨⟨by simp only [rhead]; omega, by simp only [rhead]; omega⟩, ⟨by simp only [rhead]; omega, by simp only [rhead]; omega⟩, ⟨by have := k1.2; simp only [rhead]; omega, by have := k1.2; simp only [rhead]; omega⟩, ⟨by have := k2.2; simp only [rhead]; omega, by have := k2.2; simp only [rhead]; omega⟩, k5.2.1, k6.2.1, fun y hy => (k7.2.2 y hy).2, fun f hf => (f3 f hf).2⟩
        · rw [magic_enc, ← hm]
          simp only [f1]
          conv => rhs; rw [← List.take_append_drop 5 b]
          congr 1
          have e : b.drop (⟨5, 0, 0⟩ : RS).at_ = b.drop 5 := rfl
          rw [e] at st
          rw [st]
          simp only [rhead, Int.toNat_natCast, List.append_assoc]
theorem rread_bad {b : List Int} (h : (rread b).2.1 ≠ 0) : (rread b).1 = emptyS := by
  unfold rread at h ⊢
  split
  · rfl
  · rename_i h1
    rw [if_neg h1] at h
    split
    · rfl
    · rename_i h2
      rw [if_neg h2] at h
      simp only at h ⊢
      split
      · rfl
      · rename_i h3
        rw [if_neg h3] at h
        simp at h
end Go.Proofs.YthlkckpadjjbdaaDoor
namespace Go.Proofs.YthlkckpadjjbdaaDoor
open Go Go.RowKit

theorem bytes_append {a b : List Int} (ha : Bytes a) (hb : Bytes b) : Bytes (a ++ b) := by
  intro x hx
  rcases List.mem_append.1 hx with h | h
  · exact ha x h
  · exact hb x h
theorem bytes_flatMap {α : Type} {f : α → List Int} {l : List α} (h : ∀ y ∈ l, Bytes (f y)) : Bytes (l.flatMap f) := by
  intro x hx
  obtain ⟨y, hy, hxy⟩ := List.mem_flatMap.1 hx
  exact h y hy x hxy
theorem bytes_uv {n : Nat} (h : n ≤ 18446744073709551615) : Bytes (uv n) :=
  uv_byte 10 n (by have : (128 : Nat) ^ 10 = 1180591620717411303424 := by decide
                   omega)
theorem bytes_one {x : Int} (h : 0 ≤ x ∧ x ≤ 255) : Bytes [x] := by intro y hy; obtain rfl := List.mem_singleton.1 hy; exact h
theorem len_flatMap {α : Type} {f : α → List Int} (m : Nat) : ∀ {l : List α}, (∀ y ∈ l, (f y).length ≤ m) → (l.flatMap f).length ≤ l.length * m
  | [], _ => by simp
  | a :: l, h => by
    have h1 := len_flatMap m (l := l) fun y hy => h y (List.mem_cons_of_mem _ hy)
    have h2 := h a (List.mem_cons_self ..)
    rw [List.flatMap_cons, List.length_append, List.length_cons, Nat.succ_mul]
    omega
theorem toNat_le {x : Int} {m : Nat} (h : 0 ≤ x ∧ x ≤ m) : x.toNat ≤ m := by omega
theorem encVals_bytes {l : List Int} (h : U64s l) (hl : l.length ≤ 1000000) : Bytes (encVals l) :=
  bytes_append (bytes_uv (by omega)) (bytes_flatMap fun y hy => bytes_uv (by have := h y hy; omega))
theorem encVals_len {l : List Int} (h : U64s l) {m : Nat} (hl : l.length ≤ m) (hm : m ≤ 1000000) : (encVals l).length ≤ 10 + m * 10 := by
  have h1 := uv_len10 (n := l.length) (by omega)
  have h2 := len_flatMap (f := fun x : Int => uv x.toNat) 10 (l := l) fun y hy => uv_len10 (by have := h y hy; omega)
  rw [encVals, List.length_append]
  have : l.length * 10 ≤ m * 10 := Nat.mul_le_mul_right _ hl
  omega
theorem encPages_bytes {pages : List (List Int)} (h : pages.length ≤ 64) (hb : ∀ y ∈ pages, Bytes y) : Bytes (encPages pages) := by
  have hn := nz_len pages pages.length
  refine bytes_append (bytes_uv (by omega)) (bytes_append (bytes_uv (by omega)) (bytes_flatMap fun i hi => bytes_append (bytes_uv ?_) ?_))
  · have := nz_lt hi; omega
  · have hl := nz_lt hi
    have : pages.getD i [] ∈ pages := by rw [List.getD_eq_getElem?_getD, List.getElem?_eq_getElem hl]; exact List.getElem_mem hl
    exact hb _ this
theorem encPages_len {pages : List (List Int)} (h : pages.length ≤ 64) (hb : ∀ y ∈ pages, y.length = 4096) : (encPages pages).length ≤ 262804 := by
  have hn := nz_len pages pages.length
  have h1 := uv_len10 (n := pages.length) (by omega)
  have h2 := uv_len10 (n := (nz pages pages.length).length) (by omega)
  have h3 := len_flatMap (f := fun i => uv i ++ pages.getD i []) 4106 (l := nz pages pages.length) fun i hi => by
    have hl := nz_lt hi
    have h4 := uv_len10 (n := i) (by omega)
    have : pages.getD i [] ∈ pages := by rw [List.getD_eq_getElem?_getD, List.getElem?_eq_getElem hl]; exact List.getElem_mem hl
    have := hb _ this
    simp only [List.length_append]
    omega
  rw [encPages, List.length_append, List.length_append]
  omega
theorem okFrame_parts {f : FrameD} (h : okFrame f = true) : (0 ≤ f.fn ∧ f.fn ≤ 127) ∧ (0 ≤ f.pc ∧ f.pc ≤ 2047) ∧ f.loc.length ≤ 64 ∧ f.stk.length ≤ 256 := by
  simp only [okFrame, okn_iff, Bool.and_eq_true, decide_eq_true_eq] at h
  obtain ⟨⟨⟨h1, h2⟩, h3⟩, h4⟩ := h
  exact ⟨by omega, by omega, h3, h4⟩
theorem encFrame_bytes {f : FrameD} (h : okFrame f = true) (hw : WfFrame f) : Bytes (encFrame f) := by
  obtain ⟨h1, h2, h3, h4⟩ := okFrame_parts h
  exact bytes_append (bytes_append (bytes_append (bytes_uv (by omega)) (bytes_uv (by omega))) (encVals_bytes hw.loc (by omega))) (encVals_bytes hw.stk (by omega))
theorem encFrame_len {f : FrameD} (h : okFrame f = true) (hw : WfFrame f) : (encFrame f).length ≤ 3240 := by
  obtain ⟨h1, h2, h3, h4⟩ := okFrame_parts h
  have k1 := uv_len10 (n := f.fn.toNat) (by omega)
  have k2 := uv_len10 (n := f.pc.toNat) (by omega)
  have k3 := encVals_len hw.loc h3 (by omega)
  have k4 := encVals_len hw.stk h4 (by omega)
  simp only [encFrame, List.length_append]
  omega
theorem encState_bytes {s : StateD} (h : okState s = true) (hw : WfState s) : Bytes (encState s) := by
  obtain ⟨h1, h2, h3, h4, h5, h6, h7, h8⟩ := okState_parts h
  rw [magic_enc]
  refine bytes_append (by intro x hx; simp [magic5] at hx; omega) (bytes_append (bytes_one (by omega)) (bytes_append (bytes_one (by omega)) (bytes_append (bytes_uv (by omega)) (bytes_append (bytes_uv (by omega)) (bytes_append (encVals_bytes hw.results (by omega))
    (bytes_append (encVals_bytes hw.globals (by omega)) (bytes_append (encPages_bytes h6.1 hw.pages) (bytes_append (bytes_uv (by omega)) (bytes_flatMap fun f hf => encFrame_bytes (h8 f hf) (hw.frames f hf))))))))))
theorem encState_len {s : StateD} (h : okState s = true) (hw : WfState s) : 0 < (encState s).length ∧ (encState s).length ≤ 524288 := by
  obtain ⟨h1, h2, h3, h4, h5, h6, h7, h8⟩ := okState_parts h
  have k1 := uv_len10 (n := s.used.toNat) (by omega)
  have k2 := uv_len10 (n := s.replies.toNat) (by omega)
  have k3 := encVals_len hw.results h4 (by omega)
  have k4 := encVals_len hw.globals h5 (by omega)
  have k5 := encPages_len h6.1 h6.2
  have k6 := uv_len10 (n := s.frames.length) (by omega)
  have k7 := len_flatMap (f := encFrame) 3240 fun f hf => encFrame_len (h8 f hf) (hw.frames f hf)
  rw [magic_enc]
  simp only [List.length_append, magic5, List.length_cons, List.length_nil]
  omega
/-- What is written is read as itself. -/
theorem read_back {s : StateD} (h : okState s = true) (hw : WfState s) : rread (encState s) = (s, 0, 0) := by
  have := rread_fwd (b := encState s) (rest := []) h hw (by simp) (encState_len h hw).2
  simpa using this
/-- What lacks its last byte is refused. -/
theorem read_cut {s : StateD} (h : okState s = true) (hw : WfState s) : (rread ((encState s).take ((encState s).length - 1))).2.1 ≠ 0 := by
  intro h0
  obtain ⟨hl0, hl⟩ := encState_len h hw
  obtain ⟨x1, x2, x3⟩ := rread_inv (fun y hy => encState_bytes h hw y (List.mem_of_mem_take hy)) h0
  generalize hx : (rread ((encState s).take ((encState s).length - 1))).1 = x at *
  have e : encState s = encState x ++ (encState s).drop ((encState s).length - 1) := by rw [x3, List.take_append_drop]
  have hr : (encState s).drop ((encState s).length - 1) ≠ [] := by
    intro c
    have := congrArg List.length c
    simp only [List.length_drop, List.length_nil] at this
    omega
  have k := rread_fwd x1 x2 e hl
  rw [if_neg hr, read_back h hw] at k
  simp at k
end Go.Proofs.YthlkckpadjjbdaaDoor
