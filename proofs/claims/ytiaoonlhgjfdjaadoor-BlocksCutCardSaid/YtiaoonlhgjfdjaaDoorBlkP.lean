/- Segments of a code, plain: leaders, where a segment begins, how much of it is left. -/
import Derived.Test.YtiaoonlhgjfdjaaDoorBrak2
namespace Go.Proofs.YtiaoonlhgjfdjaaDoor
open Go Go.RowKit

/-- Does a segment end behind that opcode? -/
def cutsP (op : Nat) : Prop := op = 0 ∨ 3 ≤ op ∧ op ≤ 12
instance (op : Nat) : Decidable (cutsP op) := by unfold cutsP; infer_instance
/-- Is there an if, below k, that ends at j? -/
def ifAt (ops : List Nat) (E : List Int) (k j : Nat) : Bool := (List.range k).any fun i => decide (ops.getD i 0 = 4 ∧ gI E i = (j : Int))
theorem ifAt_iff {ops : List Nat} {E : List Int} {k j : Nat} : ifAt ops E k j = true ↔ ∃ i, i < k ∧ ops.getD i 0 = 4 ∧ gI E i = (j : Int) := by
  unfold ifAt
  rw [List.any_eq_true]
  constructor
  · rintro ⟨i, h1, h2⟩; exact ⟨i, List.mem_range.1 h1, of_decide_eq_true h2⟩
  · rintro ⟨i, h1, h2⟩; exact ⟨i, List.mem_range.2 h1, decide_eq_true h2⟩
/-- Is j a leader, by the first k instructions? -/
def ldK (ops : List Nat) (E : List Int) (k j : Nat) : Bool := decide (j = 0 ∨ (0 < j ∧ j ≤ k ∧ cutsP (ops.getD (j - 1) 0)) ∨ ifAt ops E k j = true)
/-- The leaders of a code that is taken: ends are E. -/
def leadL (ops : List Nat) (E : List Int) : List Bool := (List.range ops.length).map (ldK ops E ops.length)
theorem leadL_len (ops : List Nat) (E : List Int) : (leadL ops E).length = ops.length := by simp [leadL]
theorem leadL_at {ops : List Nat} {E : List Int} {j : Nat} (h : j < ops.length) : (leadL ops E).getD j false = ldK ops E ops.length j := by
  rw [List.getD_eq_getElem?_getD, leadL, List.getElem?_map, List.getElem?_range h]; rfl
theorem ldK_zero (ops : List Nat) (E : List Int) (j : Nat) : ldK ops E 0 j = decide (j = 0) := by
  have : ifAt ops E 0 j = false := rfl
  unfold ldK
  rw [this]
  by_cases h : j = 0
  · rw [decide_eq_true (.inl h), decide_eq_true h]
  · rw [decide_eq_false h, decide_eq_false]
    rintro (h' | h' | h')
    · exact h h'
    · omega
    · cases h'
theorem ifAt_succ {ops : List Nat} {E : List Int} {k j : Nat} : ifAt ops E (k + 1) j = (ifAt ops E k j || decide (ops.getD k 0 = 4 ∧ gI E k = (j : Int))) := by
  unfold ifAt
  rw [List.range_succ, List.any_append]
  simp
theorem ldK_iff {ops : List Nat} {E : List Int} {k j : Nat} : ldK ops E k j = true ↔ (j = 0 ∨ (0 < j ∧ j ≤ k ∧ cutsP (ops.getD (j - 1) 0)) ∨ ifAt ops E k j = true) := by
  unfold ldK; exact decide_eq_true_iff
theorem ldK_succ {ops : List Nat} {E : List Int} {k j : Nat} : ldK ops E (k + 1) j = (ldK ops E k j || decide (j = k + 1 ∧ cutsP (ops.getD k 0)) || decide (ops.getD k 0 = 4 ∧ gI E k = (j : Int))) := by
  rw [Bool.eq_iff_iff, ldK_iff, Bool.or_eq_true, Bool.or_eq_true, ldK_iff, ifAt_succ, Bool.or_eq_true, decide_eq_true_iff, decide_eq_true_iff]
  constructor
  · rintro (h | ⟨h1, h2, h3⟩ | h | h)
    · exact .inl (.inl (.inl h))
    · by_cases e : j = k + 1
      · subst e; exact .inl (.inr ⟨rfl, by simpa using h3⟩)
      · exact .inl (.inl (.inr (.inl ⟨h1, by omega, h3⟩)))
    · exact .inl (.inl (.inr (.inr h)))
    · exact .inr h
  · rintro (((h | ⟨h1, h2, h3⟩ | h) | ⟨h1, h2⟩) | h)
    · exact .inl h
    · exact .inr (.inl ⟨h1, by omega, h3⟩)
    · exact .inr (.inr (.inl h))
    · subst h1; exact .inr (.inl ⟨by omega, by omega, by simpa using h2⟩)
    · exact .inr (.inr (.inr h))
/-- A row of bools at k instructions. -/
structure LdAt (ops : List Nat) (E : List Int) (n k : Nat) (c : List Bool) : Prop where
  len : c.length = n + 1
  at_ : ∀ j, j ≤ n → c[j]? = some (ldK ops E k j)
section
variable {ops : List Nat} {E : List Int} {n k : Nat} {c : List Bool}
theorem LdAt.start : LdAt ops E n 0 ((List.replicate (n + 1) false).set 0 true) := by
  refine ⟨by simp, fun j hj => ?_⟩
  rw [ldK_zero, List.getElem?_set]
  by_cases h : 0 = j
  · subst h; rw [if_pos rfl, if_pos (by simp)]; rfl
  · rw [if_neg h, List.getElem?_replicate, if_pos (by omega), decide_eq_false (fun e => h e.symm)]
theorem LdAt.same (h : LdAt ops E n k c) (hc : ¬ cutsP (ops.getD k 0)) : LdAt ops E n (k + 1) c := by
  refine ⟨h.len, fun j hj => ?_⟩
  have h4 : ops.getD k 0 ≠ 4 := fun e => hc (by rw [e]; exact .inr (by omega))
  rw [h.at_ j hj, ldK_succ, decide_eq_false (fun e => hc e.2), decide_eq_false (fun e => h4 e.1), Bool.or_false, Bool.or_false]
theorem LdAt.cut (h : LdAt ops E n k c) (_ : k < n) (hc : cutsP (ops.getD k 0)) (h4 : ops.getD k 0 ≠ 4) : LdAt ops E n (k + 1) (c.set (k + 1) true) := by
  refine ⟨by rw [List.length_set]; exact h.len, fun j hj => ?_⟩
  rw [ldK_succ, decide_eq_false (fun e => h4 e.1 : ¬ (ops.getD k 0 = 4 ∧ gI E k = (j : Int))), Bool.or_false, List.getElem?_set]
  by_cases e : k + 1 = j
  · rw [if_pos e, if_pos (by rw [h.len]; omega), decide_eq_true (show j = k + 1 ∧ _ from ⟨e.symm, hc⟩), Bool.or_true]
  · rw [if_neg e, h.at_ j hj, decide_eq_false (fun e' => e e'.1.symm), Bool.or_false]
theorem LdAt.if_ (h : LdAt ops E n k c) (_ : k < n) (h4 : ops.getD k 0 = 4) {e : Nat} (he : gI E k = e) (_ : e ≤ n) : LdAt ops E n (k + 1) ((c.set (k + 1) true).set e true) := by
  refine ⟨by rw [List.length_set, List.length_set]; exact h.len, fun j hj => ?_⟩
  have hc : cutsP (ops.getD k 0) := by rw [h4]; exact .inr (by omega)
  rw [ldK_succ, List.getElem?_set, List.length_set]
  by_cases e1 : e = j
  · rw [if_pos e1, if_pos (by rw [h.len]; omega), decide_eq_true (show ops.getD k 0 = 4 ∧ gI E k = (j : Int) from ⟨h4, by rw [he, e1]⟩), Bool.or_true]
  · rw [if_neg e1, decide_eq_false (fun e' => by have := e'.2; rw [he] at this; omega : ¬ (ops.getD k 0 = 4 ∧ gI E k = (j : Int))), Bool.or_false, List.getElem?_set]
    by_cases e : k + 1 = j
    · rw [if_pos e, if_pos (by rw [h.len]; omega), decide_eq_true (show j = k + 1 ∧ _ from ⟨e.symm, hc⟩), Bool.or_true]
    · rw [if_neg e, h.at_ j hj, decide_eq_false (fun e' => e e'.1.symm), Bool.or_false]
theorem LdAt.end_ (h : LdAt ops E n n c) (hn : ops.length = n) : c.take n = leadL ops E := by
  subst hn
  apply List.ext_getElem?
  intro j
  rw [List.getElem?_take, leadL, List.getElem?_map]
  by_cases hj : j < ops.length
  · rw [if_pos hj, h.at_ j (by omega), List.getElem?_range hj]; rfl
  · rw [if_neg hj, List.getElem?_eq_none (by simp; omega)]; rfl
end
/-- Where the segment of p begins. -/
def startF (l : List Bool) : Nat → Nat
  | 0 => 0
  | p + 1 => if l.getD (p + 1) false = true ∨ p + 1 - startF l p = 16 then p + 1 else startF l p
theorem startF_le (l : List Bool) : ∀ p, startF l p ≤ p ∧ p - startF l p < 16
  | 0 => by simp [startF]
  | p + 1 => by
    have := startF_le l p
    rw [startF]
    split
    · omega
    · rename_i h
      have : ¬ p + 1 - startF l p = 16 := fun e => h (.inr e)
      omega
/-- How long the segment is that begins at f: f' rounds more, m so far. -/
def segG (l : List Bool) (n f : Nat) : Nat → Nat → Nat
  | 0, m => m
  | k + 1, m => if m < 16 ∧ f + m < n ∧ l.getD (f + m) false = false then segG l n f k (m + 1) else m
def segN (l : List Bool) (n f : Nat) : Nat := segG l n f 16 1
/-- What holds of it. -/
structure SegP (l : List Bool) (n f m : Nat) : Prop where
  lo : 1 ≤ m
  hi : m ≤ 16
  le : f + m ≤ n
  no : ∀ i, 0 < i → i < m → l.getD (f + i) false = false
theorem segG_ok {l : List Bool} {n f : Nat} : ∀ k m, SegP l n f m → 16 ≤ m + k → SegP l n f (segG l n f k m) ∧ (segG l n f k m = 16 ∨ f + segG l n f k m = n ∨ l.getD (f + segG l n f k m) false = true)
  | 0, m, h, hk => by rw [segG]; have := h.hi; exact ⟨h, .inl (by omega)⟩
  | k + 1, m, h, hk => by
    rw [segG]
    split
    · rename_i hc
      refine segG_ok k (m + 1) ⟨by omega, by omega, by omega, fun i h0 hi => ?_⟩ (by omega)
      by_cases e : i = m
      · subst e; exact hc.2.2
      · exact h.no i h0 (by omega)
    · rename_i hc
      refine ⟨h, ?_⟩
      have h1 := h.hi; have h2 := h.le
      by_cases e1 : m = 16
      · exact .inl e1
      · by_cases e2 : f + m = n
        · exact .inr (.inl e2)
        · right; right
          cases hb : l.getD (f + m) false with
          | true => rfl
          | false => exact absurd ⟨by omega, by omega, hb⟩ hc
theorem segN_ok {l : List Bool} {n f : Nat} (hf : f < n) : SegP l n f (segN l n f) ∧ (segN l n f = 16 ∨ f + segN l n f = n ∨ l.getD (f + segN l n f) false = true) :=
  segG_ok 16 1 ⟨by omega, by omega, by omega, fun i h0 h1 => by omega⟩ (by omega)
theorem start_in {l : List Bool} {n f : Nat} (hf : f < n) (h0 : startF l f = f) : ∀ i, i < segN l n f → startF l (f + i) = f
  | 0, _ => h0
  | i + 1, hi => by
    have h := (segN_ok (l := l) hf).1
    have hp := start_in hf h0 i (by omega)
    have h1 := h.hi
    rw [← Nat.add_assoc, startF, hp, if_neg]
    rintro (e | e)
    · have := h.no (i + 1) (by omega) hi
      rw [← Nat.add_assoc] at this
      rw [this] at e; cases e
    · omega
theorem start_next {l : List Bool} {n f : Nat} (hf : f < n) (h0 : startF l f = f) (hn : f + segN l n f < n) : startF l (f + segN l n f) = f + segN l n f := by
  obtain ⟨h, hx⟩ := segN_ok (l := l) hf
  have h1 := h.lo
  obtain ⟨m, hm⟩ : ∃ m, segN l n f = m + 1 := ⟨segN l n f - 1, by omega⟩
  have hp := start_in (l := l) hf h0 m (by omega)
  rw [hm] at hx hn ⊢
  rw [← Nat.add_assoc] at hx hn ⊢
  rw [startF, hp, if_pos]
  rcases hx with e | e | e
  · right; omega
  · omega
  · exact .inl e
/-- How many instructions there are from p on in its segment. -/
def leftG (l : List Bool) (n p : Nat) : Nat → Nat → Nat
  | 0, m => m
  | k + 1, m => if p + m < n ∧ startF l (p + m) = startF l p then leftG l n p k (m + 1) else m
def leftF (l : List Bool) (n p : Nat) : Nat := leftG l n p n 1
theorem leftG_ok {l : List Bool} {n p m' : Nat} (hlo : 1 ≤ m') (hle : p + m' ≤ n) (hin : ∀ i, i < m' → startF l (p + i) = startF l p) (hout : p + m' = n ∨ startF l (p + m') ≠ startF l p) :
    ∀ k m, m ≤ m' → m' ≤ m + k → leftG l n p k m = m'
  | 0, m, h1, h2 => by rw [leftG]; omega
  | k + 1, m, h1, h2 => by
    rw [leftG]
    by_cases e : m = m'
    · subst e
      rw [if_neg]
      rintro ⟨e1, e2⟩
      exact hout.elim (fun h => by omega) fun h => h e2
    · rw [if_pos ⟨by omega, hin m (by omega)⟩]
      exact leftG_ok hlo hle hin hout k (m + 1) (by omega) (by omega)
theorem left_in {l : List Bool} {n f : Nat} (hf : f < n) (h0 : startF l f = f) {i : Nat} (hi : i < segN l n f) : leftF l n (f + i) = segN l n f - i := by
  obtain ⟨h, _⟩ := segN_ok (l := l) hf
  have hle := h.le
  have hs := start_in (l := l) hf h0
  refine leftG_ok (by omega) (by omega) (fun j hj => ?_) ?_ n 1 (by omega) (by omega)
  · rw [hs i hi, Nat.add_assoc, hs (i + j) (by omega)]
  · rw [show f + i + (segN l n f - i) = f + segN l n f by omega, hs i hi]
    by_cases e : f + segN l n f = n
    · exact .inl e
    · right
      rw [start_next hf h0 (by omega)]
      have := h.lo
      omega
/-- The segments from f on. -/
def segsP (l : List Bool) (n : Nat) : Nat → Nat → List (Nat × Nat)
  | 0, _ => []
  | k + 1, f => if f < n then (f, segN l n f) :: segsP l n k (f + segN l n f) else []
def startsOf (xs : List (Nat × Nat)) : List Int := xs.flatMap fun x => List.replicate x.2 (x.1 : Int)
def leftsOf (xs : List (Nat × Nat)) : List Int := xs.flatMap fun x => (List.range x.2).map fun i => ((x.2 - i : Nat) : Int)
/-- Where each segment begins; how many are left: of every pc. -/
def startsL (l : List Bool) (n : Nat) : List Int := (List.range n).map fun p => (startF l p : Int)
def leftsL (l : List Bool) (n : Nat) : List Int := (List.range n).map fun p => (leftF l n p : Int)
theorem segs_starts {l : List Bool} {n : Nat} : ∀ k f, n ≤ f + k → f ≤ n → (f < n → startF l f = f) → startsOf (segsP l n k f) = (List.range' f (n - f)).map fun p => (startF l p : Int)
  | 0, f, h1, h2, _ => by rw [show n - f = 0 by omega]; rfl
  | k + 1, f, h1, h2, h3 => by
    rw [segsP]
    by_cases hf : f < n
    · rw [if_pos hf]
      obtain ⟨h, _⟩ := segN_ok (l := l) hf
      have hlo := h.lo; have hle := h.le
      have ih := segs_starts (l := l) (n := n) k (f + segN l n f) (by omega) (by omega) (fun hn => start_next hf (h3 hf) hn)
      show List.replicate (segN l n f) (f : Int) ++ startsOf (segsP l n k (f + segN l n f)) = _
      rw [ih, show n - f = segN l n f + (n - (f + segN l n f)) by omega, ← List.range'_append_1, List.map_append]
      congr 1
      apply List.ext_getElem?
      intro i
      rw [List.getElem?_map, List.getElem?_replicate]
      by_cases hi : i < segN l n f
      · rw [if_pos hi, List.getElem?_range' hi, Nat.one_mul]
        simp only [Option.map_some]
        rw [start_in hf (h3 hf) i hi]
      · rw [if_neg hi, List.getElem?_eq_none (by simp; omega)]; rfl
    · rw [if_neg hf, show n - f = 0 by omega]; rfl
theorem segs_lefts {l : List Bool} {n : Nat} : ∀ k f, n ≤ f + k → f ≤ n → (f < n → startF l f = f) → leftsOf (segsP l n k f) = (List.range' f (n - f)).map fun p => (leftF l n p : Int)
  | 0, f, h1, h2, _ => by rw [show n - f = 0 by omega]; rfl
  | k + 1, f, h1, h2, h3 => by
    rw [segsP]
    by_cases hf : f < n
    · rw [if_pos hf]
      obtain ⟨h, _⟩ := segN_ok (l := l) hf
      have hlo := h.lo; have hle := h.le
      have ih := segs_lefts (l := l) (n := n) k (f + segN l n f) (by omega) (by omega) (fun hn => start_next hf (h3 hf) hn)
      show ((List.range (segN l n f)).map fun i => ((segN l n f - i : Nat) : Int)) ++ leftsOf (segsP l n k (f + segN l n f)) = _
      rw [ih, show n - f = segN l n f + (n - (f + segN l n f)) by omega, ← List.range'_append_1, List.map_append]
      congr 1
      apply List.ext_getElem?
      intro i
      rw [List.getElem?_map, List.getElem?_map]
      by_cases hi : i < segN l n f
      · rw [List.getElem?_range' hi, List.getElem?_range hi, Nat.one_mul]
        simp only [Option.map_some]
        rw [left_in hf (h3 hf) hi]
      · rw [List.getElem?_eq_none (by simp; omega), List.getElem?_eq_none (by simp; omega)]; rfl
    · rw [if_neg hf, show n - f = 0 by omega]; rfl
theorem segs_startsL (l : List Bool) (n : Nat) : startsOf (segsP l n n 0) = startsL l n := by
  rw [segs_starts n 0 (by omega) (by omega) (fun _ => rfl), Nat.sub_zero, ← List.range_eq_range']; rfl
theorem segs_leftsL (l : List Bool) (n : Nat) : leftsOf (segsP l n n 0) = leftsL l n := by
  rw [segs_lefts n 0 (by omega) (by omega) (fun _ => rfl), Nat.sub_zero, ← List.range_eq_range']; rfl
end Go.Proofs.YtiaoonlhgjfdjaaDoor
