/- Control comes into a segment at its beginning alone: plain. -/
import Derived.Test.YtiaoonlhgjfdjaaBlkP
import Derived.Test.YtiaoonlhgjfdjaaCtl4
namespace Go.Proofs.Ytiaoonlhgjfdjaa
open Go Go.RowKit

theorem seg_of {l : List Bool} {n : Nat} : ∀ p, p < n → ∃ f i, p = f + i ∧ i < segN l n f ∧ startF l f = f ∧ f < n
  | 0, h => ⟨0, 0, rfl, by have := (segN_ok (l := l) h).1.lo; omega, rfl, h⟩
  | p + 1, h => by
    obtain ⟨f, i, h1, h2, h3, h4⟩ := seg_of (l := l) (n := n) p (by omega)
    by_cases hi : i + 1 < segN l n f
    · exact ⟨f, i + 1, by omega, hi, h3, h4⟩
    · have e : p + 1 = f + segN l n f := by omega
      have hs := start_next h4 h3 (by omega)
      rw [← e] at hs
      exact ⟨p + 1, 0, rfl, by have := (segN_ok (l := l) h).1.lo; omega, hs, h⟩
/-- Where p lies: in the segment from f on, i behind its beginning, m from its end. -/
structure SegAt (l : List Bool) (n p f i m : Nat) : Prop where
  eq : p = f + i
  lo : 1 ≤ m
  hi : i + m ≤ 16
  le : p + m ≤ n
  sp : startF l p = f
  lp : leftF l n p = m
  sf : startF l f = f
  lf : leftF l n f = i + m
  prev : 0 < i → startF l (p - 1) = f ∧ leftF l n (p - 1) = m + 1
  first : i = 0 → 0 < p → leftF l n (p - 1) = 1
  inn : ∀ j, 0 < j → j < i + m → l.getD (f + j) false = false
  next : m = 1 → p + 1 < n → startF l (p + 1) = p + 1
theorem seg_at {l : List Bool} {n p : Nat} (hp : p < n) : ∃ f i m, SegAt l n p f i m := by
  obtain ⟨f, i, h1, h2, h3, h4⟩ := seg_of (l := l) p hp
  have hs := (segN_ok (l := l) h4).1
  have h5 := hs.le; have h6 := hs.hi; have h7 := hs.lo
  refine ⟨f, i, segN l n f - i, h1, by omega, by omega, by omega, by rw [h1]; exact start_in h4 h3 i h2, by rw [h1]; exact left_in h4 h3 h2, h3, ?_, fun h0 => ?_, fun h0 hp0 => ?_, fun j h0 hj => hs.no j h0 (by omega), fun hm hn => ?_⟩
  · have := left_in (l := l) h4 h3 (i := 0) (by omega)
    rw [Nat.add_zero] at this
    rw [this]; omega
  · obtain ⟨j, rfl⟩ : ∃ j, i = j + 1 := ⟨i - 1, by omega⟩
    rw [show p - 1 = f + j by omega]
    exact ⟨start_in h4 h3 j (by omega), by rw [left_in h4 h3 (by omega)]; omega⟩
  · subst h0
    obtain ⟨f', i', g1, g2, g3, g4⟩ := seg_of (l := l) (n := n) (p - 1) (by omega)
    have hs' := (segN_ok (l := l) g4).1
    have hlast : i' + 1 = segN l n f' := by
      by_cases e : i' + 1 < segN l n f'
      · have := start_in (l := l) g4 g3 (i' + 1) e
        rw [show f' + (i' + 1) = f by omega, h3] at this
        omega
      · omega
    rw [g1, left_in g4 g3 g2]; omega
  · have e : p + 1 = f + segN l n f := by omega
    rw [e]
    exact start_next h4 h3 (by omega)
theorem startsL_at {l : List Bool} {n p : Nat} (hp : p < n) : gI (startsL l n) p = startF l p := by
  rw [gI, List.getD_eq_getElem?_getD, startsL, List.getElem?_map, List.getElem?_range hp]; rfl
theorem leftsL_at {l : List Bool} {n p : Nat} (hp : p < n) : gI (leftsL l n) p = leftF l n p := by
  rw [gI, List.getD_eq_getElem?_getD, leftsL, List.getElem?_map, List.getElem?_range hp]; rfl
theorem startsL_len (l : List Bool) (n : Nat) : (startsL l n).length = n := by simp [startsL]
theorem leftsL_len (l : List Bool) (n : Nat) : (leftsL l n).length = n := by simp [leftsL]
/-- A leader begins its segment. -/
theorem lead_start {l : List Bool} {n q : Nat} (hq : q < n) (h : l.getD q false = true) : startF l q = q := by
  obtain ⟨f, i, m, hs⟩ := seg_at (l := l) hq
  by_cases hi : i = 0
  · have := hs.eq
    rw [hs.sp]; omega
  · have h1 := hs.inn i (by omega) (by have := hs.lo; omega)
    rw [← hs.eq, h] at h1
    cases h1
section
variable {ops : List Nat} {E L O : List Int}
theorem lead_cut {q : Nat} (hq : q < ops.length) (h0 : 0 < q) (hc : cutsP (ops.getD (q - 1) 0)) : (leadL ops E).getD q false = true := by
  rw [leadL_at hq, ldK_iff]
  exact .inr (.inl ⟨h0, by omega, hc⟩)
theorem lead_if {q i : Nat} (hq : q < ops.length) (hi : i < ops.length) (h4 : ops.getD i 0 = 4) (he : gI E i = (q : Int)) : (leadL ops E).getD q false = true := by
  rw [leadL_at hq, ldK_iff]
  exact .inr (.inr (ifAt_iff.2 ⟨i, hi, h4, he⟩))
theorem not_lead {q : Nat} (hq : q < ops.length) (h0 : 0 < q) (h : (leadL ops E).getD q false = false) : ¬ cutsP (ops.getD (q - 1) 0) := fun hc => by
  rw [lead_cut hq h0 hc] at h; cases h
/-- Labels are openers. -/
theorem lab_ops (m : MapBr ops E L O) (ho : ∀ (j : Nat) (v : Int), O[j]? = some v → -1 ≤ v ∧ v < j) : ∀ (n : Nat) (x : Int), -1 ≤ x → x < n → x < ops.length → (0 ≤ x → opensP (ops.getD x.toNat 0)) → ∀ v ∈ labL O x, v = -1 ∨ 0 ≤ v ∧ v < ops.length ∧ opensP (ops.getD v.toNat 0)
  | 0, x, h1, h2, _, _, v, hv => by
    obtain rfl : x = -1 := by omega
    rw [labL_end] at hv
    exact .inl (by simpa using hv)
  | n + 1, x, h1, h2, h3, h4, v, hv => by
    by_cases h0 : 0 ≤ x
    · rw [labL_next ho h0] at hv
      rcases List.mem_cons.1 hv with rfl | hv
      · exact .inr ⟨h0, h3, h4 h0⟩
      · have hown := m.own x.toNat (by omega)
        have hx : -1 ≤ gI O x.toNat ∧ gI O x.toNat < x ∧ (0 ≤ gI O x.toNat → opensP (ops.getD (gI O x.toNat).toNat 0)) := by
          rcases hown with e | ⟨t, e, e1, e2, _⟩
          · rw [e]; exact ⟨by omega, by omega, fun h => by omega⟩
          · rw [e]; exact ⟨by omega, by omega, fun _ => by rw [Int.toNat_natCast]; exact e2⟩
        exact lab_ops m ho n _ hx.1 (by omega) (by omega) hx.2.2 v hv
    · obtain rfl : x = -1 := by omega
      rw [labL_end] at hv
      exact .inl (by simpa using hv)
theorem labP_ops (m : MapBr ops E L O) (ho : ∀ (j : Nat) (v : Int), O[j]? = some v → -1 ≤ v ∧ v < j) {p : Nat} (hp : p < ops.length) : ∀ v ∈ labP O p, v = -1 ∨ 0 ≤ v ∧ v < ops.length ∧ opensP (ops.getD v.toNat 0) := by
  have hx : -1 ≤ gI O p ∧ gI O p < p ∧ (0 ≤ gI O p → opensP (ops.getD (gI O p).toNat 0)) := by
    rcases m.own p hp with e | ⟨t, e, e1, e2, _⟩
    · rw [e]; exact ⟨by omega, by omega, fun h => by omega⟩
    · rw [e]; exact ⟨by omega, by omega, fun _ => by rw [Int.toNat_natCast]; exact e2⟩
  exact lab_ops m ho p _ hx.1 hx.2.1 (Int.lt_trans hx.2.1 (by omega)) hx.2.2
/-- Where a branch leads is a leader, or behind the code. -/
theorem place_lead (m : MapBr ops E L O) (ho : ∀ (j : Nat) (v : Int), O[j]? = some v → -1 ≤ v ∧ v < j) {p q : Nat} {a : Int} (hp : p < ops.length) (hq : q < ops.length) (h : placeP ops E (labP O p) a = (q : Int)) : (leadL ops E).getD q false = true := by
  by_cases hn : a < 0 ∨ ((labP O p).length : Int) ≤ a
  · rw [placeP_out hn] at h; omega
  · rw [placeP_in hn] at h
    have hlt : a.toNat < (labP O p).length := by omega
    have hm := labP_ops m ho hp ((labP O p).getD a.toNat (-1)) (by rw [List.getD_eq_getElem?_getD, List.getElem?_eq_getElem hlt]; exact List.getElem_mem hlt)
    unfold placeQ at h
    split at h
    · omega
    · rename_i hge
      obtain ⟨h1, h2, h3⟩ := hm.resolve_left (by omega)
      generalize (labP O p).getD a.toNat (-1) = o at *
      obtain ⟨o, rfl⟩ : ∃ t : Nat, o = t := ⟨o.toNat, by omega⟩
      rw [Int.toNat_natCast] at h h3
      split at h
      · rename_i h33
        exact lead_cut hq (by omega) (by rw [show q - 1 = o by omega, h33]; exact .inr (by omega))
      · obtain ⟨e, e1, e2, e3, e4⟩ := m.closed o (by omega) h3
        have e1' : E.getD o (-1) = (e : Int) := e1
        rw [e1'] at h
        exact lead_cut hq (by omega) (by rw [show q - 1 = e by omega, e4]; exact .inr (by omega))
/-- Every other place to which control goes is a leader. -/
theorem next_lead (m : MapBr ops E L O) (ho : ∀ (j : Nat) (v : Int), O[j]? = some v → -1 ≤ v ∧ v < j) {p q : Nat} {a : Int} {xl : List Int} (hp : p < ops.length) (hq : q < ops.length) (hne : q ≠ p + 1)
    (h : (q : Int) ∈ someP ops E L (labP O p) p a xl) : (leadL ops E).getD q false = true := by
  have h1 : ((p : Int) + 1) ≠ q := by omega
  unfold someP at h
  split at h
  · simp at h
  split at h
  · rename_i h4
    simp only [List.mem_cons, List.not_mem_nil, or_false] at h
    rcases h with h | h
    · omega
    · split at h
      · rename_i hL
        obtain ⟨_, j, e1, e2, e3, e4, e5⟩ := m.els p hL
        have e1' : L.getD p (-1) = (j : Int) := e1
        rw [e1'] at h
        exact lead_cut hq (by omega) (by rw [show q - 1 = j by omega, e3]; exact .inr (by omega))
      · exact lead_if hq hp h4 (h.symm ▸ rfl)
  split at h
  · rename_i h5
    simp only [List.mem_cons, List.not_mem_nil, or_false] at h
    obtain ⟨t, e1, e2, _, e4⟩ := m.else_ p hp h5
    exact lead_if hq (by omega) e2 (e4.symm.trans h.symm)
  split at h
  · simp only [List.mem_cons, List.not_mem_nil, or_false] at h
    exact place_lead m ho hp hq h.symm
  split at h
  · simp only [List.mem_cons, List.not_mem_nil, or_false] at h
    rcases h with h | h
    · omega
    · exact place_lead m ho hp hq h.symm
  split at h
  · obtain ⟨x, _, hx⟩ := List.mem_map.1 h
    exact place_lead m ho hp hq hx
  split at h
  · simp only [List.mem_cons, List.not_mem_nil, or_false] at h; omega
  · simp only [List.mem_cons, List.not_mem_nil, or_false] at h; omega
theorem nexts_mem {p q : Nat} {a : Int} {xl : List Int} (h0 : (mapP ops).2.2.2.1 = 0) (hp : p < ops.length) (hq : (q : Int) ∈ nextsP ops p a xl) : (q : Int) ∈ someP ops (mapP ops).1 (mapP ops).2.1 (labP (mapP ops).2.2.1 p) p a xl := by
  rw [nextsP, if_neg (by omega), Int.toNat_natCast] at hq
  unfold rise at hq
  obtain ⟨j, hj, e⟩ := List.mem_map.1 hq
  have := of_decide_eq_true (List.mem_filter.1 hj).2
  rw [e] at this
  exact this
theorem nexts_plain {p : Nat} {a : Int} {xl : List Int} (h0 : (mapP ops).2.2.2.1 = 0) (hp : p < ops.length) (hc : ¬ cutsP (ops.getD p 0)) : nextsP ops p a xl = [(p : Int) + 1] := by
  unfold cutsP at hc
  rw [nextsP, if_neg (by omega), Int.toNat_natCast]
  have e : someP ops (mapP ops).1 (mapP ops).2.1 (labP (mapP ops).2.2.1 p) p a xl = [(p : Int) + 1] := by
    unfold someP
    rw [if_neg (by omega), if_neg (by omega), if_neg (by omega), if_neg (by omega), if_neg (by omega), if_neg (by omega), if_neg (by omega)]
  rw [e]
  have hr : ∀ x ∈ [(p : Int) + 1], 0 ≤ x ∧ x ≤ ops.length := fun x hx => by
    simp only [List.mem_cons, List.not_mem_nil, or_false] at hx
    omega
  exact sorted_ext _ _ (rise_sorted _ _) (by simp) fun x => rise_mem hr x
end
end Go.Proofs.Ytiaoonlhgjfdjaa
