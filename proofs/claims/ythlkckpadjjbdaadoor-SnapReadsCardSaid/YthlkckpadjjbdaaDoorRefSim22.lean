/- The reference's reader beside snap's: plain. -/
import Derived.Test.YthlkckpadjjbdaaDoorRefPg22
import Derived.Test.YthlkckpadjjbdaaDoorRead2
namespace Go.Proofs.YthlkckpadjjbdaaDoor
open Go Go.RowKit
namespace R22
/-- The same error, at the same place; where there is none, all of it. -/
structure Sq (q r : RS) : Prop where
  e : q.e = r.e
  bad : q.bad = r.bad
  all : r.e = 0 → q = r
theorem Sq.refl (r : RS) : Sq r r := ⟨rfl, rfl, fun _ => rfl⟩
theorem Sq.split {q r : RS} (h : Sq q r) : (r.e = 0 ∧ q = r) ∨ (r.e ≠ 0 ∧ q.e ≠ 0) := by
  by_cases h0 : r.e = 0
  · exact .inl ⟨h0, h.all h0⟩
  · exact .inr ⟨h0, by rw [h.e]; exact h0⟩
theorem num_stop {b : List Int} {r : RS} {m : Nat} {g : Int} (h : r.e ≠ 0) : rnum b r m g = (0, r) := by rw [rnum, if_pos h]
theorem sq_num {b : List Int} {q r : RS} (h : Sq q r) (m : Nat) (g : Int) : (rnum b q m g).1 = (rnum b r m g).1 ∧ Sq (rnum b q m g).2 (rnum b r m g).2 := by
  rcases h.split with ⟨_, rfl⟩ | ⟨h1, h2⟩
  · exact ⟨rfl, Sq.refl _⟩
  · rw [num_stop h1, num_stop h2]; exact ⟨rfl, h⟩
theorem no_e {r : RS} {e : Int} {k : Nat} (h : r.e = 0) : (r.no e k).e = e ∧ (r.no e k).bad = k := by rw [RS.no, if_pos h]; exact ⟨rfl, rfl⟩
theorem sq_oct {b : List Int} {q r : RS} (h : Sq q r) (l m : Int) : Sq (qoct b q l m).2 (roct b r l m).2 ∧ ((roct b r l m).2.e = 0 → (qoct b q l m).1 = (roct b r l m).1) := by
  rcases h.split with ⟨h0, rfl⟩ | ⟨h1, h2⟩
  · have hq : ¬ q.e ≠ 0 := fun h => h h0
    by_cases h3 : b.length ≤ q.at_
    · simp only [qoct, roct, if_neg hq, if_pos h3]; exact ⟨Sq.refl _, fun _ => trivial⟩
    · by_cases h4 : b.getD q.at_ 0 < l ∨ m < b.getD q.at_ 0
      · simp only [qoct, roct, if_neg hq, if_neg h3, if_pos h4]
        obtain ⟨e1, e2⟩ := no_e (e := 17) (k := q.at_) h0
        exact ⟨⟨rfl, rfl, fun h => by have h' : (q.no 17 q.at_).e = 0 := h; rw [e1] at h'; exact absurd h' (by decide)⟩, fun h => by have h' : (q.no 17 q.at_).e = 0 := h; rw [e1] at h'; exact absurd h' (by decide)⟩
      · simp only [qoct, roct, if_neg hq, if_neg h3, if_neg h4]; exact ⟨Sq.refl _, fun _ => trivial⟩
  · unfold qoct roct
    rw [if_pos h1, if_pos h2]
    exact ⟨h, fun _ => rfl⟩
theorem oct_back {b : List Int} {r : RS} {l m : Int} (h : (roct b r l m).2.e = 0) : r.e = 0 := by
  by_cases h0 : r.e = 0
  · exact h0
  · unfold roct at h; rw [if_pos h0] at h; exact h
theorem num_back {b : List Int} {r : RS} {m : Nat} {g : Int} (h : (rnum b r m g).2.e = 0) : r.e = 0 := by
  by_cases h0 : r.e = 0
  · exact h0
  · rw [num_stop h0] at h; exact h
theorem qvals_stop {b : List Int} {r : RS} (h : r.e ≠ 0) (acc : List Int) : ∀ n, qvalsGo b n r acc = (acc, r)
  | 0 => rfl
  | n + 1 => by rw [qvalsGo, if_pos h]
theorem sq_valsGo (b : List Int) : ∀ (n : Nat) (r : RS) (acc : List Int), r.e = 0 → Sq (qvalsGo b n r acc).2 (rvalsGo b n r acc).2 ∧ ((rvalsGo b n r acc).2.e = 0 → (qvalsGo b n r acc).1 = (rvalsGo b n r acc).1)
  | 0, r, acc, _ => ⟨Sq.refl _, fun _ => rfl⟩
  | n + 1, r, acc, h => by
    rw [qvalsGo, rvalsGo, if_neg (by simpa using h)]
    by_cases h1 : (rnum b r 18446744073709551615 17).2.e = 0
    · rw [if_neg (by simpa using h1)]
      exact sq_valsGo b n _ _ h1
    · rw [if_pos h1, qvals_stop h1]
      exact ⟨Sq.refl _, fun h => absurd h h1⟩
theorem vals_stop {b : List Int} {r : RS} (h : r.e ≠ 0) (m : Nat) : rvals b r m = ([], r) ∧ qvals b r m = ([], r) := by
  unfold rvals qvals; rw [num_stop h]; exact ⟨rfl, rfl⟩
theorem sq_vals {b : List Int} {q r : RS} (h : Sq q r) (m : Nat) : Sq (qvals b q m).2 (rvals b r m).2 ∧ ((rvals b r m).2.e = 0 → (qvals b q m).1 = (rvals b r m).1) := by
  rcases h.split with ⟨h0, rfl⟩ | ⟨h1, h2⟩
  · by_cases h1 : (rnum b q m 20).2.e = 0
    · exact sq_valsGo b _ _ _ h1
    · have h2 := rnum_err b q m 20 h1
      unfold qvals rvals; rw [h2]; exact ⟨Sq.refl _, fun _ => rfl⟩
  · rw [(vals_stop h1 m).1, (vals_stop h2 m).2]
    exact ⟨h, fun _ => rfl⟩
theorem vals_back {b : List Int} {r : RS} {m : Nat} (h : (rvals b r m).2.e = 0) : r.e = 0 := by
  by_cases h0 : r.e = 0
  · exact h0
  · rw [(vals_stop h0 m).1] at h; exact h
theorem pages_stop {b : List Int} {r : RS} (h : r.e ≠ 0) : rpages b r = ([], r) := by
  unfold rpages; rw [num_stop h]; simp only; rw [num_stop h]; rfl
theorem sq_pages {b : List Int} {q r q' : RS} {ps : List (List Int)} (h : Sq q r) (ha : Ag (ps, q') (rpages b q)) : Sq q' (rpages b r).2 ∧ ((rpages b r).2.e = 0 → ps = (rpages b r).1) := by
  rcases h.split with ⟨h0, rfl⟩ | ⟨h1, h2⟩
  · exact ⟨⟨ha.e, ha.bad, fun h => congrArg Prod.snd (ha.all h)⟩, fun h => congrArg Prod.fst (ha.all h)⟩
  · rw [pages_stop h2] at ha
    rw [pages_stop h1]
    have e1 := ha.e; have e2 := ha.bad
    simp only at e1 e2
    exact ⟨⟨e1.trans h.e, e2.trans h.bad, fun h => absurd h h1⟩, fun h => absurd h h1⟩
theorem pages_back {b : List Int} {r : RS} (h : (rpages b r).2.e = 0) : r.e = 0 := by
  by_cases h0 : r.e = 0
  · exact h0
  · rw [pages_stop h0] at h; exact h
/-- How far the frames are read. -/
def FrRel (X : List FrameD × RS) (b : List Int) (m : Nat) (q : RS) (acc : List FrameD) : Prop := (q.e = 0 ∧ X = rframesGo b m q acc) ∨ (q.e ≠ 0 ∧ X.2.e = q.e ∧ X.2.bad = q.bad)
theorem frame_stop {b : List Int} {r : RS} (h : r.e ≠ 0) : (rframe b r).2 = r := by
  unfold rframe; simp only; rw [num_stop h]; simp only; rw [num_stop h]; simp only; rw [(vals_stop h 64).1]; simp only; rw [(vals_stop h 256).1]
theorem frames_stop {b : List Int} {r : RS} (h : r.e ≠ 0) : ∀ (n : Nat) (acc : List FrameD), (rframesGo b n r acc).2 = r
  | 0, _ => rfl
  | n + 1, acc => by rw [rframesGo, frame_stop h]; exact frames_stop h n _
theorem FrRel.start {b : List Int} {n : Nat} {q r : RS} (h : Sq q r) : FrRel (rframesGo b n r []) b n q [] := by
  rcases h.split with ⟨h0, rfl⟩ | ⟨h1, h2⟩
  · exact .inl ⟨h0, rfl⟩
  · exact .inr ⟨h2, by rw [frames_stop h1]; exact h.e.symm, by rw [frames_stop h1]; exact h.bad.symm⟩
theorem FrRel.step {X : List FrameD × RS} {b : List Int} {m : Nat} {q : RS} {acc : List FrameD} {qD : RS} {lC lD : List Int} {qC : RS} (h : X = rframesGo b (m + 1) q acc)
    (hC : qvals b (rnum b (rnum b q 127 17).2 2047 17).2 64 = (lC, qC)) (hD : qvals b qC 256 = (lD, qD)) :
    FrRel X b m qD (acc ++ [⟨(rnum b q 127 17).1, (rnum b (rnum b q 127 17).2 2047 17).1, lC, lD⟩]) := by
  have sC := sq_vals (b := b) (Sq.refl (rnum b (rnum b q 127 17).2 2047 17).2) 64
  rw [hC] at sC
  have sD := sq_vals (b := b) sC.1 256
  rw [hD] at sD
  rw [h, rframesGo]
  by_cases h0 : (rframe b q).2.e = 0
  · have e4 : (rvals b (rvals b (rnum b (rnum b q 127 17).2 2047 17).2 64).2 256).2.e = 0 := h0
    have e3 := vals_back e4
    have hq : qD = (rframe b q).2 := sD.1.all e4
    refine .inl ⟨by rw [hq]; exact h0, ?_⟩
    have e5 : (⟨(rnum b q 127 17).1, (rnum b (rnum b q 127 17).2 2047 17).1, lC, lD⟩ : FrameD) = (rframe b q).1 := by
      have a1 : lC = _ := sC.2 e3
      have a2 : lD = _ := sD.2 e4
      rw [a1, a2]; rfl
    rw [e5, hq]
  · refine .inr ⟨by rw [sD.1.e]; exact h0, ?_, ?_⟩
    · rw [frames_stop h0]; exact sD.1.e.symm
    · rw [frames_stop h0]; exact sD.1.bad.symm
theorem last_same {b : List Int} {X : List FrameD × RS} {q : RS} {acc : List FrameD} (h : FrRel X b 0 q acc ∨ (q.e ≠ 0 ∧ X.2.e = q.e ∧ X.2.bad = q.bad)) : ((rlast b X.2).e = (rlast b q).e ∧ (rlast b X.2).bad = (rlast b q).bad) ∧ ((rlast b q).e = 0 → X.1 = acc ∧ X.2 = q ∧ q.e = 0) := by
  have key : (q.e = 0 ∧ X = (acc, q)) ∨ (q.e ≠ 0 ∧ X.2.e = q.e ∧ X.2.bad = q.bad) := by
    rcases h with (h | h) | h
    · exact .inl h
    · exact .inr h
    · exact .inr h
  rcases key with ⟨h0, rfl⟩ | ⟨h1, h2, h3⟩
  · exact ⟨⟨rfl, rfl⟩, fun _ => ⟨rfl, rfl, h0⟩⟩
  · have e1 : rlast b q = q := by rw [rlast, if_neg (fun h => h1 h.1)]
    have e2 : rlast b X.2 = X.2 := by rw [rlast, if_neg (fun h => h1 (by rw [← h2]; exact h.1))]
    rw [e1, e2]
    exact ⟨⟨h2, h3⟩, fun h => absurd h h1⟩
/-- All that is read is what 'rread' says. -/
theorem read_same {b : List Int} (hl : ¬ 524288 < b.length) (hm : ¬ (b.length < 5 ∨ b.take 5 ≠ magic5)) {x1 x2 : Int} {q1 q2 q3 q4 q5 q6 q7 q8 qj : RS} {n3 n4 n8 : Nat} {l5 l6 : List Int} {l7 : List (List Int)} {fs : List FrameD}
    (h1 : qoct b ⟨5, 0, 0⟩ 1 3 = (x1, q1)) (h2 : qoct b q1 0 6 = (x2, q2)) (h3 : rnum b q2 4611686018427387904 17 = (n3, q3)) (h4 : rnum b q3 9223372036854775807 17 = (n4, q4)) (h5 : qvals b q4 8 = (l5, q5)) (h6 : qvals b q5 64 = (l6, q6)) (h7 : Ag (l7, q7) (rpages b q6)) (h8 : rnum b q7 64 20 = (n8, q8))
    (hF : ∀ r8, Sq q8 r8 → ((rlast b (rframesGo b n8 r8 []).2).e = (rlast b qj).e ∧ (rlast b (rframesGo b n8 r8 []).2).bad = (rlast b qj).bad) ∧ ((rlast b qj).e = 0 → (rframesGo b n8 r8 []).1 = fs ∧ (rframesGo b n8 r8 []).2.e = 0)) :
    rread b = if (rlast b qj).e ≠ 0 then (emptyS, (rlast b qj).e, (rlast b qj).bad) else (⟨fs, l6, l7, n4, x1, l5, x2, n3⟩, 0, 0) := by
  obtain ⟨y1, r1, k1⟩ : ∃ y r, roct b ⟨5, 0, 0⟩ 1 3 = (y, r) := ⟨_, _, rfl⟩
  obtain ⟨y2, r2, k2⟩ : ∃ y r, roct b r1 0 6 = (y, r) := ⟨_, _, rfl⟩
  obtain ⟨y3, r3, k3⟩ : ∃ y r, rnum b r2 4611686018427387904 17 = (y, r) := ⟨_, _, rfl⟩
  obtain ⟨y4, r4, k4⟩ : ∃ y r, rnum b r3 9223372036854775807 17 = (y, r) := ⟨_, _, rfl⟩
  obtain ⟨y5, r5, k5⟩ : ∃ y r, rvals b r4 8 = (y, r) := ⟨_, _, rfl⟩
  obtain ⟨y6, r6, k6⟩ : ∃ y r, rvals b r5 64 = (y, r) := ⟨_, _, rfl⟩
  obtain ⟨y7, r7, k7⟩ : ∃ y r, rpages b r6 = (y, r) := ⟨_, _, rfl⟩
  obtain ⟨y8, r8, k8⟩ : ∃ y r, rnum b r7 64 20 = (y, r) := ⟨_, _, rfl⟩
  have s1 := sq_oct (b := b) (Sq.refl ⟨5, 0, 0⟩) 1 3
  rw [h1, k1] at s1
  have s2 := sq_oct (b := b) s1.1 0 6
  rw [h2, k2] at s2
  have s3 := sq_num (b := b) s2.1 4611686018427387904 17
  rw [h3, k3] at s3
  have s4 := sq_num (b := b) s3.2 9223372036854775807 17
  rw [h4, k4] at s4
  have s5 := sq_vals (b := b) s4.2 8
  rw [h5, k5] at s5
  have s6 := sq_vals (b := b) s5.1 64
  rw [h6, k6] at s6
  have s7 := sq_pages (b := b) s6.1 h7
  rw [k7] at s7
  have s8 := sq_num (b := b) s7.1 64 20
  rw [h8, k8] at s8
  simp only at s1 s2 s3 s4 s5 s6 s7 s8
  obtain ⟨rfl, s3'⟩ := s3
  obtain ⟨rfl, s4'⟩ := s4
  obtain ⟨rfl, s8'⟩ := s8
  have ER : rread b = if (rlast b (rframesGo b n8 r8 []).2).e ≠ 0 then (emptyS, (rlast b (rframesGo b n8 r8 []).2).e, (rlast b (rframesGo b n8 r8 []).2).bad) else (⟨(rframesGo b n8 r8 []).1, y6, y7, n4, y1, y5, y2, n3⟩, 0, 0) := by
    rw [rread, if_neg hl, if_neg hm]
    simp only [rhead, k1, k2, k3, k4, k5, k6, k7, k8]
  obtain ⟨⟨f1, f2⟩, f3⟩ := hF _ s8'
  rw [ER, f1, f2]
  by_cases h0 : (rlast b qj).e = 0
  · have h0' : ¬ (rlast b qj).e ≠ 0 := fun h => h h0
    rw [if_neg h0', if_neg h0']
    obtain ⟨g1, g2⟩ := f3 h0
    have z8 : r8.e = 0 := by
      by_cases h : r8.e = 0
      · exact h
      · rw [frames_stop h] at g2; exact g2
    have z7 : r7.e = 0 := num_back (b := b) (m := 64) (g := 20) (by rw [k8]; exact z8)
    have z6 : r6.e = 0 := pages_back (b := b) (by rw [k7]; exact z7)
    have z5 : r5.e = 0 := vals_back (b := b) (m := 64) (by rw [k6]; exact z6)
    have z4 : r4.e = 0 := vals_back (b := b) (m := 8) (by rw [k5]; exact z5)
    have z3 : r3.e = 0 := num_back (b := b) (m := 9223372036854775807) (g := 17) (by rw [k4]; exact z4)
    have z2 : r2.e = 0 := num_back (b := b) (m := 4611686018427387904) (g := 17) (by rw [k3]; exact z3)
    have z1 : r1.e = 0 := oct_back (b := b) (l := 0) (m := 6) (by rw [k2]; exact z2)
    rw [g1, s6.2 z6, s7.2 z7, s1.2 z1, s5.2 z5, s2.2 z2]
  · rw [if_pos h0, if_pos h0]
end R22
end Go.Proofs.YthlkckpadjjbdaaDoor
