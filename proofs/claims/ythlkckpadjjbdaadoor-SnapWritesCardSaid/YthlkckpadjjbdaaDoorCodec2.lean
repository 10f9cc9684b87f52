/- The plain law of snap's bytes: frames and pages. -/
import Derived.Test.YthlkckpadjjbdaaDoorCodec
namespace Go.Proofs.YthlkckpadjjbdaaDoor
open Go Go.RowKit

theorem okn_iff {n : Int} {m : Nat} : okn n m = true ↔ 0 ≤ n ∧ n ≤ m := by unfold okn; simp
theorem rframe_fwd {b rest : List Int} {r : RS} {f : FrameD} (h : r.e = 0) (hf : okFrame f = true) (hw : WfFrame f) (hd : b.drop r.at_ = encFrame f ++ rest) : rframe b r = (f, r.by (encFrame f)) := by
  simp only [okFrame, Bool.and_eq_true, okn_iff, decide_eq_true_eq] at hf
  obtain ⟨⟨⟨h1, h2⟩, h3⟩, h4⟩ := hf
  simp only [encFrame, List.append_assoc] at hd
  have e1 := rnum_fwd 17 h hd (most := 127) (by omega) (by omega)
  have d1 := by_drop hd
  have e2 := rnum_fwd 17 (r := r.by (uv f.fn.toNat)) h d1 (most := 2047) (by omega) (by omega)
  have d2 := by_drop d1
  have e3 := rvals_fwd (r := (r.by (uv f.fn.toNat)).by (uv f.pc.toNat)) h hw.loc h3 (by omega) d2
  have d3 := by_drop d2
  have e4 := rvals_fwd (r := ((r.by (uv f.fn.toNat)).by (uv f.pc.toNat)).by (encVals f.loc)) h hw.stk h4 (by omega) d3
  simp only [rframe, e1, e2, e3, e4]
  simp only [RS.by_by, encFrame]
  rw [Int.toNat_of_nonneg h1.1, Int.toNat_of_nonneg h2.1]
theorem rframe_inv {b : List Int} (hb : Bytes b) {r : RS} (h : (rframe b r).2.e = 0) : Step b r (rframe b r).2 (encFrame (rframe b r).1) ∧ okFrame (rframe b r).1 = true ∧ WfFrame (rframe b r).1 := by
  have h4 := rvals_inv hb h
  have h3 := rvals_inv hb h4.1.ok
  have h2 := rnum_inv hb (by omega) h3.1.ok
  have h1 := rnum_inv hb (by omega) h2.1.ok
  refine ⟨?_, ?_, ?_⟩
  · exact ((h1.1.trans h2.1).trans h3.1).trans h4.1
  · simp only [okFrame, Bool.and_eq_true, okn_iff, decide_eq_true_eq]
    have b1 := h1.2; have b2 := h2.2
    exact ⟨⟨⟨⟨by simp only [rframe]; omega, by simp only [rframe]; omega⟩, ⟨by simp only [rframe]; omega, by simp only [rframe]; omega⟩⟩, h3.2.2⟩, h4.2.2⟩
  · have b1 := h1.2; have b2 := h2.2
    exact ⟨⟨by simp only [rframe]; omega, by simp only [rframe]; omega⟩, ⟨by simp only [rframe]; omega, by simp only [rframe]; omega⟩, h3.2.1, h4.2.1⟩
theorem rframesGo_fwd {b rest : List Int} : ∀ (l : List FrameD) (r : RS) (acc : List FrameD), r.e = 0 → (∀ f ∈ l, okFrame f = true ∧ WfFrame f) → b.drop r.at_ = l.flatMap encFrame ++ rest →
    rframesGo b l.length r acc = (acc ++ l, r.by (l.flatMap encFrame)) := by
  intro l
  induction l with
  | nil => intro r acc h hu hd; simp [rframesGo, RS.by]
  | cons x l ih =>
    intro r acc h hu hd
    rw [List.flatMap_cons, List.append_assoc] at hd
    have e := rframe_fwd h (hu x (by simp)).1 (hu x (by simp)).2 hd
    rw [List.length_cons, rframesGo, e]
    simp only
    rw [ih (r.by (encFrame x)) _ h (fun y hy => hu y (by simp [hy])) (by_drop hd), RS.by_by, List.flatMap_cons, List.append_assoc]
    rfl
theorem rframesGo_inv {b : List Int} (hb : Bytes b) : ∀ (n : Nat) (r : RS) (acc : List FrameD), (rframesGo b n r acc).2.e = 0 →
    ∃ l, l.length = n ∧ (rframesGo b n r acc).1 = acc ++ l ∧ (∀ f ∈ l, okFrame f = true ∧ WfFrame f) ∧ Step b r (rframesGo b n r acc).2 (l.flatMap encFrame) := by
  intro n
  induction n with
  | zero => intro r acc h; exact ⟨[], rfl, by simp [rframesGo], by intro x hx; simp at hx, Step.refl b h⟩
  | succ n ih =>
    intro r acc h
    rw [rframesGo] at h ⊢
    obtain ⟨l, e1, e2, e3, e4⟩ := ih _ _ h
    have h1 := rframe_inv hb e4.ok
    refine ⟨(rframe b r).1 :: l, by simp [e1], by rw [e2, List.append_assoc]; rfl, ?_, ?_⟩
    · intro x hx
      rcases List.mem_cons.1 hx with rfl | hx
      · exact h1.2
      · exact e3 x hx
    · rw [List.flatMap_cons]
      exact h1.1.trans e4

/-- The pages from a to n that are not zero. -/
def pgF (ps : List (List Int)) (a n : Nat) : List Nat := (List.range' a (n - a)).filter fun i => ps.getD i [] ≠ zpage
theorem pgF_nz (ps : List (List Int)) (n : Nat) : nz ps n = pgF ps 0 n := by rw [nz, pgF, List.range_eq_range']; rfl
theorem pgF_nil {ps : List (List Int)} {a n : Nat} (h : ∀ j, a ≤ j → j < n → ps.getD j [] = zpage) : pgF ps a n = [] := by
  rw [pgF, List.filter_eq_nil_iff]
  intro j hj
  rw [List.mem_range'_1] at hj
  simpa using h j hj.1 (by omega)
theorem pgF_of_nil {ps : List (List Int)} {a n : Nat} (h : pgF ps a n = []) : ∀ j, a ≤ j → j < n → ps.getD j [] = zpage := by
  intro j h1 h2
  rw [pgF, List.filter_eq_nil_iff] at h
  have := h j (List.mem_range'_1.2 ⟨h1, by omega⟩)
  simpa using this
theorem range_cut {a i n : Nat} (h1 : a ≤ i) (h2 : i < n) : List.range' a (n - a) = List.range' a (i - a) ++ i :: List.range' (i + 1) (n - (i + 1)) := by
  have e := List.range'_append (s := a) (m := i - a) (n := n - i) (step := 1)
  rw [Nat.one_mul, show a + (i - a) = i by omega, show i - a + (n - i) = n - a by omega, show n - i = (n - (i + 1)) + 1 by omega, List.range'_succ] at e
  exact e.symm
theorem pgF_cons {ps : List (List Int)} {a i n : Nat} (h1 : a ≤ i) (h2 : i < n) (hz : ∀ j, a ≤ j → j < i → ps.getD j [] = zpage) (hi : ps.getD i [] ≠ zpage) : pgF ps a n = i :: pgF ps (i + 1) n := by
  have h0 : (List.range' a (i - a)).filter (fun i => ps.getD i [] ≠ zpage) = [] := by
    rw [List.filter_eq_nil_iff]
    intro j hj
    rw [List.mem_range'_1] at hj
    simpa using hz j hj.1 (by omega)
  rw [pgF, range_cut h1 h2, List.filter_append, h0, List.nil_append, List.filter_cons_of_pos (by simpa using hi)]
  rfl
theorem pgF_cons_inv {ps : List (List Int)} {a n i : Nat} {l : List Nat} (h : pgF ps a n = i :: l) : a ≤ i ∧ i < n ∧ (∀ j, a ≤ j → j < i → ps.getD j [] = zpage) ∧ ps.getD i [] ≠ zpage ∧ pgF ps (i + 1) n = l := by
  have hm : i ∈ pgF ps a n := by rw [h]; simp
  rw [pgF, List.mem_filter, List.mem_range'_1] at hm
  have h1 : a ≤ i := hm.1.1
  have h2 : i < n := by omega
  have h3 : ps.getD i [] ≠ zpage := by simpa using hm.2
  have hz : ∀ j, a ≤ j → j < i → ps.getD j [] = zpage := by
    intro j ha hj
    have hall : ∀ x ∈ (List.range' a (i - a)).filter (fun i => ps.getD i [] ≠ zpage), False := by
      intro x hx
      have e : pgF ps a n = (List.range' a (i - a)).filter (fun i => ps.getD i [] ≠ zpage) ++ (i :: List.range' (i + 1) (n - (i + 1))).filter (fun i => ps.getD i [] ≠ zpage) := by
        rw [pgF, range_cut h1 h2, List.filter_append]
      rw [h] at e
      have hxi : x < i := by
        rw [List.mem_filter, List.mem_range'_1] at hx
        omega
      generalize (List.range' a (i - a)).filter (fun i => ps.getD i [] ≠ zpage) = L at *
      match L, hx with
      | y :: L, hx =>
        have hy : i = y := by
          rw [List.cons_append] at e
          exact (List.cons.inj e).1
        subst hy
        rcases List.mem_cons.1 hx with rfl | hx
        · omega
        · have hp : (pgF ps a n).Pairwise (· < ·) := List.Pairwise.filter _ (List.pairwise_lt_range' (s := a) (n := n - a))
          rw [h, e, List.cons_append, List.pairwise_cons] at hp
          have := hp.1 x (List.mem_append_left _ hx)
          omega
    have hn : ¬ (ps.getD j [] ≠ zpage) := fun hc => hall j (List.mem_filter.2 ⟨List.mem_range'_1.2 ⟨ha, by omega⟩, by simpa using hc⟩)
    exact Decidable.not_not.1 hn
  refine ⟨h1, h2, hz, h3, ?_⟩
  rw [pgF_cons h1 h2 hz h3] at h
  exact (List.cons.inj h).2
theorem getD_set_ne {ps : List (List Int)} {i j : Nat} {x : List Int} (h : i ≠ j) : (ps.set i x).getD j [] = ps.getD j [] := by
  rw [List.getD_eq_getElem?_getD, List.getD_eq_getElem?_getD, List.getElem?_set_ne h]
theorem getD_set_self {ps : List (List Int)} {i : Nat} {x : List Int} (h : i < ps.length) : (ps.set i x).getD i [] = x := by
  rw [List.getD_eq_getElem?_getD, List.getElem?_set_self h]; rfl
def Page (y : List Int) : Prop := y.length = 4096 ∧ Bytes y
def encTail (ps : List (List Int)) (l : List Nat) : List Int := l.flatMap fun i => uv i ++ ps.getD i []
theorem ext_getD {ps qs : List (List Int)} (h : ps.length = qs.length) (he : ∀ j, j < qs.length → ps.getD j [] = qs.getD j []) : ps = qs := by
  apply List.ext_getElem h
  intro j h1 h2
  have := he j h2
  simpa [h1, h2] using this

theorem rpagesGo_fwd {b rest : List Int} {n : Nat} {qs : List (List Int)} (hq : qs.length = n) (hn : n ≤ 18446744073709551615) (hpg : ∀ y ∈ qs, Page y) : ∀ (l : List Nat) (r : RS) (behind : Nat) (ps : List (List Int)), r.e = 0 → ps.length = n → pgF qs behind n = l →
    (∀ j, j < behind → ps.getD j [] = qs.getD j []) → (∀ j, behind ≤ j → j < n → ps.getD j [] = zpage) → b.drop r.at_ = encTail qs l ++ rest →
    rpagesGo b n l.length r behind ps = (qs, r.by (encTail qs l)) := by
  intro l
  induction l with
  | nil =>
    intro r behind ps h hp hl h1 h2 hd
    have e : ps = qs := ext_getD (by omega) fun j hj => by
      rcases Nat.lt_or_ge j behind with hb | hb
      · exact h1 j hb
      · rw [h2 j hb (by omega), pgF_of_nil hl j hb (by omega)]
    rw [List.length_nil, rpagesGo, e]; rfl
  | cons i l ih =>
    intro r behind ps h hp hl h1 h2 hd
    obtain ⟨c1, c2, c3, c4, c5⟩ := pgF_cons_inv hl
    have e0 : encTail qs (i :: l) = uv i ++ (qs.getD i [] ++ encTail qs l) := by rw [encTail, List.flatMap_cons, List.append_assoc]; rfl
    rw [e0, List.append_assoc] at hd
    have e1 := rnum_fwd 17 h hd (most := 18446744073709551615) (by omega) (by omega)
    have d1 := by_drop hd
    rw [List.append_assoc] at d1
    have hpi : Page (qs.getD i []) := hpg _ (by
      rw [List.getD_eq_getElem?_getD, List.getElem?_eq_getElem (by omega)]
      exact List.getElem_mem _)
    have hlen : ¬ b.length - (r.by (uv i)).at_ < 4096 := by
      have := congrArg List.length d1
      rw [List.length_drop, List.length_append, hpi.1] at this
      omega
    have em : rpageMid b n r behind i (r.by (uv i)) = r.by (uv i) := rpageMid_ok h (by omega) (by omega) hlen
    have et : (b.drop (r.by (uv i)).at_).take 4096 = qs.getD i [] := by
      rw [d1, ← hpi.1]; exact List.take_left
    rw [List.length_cons, rpagesGo_step, rpageNo_eq, e1]
    simp only
    rw [em, rpageStep, if_neg (by simp [RS.by, h]), if_neg (by simp only; rw [et]; exact c4)]
    simp only
    rw [et]
    have hby : ({ r.by (uv i) with at_ := (r.by (uv i)).at_ + 4096 } : RS) = (r.by (uv i)).by (qs.getD i []) := by rw [RS.by, RS.by, hpi.1]
    rw [hby, ih ((r.by (uv i)).by (qs.getD i [])) (i + 1) (ps.set i (qs.getD i [])) h (by rw [List.length_set]; exact hp) c5 ?_ ?_ (by_drop d1), RS.by_by, RS.by_by, e0]
    · intro j hj
      by_cases hji : j = i
      · subst hji; rw [getD_set_self (by omega)]
      · rw [getD_set_ne (by omega)]
        rcases Nat.lt_or_ge j behind with hb | hb
        · exact h1 j hb
        · rw [h2 j hb (by omega), c3 j hb (by omega)]
    · intro j h3 h4
      rw [getD_set_ne (by omega)]
      exact h2 j (by omega) h4
theorem rpageMid_inv {b : List Int} {n : Nat} {r : RS} {behind i : Nat} {r1 : RS} (h : (rpageMid b n r behind i r1).e = 0) : r1.e = 0 ∧ i < n ∧ behind ≤ i ∧ 4096 ≤ b.length - r1.at_ := by
  by_cases h1 : r1.e = 0
  · by_cases h2 : n ≤ i
    · exfalso
      by_cases h3 : i < behind
      · unfold rpageMid at h
        simp only [h1, h2, and_self, if_true, h3] at h
        have e1 : ((r1.no 17 r.at_).no 18 r.at_).e ≠ 0 := no_e _ _ _ (by omega)
        rw [if_neg (fun hc => e1 hc.1)] at h
        exact e1 h
      · rw [rpageMid_17 h1 h2 h3] at h
        exact no_e _ _ _ (by omega) h
    · by_cases h3 : i < behind
      · exfalso
        rw [rpageMid_18 h1 h2 h3] at h
        exact no_e _ _ _ (by omega) h
      · by_cases h4 : b.length - r1.at_ < 4096
        · exfalso
          rw [rpageMid_10 h1 h2 h3 h4] at h
          exact no_e _ _ _ (by omega) h
        · exact ⟨h1, by omega, by omega, by omega⟩
  · rw [rpageMid_err h1] at h
    exact absurd h h1
theorem rpagesGo_inv {b : List Int} (hb : Bytes b) {n : Nat} : ∀ (k : Nat) (r : RS) (behind : Nat) (ps : List (List Int)), ps.length = n → (∀ y ∈ ps, Page y) → (∀ j, behind ≤ j → j < n → ps.getD j [] = zpage) → (rpagesGo b n k r behind ps).2.e = 0 →
    ∃ qs, (rpagesGo b n k r behind ps).1 = qs ∧ qs.length = n ∧ (∀ y ∈ qs, Page y) ∧ (∀ j, j < behind → qs.getD j [] = ps.getD j []) ∧ (pgF qs behind n).length = k ∧ Step b r (rpagesGo b n k r behind ps).2 (encTail qs (pgF qs behind n)) := by
  intro k
  induction k with
  | zero =>
    intro r behind ps hp hpg hz h
    refine ⟨ps, rfl, hp, hpg, fun _ _ => rfl, by rw [pgF_nil hz]; rfl, ?_⟩
    rw [pgF_nil hz]
    exact Step.refl b h
  | succ k ih =>
    intro r behind ps hp hpg hz h
    rw [rpagesGo_step, rpageNo_eq, rpageStep] at h ⊢
    obtain ⟨i, r1, hx⟩ : ∃ i r1, rnum b r 18446744073709551615 17 = (i, r1) := ⟨_, _, rfl⟩
    simp only [hx] at h ⊢
    split at h
    · exact absurd h (by assumption)
    · rename_i he
      obtain ⟨c1, c2, c3, c4⟩ := rpageMid_inv (Decidable.not_not.1 he)
      have em : rpageMid b n r behind i r1 = r1 := rpageMid_ok c1 (by omega) (by omega) (by omega)
      rw [em] at h he ⊢
      split at h
      · exact absurd h (no_e _ _ _ (by omega))
      · rename_i hnz
        rw [if_neg he, if_neg hnz]
        obtain ⟨pg, hpgd⟩ : ∃ pg, pg = (b.drop r1.at_).take 4096 := ⟨_, rfl⟩
        rw [← hpgd] at h hnz ⊢
        have hpl : pg.length = 4096 := by rw [hpgd, List.length_take, List.length_drop]; omega
        have hpB : Page pg := ⟨hpl, fun y hy => hb y (by rw [hpgd] at hy; exact List.mem_of_mem_drop (List.mem_of_mem_take hy))⟩
        obtain ⟨qs, e1, e2, e3, e4, e5, e6⟩ := ih _ (i + 1) (ps.set i pg) (by rw [List.length_set]; exact hp)
          (fun y hy => by rcases List.mem_or_eq_of_mem_set hy with hy | rfl; exact hpg y hy; exact hpB)
          (fun j h1 h2 => by rw [getD_set_ne (by omega)]; exact hz j (by omega) h2) h
        have hqi : qs.getD i [] = pg := by rw [e4 i (by omega), getD_set_self (by omega)]
        have hF : pgF qs behind n = i :: pgF qs (i + 1) n := pgF_cons c3 c2 (fun j h1 h2 => by rw [e4 j (by omega), getD_set_ne (by omega)]; exact hz j h1 (by omega)) (by rw [hqi]; exact hnz)
        refine ⟨qs, e1, e2, e3, fun j hj => by rw [e4 j (by omega), getD_set_ne (by omega)], by rw [hF, List.length_cons, e5], ?_⟩
        rw [hF]
        have e0 : encTail qs (i :: pgF qs (i + 1) n) = uv i ++ (pg ++ encTail qs (pgF qs (i + 1) n)) := by rw [encTail, List.flatMap_cons, List.append_assoc, hqi]; rfl
        rw [e0]
        have s1 := rnum_inv hb (r := r) (most := 18446744073709551615) (g := 17) (by omega) (by rw [hx]; exact c1)
        rw [hx] at s1
        refine s1.1.trans (Step.trans (r1 := { r1 with at_ := r1.at_ + 4096 }) ⟨c1, by rw [hpl], ?_⟩ e6)
        show b.drop r1.at_ = pg ++ b.drop (r1.at_ + 4096)
        rw [hpgd, ← List.drop_drop, List.take_append_drop]
theorem zpage_page : Page zpage := ⟨zpage_len, zpage_bytes⟩
theorem rep_getD {n j : Nat} (h : j < n) : (List.replicate n zpage).getD j [] = zpage := by
  rw [List.getD_eq_getElem?_getD, List.getElem?_replicate, if_pos h]; rfl
theorem rpages_fwd {b rest : List Int} {r : RS} {qs : List (List Int)} (h : r.e = 0) (hl : qs.length ≤ 64) (hpg : ∀ y ∈ qs, Page y) (hd : b.drop r.at_ = encPages qs ++ rest) : rpages b r = (qs, r.by (encPages qs)) := by
  simp only [encPages, List.append_assoc] at hd
  have e1 := rnum_fwd 20 h hd (most := 64) hl (by omega)
  have d1 := by_drop hd
  have e2 := rnum_fwd 20 (r := r.by (uv qs.length)) h d1 (most := qs.length) (nz_len _ _) (by omega)
  have d2 := by_drop d1
  unfold rpages
  simp only [e1, e2]
  have e3 := rpagesGo_fwd (b := b) (rest := rest) (n := qs.length) rfl (by omega) hpg (nz qs qs.length) ((r.by (uv qs.length)).by (uv (nz qs qs.length).length)) 0 (List.replicate qs.length zpage) h List.length_replicate (pgF_nz qs _).symm (fun j hj => absurd hj (by omega)) (fun j _ hj => rep_getD hj) d2
  rw [e3, RS.by_by, RS.by_by]
  rfl
theorem rpages_inv {b : List Int} (hb : Bytes b) {r : RS} (h : (rpages b r).2.e = 0) : Step b r (rpages b r).2 (encPages (rpages b r).1) ∧ (rpages b r).1.length ≤ 64 ∧ (∀ y ∈ (rpages b r).1, Page y) := by
  unfold rpages at h ⊢
  obtain ⟨qs, e1, e2, e3, _, e5, e6⟩ := rpagesGo_inv hb _ _ _ _ List.length_replicate (fun y hy => by rw [(List.mem_replicate.1 hy).2]; exact zpage_page) (fun j _ hj => rep_getD hj) h
  have h2 := rnum_inv hb (g := 20) (by omega) e6.ok
  have h1 := rnum_inv hb (g := 20) (by omega) h2.1.ok
  rw [e1]
  refine ⟨?_, by rw [e2]; exact h1.2, e3⟩
  have hs := h1.1.trans (h2.1.trans e6)
  have e : encPages qs = uv (rnum b r 64 20).1 ++ (uv (rnum b (rnum b r 64 20).2 (rnum b r 64 20).1 20).1 ++ encTail qs (pgF qs 0 (rnum b r 64 20).1)) := by
    rw [encPages, e2, pgF_nz, e5]; rfl
  rw [e]
  exact hs
end Go.Proofs.YthlkckpadjjbdaaDoor
