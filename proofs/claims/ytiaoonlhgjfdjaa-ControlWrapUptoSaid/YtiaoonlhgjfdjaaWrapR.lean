/- A block put around a code: what Map and Next tell of it, plain. -/
import Derived.Test.YtiaoonlhgjfdjaaWrapQ
import Derived.Test.YtiaoonlhgjfdjaaEnterP
namespace Go.Proofs.Ytiaoonlhgjfdjaa
open Go Go.RowKit

/-- What Map tells of the code and of the one with the block. -/
structure WrM (n : Nat) (E L O E' L' O' : List Int) : Prop where
  le : E'.length = n + 2
  ll : L'.length = n + 2
  lo : O'.length = n + 2
  e0 : gI E' 0 = n
  e1 : ∀ j, j < n → gI E' (j + 1) = mvI (gI E j)
  e2 : gI E' (n + 1) = -1
  l0 : gI L' 0 = -1
  l1 : ∀ j, j < n → gI L' (j + 1) = mvI (gI L j)
  l2 : gI L' (n + 1) = -1
  o0 : gI O' 0 = -1
  o1 : ∀ j, j < n → gI O' (j + 1) = gI O j + 1
  o2 : gI O' (n + 1) = -1
theorem opL_start (n : Nat) : opL (startM n) = [-1] := rfl
theorem wrap_map {ops : List Nat} (h : (mapP ops).2.2.2.1 = 0) :
    (∀ i, i < ops.length → (labP (mapP ops).2.2.1 i).length ≤ 33) ∧
    ((mapP (wrO ops)).2.2.2.1 = 35 ∧ (∃ i, i < ops.length ∧ (labP (mapP ops).2.2.1 i).length = 33) ∨
     (mapP (wrO ops)).2.2.2.1 = 0 ∧ WrM ops.length (mapP ops).1 (mapP ops).2.1 (mapP ops).2.2.1 (mapP (wrO ops)).1 (mapP (wrO ops)).2.1 (mapP (wrO ops)).2.2.1) := by
  have hk := mapP_ok h
  have h0 : (goM ops ops.length 0 (startM ops.length)).2.1 = 0 := by
    unfold mapP at h
    split at h
    · assumption
    · exact h
  have hm : mapP ops = ((goM ops ops.length 0 (startM ops.length)).1.ends, (goM ops ops.length 0 (startM ops.length)).1.elses, (goM ops ops.length 0 (startM ops.length)).1.owners, 0, 0) := by
    unfold mapP; rw [if_pos h0]
  rw [hm] at hk ⊢
  obtain ⟨s', hst, hw⟩ := wrS_start ops
  have hgo : goM (wrO ops) (wrO ops).length 0 (startM (wrO ops).length) = goM (wrO ops) (ops.length + 1) 1 s' := by
    rw [wrO_len, goM, hst, if_neg (by simp), if_neg (by simp)]
  have htop : (startM ops.length).top = -1 := rfl
  obtain ⟨r1, r2⟩ := wr_go ops.length 0 (startM ops.length) s' hw (startM_in ops) (by omega) h0 hk.own (by rw [htop, labL_end, opL_start])
  rw [Nat.zero_add] at r2
  refine ⟨fun i hi => r1 i (by omega) hi, ?_⟩
  rw [← hgo] at r2
  rcases r2 with ⟨e, hd⟩ | ⟨e, hf⟩
  · left
    refine ⟨?_, hd⟩
    unfold mapP
    rw [if_neg (by rw [e]; decide)]
    exact e
  · right
    have hm' : mapP (wrO ops) = ((goM (wrO ops) (wrO ops).length 0 (startM (wrO ops).length)).1.ends, (goM (wrO ops) (wrO ops).length 0 (startM (wrO ops).length)).1.elses, (goM (wrO ops) (wrO ops).length 0 (startM (wrO ops).length)).1.owners, 0, 0) := by
      unfold mapP; rw [if_pos e]
    rw [hm']
    exact ⟨rfl, hf.le, hf.ll, hf.lo, hf.e0, hf.e1, hf.e2, hf.l0, hf.l1, hf.l2, hf.o0, hf.o1, hf.o2⟩
section
variable {ops : List Nat} {E L O E' L' O' : List Int}
/-- Labels, one further on. -/
theorem wr_labL (w : WrM ops.length E L O E' L' O') (ho : ∀ (j : Nat) (v : Int), O[j]? = some v → -1 ≤ v ∧ v < j) (ho' : ∀ (j : Nat) (v : Int), O'[j]? = some v → -1 ≤ v ∧ v < j) (hO : O.length = ops.length) :
    ∀ (m : Nat) (x : Int), -1 ≤ x → x < m → x < ops.length → labL O' (x + 1) = (labL O x).map (· + 1) ++ [-1]
  | 0, x, h1, h2, _ => by
    obtain rfl : x = -1 := by omega
    rw [labL_end, labL_next ho' (by omega)]
    have e : O'.getD ((-1 : Int) + 1).toNat (-1) = -1 := w.o0
    rw [e, labL_end]
    rfl
  | m + 1, x, h1, h2, h3 => by
    by_cases h0 : 0 ≤ x
    · obtain ⟨t, rfl⟩ : ∃ t : Nat, x = t := ⟨x.toNat, by omega⟩
      rw [labL_next ho h0, labL_next ho' (by omega), show ((t : Int) + 1).toNat = t + 1 by omega, Int.toNat_natCast]
      have e : O'.getD (t + 1) (-1) = O.getD t (-1) + 1 := w.o1 t (by omega)
      have hx : -1 ≤ O.getD t (-1) ∧ O.getD t (-1) < t := by
        have hv := ho t (O.getD t (-1)) (by rw [List.getD_eq_getElem?_getD, List.getElem?_eq_getElem (by omega)]; rfl)
        exact hv
      rw [e, wr_labL w ho ho' hO m _ hx.1 (by omega) (by omega)]
      simp
    · obtain rfl : x = -1 := by omega
      rw [labL_end, labL_next ho' (by omega)]
      have e : O'.getD ((-1 : Int) + 1).toNat (-1) = -1 := w.o0
      rw [e, labL_end]
      rfl
theorem wr_lab (w : WrM ops.length E L O E' L' O') (ho : ∀ (j : Nat) (v : Int), O[j]? = some v → -1 ≤ v ∧ v < j) (ho' : ∀ (j : Nat) (v : Int), O'[j]? = some v → -1 ≤ v ∧ v < j) (hO : O.length = ops.length) {i : Nat} (hi : i < ops.length) :
    labP O' (i + 1) = (labP O i).map (· + 1) ++ [-1] := by
  unfold labP
  have e : O'.getD (i + 1) (-1) = O.getD i (-1) + 1 := w.o1 i hi
  have hv := ho i (O.getD i (-1)) (by rw [List.getD_eq_getElem?_getD, List.getElem?_eq_getElem (by omega)]; rfl)
  rw [e, wr_labL w ho ho' hO i _ hv.1 hv.2 (Int.lt_trans hv.2 (by omega))]
/-- The place of a label, one further on. -/
theorem wr_place (w : WrM ops.length E L O E' L' O') (m : MapBr ops E L O) (ho : ∀ (j : Nat) (v : Int), O[j]? = some v → -1 ≤ v ∧ v < j) (ho' : ∀ (j : Nat) (v : Int), O'[j]? = some v → -1 ≤ v ∧ v < j) (hO : O.length = ops.length) {i : Nat} (hi : i < ops.length) {k : Int} (hk : k < (labP O i).length) :
    placeP (wrO ops) E' (labP O' (i + 1)) k = mvI (placeP ops E (labP O i) k) := by
  rw [wr_lab w ho ho' hO hi]
  by_cases h0 : k < 0
  · rw [placeP_out (.inl h0), placeP_out (.inl h0), mv_neg]
  · have hlt : k.toNat < (labP O i).length := by omega
    rw [placeP_in (lab := labP O i) (by omega), placeP_in (by simp; omega)]
    have hm := labP_ops m ho hi ((labP O i).getD k.toNat (-1)) (by rw [List.getD_eq_getElem?_getD, List.getElem?_eq_getElem hlt]; exact List.getElem_mem hlt)
    have e : ((labP O i).map (· + 1) ++ [-1]).getD k.toNat (-1) = (labP O i).getD k.toNat (-1) + 1 := by
      rw [List.getD_eq_getElem?_getD, List.getElem?_append_left (by simpa using hlt), List.getElem?_map, List.getD_eq_getElem?_getD, List.getElem?_eq_getElem hlt]; rfl
    rw [e]
    generalize (labP O i).getD k.toNat (-1) = o at *
    rcases hm with rfl | ⟨h1, h2, h3⟩
    · have e0 : E'.getD ((-1 : Int) + 1).toNat (-1) = ops.length := w.e0
      unfold placeQ
      rw [if_neg (by omega), if_neg (by show ¬ (2 : Nat) = 3; decide), e0, if_pos (by omega), mv_nat]
    · obtain ⟨t, rfl⟩ : ∃ t : Nat, o = t := ⟨o.toNat, by omega⟩
      rw [Int.toNat_natCast] at h3
      obtain ⟨c, c1, _, _, _⟩ := m.closed t (by omega) h3
      have c1' : E.getD t (-1) = (c : Int) := c1
      have e1 : E'.getD (t + 1) (-1) = mvI (E.getD t (-1)) := w.e1 t (by omega)
      unfold placeQ
      rw [if_neg (show ¬ (t : Int) + 1 < 0 by omega), if_neg (show ¬ (t : Int) < 0 by omega), show ((t : Int) + 1).toNat = t + 1 by omega, Int.toNat_natCast, wrO_at (by omega), e1, c1', mv_nat]
      split
      · unfold mvI; rw [if_neg (by omega)]
      · unfold mvI; rw [if_neg (by omega)]
/-- What is named: the numbers of a branch lie below how many labels there are. -/
def namedP (op : Nat) (a : Int) (xl : List Int) (k : Nat) : Prop := (op = 7 ∨ op = 8 → a < k) ∧ (op = 9 → ∀ x ∈ xl, x < k)
theorem wr_some (w : WrM ops.length E L O E' L' O') (m : MapBr ops E L O) (ho : ∀ (j : Nat) (v : Int), O[j]? = some v → -1 ≤ v ∧ v < j) (ho' : ∀ (j : Nat) (v : Int), O'[j]? = some v → -1 ≤ v ∧ v < j) (hO : O.length = ops.length) {i : Nat} (hi : i < ops.length) (h10 : ops.getD i 0 ≠ 10) {a : Int} {xl : List Int}
    (hn : namedP (ops.getD i 0) a xl (labP O i).length) :
    someP (wrO ops) E' L' (labP O' (i + 1)) (i + 1) a xl = (someP ops E L (labP O i) i a xl).map mvI := by
  have e1 : E'.getD (i + 1) (-1) = mvI (E.getD i (-1)) := w.e1 i hi
  have l1 : L'.getD (i + 1) (-1) = mvI (L.getD i (-1)) := w.l1 i hi
  have hpl := fun (k : Int) hk => wr_place w m ho ho' hO hi (k := k) hk
  have hi1 : mvI ((i : Int) + 1) = ((i + 1 : Nat) : Int) + 1 := by unfold mvI; rw [if_neg (by omega)]; omega
  unfold someP
  rw [wrO_at hi, e1, l1]
  by_cases c0 : ops.getD i 0 = 0
  · rw [if_pos c0, if_pos c0]; rfl
  rw [if_neg c0, if_neg c0]
  by_cases c4 : ops.getD i 0 = 4
  · rw [if_pos c4, if_pos c4]
    obtain ⟨c, hc, _, _, _⟩ := m.closed i hi (by rw [c4]; exact .inr (.inr rfl))
    have hc' : E.getD i (-1) = (c : Int) := hc
    simp only [List.map_cons, List.map_nil]
    rw [hi1]
    by_cases hl : 0 ≤ L.getD i (-1)
    · obtain ⟨y, hy⟩ : ∃ y : Nat, L.getD i (-1) = y := ⟨(L.getD i (-1)).toNat, by omega⟩
      rw [hy, mv_nat, if_pos (by omega), if_pos (by omega)]
      have : mvI ((y : Int) + 1) = (y : Int) + 1 + 1 := by unfold mvI; rw [if_neg (by omega)]
      rw [this]
    · have hl1 : mvI (L.getD i (-1)) < 0 := by
        by_cases e : L.getD i (-1) = -1
        · rw [e, mv_neg]; omega
        · unfold mvI; rw [if_neg e]; omega
      rw [if_neg (by omega), if_neg hl]
  rw [if_neg c4, if_neg c4]
  by_cases c5 : ops.getD i 0 = 5
  · rw [if_pos c5, if_pos c5]; rfl
  rw [if_neg c5, if_neg c5]
  by_cases c7 : ops.getD i 0 = 7
  · rw [if_pos c7, if_pos c7]
    simp only [List.map_cons, List.map_nil]
    rw [hpl a (hn.1 (.inl c7))]
  rw [if_neg c7, if_neg c7]
  by_cases c8 : ops.getD i 0 = 8
  · rw [if_pos c8, if_pos c8]
    simp only [List.map_cons, List.map_nil]
    rw [hpl a (hn.1 (.inr c8)), hi1]
  rw [if_neg c8, if_neg c8]
  by_cases c9 : ops.getD i 0 = 9
  · rw [if_pos c9, if_pos c9, List.map_map]
    apply List.map_congr_left
    intro x hx
    exact hpl x (hn.2 c9 x hx)
  rw [if_neg c9, if_neg c9, if_neg h10, if_neg h10]
  simp only [List.map_cons, List.map_nil]
  rw [hi1]
theorem rise_in (n : Nat) (l : List Int) (x : Int) : x ∈ rise n l ↔ 0 ≤ x ∧ x ≤ n ∧ x ∈ l := by
  unfold rise
  constructor
  · intro h
    obtain ⟨j, hj, e⟩ := List.mem_map.1 h
    obtain ⟨h1, h2⟩ := List.mem_filter.1 hj
    have h1 := List.mem_range.1 h1
    have h2 := of_decide_eq_true h2
    rw [e] at h2
    exact ⟨by omega, by omega, h2⟩
  · rintro ⟨h1, h2, h3⟩
    refine List.mem_map.2 ⟨x.toNat, List.mem_filter.2 ⟨List.mem_range.2 (by omega), ?_⟩, by omega⟩
    rw [show ((x.toNat : Nat) : Int) = x by omega]
    exact decide_eq_true h3
theorem rise_mv {n : Nat} {S : List Int} (h : ∀ x ∈ S, -1 ≤ x ∧ x ≤ n) : rise (n + 2) (S.map mvI) = (rise n S).map mvI := by
  refine sorted_ext _ _ (rise_sorted _ _) ?_ fun y => ?_
  · refine List.pairwise_map.2 (List.Pairwise.imp_of_mem (fun {a b} ha hb hab => ?_) (rise_sorted n S))
    have h1 := (rise_in n S a).1 ha
    have h2 := (rise_in n S b).1 hb
    unfold mvI
    rw [if_neg (by omega), if_neg (by omega)]; omega
  · rw [rise_in]
    constructor
    · rintro ⟨h1, _, h3⟩
      obtain ⟨x, hx, rfl⟩ := List.mem_map.1 h3
      have hb := h x hx
      refine List.mem_map.2 ⟨x, (rise_in n S x).2 ⟨?_, hb.2, hx⟩, rfl⟩
      by_cases e : x = -1
      · rw [e, mv_neg] at h1; omega
      · omega
    · intro hy
      obtain ⟨x, hx, rfl⟩ := List.mem_map.1 hy
      obtain ⟨h1, h2, h3⟩ := (rise_in n S x).1 hx
      refine ⟨?_, ?_, List.mem_map.2 ⟨x, h3, rfl⟩⟩
      · unfold mvI; rw [if_neg (by omega)]; omega
      · unfold mvI; rw [if_neg (by omega)]; omega
/-- What 'moved' gives. -/
def movedP (l : List Int) (n : Int) (ret : Bool) : List Int := l.map fun x => if x = n ∧ ret = true then n + 2 else if x = -1 then -1 else x + 1
theorem wr_next (h : (mapP ops).2.2.2.1 = 0) (h' : (mapP (wrO ops)).2.2.2.1 = 0) (w : WrM ops.length (mapP ops).1 (mapP ops).2.1 (mapP ops).2.2.1 (mapP (wrO ops)).1 (mapP (wrO ops)).2.1 (mapP (wrO ops)).2.2.1) {i : Nat} (hi : i < ops.length) {a : Int} {xl : List Int}
    (hn : namedP (ops.getD i 0) a xl (labP (mapP ops).2.2.1 i).length) :
    nextsP (wrO ops) ((i + 1 : Nat) : Int) a xl = movedP (nextsP ops i a xl) ops.length (decide (ops.getD i 0 = 10)) := by
  have hk := mapP_ok h
  have hk' := mapP_ok h'
  have hm := mapP_br h
  have hlen := wrO_len ops
  rw [nextsP, if_neg (by omega), nextsP, if_neg (by omega), Int.toNat_natCast, Int.toNat_natCast, hlen]
  by_cases h10 : ops.getD i 0 = 10
  · rw [decide_eq_true h10]
    have e1 : someP ops (mapP ops).1 (mapP ops).2.1 (labP (mapP ops).2.2.1 i) i a xl = [(ops.length : Int)] := by
      unfold someP
      rw [if_neg (by omega), if_neg (by omega), if_neg (by omega), if_neg (by omega), if_neg (by omega), if_neg (by omega), if_pos h10]
    have e2 : someP (wrO ops) (mapP (wrO ops)).1 (mapP (wrO ops)).2.1 (labP (mapP (wrO ops)).2.2.1 (i + 1)) (i + 1) a xl = [((wrO ops).length : Int)] := by
      unfold someP
      rw [wrO_at hi, if_neg (by omega), if_neg (by omega), if_neg (by omega), if_neg (by omega), if_neg (by omega), if_neg (by omega), if_pos h10]
    have hr : ∀ k : Nat, rise k [(k : Int)] = [(k : Int)] := fun k => by
      have hb : ∀ x ∈ [(k : Int)], 0 ≤ x ∧ x ≤ k := fun x hx => by
        simp only [List.mem_cons, List.not_mem_nil, or_false] at hx
        omega
      exact sorted_ext _ _ (rise_sorted _ _) (by simp) fun x => rise_mem hb x
    rw [e1, e2, hlen, hr, hr]
    unfold movedP
    simp
  · rw [decide_eq_false h10, wr_some w hm hk.own hk'.own hk.lo hi h10 hn, rise_mv (someP_range hk hi a xl)]
    unfold movedP
    apply List.map_congr_left
    intro x _
    unfold mvI
    simp
end
end Go.Proofs.Ytiaoonlhgjfdjaa
