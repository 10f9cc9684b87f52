/- A nop that is put in, plain: the walks go on alike, but for places. -/
import Derived.Test.YtebegkgechadlaaDoorMAlone
namespace Go.Proofs.YtebegkgechadlaaDoor
open Go Go.RowKit

def nopI : InsD := ⟨1, 0, []⟩
def nopL (l : List InsD) (k : Nat) : List InsD := l.take k ++ nopI :: l.drop k
/-- Where a place goes. -/
def shN (k i : Nat) : Nat := if i < k then i else i + 1
theorem shN_inj {k a b : Nat} (h : shN k a = shN k b) : a = b := by
  unfold shN at h
  split at h <;> split at h <;> omega
theorem nop_len {l : List InsD} {k : Nat} (hk : k ≤ l.length) : (nopL l k).length = l.length + 1 := by
  simp [nopL]; omega
theorem nop_sh {l : List InsD} {k t : Nat} (hk : k ≤ l.length) : (nopL l k)[shN k t]? = l[t]? := by
  unfold nopL shN
  split
  · rename_i h
    rw [List.getElem?_append_left (by simp; omega), List.getElem?_take_of_lt h]
  · rename_i h
    rw [List.getElem?_append_right (by simp; omega)]
    have e : t + 1 - (l.take k).length = (t - k) + 1 := by simp; omega
    rw [e, List.getElem?_cons_succ, List.getElem?_drop]
    congr 1; omega
theorem nop_at {l : List InsD} {k : Nat} (hk : k ≤ l.length) : (nopL l k)[k]? = some nopI := by
  unfold nopL
  rw [List.getElem?_append_right (by simp; omega)]
  simp [Nat.min_eq_left hk]
theorem ops_get (l : List InsD) (t : Nat) : (opsOf l).getD t 0 = (l[t]?.map InsD.op).getD 0 := by
  simp [opsOf, List.getD_eq_getElem?_getD]
theorem ops_sh {l : List InsD} {k : Nat} (t : Nat) (hk : k ≤ l.length) : (opsOf (nopL l k)).getD (shN k t) 0 = (opsOf l).getD t 0 := by
  rw [ops_get, ops_get, nop_sh hk]
theorem ops_nop {l : List InsD} {k : Nat} (hk : k ≤ l.length) : (opsOf (nopL l k)).getD k 0 = 1 := by
  rw [ops_get, nop_at hk]; rfl
/-- Two walks over what opens and ends, side by side. -/
structure SimM (k n : Nat) (s s' : Ms) : Prop where
  op : s'.open_ = s.open_.map (shN k)
  el : s.elses.length = n
  el' : s'.elses.length = n + 1
  sg : ∀ t, t < n → (0 ≤ s'.elses.getD (shN k t) 0 ↔ 0 ≤ s.elses.getD t 0)
  lt : ∀ t ∈ s.open_, t < n
theorem goM_succ (ops : List Nat) (f pc : Nat) (s : Ms) : goM ops (f + 1) pc s = if (stepM ops pc s).1 ≠ 0 then ((stepM ops pc s).2.1, (stepM ops pc s).1, pc) else if (stepM ops pc s).2.2 = true then (if pc + 1 < ops.length then ((stepM ops pc s).2.1, 19, pc + 1) else ((stepM ops pc s).2.1, 0, 0)) else goM ops f (pc + 1) (stepM ops pc s).2.1 := by rw [goM]
section
variable {k n i : Nat} {s s' : Ms} {ops ops' : List Nat}
theorem SimM.top (h : SimM k n s s') : (s.top = -1 ∧ s'.top = -1) ∨ ∃ t : Nat, t ∈ s.open_ ∧ s.top = t ∧ s'.top = (shN k t : Nat) := by
  unfold Ms.top
  rw [h.op, List.getLast?_map]
  cases hl : s.open_.getLast? with
  | none => exact .inl ⟨rfl, rfl⟩
  | some t => exact .inr ⟨t, List.mem_of_getLast? hl, rfl, rfl⟩
theorem getD_set {l : List Int} {j t : Nat} (x : Int) (hj : j < l.length) : (l.set j x).getD t 0 = if t = j then x else l.getD t 0 := by
  rw [List.getD_eq_getElem?_getD, List.getElem?_set]
  by_cases h : t = j
  · subst h; simp [hj]
  · rw [if_neg (by omega), if_neg h, List.getD_eq_getElem?_getD]
theorem SimM.step (h : SimM k n s s') (hi : i < n) (ho : ∀ t, ops'.getD (shN k t) 0 = ops.getD t 0) :
    (stepM ops' (shN k i) s').1 = (stepM ops i s).1 ∧ (stepM ops' (shN k i) s').2.2 = (stepM ops i s).2.2 ∧ SimM k n (stepM ops i s).2.1 (stepM ops' (shN k i) s').2.1 := by
  have hlen : s'.open_.length = s.open_.length := by rw [h.op, List.length_map]
  unfold stepM
  rw [ho i, hlen]
  by_cases c1 : ops.getD i 0 = 2 ∨ ops.getD i 0 = 3 ∨ ops.getD i 0 = 4
  · rw [if_pos c1, if_pos c1]
    by_cases c2 : s.open_.length = 32
    · rw [if_pos c2, if_pos c2]
      exact ⟨rfl, rfl, h.op, h.el, h.el', h.sg, h.lt⟩
    · rw [if_neg c2, if_neg c2]
      refine ⟨rfl, rfl, ?_, h.el, h.el', h.sg, ?_⟩
      · show s'.open_ ++ [shN k i] = (s.open_ ++ [i]).map (shN k)
        rw [h.op]; simp
      · intro t ht
        rcases List.mem_append.1 ht with ht | ht
        · exact h.lt t ht
        · rw [List.mem_singleton.1 ht]; exact hi
  rw [if_neg c1, if_neg c1]
  by_cases c5 : ops.getD i 0 = 5
  · rw [if_pos c5, if_pos c5]
    rcases h.top with ⟨t1, t2⟩ | ⟨t, hm, t1, t2⟩
    · rw [if_pos (.inl (by rw [t2]; omega)), if_pos (.inl (by rw [t1]; omega))]
      exact ⟨rfl, rfl, h.op, h.el, h.el', h.sg, h.lt⟩
    · rw [t1, t2, Int.toNat_natCast, Int.toNat_natCast, ho t]
      have hs := h.sg t (h.lt t hm)
      by_cases c : ((t : Nat) : Int) < 0 ∨ ops.getD t 0 ≠ 4 ∨ 0 ≤ s.elses.getD t 0
      · rw [if_pos c, if_pos (c.elim (fun h => absurd h (by omega)) fun h => .inr (h.imp id hs.2))]
        exact ⟨rfl, rfl, h.op, h.el, h.el', h.sg, h.lt⟩
      · rw [if_neg c, if_neg (fun c' => c (c'.elim (fun h => absurd h (by omega)) fun h => .inr (h.imp id hs.1)))]
        have htn := h.lt t hm
        refine ⟨rfl, rfl, h.op, by simpa using h.el, by simpa using h.el', fun j hj => ?_, h.lt⟩
        show 0 ≤ (s'.elses.set (shN k t) (shN k i : Nat)).getD (shN k j) 0 ↔ 0 ≤ (s.elses.set t (i : Nat)).getD j 0
        rw [getD_set _ (by rw [h.el']; unfold shN; split <;> omega), getD_set _ (by rw [h.el]; exact htn)]
        by_cases e : j = t
        · subst e; rw [if_pos rfl, if_pos rfl]; omega
        · rw [if_neg e, if_neg (fun e' => e (shN_inj e'))]
          exact h.sg j hj
  rw [if_neg c5, if_neg c5]
  by_cases c6 : ops.getD i 0 = 6
  · rw [if_pos c6, if_pos c6]
    rcases h.top with ⟨t1, t2⟩ | ⟨t, hm, t1, t2⟩
    · rw [if_pos (show s'.top < 0 by rw [t2]; omega), if_pos (show s.top < 0 by rw [t1]; omega)]
      exact ⟨rfl, rfl, h.op, h.el, h.el', h.sg, h.lt⟩
    · rw [if_neg (show ¬ s'.top < 0 by rw [t2]; omega), if_neg (show ¬ s.top < 0 by rw [t1]; omega)]
      refine ⟨rfl, rfl, ?_, h.el, h.el', h.sg, fun t ht => h.lt t (List.dropLast_subset _ ht)⟩
      show s'.open_.dropLast = s.open_.dropLast.map (shN k)
      rw [h.op, List.map_dropLast]
  rw [if_neg c6, if_neg c6]
  exact ⟨rfl, rfl, h.op, h.el, h.el', h.sg, h.lt⟩
theorem goM_simA (ho : ∀ t, ops'.getD (shN k t) 0 = ops.getD t 0) (hl : ops.length = n) (hl' : ops'.length = n + 1) : ∀ (f i : Nat) (s s' : Ms), k ≤ i → i + f = n → SimM k n s s' →
    (goM ops' f (i + 1) s').2.1 = (goM ops f i s).2.1 ∧ SimM k n (goM ops f i s).1 (goM ops' f (i + 1) s').1
  | 0, i, s, s', _, _, h => ⟨rfl, h⟩
  | f + 1, i, s, s', hk, hi, h => by
    obtain ⟨h1, h2, h3⟩ := h.step (i := i) (by omega) ho
    have e : shN k i = i + 1 := by unfold shN; rw [if_neg (by omega)]
    rw [e] at h1 h2 h3
    rw [goM, goM, h1, h2, hl, hl']
    by_cases c1 : (stepM ops i s).1 ≠ 0
    · rw [if_pos c1, if_pos c1]; exact ⟨rfl, h3⟩
    rw [if_neg c1, if_neg c1]
    by_cases c2 : (stepM ops i s).2.2 = true
    · rw [if_pos c2, if_pos c2]
      by_cases c3 : i + 1 < n
      · rw [if_pos c3, if_pos (by omega)]; exact ⟨rfl, h3⟩
      · rw [if_neg c3, if_neg (by omega)]; exact ⟨rfl, h3⟩
    · rw [if_neg c2, if_neg c2]
      exact goM_simA ho hl hl' f (i + 1) _ _ (by omega) (by omega) h3
theorem goM_simB (ho : ∀ t, ops'.getD (shN k t) 0 = ops.getD t 0) (hk1 : ops'.getD k 0 = 1) (hl : ops.length = n) (hl' : ops'.length = n + 1) (hkn : k < n) : ∀ (j f i : Nat) (s s' : Ms), i + j = k → i + f = n → SimM k n s s' →
    (goM ops' (f + 1) i s').2.1 = (goM ops f i s).2.1 ∧ SimM k n (goM ops f i s).1 (goM ops' (f + 1) i s').1
  | 0, f, i, s, s', hj, hi, h => by
    have e : i = k := by omega
    subst e
    have hs : stepM ops' i s' = (0, { s' with owners := s'.owners.set i s'.top }, false) := step_other (by rw [hk1]; decide) (by rw [hk1]; decide) (by rw [hk1]; decide)
    rw [goM, hs, if_neg (by simp), if_neg (by simp)]
    exact goM_simA ho hl hl' f i s _ (Nat.le_refl _) hi ⟨h.op, h.el, h.el', h.sg, h.lt⟩
  | j + 1, 0, i, s, s', hj, hi, h => by omega
  | j + 1, f + 1, i, s, s', hj, hi, h => by
    obtain ⟨h1, h2, h3⟩ := h.step (i := i) (by omega) ho
    have e : shN k i = i := by unfold shN; rw [if_pos (by omega)]
    rw [e] at h1 h2 h3
    rw [goM_succ ops' (f + 1) i s', goM_succ ops f i s, h1, h2, hl, hl']
    by_cases c1 : (stepM ops i s).1 ≠ 0
    · rw [if_pos c1, if_pos c1]; exact ⟨rfl, h3⟩
    rw [if_neg c1, if_neg c1]
    by_cases c2 : (stepM ops i s).2.2 = true
    · rw [if_pos c2, if_pos c2, if_pos (by omega), if_pos (by omega)]
      exact ⟨rfl, h3⟩
    · rw [if_neg c2, if_neg c2]
      exact goM_simB ho hk1 hl hl' hkn j f (i + 1) _ _ (by omega) (by omega) h3
end
theorem map_nop {l : List InsD} {k : Nat} (hk : k < l.length) : (mapP (opsOf (nopL l k))).2.2.2.1 = (mapP (opsOf l)).2.2.2.1 ∧
    ((mapP (opsOf l)).2.2.2.1 = 0 → ∀ t, t < l.length → (0 ≤ (mapP (opsOf (nopL l k))).2.1.getD (shN k t) 0 ↔ 0 ≤ (mapP (opsOf l)).2.1.getD t 0)) := by
  have hl' : (opsOf (nopL l k)).length = l.length + 1 := by rw [opsOf_len, nop_len (by omega)]
  have hst : SimM k l.length (startM l.length) (startM (l.length + 1)) := by
    refine ⟨rfl, by simp [startM], by simp [startM], fun t ht => ?_, fun t ht => by simp [startM] at ht⟩
    have h1 : shN k t < l.length + 1 := by unfold shN; split <;> omega
    simp [startM, List.getD_eq_getElem?_getD, ht, h1]
  obtain ⟨h1, h2⟩ := goM_simB (fun t => ops_sh t (by omega)) (ops_nop (by omega)) (opsOf_len l) hl' hk k l.length 0 _ _ (by omega) (by omega) hst
  unfold mapP
  rw [hl', opsOf_len, h1]
  by_cases c : (goM (opsOf l) l.length 0 (startM l.length)).2.1 = 0
  · rw [if_pos c, if_pos c]
    exact ⟨rfl, fun _ => h2.sg⟩
  · rw [if_neg c, if_neg c]
    exact ⟨rfl, fun h => absurd h c⟩
/-- What a row hangs on, of an opener: its else's sign. -/
def cnO (e : List Int) (o : OpD) : OpD := { o with pc := if o.op = 4 ∧ e.getD o.pc.toNat 0 < 0 then 1 else 0 }
def cnV (e : List Int) (v : VwD) : VwD := { v with opens := v.opens.map (cnO e), shapes := [], floors := [], high := 0 }
def c0V (c : VcD) : VcD := { c with elses := [0, -1] }
def at0 (e : List Int) (at_ : Nat) (x : InsD) : Nat := if x.op = 4 ∧ e.getD at_ 0 < 0 then 1 else 0
def mapE {α β : Type} (f : α → β) : Except Int α → Except Int β
  | .error e => .error e
  | .ok x => .ok (f x)
section
variable {α β γ : Type} {e : List Int} {v v1 v2 w : VwD} {c : VcD} {x : InsD} {s t : ByteArray} {at_ : Nat}
theorem andV_map (f : β → γ) (r : Except Int α) (k : α → Except Int β) : mapE f (andV r k) = andV r (fun x => mapE f (k x)) := by cases r <;> rfl
theorem andV_mapE (g : α → β) (r : Except Int α) (k : β → Except Int γ) : andV (mapE g r) k = andV r (fun x => k (g x)) := by cases r <;> rfl
theorem cn_top (e : List Int) (v : VwD) : (cnV e v).top = cnO e v.top := by
  show (v.opens.map (cnO e)).getLastD opZ = cnO e (v.opens.getLastD opZ)
  rw [List.getLastD_eq_getLast?, List.getLastD_eq_getLast?, List.getLast?_map]
  cases v.opens.getLast? with
  | none => simp [cnO, opZ]
  | some o => rfl
theorem cn_above (e : List Int) (v : VwD) : (cnV e v).above = v.above := by
  unfold VwD.above; rw [cn_top]; rfl
theorem pops_cn (e : List Int) (v : VwD) (s : ByteArray) : popsV (cnV e v) s = mapE (cnV e) (popsV v s) := by
  unfold popsV; rw [cn_above]; split <;> rfl
theorem pushes_cn (e : List Int) (v : VwD) (s : ByteArray) : pushesV (cnV e v) s = mapE (cnV e) (pushesV v s) := by
  unfold pushesV
  show (if v.shape.size + s.size ≤ 256 then _ else _) = _
  split <;> rfl
theorem just_cn (e : List Int) (v : VwD) (o : OpD) (s : ByteArray) : justV (cnV e v) (cnO e o) s = mapE (cnV e) (justV v o s) := by
  unfold justV
  show (if (if v.dead then o.base ++ s else v.shape) = o.base ++ s then _ else _) = _
  by_cases h : (if v.dead then o.base ++ s else v.shape) = o.base ++ s
  · rw [if_pos h, if_pos h]; rfl
  · rw [if_neg h, if_neg h]; rfl
theorem label_cn (e : List Int) (v : VwD) (n : Int) : labelV (cnV e v) n = mapE (cnO e) (labelV v n) := by
  unfold labelV
  show (if 0 ≤ n ∧ n < ((v.opens.map (cnO e)).length : Int) then (Except.ok ((v.opens.map (cnO e)).getD ((v.opens.map (cnO e)).length - 1 - n.toNat) opZ) : Except Int OpD) else .error 31) = _
  rw [List.length_map]
  split
  · show _ = Except.ok (cnO e (v.opens.getD (v.opens.length - 1 - n.toNat) opZ))
    rw [List.getD_eq_getElem?_getD, List.getD_eq_getElem?_getD, List.getElem?_map]
    cases v.opens[v.opens.length - 1 - n.toNat]? with
    | none => simp [cnO, opZ]
    | some o => rfl
  · rfl
theorem pp_cn : andV (popsV (cnV e v) s) (fun v1 => pushesV v1 t) = mapE (cnV e) (andV (popsV v s) (fun v1 => pushesV v1 t)) := by
  rw [andV_map, pops_cn, andV_mapE]
  congr 1; funext v1
  exact pushes_cn e v1 t
theorem opens_cn : opensV (c0V c) (cnV e v) (at0 e at_ x) x = mapE (cnV e) (opensV c v at_ x) := by
  unfold opensV
  rw [andV_map]
  show andV (indexV x.a c.types.length) _ = _
  congr 1; funext j
  rw [andV_map]
  show andV (popsV (cnV e v) (if x.op = 4 then (sigAt c.types j).1 ++ tWw else (sigAt c.types j).1)) _ = _
  rw [pops_cn, andV_mapE]
  congr 1; funext v1
  rw [andV_map]
  show andV (pushesV (cnV e v1) (sigAt c.types j).1) _ = _
  rw [pushes_cn, andV_mapE]
  congr 1; funext v2
  simp only [mapE, cnV, List.map_append, List.map_cons, List.map_nil, List.set_nil]
  have e1 : ((at0 e at_ x : Nat) : Int) = if x.op = 4 ∧ e.getD at_ 0 < 0 then 1 else 0 := by unfold at0; split <;> rfl
  rw [e1]
  rfl
theorem ends_cn : endsV (c0V c) (cnV c.elses v) x = mapE (cnV c.elses) (endsV c v x) := by
  unfold endsV
  rw [andV_map, cn_top]
  show andV (justV (cnV c.elses v) (cnO c.elses v.top) v.top.res) _ = _
  rw [just_cn, andV_mapE]
  congr 1; funext v1
  by_cases h5 : x.op = 5
  · rw [if_pos h5, if_pos h5]; rfl
  rw [if_neg h5, if_neg h5]
  have iff : ((cnO c.elses v.top).op = 4 ∧ (c0V c).elses.getD (cnO c.elses v.top).pc.toNat 0 < 0 ∧ (cnO c.elses v.top).par ≠ (cnO c.elses v.top).res) ↔ (v.top.op = 4 ∧ c.elses.getD v.top.pc.toNat 0 < 0 ∧ v.top.par ≠ v.top.res) := by
    show (v.top.op = 4 ∧ [0, -1].getD (if v.top.op = 4 ∧ c.elses.getD v.top.pc.toNat 0 < 0 then (1 : Int) else 0).toNat 0 < 0 ∧ v.top.par ≠ v.top.res) ↔ _
    by_cases h : v.top.op = 4 ∧ c.elses.getD v.top.pc.toNat 0 < 0
    · rw [if_pos h]
      exact ⟨fun a => ⟨h.1, h.2, a.2.2⟩, fun a => ⟨h.1, by decide, a.2.2⟩⟩
    · rw [if_neg h]
      exact ⟨fun a => absurd a.2.1 (by decide), fun a => absurd ⟨a.1, a.2.1⟩ h⟩
  by_cases h : v.top.op = 4 ∧ c.elses.getD v.top.pc.toNat 0 < 0 ∧ v.top.par ≠ v.top.res
  · rw [if_pos (iff.2 h), if_pos h]; rfl
  · rw [if_neg (fun a => h (iff.1 a)), if_neg h]
    simp only [mapE, cnV, List.map_dropLast]
theorem labels_cn : ∀ l : List Int, labelsV (cnV e v) l = labelsV v l
  | [] => rfl
  | n :: l => by
    rw [labelsV, labelsV, label_cn, andV_mapE]
    congr 1; funext _
    exact labels_cn l
theorem same_cn : ∀ l : List Int, sameV (cnV e v) s l = sameV v s l
  | [] => rfl
  | n :: l => by
    rw [sameV, sameV, label_cn, andV_mapE]
    congr 1; funext o
    show (if o.brings = s then _ else _) = _
    rw [same_cn l]
theorem branches_cn : branchesV (c0V c) (cnV e v) x = mapE (cnV e) (branchesV c v x) := by
  unfold branchesV
  split
  · rw [andV_map, label_cn, andV_mapE]
    congr 1; funext o
    rw [andV_map]
    show andV (popsV (cnV e v) o.brings) _ = _
    rw [pops_cn, andV_mapE]; rfl
  split
  · rw [andV_map, label_cn, andV_mapE]
    congr 1; funext o
    rw [andV_map]
    show andV (popsV (cnV e v) (o.brings ++ tWw)) _ = _
    rw [pops_cn, andV_mapE]; rfl
  split
  · rw [andV_map, labels_cn]
    congr 1; funext _
    rw [andV_map, label_cn, andV_mapE]
    congr 1; funext o
    rw [andV_map]
    show andV (sameV (cnV e v) o.brings x.l) _ = _
    rw [same_cn]
    congr 1; funext _
    rw [andV_map]
    show andV (popsV (cnV e v) (o.brings ++ tWw)) _ = _
    rw [pops_cn, andV_mapE]; rfl
  split
  · rw [andV_map]
    show andV (popsV (cnV e v) c.res) _ = _
    rw [pops_cn, andV_mapE]; rfl
  · rfl
theorem calls_cn : callsV (c0V c) (cnV e v) x = mapE (cnV e) (callsV c v x) := by
  unfold callsV
  rw [andV_map]
  show andV (if x.op = 11 then andV (indexV x.a c.ftypes.length) fun k => .ok (c.ftypes.getD k 0) else andV (indexV x.a c.hosts.length) fun k => .ok (c.hosts.getD k 0)) _ = _
  congr 1; funext j
  exact pp_cn
theorem names_cn : namesV (c0V c) (cnV e v) x = mapE (cnV e) (namesV c v x) := by
  unfold namesV
  rw [andV_map]
  show andV (letterV c x) _ = _
  congr 1; funext s
  rw [andV_map]
  by_cases h1 : x.op ≠ 18 ∧ x.op ≠ 21
  · rw [if_pos h1, if_pos h1, pops_cn, andV_mapE]
    congr 1; funext v1
    by_cases h2 : x.op ≠ 19 ∧ x.op ≠ 22
    · rw [if_pos h2, if_pos h2, pushes_cn]
    · rw [if_neg h2, if_neg h2]; rfl
  · rw [if_neg h1, if_neg h1]
    show (if x.op ≠ 19 ∧ x.op ≠ 22 then pushesV (cnV e v) s else .ok (cnV e v)) = mapE (cnV e) (if x.op ≠ 19 ∧ x.op ≠ 22 then pushesV v s else .ok v)
    by_cases h2 : x.op ≠ 19 ∧ x.op ≠ 22
    · rw [if_pos h2, if_pos h2, pushes_cn]
    · rw [if_neg h2, if_neg h2]; rfl
theorem picks_cn : picksV (cnV e v) x = mapE (cnV e) (picksV v x) := by
  unfold picksV
  rw [cn_above]
  split
  · split <;> rfl
  split
  · rfl
  · exact pp_cn
theorem row_cn : rowV (c0V c) (cnV c.elses v) (at0 c.elses at_ x) x = mapE (cnV c.elses) (rowV c v at_ x) := by
  unfold rowV
  split
  · exact opens_cn
  split
  · exact ends_cn
  split
  · exact branches_cn
  split
  · exact calls_cn
  split
  · exact picks_cn
  split
  · exact names_cn
  · exact pp_cn
/-- What a row leaves alone. -/
structure KS (v w : VwD) : Prop where
  sh : w.shapes = v.shapes
  hi : w.high = v.high
theorem pops_ks (h : popsV v s = .ok w) : KS v w ∧ w.dead = v.dead := by
  unfold popsV at h; split at h
  · simp only [Except.ok.injEq] at h; subst h; exact ⟨⟨rfl, rfl⟩, rfl⟩
  · exact absurd h (by simp)
theorem pushes_ks (h : pushesV v s = .ok w) : KS v w ∧ w.dead = v.dead := by
  unfold pushesV at h; split at h
  · simp only [Except.ok.injEq] at h; subst h; exact ⟨⟨rfl, rfl⟩, rfl⟩
  · exact absurd h (by simp)
theorem pp_ks (h : andV (popsV v s) (fun v1 => pushesV v1 t) = .ok w) : KS v w ∧ w.dead = v.dead := by
  obtain ⟨v1, h1, h2⟩ := andV_ok h
  obtain ⟨a, b⟩ := pops_ks h1
  obtain ⟨a2, b2⟩ := pushes_ks h2
  exact ⟨⟨a2.sh.trans a.sh, a2.hi.trans a.hi⟩, b2.trans b⟩
theorem ends_ks (h : endsV c v x = .ok w) : KS v w ∧ w.dead = false := by
  unfold endsV at h
  obtain ⟨v1, h1, h⟩ := andV_ok h
  obtain ⟨rfl, -⟩ := just_ok h1
  split at h
  · simp only [Except.ok.injEq] at h; subst h; exact ⟨⟨rfl, rfl⟩, rfl⟩
  split at h
  · exact absurd h (by simp)
  · simp only [Except.ok.injEq] at h; subst h; exact ⟨⟨rfl, rfl⟩, rfl⟩
theorem opens_ks (h : opensV c v at_ x = .ok w) : KS v w ∧ w.dead = v.dead := by
  unfold opensV at h
  obtain ⟨_, -, h⟩ := andV_ok h
  obtain ⟨v1, h1, h⟩ := andV_ok h
  obtain ⟨v2, h2, h⟩ := andV_ok h
  simp only [Except.ok.injEq] at h
  subst h
  obtain ⟨a, b⟩ := pops_ks h1
  obtain ⟨a2, b2⟩ := pushes_ks h2
  exact ⟨⟨a2.sh.trans a.sh, a2.hi.trans a.hi⟩, b2.trans b⟩
theorem branches_ks (h : branchesV c v x = .ok w) : KS v w ∧ (x.op = 8 → w.dead = v.dead) := by
  unfold branchesV at h
  split at h
  · rename_i h7
    obtain ⟨_, -, h⟩ := andV_ok h
    obtain ⟨v1, h1, h⟩ := andV_ok h
    simp only [Except.ok.injEq] at h
    subst h
    exact ⟨⟨(pops_ks h1).1.sh, (pops_ks h1).1.hi⟩, fun h => by omega⟩
  split at h
  · obtain ⟨_, -, h⟩ := andV_ok h
    obtain ⟨v1, h1, h⟩ := andV_ok h
    simp only [Except.ok.injEq] at h
    subst h
    exact ⟨⟨(pops_ks h1).1.sh, (pops_ks h1).1.hi⟩, fun _ => (pops_ks h1).2⟩
  rename_i h8
  split at h
  · obtain ⟨_, -, h⟩ := andV_ok h
    obtain ⟨_, -, h⟩ := andV_ok h
    obtain ⟨_, -, h⟩ := andV_ok h
    obtain ⟨v1, h1, h⟩ := andV_ok h
    simp only [Except.ok.injEq] at h
    subst h
    exact ⟨⟨(pops_ks h1).1.sh, (pops_ks h1).1.hi⟩, fun h => absurd h h8⟩
  split at h
  · obtain ⟨v1, h1, h⟩ := andV_ok h
    simp only [Except.ok.injEq] at h
    subst h
    exact ⟨⟨(pops_ks h1).1.sh, (pops_ks h1).1.hi⟩, fun h => absurd h h8⟩
  · simp only [Except.ok.injEq] at h
    subst h
    exact ⟨⟨rfl, rfl⟩, fun h => absurd h h8⟩
theorem picks_ks (h : picksV v x = .ok w) : KS v w ∧ w.dead = v.dead := by
  unfold picksV at h
  split at h
  · split at h
    · exact absurd h (by simp)
    · simp only [Except.ok.injEq] at h; subst h; exact ⟨⟨rfl, rfl⟩, rfl⟩
  split at h
  · exact absurd h (by simp)
  · exact pp_ks h
theorem names_ks (h : namesV c v x = .ok w) : KS v w ∧ w.dead = v.dead := by
  unfold namesV at h
  obtain ⟨_, -, h⟩ := andV_ok h
  obtain ⟨v1, h1, h⟩ := andV_ok h
  have k1 : KS v v1 ∧ v1.dead = v.dead := by
    split at h1
    · exact pops_ks h1
    · simp only [Except.ok.injEq] at h1; subst h1; exact ⟨⟨rfl, rfl⟩, rfl⟩
  have k2 : KS v1 w ∧ w.dead = v1.dead := by
    split at h
    · exact pushes_ks h
    · simp only [Except.ok.injEq] at h; subst h; exact ⟨⟨rfl, rfl⟩, rfl⟩
  exact ⟨⟨k2.1.sh.trans k1.1.sh, k2.1.hi.trans k1.1.hi⟩, k2.2.trans k1.2⟩
theorem calls_ks (h : callsV c v x = .ok w) : KS v w ∧ w.dead = v.dead := by
  unfold callsV at h
  obtain ⟨_, -, h⟩ := andV_ok h
  exact pp_ks h
/-- A way's end? -/
def awayP (op : Nat) : Prop := op = 0 ∨ op = 7 ∨ op = 9 ∨ op = 10
theorem row_ks (h : rowV c v at_ x = .ok w) : KS v w ∧ (¬ awayP x.op → (v.dead = false ∨ x.op = 5 ∨ x.op = 6) → w.dead = false) := by
  unfold rowV at h
  have key : ∀ (_ : KS v w ∧ w.dead = v.dead) (_ : ¬ (x.op = 5 ∨ x.op = 6)), KS v w ∧ (¬ awayP x.op → (v.dead = false ∨ x.op = 5 ∨ x.op = 6) → w.dead = false) := fun k n => ⟨k.1, fun _ hd => k.2.trans (hd.resolve_right n)⟩
  split at h
  · exact key (opens_ks h) (by omega)
  split at h
  · exact ⟨(ends_ks h).1, fun _ _ => (ends_ks h).2⟩
  rename_i n56
  split at h
  · rename_i hb
    obtain ⟨k, k8⟩ := branches_ks h
    refine ⟨k, fun ha hd => ?_⟩
    have e8 : x.op = 8 := by unfold awayP at ha; omega
    exact (k8 e8).trans (hd.resolve_right n56)
  split at h
  · exact key (calls_ks h) n56
  split at h
  · exact key (picks_ks h) n56
  split at h
  · exact key (names_ks h) n56
  · exact key (pp_ks h) n56
end
section
variable {c c' : VcD} {v v' w : VwD} {x : InsD} {at_ at' : Nat}
theorem ahead_nop {e e' : List Int} (hr : cnV e v = cnV e' v') (h : aheadV v x = .ok w) :
    ∃ w', aheadV v' x = .ok w' ∧ cnV e w = cnV e' w' ∧ w.shapes = v.shapes ++ [w.shape] ∧ w'.shapes = v'.shapes ++ [w.shape] ∧ w.high = max v.high w.shape.size ∧ w'.high = max v'.high w.shape.size ∧ w.dead = v.dead ∧ (v.dead = false → w.shape = v.shape) ∧ (v.dead = false ∨ x.op = 5 ∨ x.op = 6) := by
  have ht : cnO e v.top = cnO e' v'.top := by rw [← cn_top, ← cn_top, hr]
  have hb : v.top.base = v'.top.base := by have := congrArg OpD.base ht; exact this
  have hs2 : v.top.res = v'.top.res := by have := congrArg OpD.res ht; exact this
  have hd : v.dead = v'.dead := by have := congrArg VwD.dead hr; exact this
  have hs : v.shape = v'.shape := by have := congrArg VwD.shape hr; exact this
  have hop : v.opens.map (cnO e) = v'.opens.map (cnO e') := by have := congrArg VwD.opens hr; exact this
  unfold aheadV at h ⊢
  rw [← hd]
  split at h
  · exact absurd h (by simp)
  rename_i hn
  rw [if_neg hn]
  have h56 : v.dead = false ∨ x.op = 5 ∨ x.op = 6 := by
    cases hx : v.dead with
    | false => exact .inl rfl
    | true => exact .inr (Classical.not_not.1 fun h => hn ⟨hx, h⟩)
  obtain ⟨v0, h0, h⟩ := andV_ok h
  simp only [Except.ok.injEq] at h
  subst h
  cases hx : v.dead with
  | true =>
    simp only [hx, if_true] at h0
    split at h0
    · rename_i hz
      simp only [Except.ok.injEq] at h0
      subst h0
      rw [hb, hs2] at hz
      refine ⟨_, by rw [if_pos rfl, if_pos hz]; rfl, ?_, rfl, ?_, rfl, ?_, hx, fun h => absurd h (by simp), by rw [← hx]; exact h56⟩
      · simp only [cnV, setS, hop, hb, hs2, ← hd]
      · simp only [setS, hb, hs2]
      · simp only [setS, hb, hs2]
    · exact absurd h0 (by simp)
  | false =>
    simp only [hx] at h0
    simp only [Bool.false_eq_true, if_false, Except.ok.injEq] at h0
    subst h0
    refine ⟨_, by rw [if_neg (by simp)]; rfl, ?_, rfl, ?_, rfl, ?_, hx, fun _ => rfl, .inl rfl⟩
    · simp only [cnV, hop, hs, hd]
    · simp only [hs]
    · simp only [hs]
theorem row_nop (hr : cnV c.elses v = cnV c'.elses v') (hc : c0V c = c0V c') (ha : at0 c.elses at_ x = at0 c'.elses at' x) (h : rowV c v at_ x = .ok w) : ∃ w', rowV c' v' at' x = .ok w' ∧ cnV c.elses w = cnV c'.elses w' := by
  have h1 := row_cn (c := c) (v := v) (at_ := at_) (x := x)
  have h2 := row_cn (c := c') (v := v') (at_ := at') (x := x)
  rw [hc, hr, ha, h2, h] at h1
  cases hz : rowV c' v' at' x with
  | error e => rw [hz] at h1; simp [mapE] at h1
  | ok w' =>
    rw [hz] at h1
    simp only [mapE, Except.ok.injEq] at h1
    exact ⟨w', rfl, h1.symm⟩
/-- One step of the two walks. -/
structure St2 (c c' : VcD) (v v' w w' : VwD) (s : ByteArray) : Prop where
  cn : cnV c.elses w = cnV c'.elses w'
  sh : w.shapes = v.shapes ++ [s]
  sh' : w'.shapes = v'.shapes ++ [s]
  hi : w.high = max v.high s.size
  hi' : w'.high = max v'.high s.size
  eq : v.dead = false → s = v.shape
theorem step_nop (hr : cnV c.elses v = cnV c'.elses v') (hc : c0V c = c0V c') (ha : at0 c.elses at_ x = at0 c'.elses at' x) (h : stepV c v at_ x = .ok w) :
    ∃ w' s, stepV c' v' at' x = .ok w' ∧ St2 c c' v v' w w' s ∧ (¬ awayP x.op → w.dead = false) := by
  unfold stepV at h
  obtain ⟨v1, h1, h⟩ := andV_ok h
  obtain ⟨v1', g1, g2, g3, g4, g5, g6, g7, g8, g9⟩ := ahead_nop hr h1
  obtain ⟨w', h3, h4⟩ := row_nop g2 hc ha h
  obtain ⟨k1, k2⟩ := row_ks h
  obtain ⟨k1', -⟩ := row_ks h3
  refine ⟨w', v1.shape, ?_, ⟨h4, k1.sh.trans g3, k1'.sh.trans g4, k1.hi.trans g5, k1'.hi.trans g6, g8⟩, fun hx => k2 hx (by rw [g7]; exact g9)⟩
  unfold stepV
  rw [g1]
  exact h3
theorem goV_ok {l : List InsD} {z : VwD} (h : goV c (x :: l) at_ v = .ok z) : ∃ w, stepV c v at_ x = .ok w ∧ goV c l (at_ + 1) w = .ok z := by
  rw [goV] at h
  split at h
  · exact absurd h (by simp)
  · exact ⟨_, by assumption, h⟩
/-- Behind the nop. -/
theorem go_nopA (hc : c0V c = c0V c') : ∀ (l : List InsD) (i i' : Nat) (v v' z : VwD), cnV c.elses v = cnV c'.elses v' → (∀ j x, l[j]? = some x → at0 c.elses (i + j) x = at0 c'.elses (i' + j) x) → goV c l i v = .ok z →
    ∃ z' ss, goV c' l i' v' = .ok z' ∧ z.shapes = v.shapes ++ ss ∧ z'.shapes = v'.shapes ++ ss ∧ ss.length = l.length ∧ (v.high = v'.high → z.high = z'.high)
  | [], i, i', v, v', z, hr, _, h => by
    simp only [goV, Except.ok.injEq] at h
    subst h
    exact ⟨v', [], rfl, by simp, by simp, rfl, id⟩
  | x :: l, i, i', v, v', z, hr, hs, h => by
    obtain ⟨w, h1, h2⟩ := goV_ok h
    obtain ⟨w', s, h3, k, -⟩ := step_nop (at' := i') hr hc (by simpa using hs 0 x rfl) h1
    obtain ⟨z', ss, h4, h5, h6, h7, h8⟩ := go_nopA hc l (i + 1) (i' + 1) w w' z k.cn (fun j y hj => by have := hs (j + 1) y (by simpa using hj); rw [show i + 1 + j = i + (j + 1) by omega, show i' + 1 + j = i' + (j + 1) by omega]; exact this) h2
    refine ⟨z', s :: ss, by rw [goV, h3]; exact h4, by rw [h5, k.sh]; simp, by rw [h6, k.sh']; simp, by simp [h7], fun hh => h8 (by rw [k.hi, k.hi', hh])⟩
theorem ba_take (s : ByteArray) : s.extract 0 s.size = s := by
  apply ByteArray.ext
  simp
theorem ba_nil (s : ByteArray) : s ++ tE = s := by
  apply ByteArray.ext
  simp [tE]
/-- The nop's own step. -/
theorem step_nopI (hd : v.dead = false) (hz : v.shape.size ≤ 256) : stepV c v at_ nopI = .ok { v with shapes := v.shapes ++ [v.shape], high := max v.high v.shape.size, floors := v.floors ++ [-1] } := by
  have e1 : (⟨(if isOp 1 then (progRow 1).pops else []).toArray⟩ : ByteArray) = tE := by decide +kernel
  have e2 : (⟨(if isOp 1 then (progRow 1).pushes else []).toArray⟩ : ByteArray) = tE := by decide +kernel
  have er : ∀ v1 : VwD, rowV c v1 at_ nopI = plainV v1 nopI := fun v1 => by simp [rowV, nopI]
  have ep : ∀ v1 : VwD, v1.shape.size ≤ 256 → plainV v1 nopI = .ok v1 := fun v1 h1 => by
    unfold plainV
    show andV (popsV v1 ⟨(if isOp 1 then (progRow 1).pops else []).toArray⟩) (fun v2 => pushesV v2 ⟨(if isOp 1 then (progRow 1).pushes else []).toArray⟩) = _
    rw [e1, e2]
    have e3 : tE.size = 0 := rfl
    have e4 : popsV v1 tE = .ok v1 := by
      unfold popsV
      rw [if_pos (hasSuf_nil _), e3, Nat.sub_zero, ba_take]
    rw [e4]
    show pushesV v1 tE = _
    unfold pushesV
    rw [e3, if_pos (by omega), ba_nil]
  unfold stepV aheadV
  rw [if_neg (by simp [hd])]
  simp only [hd, Bool.false_eq_true, if_false]
  show rowV c _ at_ nopI = _
  rw [er]
  refine (ep { v with dead := v.dead, shapes := v.shapes ++ [v.shape], high := max v.high v.shape.size, floors := v.floors ++ [-1] } hz).trans ?_
  simp only [hd]
/-- Texts with the one at k told twice. -/
def twiceS (k : Nat) (l : List ByteArray) : List ByteArray := l.take k ++ l.getD k tE :: l.drop k
/-- From ahead of the nop on. -/
theorem go_nopB (hc : c0V c = c0V c') {ops : List Nat} (hz : SzC c) : ∀ (k : Nat) (l : List InsD) (i : Nat) (v v' z : VwD), k < l.length → i + l.length = ops.length → (∀ j x, l[j]? = some x → ops.getD (i + j) 0 = x.op) → VL ops v i → cnV c.elses v = cnV c'.elses v' → (k = 0 → v.dead = false) → (∀ j x, j + 1 = k → l[j]? = some x → ¬ awayP x.op) →
    (∀ j x, l[j]? = some x → at0 c.elses (i + j) x = at0 c'.elses (if j < k then i + j else i + j + 1) x) → v.high = v'.high → goV c l i v = .ok z →
    ∃ z' ss, goV c' (nopL l k) i v' = .ok z' ∧ z.shapes = v.shapes ++ ss ∧ z'.shapes = v'.shapes ++ twiceS k ss ∧ ss.length = l.length ∧ z.high = z'.high
  | _, [], _, _, _, _, hk, _, _, _, _, _, _, _, _, _ => absurd hk (by simp)
  | 0, x :: l, i, v, v', z, hk, hl, hop, hvl, hr, h0, _, hs, hh, h => by
    obtain ⟨w, h1, h2⟩ := goV_ok h
    have hd := h0 rfl
    obtain ⟨ms, -, hvi⟩ := hvl (by simp only [List.length_cons] at hl; omega)
    have hsz := hvi.j.sz
    have hd' : v'.dead = false := by rw [← hd]; have := congrArg VwD.dead hr; exact this.symm
    have hsh : v.shape = v'.shape := by have := congrArg VwD.shape hr; exact this
    have h3 := step_nopI (c := c') (at_ := i) hd' (by rw [← hsh]; exact hsz)
    have hr2 : cnV c.elses v = cnV c'.elses { v' with shapes := v'.shapes ++ [v'.shape], high := max v'.high v'.shape.size, floors := v'.floors ++ [-1] } := hr
    obtain ⟨w', s, h4, k, -⟩ := step_nop (at' := i + 1) hr2 hc (by simpa using hs 0 x rfl) h1
    have hse := k.eq hd
    obtain ⟨z', ss, h5, h6, h7, h8, h9⟩ := go_nopA hc l (i + 1) (i + 1 + 1) w w' z k.cn (fun j y hj => by have := hs (j + 1) y (by simpa using hj); rw [if_neg (by omega)] at this; rw [show i + 1 + j = i + (j + 1) by omega, show i + 1 + 1 + j = i + (j + 1) + 1 by omega]; exact this) h2
    refine ⟨z', s :: ss, ?_, by rw [h6, k.sh]; simp, ?_, by simp [h8], h9 ?_⟩
    · show goV c' (nopI :: x :: l) i v' = _
      rw [goV, h3]
      show goV c' (x :: l) (i + 1) _ = _
      rw [goV, h4]
      exact h5
    · rw [h7, k.sh']
      simp [twiceS, hse, hsh]
    · rw [k.hi, k.hi', hh, hse, hsh]
      show _ = max (max v'.high v'.shape.size) _
      omega
  | k + 1, x :: l, i, v, v', z, hk, hl, hop, hvl, hr, _, haw, hs, hh, h => by
    obtain ⟨w, h1, h2⟩ := goV_ok h
    have hs0 := hs 0 x rfl
    rw [if_pos (by omega)] at hs0
    obtain ⟨w', s, h3, st, hd⟩ := step_nop (at' := i) hr hc (by simpa using hs0) h1
    have hlt : i < ops.length := by simp only [List.length_cons] at hl; omega
    have hvl2 : VL ops w (i + 1) := by
      unfold stepV at h1
      obtain ⟨v1, ha, hb⟩ := andV_ok h1
      exact hvl.next hz hlt (by simpa using hop 0 x rfl) ha hb
    obtain ⟨z', ss, h4, h5, h6, h7, h8⟩ := go_nopB hc hz k l (i + 1) w w' z (by simpa using hk) (by simp only [List.length_cons] at hl; omega) (fun j y hj => by have := hop (j + 1) y (by simpa using hj); rw [show i + 1 + j = i + (j + 1) by omega]; exact this) hvl2 st.cn (fun hk0 => hd (haw 0 x (by omega) rfl)) (fun j y hj hy => haw (j + 1) y (by omega) (by simpa using hy)) (fun j y hj => by
      have := hs (j + 1) y (by simpa using hj)
      rw [show i + 1 + j = i + (j + 1) by omega, this]
      by_cases c : j < k
      · rw [if_pos c, if_pos (by omega)]
      · rw [if_neg c, if_neg (by omega)]) (by rw [st.hi, st.hi', hh]) h2
    refine ⟨z', s :: ss, ?_, by rw [h5, st.sh]; simp, by rw [h6, st.sh']; simp [twiceS], by simp [h7], h8⟩
    show goV c' (x :: nopL l k) i v' = _
    rw [goV, h3]
    exact h4
end
/-- The module with a nop put in. -/
def nopF (f : FunD) (k : Nat) : FunD := { f with code := nopL f.code k }
def nopM (m : ModD) (g k : Nat) : ModD := { m with funs := m.funs.set g (nopF (m.funs.getD g funZ) k) }
section
variable {m : ModD} {g k : Nat}
theorem nop_mlen : (nopM m g k).funs.length = m.funs.length := by simp [nopM]
theorem nop_get (h : g < m.funs.length) : (nopM m g k).funs.getD g funZ = nopF (m.funs.getD g funZ) k := by
  simp [nopM, h]
theorem nop_ft : (nopM m g k).funs.map (·.t) = m.funs.map (·.t) := by
  apply List.ext_getElem?
  intro i
  simp only [nopM, List.getElem?_map, List.getElem?_set]
  by_cases h : g = i
  · subst h
    by_cases hl : g < m.funs.length
    · simp [hl, nopF, List.getD_eq_getElem?_getD]
    · simp [hl]
  · simp [h]
theorem funV_good {n : Nat} (h : (funV m n).2.1 = 0) : (mapP (opsOf (m.funs.getD n funZ).code)).2.2.2.1 = 0 ∧ ∃ v, goV (ctxV m (m.funs.getD n funZ) (mapP (opsOf (m.funs.getD n funZ).code)).2.1) (m.funs.getD n funZ).code 0 (startV (sigAt m.types (m.funs.getD n funZ).t).2) = .ok v ∧
    (funV m n).1 = ⟨v.shapes, (mapP (opsOf (m.funs.getD n funZ).code)).1, (mapP (opsOf (m.funs.getD n funZ).code)).2.1, v.floors, v.high⟩ := by
  unfold funV at h ⊢
  split at h
  · rename_i hm; exact absurd h hm
  · rename_i hm
    rw [if_neg hm]
    refine ⟨Classical.not_not.1 hm, ?_⟩
    split at h
    · rename_i z hz
      exact absurd h (goV_ne _ _ _ _ hz)
    · rename_i v hv
      exact ⟨v, hv, rfl⟩
/-- THE LAW, plain. -/
theorem law_nop (hok : MOk m) (hg : g < m.funs.length) (h : (funV m g).2.1 = 0) (hk : k < (m.funs.getD g funZ).code.length) (haw : ∀ x, 0 < k → (m.funs.getD g funZ).code[k - 1]? = some x → ¬ awayP x.op) :
    (funV (nopM m g k) g).2.1 = 0 ∧ (funV (nopM m g k) g).1.shapes = twiceS k (funV m g).1.shapes ∧ (funV (nopM m g k) g).1.high = (funV m g).1.high := by
  obtain ⟨hm, v, hv, ht⟩ := funV_good h
  have hcd : (nopF (m.funs.getD g funZ) k).code = nopL (m.funs.getD g funZ).code k := rfl
  have hft : (nopF (m.funs.getD g funZ) k).t = (m.funs.getD g funZ).t := rfl
  have hty : (nopM m g k).types = m.types := rfl
  obtain ⟨m1, m2⟩ := map_nop (l := (m.funs.getD g funZ).code) hk
  have m2 := m2 hm
  rw [hm] at m1
  have hlen : ∀ t, t < (m.funs.getD g funZ).code.length → ((mapP (opsOf (m.funs.getD g funZ).code)).2.1.getD t 0 < 0 ↔ (mapP (opsOf (nopL (m.funs.getD g funZ).code k))).2.1.getD (shN k t) 0 < 0) := fun t ht => by have := m2 t ht; omega
  have hctx : c0V (ctxV m (m.funs.getD g funZ) (mapP (opsOf (m.funs.getD g funZ).code)).2.1) = c0V (ctxV (nopM m g k) (nopF (m.funs.getD g funZ) k) (mapP (opsOf (nopL (m.funs.getD g funZ).code k))).2.1) := by
    unfold c0V ctxV
    rw [nop_ft]
    rfl
  have hszc : SzC (ctxV m (m.funs.getD g funZ) (mapP (opsOf (m.funs.getD g funZ).code)).2.1) := hok.szc rfl
  have hr8 : (sigAt m.types (m.funs.getD g funZ).t).2.size ≤ 8 := (hszc _).2
  obtain ⟨z', ss, h1, h2, h3, h4, h5⟩ := go_nopB hctx (ops := opsOf (m.funs.getD g funZ).code) hszc k (m.funs.getD g funZ).code 0 (startV (sigAt m.types (m.funs.getD g funZ).t).2) (startV (sigAt m.types (m.funs.getD g funZ).t).2) v hk (by rw [opsOf_len]; omega) (fun j x hj => by rw [ops_get, Nat.zero_add, hj]; rfl) (VL.start hr8 hm) (by simp [cnV, startV, cnO]) (fun _ => rfl) (fun j x hj hx => haw x (by omega) (by rw [show k - 1 = j by omega]; exact hx)) (fun j x hj => by
    have hjl : j < (m.funs.getD g funZ).code.length := (List.getElem?_eq_some_iff.1 hj).1
    have hq := hlen j hjl
    unfold at0
    have e : (if j < k then 0 + j else 0 + j + 1) = shN k j := by unfold shN; simp
    rw [e, Nat.zero_add]
    show (if x.op = 4 ∧ (mapP (opsOf (m.funs.getD g funZ).code)).2.1.getD j 0 < 0 then 1 else 0) = (if x.op = 4 ∧ (mapP (opsOf (nopL (m.funs.getD g funZ).code k))).2.1.getD (shN k j) 0 < 0 then 1 else 0)
    by_cases c : x.op = 4 ∧ (mapP (opsOf (m.funs.getD g funZ).code)).2.1.getD j 0 < 0
    · rw [if_pos c, if_pos ⟨c.1, hq.1 c.2⟩]
    · rw [if_neg c, if_neg (fun a => c ⟨a.1, hq.2 a.2⟩)]) rfl hv
  have hfu : funV (nopM m g k) g = (⟨z'.shapes, (mapP (opsOf (nopL (m.funs.getD g funZ).code k))).1, (mapP (opsOf (nopL (m.funs.getD g funZ).code k))).2.1, z'.floors, z'.high⟩, 0, 0) := by
    unfold funV
    rw [nop_get hg, hcd, hft, hty, if_neg (by rw [m1]; simp), h1]
  rw [hfu, ht]
  refine ⟨rfl, ?_, h5.symm⟩
  have e0 : (startV (sigAt m.types (m.funs.getD g funZ).t).2).shapes = [] := rfl
  rw [e0, List.nil_append] at h2 h3
  show z'.shapes = twiceS k v.shapes
  rw [h3, h2]
end
end Go.Proofs.YtebegkgechadlaaDoor
