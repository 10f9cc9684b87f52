/- The walk over a code, told step by step: what the program's loops go by. -/
import Derived.Test.YtiaoonlhgjfdjaaDoorRow3
import Derived.Test.YtiaoonlhgjfdjaaDoorInsD
namespace Go.Proofs.YtiaoonlhgjfdjaaDoor
open Go Go.RowKit

section
variable {ops : List Nat} {n pc q : Nat} {s s' : Ms} {e : Int}
theorem goM_err {b : Bool} (hpc : pc < n) (h : stepM ops pc s = (e, s', b)) (he : e ≠ 0) : goM ops (n - pc) pc s = (s', e, pc) := by
  rw [show n - pc = (n - (pc + 1)) + 1 by omega, goM, h, if_pos he]
theorem goM_next (hpc : pc < n) (h : stepM ops pc s = (0, s', false)) : goM ops (n - pc) pc s = goM ops (n - (pc + 1)) (pc + 1) s' := by
  rw [show n - pc = (n - (pc + 1)) + 1 by omega, goM, h, if_neg (by simp), if_neg (by simp)]
theorem goM_rest (hpc : pc < n) (h : stepM ops pc s = (0, s', true)) (hr : pc + 1 < ops.length) : goM ops (n - pc) pc s = (s', 19, pc + 1) := by
  rw [show n - pc = (n - (pc + 1)) + 1 by omega, goM, h, if_neg (by simp), if_pos rfl, if_pos hr]
theorem goM_last (hpc : pc < n) (h : stepM ops pc s = (0, s', true)) (hr : ¬ pc + 1 < ops.length) : goM ops (n - pc) pc s = (s', 0, 0) := by
  rw [show n - pc = (n - (pc + 1)) + 1 by omega, goM, h, if_neg (by simp), if_pos rfl, if_neg hr]
theorem mapP_err (h : goM ops ops.length 0 (startM ops.length) = (s', e, q)) (he : e ≠ 0) : mapP ops = ([], [], [], e, q) := by
  rw [mapP, h, if_neg he]
theorem mapP_take (h : goM ops ops.length 0 (startM ops.length) = (s', 0, q)) : mapP ops = (s'.ends, s'.elses, s'.owners, 0, 0) := by
  rw [mapP, h, if_pos rfl]
theorem step_deep (h : opensP (ops.getD pc 0)) (h2 : s.open_.length = 32) : stepM ops pc s = (35, { s with owners := s.owners.set pc s.top }, false) := by
  unfold opensP at h; unfold stepM; rw [if_pos h, if_pos h2]
theorem step_open (h : opensP (ops.getD pc 0)) (h2 : ¬ s.open_.length = 32) : stepM ops pc s = (0, { s with owners := s.owners.set pc s.top, open_ := s.open_ ++ [pc] }, false) := by
  unfold opensP at h; unfold stepM; rw [if_pos h, if_neg h2]
theorem step_noelse (h : ops.getD pc 0 = 5) (h2 : s.top < 0 ∨ ops.getD s.top.toNat 0 ≠ 4 ∨ 0 ≤ s.elses.getD s.top.toNat 0) : stepM ops pc s = (37, { s with owners := s.owners.set pc s.top }, false) := by
  unfold stepM; rw [if_neg (by omega), if_pos h, if_pos h2]
theorem step_else (h : ops.getD pc 0 = 5) (h2 : ¬ (s.top < 0 ∨ ops.getD s.top.toNat 0 ≠ 4 ∨ 0 ≤ s.elses.getD s.top.toNat 0)) : stepM ops pc s = (0, { s with owners := s.owners.set pc s.top, elses := s.elses.set s.top.toNat pc }, false) := by
  unfold stepM; rw [if_neg (by omega), if_pos h, if_neg h2]
theorem step_last (h : ops.getD pc 0 = 6) (h2 : s.top < 0) : stepM ops pc s = (0, { s with owners := s.owners.set pc s.top }, true) := by
  unfold stepM; rw [if_neg (by omega), if_neg (by omega), if_pos h, if_pos h2]
theorem step_end (h : ops.getD pc 0 = 6) (h2 : ¬ s.top < 0) (h3 : ¬ 0 ≤ s.elses.getD s.top.toNat 0) : stepM ops pc s = (0, { s with owners := s.owners.set pc s.top, ends := s.ends.set s.top.toNat pc, open_ := s.open_.dropLast }, false) := by
  unfold stepM; rw [if_neg (by omega), if_neg (by omega), if_pos h, if_neg h2, if_neg h3]
theorem step_end2 (h : ops.getD pc 0 = 6) (h2 : ¬ s.top < 0) (h3 : 0 ≤ s.elses.getD s.top.toNat 0) : stepM ops pc s = (0, { s with owners := s.owners.set pc s.top, ends := (s.ends.set s.top.toNat pc).set (s.elses.getD s.top.toNat 0).toNat pc, open_ := s.open_.dropLast }, false) := by
  unfold stepM; rw [if_neg (by omega), if_neg (by omega), if_pos h, if_neg h2, if_pos h3]
theorem step_other (h : ¬ opensP (ops.getD pc 0)) (h5 : ¬ ops.getD pc 0 = 5) (h6 : ¬ ops.getD pc 0 = 6) : stepM ops pc s = (0, { s with owners := s.owners.set pc s.top }, false) := by
  unfold opensP at h; unfold stepM; rw [if_neg h, if_neg h5, if_neg h6]
theorem in_next {b : Bool} (hi : s.In ops pc) (hpc : pc < ops.length) (h : stepM ops pc s = (0, s', b)) : s'.In ops (pc + 1) := by
  have := stepM_in hi hpc (by rw [h]); rw [h] at this; exact this
end
/-- How the walk of a code l stands at pc: the rows, the stack (its elements told by K), the plain walk. -/
structure Mw (w : World) (T TS sz : Nat) (K : Ms → List Value) (d : Nat) (l : List InsD) (v1 v2 v3 : Value) (wr : World) (ov : Value) (pc : Nat) (s : Ms) : Prop where
  mh : Mh w T TS sz v1 v2 v3 wr ov (s.open_.length + d) s.ends s.elses s.owners (K s)
  inn : s.In (opsOf l) pc
  go : goM (opsOf l) (l.length - pc) pc s = goM (opsOf l) (opsOf l).length 0 (startM (opsOf l).length)
/-- What a Map answers. -/
structure MapA (w : World) (T : Nat) (ops : List Nat) (v1 v2 v3 : Value) (w' : World) : Prop where
  bel : Below w.heap.size w w'
  rows : R3 w.heap.size T w' v1 v2 v3 (mapP ops).1 (mapP ops).2.1 (mapP ops).2.2.1
theorem mapA_none {w w' : World} {T : Nat} {ops : List Nat} {e : Int} {q : Nat} (hb : Below w.heap.size w w') (h : mapP ops = ([], [], [], e, q)) : MapA w T ops (.slice none 0 0) (.slice none 0 0) (.slice none 0 0) w' :=
  ⟨hb, by rw [h]; exact ⟨World.ownsRow_nil _ _ _ _, World.ownsRow_nil _ _ _ _, World.ownsRow_nil _ _ _ _, by simp [Value.ownBlock], by simp [Value.ownBlock], by simp [Value.ownBlock]⟩⟩
section
variable {w wr wy : World} {T TS sz d : Nat} {K : Ms → List Value} {l : List InsD} {v1 v2 v3 ov : Value} {pc q : Nat} {s s' : Ms} {e : Int}
theorem Mw.on (h : Mw w T TS sz K d l v1 v2 v3 wr ov pc s) (hb : Below wr.heap.size wr wy) : Mw w T TS sz K d l v1 v2 v3 wy ov pc s := ⟨h.mh.on hb, h.inn, h.go⟩
theorem Mw.le (h : Mw w T TS sz K d l v1 v2 v3 wr ov pc s) : s.ends.length = l.length ∧ s.elses.length = l.length ∧ s.owners.length = l.length := by
  have := h.inn.ok; rw [opsOf_len] at this; exact ⟨this.le, this.ll, this.lo⟩
theorem Mw.refuse {b : Bool} (h : Mw w T TS sz K d l v1 v2 v3 wr ov pc s) (hpc : pc < l.length) (hs : stepM (opsOf l) pc s = (e, s', b)) (he : e ≠ 0) : mapP (opsOf l) = ([], [], [], e, pc) :=
  mapP_err (h.go.symm.trans (goM_err hpc hs he)) he
theorem Mw.rest (h : Mw w T TS sz K d l v1 v2 v3 wr ov pc s) (hpc : pc < l.length) (hs : stepM (opsOf l) pc s = (0, s', true)) (hr : pc + 1 < l.length) : mapP (opsOf l) = ([], [], [], 19, pc + 1) :=
  mapP_err (h.go.symm.trans (goM_rest hpc hs (by rw [opsOf_len]; exact hr))) (by decide)
theorem Mw.last (h : Mw w T TS sz K d l v1 v2 v3 wr ov pc s) (hpc : pc < l.length) (hs : stepM (opsOf l) pc s = (0, s', true)) (hr : ¬ pc + 1 < l.length) : mapP (opsOf l) = (s'.ends, s'.elses, s'.owners, 0, 0) :=
  mapP_take (h.go.symm.trans (goM_last hpc hs (by rw [opsOf_len]; exact hr)))
theorem Mw.cut (h : Mw w T TS sz K d l v1 v2 v3 wr ov pc s) (hpc : ¬ pc < l.length) : mapP (opsOf l) = ([], [], [], 38, pc) := by
  refine mapP_err (s' := s) (h.go.symm.trans ?_) (by decide)
  rw [show l.length - pc = 0 by omega]; rfl
theorem Mw.next {ov' : Value} (h : Mw w T TS sz K d l v1 v2 v3 wr ov pc s) (hpc : pc < l.length) (hs : stepM (opsOf l) pc s = (0, s', false)) (hm : Mh w T TS sz v1 v2 v3 wy ov' (s'.open_.length + d) s'.ends s'.elses s'.owners (K s')) : Mw w T TS sz K d l v1 v2 v3 wy ov' (pc + 1) s' :=
  ⟨hm, in_next h.inn (by rw [opsOf_len]; exact hpc) hs, (goM_next hpc hs).symm.trans h.go⟩
theorem mapA_done {E L O : List Int} (hb : Below w.heap.size w wy) (h : mapP (opsOf l) = (E, L, O, 0, 0)) (hr : R3 w.heap.size T wy v1 v2 v3 E L O) : MapA w T (opsOf l) v1 v2 v3 wy := ⟨hb, by rw [h]; exact hr⟩
end
/-- The stack's elements: pairs. -/
abbrev Kp : Ms → List Value := fun s => pairC s.stk
/-- The stack's elements: places. -/
abbrev Ki : Ms → List Value := fun s => ints (s.open_.map Int.ofNat)
theorem OwnI.form {B T n k : Nat} {w : World} {v : Value} {l : List Int} (h : OwnI B T w v l) (hn : l.length = n) (hk : k < n) :
    ∃ g c, v = .slice (some ⟨g, 0, none⟩) n c ∧ (∃ x, l[k]? = some x ∧ w.cell? ⟨g, k, none⟩ = some (.int .i64 x)) ∧ w.frozen? ⟨g, k, none⟩ = false := by
  subst hn
  obtain ⟨g, c, e, _, _, h1, h2⟩ := h.at_ hk
  exact ⟨g, c, e, ⟨_, List.getElem?_eq_getElem hk, h1⟩, h2⟩
theorem results_tmp5 {fn : Func} {t u v x y : Tmp} (h : fn.results = #[.tmp t, .tmp u, .tmp v, .tmp x, .tmp y]) (tmps : Array Value) (P : Program) (w : World) :
    (results fn tmps).run P w = .ok (.tuple #[tmps.getD t undef, tmps.getD u undef, tmps.getD v undef, tmps.getD x undef, tmps.getD y undef]) w := by
  simp [results, h]
/-- The else's of the innermost that has not ended. -/
def othP (s : Ms) : Int := if s.top < 0 then -1 else s.elses.getD s.top.toNat (-1)
theorem Mh.tops {w : World} {T TS g c m : Nat} {v1 v2 v3 : Value} {wr : World} {E L O : List Int} {s : Ms} (h : Mh w T TS 2 v1 v2 v3 wr (.slice (some ⟨g, 0, none⟩) m c) m E L O (Kp s)) :
    wr.cell? ⟨g, s.open_.length * 2, none⟩ = some (.int .i64 s.top) ∧ wr.cell? ⟨g, s.open_.length * 2 + 1, none⟩ = some (.int .i64 (othP s)) := by
  have hy := pairC_at _ _ _ (stk_last s)
  exact ⟨own_at h.stk rfl hy.1, own_at h.stk rfl hy.2⟩
theorem top_lt {ops : List Nat} {pc : Nat} {s : Ms} (h : s.In ops pc) (ht : ¬ s.top < 0) : s.top.toNat < pc := by
  obtain ⟨l, hl⟩ := top_some ht
  exact h.ok.open_ _ (by rw [hl]; simp)
theorem oth_eq {ops : List Nat} {pc : Nat} {s : Ms} (h : s.In ops pc) (hpc : pc ≤ ops.length) (ht : ¬ s.top < 0) : othP s = s.elses.getD s.top.toNat 0 := by
  have := top_lt h ht
  have := h.ok.ll
  unfold othP
  rw [if_neg ht, List.getD_eq_getElem?_getD, List.getD_eq_getElem?_getD, List.getElem?_eq_getElem (by omega)]
  rfl
theorem oth_lt {ops : List Nat} {pc : Nat} {s : Ms} (h : s.In ops pc) (hpc : pc ≤ ops.length) (ht : ¬ s.top < 0) : othP s < pc := by
  have h1 := top_lt h ht
  have h2 := h.ok.ll
  rw [oth_eq h hpc ht, List.getD_eq_getElem?_getD, List.getElem?_eq_getElem (by omega)]
  exact h.ok.els s.top.toNat _ (List.getElem?_eq_getElem (by omega))
theorem open_ne {s : Ms} (ht : ¬ s.top < 0) : s.open_ ≠ [] := fun e => ht (top_none.2 e)
theorem drop_len {s : Ms} (ht : ¬ s.top < 0) : s.open_.dropLast.length + 1 = s.open_.length := by
  have := open_ne ht
  rw [List.length_dropLast]
  have : s.open_.length ≠ 0 := fun e => this (List.eq_nil_of_length_eq_zero e)
  omega
end Go.Proofs.YtiaoonlhgjfdjaaDoor
