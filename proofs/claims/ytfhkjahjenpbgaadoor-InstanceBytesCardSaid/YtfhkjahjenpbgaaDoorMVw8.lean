/- The validator's walk, plain: what holds at each instruction. The validator's rows: else, end. The walker's lists grow, and are written. -/
import Derived.Test.YtfhkjahjenpbgaaDoorMVw1
import Derived.Test.YtfhkjahjenpbgaaDoorVw3
namespace Go.Proofs.YtfhkjahjenpbgaaDoor
open Go Go.RowKit

/-- What holds of an opener of a code of n instructions. -/
structure OpOk (n : Nat) (o : OpD) : Prop where
  par : o.par.size ≤ 8
  res : o.res.size ≤ 8
  base : o.base.size + o.par.size ≤ 256
  pc : o.op = 4 → 0 ≤ o.pc ∧ o.pc < n
/-- What holds at each instruction. -/
structure VJ (n : Nat) (v : VwD) : Prop where
  asc : v.opens.Pairwise (fun a b => a.base.size ≤ b.base.size)
  le : v.top.base.size ≤ v.shape.size
  sz : v.shape.size ≤ 256
  ops : ∀ o ∈ v.opens, OpOk n o
section
variable {n : Nat} {v v1 v2 v' : VwD} {s t : ByteArray} {c : VcD} {x : InsD} {pc : Nat}
theorem top_same (ho : v'.opens = v.opens) : v'.top = v.top := by unfold VwD.top; rw [ho]
theorem VJ.same (h : VJ n v) (ho : v'.opens = v.opens) (h1 : v.top.base.size ≤ v'.shape.size) (h2 : v'.shape.size ≤ 256) : VJ n v' :=
  ⟨by rw [ho]; exact h.asc, by rw [top_same ho]; exact h1, h2, by rw [ho]; exact h.ops⟩
theorem top_mem (h : 0 < v.opens.length) : v.top ∈ v.opens := by rw [top_at h]; exact List.getElem_mem _
theorem opens_last (h : 0 < v.opens.length) : v.opens = v.opens.dropLast ++ [v.top] := by
  have hne : v.opens ≠ [] := fun e => by rw [e] at h; simp at h
  have e : v.top = v.opens.getLast hne := by
    unfold VwD.top
    rw [List.getLastD_eq_getLast?, List.getLast?_eq_some_getLast hne]
    rfl
  rw [e]
  exact (List.dropLast_concat_getLast hne).symm
/-- No opener's base is above the top's. -/
theorem VJ.below (h : VJ n v) : ∀ o ∈ v.opens, o.base.size ≤ v.top.base.size := by
  intro o ho
  have h0 : 0 < v.opens.length := List.length_pos_of_mem ho
  have ha := h.asc
  rw [opens_last h0] at ha ho
  rcases List.mem_append.1 ho with ho | ho
  · exact (List.pairwise_append.1 ha).2.2 o ho _ (by simp)
  · rw [List.mem_singleton.1 ho]; exact Nat.le_refl _
theorem above_sz (v : VwD) : v.above.size = v.shape.size - v.top.base.size := by unfold VwD.above; simp
theorem pops_all (h : popsV v s = .ok v1) (hj : VJ n v) : VJ n v1 ∧ v1.opens = v.opens ∧ v1.floors = v.floors ∧ v1.shapes = v.shapes ∧ v1.dead = v.dead ∧ v1.shape.size + s.size = v.shape.size := by
  obtain ⟨rfl, h2⟩ := pops_ok h
  rw [above_sz] at h2
  have h3 := hj.le
  have h4 := hj.sz
  have e : (v.shape.extract 0 (v.shape.size - s.size)).size = v.shape.size - s.size := by simp
  refine ⟨hj.same rfl ?_ ?_, rfl, rfl, rfl, rfl, ?_⟩
  · show _ ≤ (v.shape.extract 0 (v.shape.size - s.size)).size; omega
  · show (v.shape.extract 0 (v.shape.size - s.size)).size ≤ _; omega
  · show (v.shape.extract 0 (v.shape.size - s.size)).size + _ = _; omega
theorem pushes_all (h : pushesV v s = .ok v1) (hj : VJ n v) : VJ n v1 ∧ v1.opens = v.opens ∧ v1.floors = v.floors ∧ v1.shapes = v.shapes ∧ v1.dead = v.dead ∧ v1.shape.size = v.shape.size + s.size := by
  obtain ⟨rfl, h2⟩ := pushes_ok h
  have h3 := hj.le
  have e : (v.shape ++ s).size = v.shape.size + s.size := ByteArray.size_append
  refine ⟨hj.same rfl ?_ ?_, rfl, rfl, rfl, rfl, e⟩
  · show _ ≤ (v.shape ++ s).size; omega
  · show (v.shape ++ s).size ≤ _; omega
/-- What a row keeps. -/
structure RK (n : Nat) (v v1 : VwD) (d : Int) : Prop where
  j : VJ n v1
  fl : v1.floors.length = v.floors.length
  sh : v1.shapes = v.shapes
  op : (v1.opens.length : Int) = v.opens.length + d
theorem andV_ok {α β : Type} {r : Except Int α} {k : α → Except Int β} {y : β} (h : andV r k = .ok y) : ∃ a, r = .ok a ∧ k a = .ok y := by
  unfold andV at h
  split at h
  · exact absurd h (by simp)
  · exact ⟨_, rfl, h⟩
theorem pp_all (hj : VJ n v) (h : andV (popsV v s) (fun v1 => pushesV v1 t) = .ok v2) : RK n v v2 0 := by
  obtain ⟨v1, h1, h2⟩ := andV_ok h
  obtain ⟨j1, o1, f1, s1, -⟩ := pops_all h1 hj
  obtain ⟨j2, o2, f2, s2, -⟩ := pushes_all h2 j1
  exact ⟨j2, by rw [f2, f1], by rw [s2, s1], by rw [o2, o1]; omega⟩
/-- The signatures a context knows are short. -/
def SzC (c : VcD) : Prop := ∀ t, (sigAt c.types t).1.size ≤ 8 ∧ (sigAt c.types t).2.size ≤ 8
theorem opens_rk (hj : VJ n v) (hc : SzC c) (hpc : pc < n) (h : opensV c v pc x = .ok v2) : RK n v v2 1 := by
  unfold opensV at h
  obtain ⟨t, -, h⟩ := andV_ok h
  obtain ⟨v1, h1, h⟩ := andV_ok h
  obtain ⟨v3, h3, h⟩ := andV_ok h
  simp only [Except.ok.injEq] at h
  subst h
  obtain ⟨j1, o1, f1, s1, -⟩ := pops_all h1 hj
  obtain ⟨j2, o2, f2, s2, -, z2⟩ := pushes_all h3 j1
  obtain ⟨c1, c2⟩ := hc t
  refine ⟨⟨?_, ?_, j2.sz, ?_⟩, by simp [f2, f1], by rw [← s1, ← s2], by simp [o2, o1]⟩
  · refine List.pairwise_append.2 ⟨j2.asc, by simp, fun a ha b hb => ?_⟩
    rw [List.mem_singleton.1 hb]
    rw [o2] at ha
    exact Nat.le_trans (j1.below a ha) j1.le
  · simp only [VwD.top, List.getLastD_concat]
    omega
  · intro o ho
    rcases List.mem_append.1 ho with ho | ho
    · exact j2.ops o ho
    · rw [List.mem_singleton.1 ho]
      have := j2.sz
      exact ⟨c1, c2, by show v1.shape.size + (sigAt c.types t).1.size ≤ 256; omega, fun _ => ⟨by show (0 : Int) ≤ (pc : Int); omega, by show (pc : Int) < n; omega⟩⟩
theorem just_ok {o : OpD} (h : justV v o s = .ok v1) : v1 = setS v (o.base ++ s) ∧ (v.dead = false → v.shape = o.base ++ s) := by
  unfold justV at h
  by_cases h1 : (if v.dead then o.base ++ s else v.shape) = o.base ++ s
  · rw [if_pos h1] at h
    simp only [Except.ok.injEq] at h
    refine ⟨h.symm, fun hd => ?_⟩
    rw [hd] at h1
    exact h1
  · rw [if_neg h1] at h
    exact absurd h (by simp)
theorem ends_rk (hj : VJ n v) (hne : 0 < v.opens.length) (hd : v.dead = true → v.shape = v.top.base ++ v.top.res) (h : endsV c v x = .ok v2) : RK n v v2 (if x.op = 5 then 0 else -1) := by
  unfold endsV at h
  obtain ⟨v1, h1, h⟩ := andV_ok h
  obtain ⟨rfl, h2⟩ := just_ok h1
  have hs : v.shape = v.top.base ++ v.top.res := by
    cases hx : v.dead with
    | true => exact hd hx
    | false => exact h2 hx
  have ok := hj.ops _ (top_mem hne)
  have hz := hj.sz
  rw [hs, ByteArray.size_append] at hz
  split at h
  · rename_i h5
    simp only [Except.ok.injEq] at h
    subst h
    rw [if_pos h5]
    have e : (v.top.base ++ v.top.par).size = v.top.base.size + v.top.par.size := ByteArray.size_append
    refine ⟨hj.same rfl ?_ ?_, rfl, rfl, by show (v.opens.length : Int) = _; omega⟩
    · show _ ≤ (v.top.base ++ v.top.par).size; omega
    · show (v.top.base ++ v.top.par).size ≤ _; have := ok.base; omega
  · rename_i h5
    rw [if_neg h5]
    split at h
    · exact absurd h (by simp)
    · simp only [Except.ok.injEq] at h
      subst h
      have e : (v.top.base ++ v.top.res).size = v.top.base.size + v.top.res.size := ByteArray.size_append
      refine ⟨⟨?_, ?_, ?_, ?_⟩, rfl, rfl, ?_⟩
      · show v.opens.dropLast.Pairwise _
        exact hj.asc.sublist (List.dropLast_sublist _)
      · show (v.opens.dropLast.getLastD opZ).base.size ≤ (v.top.base ++ v.top.res).size
        cases hl : v.opens.dropLast with
        | nil => show 0 ≤ _; omega
        | cons a l =>
          have hm : (a :: l).getLastD opZ ∈ v.opens := by
            rw [List.getLastD_cons]
            refine (List.dropLast_sublist v.opens).subset ?_
            rw [hl]
            cases l with
            | nil => simp
            | cons b l => rw [List.getLastD_eq_getLast?, List.getLast?_eq_some_getLast (by simp)]; exact List.mem_cons_of_mem _ (List.getLast_mem _)
          have := hj.below _ hm
          omega
      · show (v.top.base ++ v.top.res).size ≤ 256; omega
      · intro o ho
        exact hj.ops o ((List.dropLast_sublist v.opens).subset ho)
      · show (v.opens.dropLast.length : Int) = _
        rw [List.length_dropLast]; omega
theorem dead_rk (h : RK n v v1 0) : RK n v { v1 with dead := true } 0 := ⟨h.j.same rfl h.j.le h.j.sz, h.fl, h.sh, h.op⟩
theorem pops_rk (hj : VJ n v) (h : popsV v s = .ok v1) : RK n v v1 0 := by
  obtain ⟨j1, o1, f1, s1, -⟩ := pops_all h hj
  exact ⟨j1, by rw [f1], s1, by rw [o1]; omega⟩
theorem branches_rk (hj : VJ n v) (h : branchesV c v x = .ok v2) : RK n v v2 0 := by
  unfold branchesV at h
  split at h
  · obtain ⟨o, -, h⟩ := andV_ok h
    obtain ⟨v1, h1, h⟩ := andV_ok h
    simp only [Except.ok.injEq] at h
    subst h
    exact dead_rk (pops_rk hj h1)
  split at h
  · obtain ⟨o, -, h⟩ := andV_ok h
    obtain ⟨v1, h1, h⟩ := andV_ok h
    simp only [Except.ok.injEq] at h
    subst h
    obtain ⟨j1, o1, f1, s1, -, z1⟩ := pops_all h1 hj
    have e : (v1.shape ++ o.brings).size = v1.shape.size + o.brings.size := ByteArray.size_append
    have e2 : (o.brings ++ tWw).size = o.brings.size + 1 := ByteArray.size_append
    have := j1.le
    have := hj.sz
    refine ⟨j1.same rfl ?_ ?_, by rw [f1], s1, by show (v1.opens.length : Int) = _; rw [o1]; omega⟩
    · show _ ≤ (v1.shape ++ o.brings).size; omega
    · show (v1.shape ++ o.brings).size ≤ _; omega
  split at h
  · obtain ⟨_, -, h⟩ := andV_ok h
    obtain ⟨o, -, h⟩ := andV_ok h
    obtain ⟨_, -, h⟩ := andV_ok h
    obtain ⟨v1, h1, h⟩ := andV_ok h
    simp only [Except.ok.injEq] at h
    subst h
    exact dead_rk (pops_rk hj h1)
  split at h
  · obtain ⟨v1, h1, h⟩ := andV_ok h
    simp only [Except.ok.injEq] at h
    subst h
    exact dead_rk (pops_rk hj h1)
  · simp only [Except.ok.injEq] at h
    subst h
    exact dead_rk ⟨hj, rfl, rfl, by omega⟩
theorem calls_rk (hj : VJ n v) (h : callsV c v x = .ok v2) : RK n v v2 0 := by
  unfold callsV at h
  obtain ⟨t, -, h⟩ := andV_ok h
  exact pp_all hj h
theorem picks_rk (hj : VJ n v) (h : picksV v x = .ok v2) : RK n v v2 0 := by
  unfold picksV at h
  split at h
  · split at h
    · exact absurd h (by simp)
    · rename_i hz
      simp only [Except.ok.injEq] at h
      subst h
      rw [above_sz] at hz
      have := hj.sz
      have e : (v.shape.extract 0 (v.shape.size - 1)).size = v.shape.size - 1 := by simp
      exact ⟨hj.same rfl (by show _ ≤ (v.shape.extract 0 (v.shape.size - 1)).size; omega) (by show (v.shape.extract 0 (v.shape.size - 1)).size ≤ _; omega), rfl, rfl, by show (v.opens.length : Int) = _; omega⟩
  · split at h
    · exact absurd h (by simp)
    · exact pp_all hj h
theorem names_rk (hj : VJ n v) (h : namesV c v x = .ok v2) : RK n v v2 0 := by
  unfold namesV at h
  obtain ⟨s, -, h⟩ := andV_ok h
  obtain ⟨v1, h1, h⟩ := andV_ok h
  have k1 : RK n v v1 0 := by
    split at h1
    · exact pops_rk hj h1
    · simp only [Except.ok.injEq] at h1
      subst h1; exact ⟨hj, rfl, rfl, by omega⟩
  split at h
  · obtain ⟨j2, o2, f2, s2, -⟩ := pushes_all h k1.j
    exact ⟨j2, by rw [f2, k1.fl], by rw [s2, k1.sh], by rw [o2, k1.op]⟩
  · simp only [Except.ok.injEq] at h
    subst h; exact k1
/-- The openers' change by an opcode. -/
def dOp (op : Nat) : Int := if op = 2 ∨ op = 3 ∨ op = 4 then 1 else if op = 6 then -1 else 0
theorem row_rk (hj : VJ n v) (hc : SzC c) (hpc : pc < n) (hne : 0 < v.opens.length) (hd : v.dead = true → v.shape = v.top.base ++ v.top.res) (h : rowV c v pc x = .ok v2) : RK n v v2 (dOp x.op) := by
  unfold rowV at h
  unfold dOp
  split at h
  · rename_i h1; rw [if_pos h1]; exact opens_rk hj hc hpc h
  rename_i h1; rw [if_neg h1]
  split at h
  · rename_i h2
    have := ends_rk hj hne hd h
    rcases h2 with h2 | h2
    · rw [if_neg (by omega)]; rw [if_pos h2] at this; exact this
    · rw [if_pos h2]; rw [if_neg (by omega)] at this; exact this
  rename_i h2
  rw [if_neg (by omega)]
  split at h
  · exact branches_rk hj h
  split at h
  · exact calls_rk hj h
  split at h
  · exact picks_rk hj h
  split at h
  · exact names_rk hj h
  · exact pp_all hj h
/-- Ahead of a row. -/
theorem ahead_ok (hj : VJ n v) (h : aheadV v x = .ok v1) : VJ n v1 ∧ v1.opens = v.opens ∧ v1.floors = v.floors ++ [-1] ∧ v1.dead = v.dead ∧ (v1.dead = true → v1.shape = v1.top.base ++ v1.top.res) ∧ v1.shapes = v.shapes ++ [v1.shape] := by
  unfold aheadV at h
  split at h
  · exact absurd h (by simp)
  obtain ⟨v0, h0, h⟩ := andV_ok h
  simp only [Except.ok.injEq] at h
  subst h
  split at h0
  · rename_i hd
    split at h0
    · rename_i hz
      simp only [Except.ok.injEq] at h0
      subst h0
      have e : (v.top.base ++ v.top.res).size = v.top.base.size + v.top.res.size := ByteArray.size_append
      exact ⟨hj.same rfl (by show _ ≤ (v.top.base ++ v.top.res).size; omega) hz, rfl, rfl, rfl, fun _ => rfl, rfl⟩
    · exact absurd h0 (by simp)
  · rename_i hd
    simp only [Except.ok.injEq] at h0
    subst h0
    exact ⟨hj.same rfl hj.le hj.sz, rfl, rfl, rfl, fun h => absurd h hd, rfl⟩
/-- How the validator's walk and the control's go side by side, at a place. -/
structure VI (ops : List Nat) (v : VwD) (pc : Nat) (ms : Ms) : Prop where
  j : VJ ops.length v
  len : v.opens.length = ms.open_.length + 1
  fl : v.floors.length = pc
  sh : v.shapes.length = pc
  ol : v.opens.length ≤ pc + 1
theorem VI.next {ops : List Nat} {ms ms' : Ms} (h : VI ops v pc ms) (hc : SzC c) (hpc : pc < ops.length) (hop : ops.getD pc 0 = x.op) (hs : stepM ops pc ms = (0, ms', false)) (h1 : aheadV v x = .ok v1) (h2 : rowV c v1 pc x = .ok v2) : VI ops v2 (pc + 1) ms' := by
  obtain ⟨j1, o1, f1, -, d1, s1⟩ := ahead_ok h.j h1
  have k := row_rk j1 hc hpc (by rw [o1, h.len]; omega) d1 h2
  have hol : v2.opens.length ≤ pc + 1 + 1 := by
    have k3 := k.op
    have := h.ol
    rw [o1] at k3
    unfold dOp at k3
    split at k3
    · omega
    · split at k3 <;> omega
  refine ⟨k.j, ?_, by rw [k.fl, f1]; simp [h.fl], by rw [k.sh, s1]; simp [h.sh], hol⟩
  have k3 := k.op
  rw [o1, h.len] at k3
  unfold dOp at k3
  rw [← hop] at k3
  by_cases c1 : opensP (ops.getD pc 0)
  · have c1' := c1
    unfold opensP at c1'
    rw [if_pos c1'] at k3
    by_cases hl : ms.open_.length = 32
    · rw [step_deep c1 hl] at hs; simp at hs
    · rw [step_open c1 hl] at hs
      simp only [Prod.mk.injEq, and_true, true_and] at hs
      rw [← hs]; simp; omega
  · have c1' := c1
    unfold opensP at c1'
    rw [if_neg c1'] at k3
    by_cases c5 : ops.getD pc 0 = 5
    · rw [if_neg (by omega)] at k3
      by_cases hl : ms.top < 0 ∨ ops.getD ms.top.toNat 0 ≠ 4 ∨ 0 ≤ ms.elses.getD ms.top.toNat 0
      · rw [step_noelse c5 hl] at hs; simp at hs
      · rw [step_else c5 hl] at hs
        simp only [Prod.mk.injEq, and_true, true_and] at hs
        rw [← hs]; simp; omega
    · by_cases c6 : ops.getD pc 0 = 6
      · rw [if_pos c6] at k3
        by_cases ht : ms.top < 0
        · rw [step_last c6 ht] at hs; simp at hs
        · have := drop_len ht
          by_cases he : 0 ≤ ms.elses.getD ms.top.toNat 0
          · rw [step_end2 c6 ht he] at hs
            simp only [Prod.mk.injEq, and_true, true_and] at hs
            rw [← hs]
            show v2.opens.length = ms.open_.dropLast.length + 1
            omega
          · rw [step_end c6 ht he] at hs
            simp only [Prod.mk.injEq, and_true, true_and] at hs
            rw [← hs]
            show v2.opens.length = ms.open_.dropLast.length + 1
            omega
      · rw [if_neg c6] at k3
        rw [step_other c1 c5 c6] at hs
        simp only [Prod.mk.injEq, and_true, true_and] at hs
        rw [← hs]; simp; omega
/-- The control's walk goes on well from here. -/
def GoOk (ops : List Nat) (pc : Nat) (ms : Ms) : Prop := ∃ s' q, goM ops (ops.length - pc) pc ms = (s', 0, q)
theorem GoOk.step {ops : List Nat} {ms : Ms} (h : GoOk ops pc ms) (hpc : pc < ops.length) : ∃ ms1, (stepM ops pc ms = (0, ms1, false) ∧ GoOk ops (pc + 1) ms1) ∨ (stepM ops pc ms = (0, ms1, true) ∧ pc + 1 = ops.length) := by
  obtain ⟨s', q, h⟩ := h
  obtain ⟨e, ms1, b, hs⟩ : ∃ e ms1 b, stepM ops pc ms = (e, ms1, b) := ⟨_, _, _, rfl⟩
  by_cases he : e = 0
  · subst he
    refine ⟨ms1, ?_⟩
    cases b with
    | false => exact .inl ⟨hs, s', q, (goM_next hpc hs).symm.trans h⟩
    | true =>
      by_cases hr : pc + 1 < ops.length
      · rw [goM_rest hpc hs hr] at h; simp at h
      · exact .inr ⟨hs, by omega⟩
  · rw [goM_err hpc hs he] at h
    simp only [Prod.mk.injEq] at h
    exact absurd h.2.1 he
/-- How the walk stands at a place: there is nothing to say at the end. -/
def VL (ops : List Nat) (v : VwD) (pc : Nat) : Prop := pc < ops.length → ∃ ms, GoOk ops pc ms ∧ VI ops v pc ms
theorem VL.next {ops : List Nat} (h : VL ops v pc) (hc : SzC c) (hpc : pc < ops.length) (hop : ops.getD pc 0 = x.op) (h1 : aheadV v x = .ok v1) (h2 : rowV c v1 pc x = .ok v2) : VL ops v2 (pc + 1) := by
  intro hlt
  obtain ⟨ms, hg, hi⟩ := h hpc
  obtain ⟨ms1, h3 | h3⟩ := hg.step hpc
  · exact ⟨ms1, h3.2, hi.next hc hpc hop h3.1 h1 h2⟩
  · omega
/-- What a row may rest on. -/
structure VR (n : Nat) (v : VwD) (pc : Nat) : Prop where
  j : VJ n v
  ne : 0 < v.opens.length
  fl : v.floors.length = pc + 1
  sh : v.shapes.length = pc + 1
  ol : v.opens.length ≤ pc + 1
theorem VL.row {ops : List Nat} (h : VL ops v pc) (hpc : pc < ops.length) (h1 : aheadV v x = .ok v1) : VR ops.length v1 pc := by
  obtain ⟨ms, hg, hi⟩ := h hpc
  obtain ⟨j1, o1, f1, -, -, s1⟩ := ahead_ok hi.j h1
  exact ⟨j1, by rw [o1, hi.len]; omega, by rw [f1]; simp [hi.fl], by rw [s1]; simp [hi.sh], by rw [o1]; exact hi.ol⟩
theorem VL.start {ops : List Nat} {r : ByteArray} (hr : r.size ≤ 8) (h : (mapP ops).2.2.2.1 = 0) : VL ops (startV r) 0 := by
  intro _
  refine ⟨startM ops.length, ?_, ⟨⟨by simp [startV], by simp [startV, VwD.top, tE], show (⟨#[]⟩ : ByteArray).size ≤ 256 by decide, ?_⟩, by simp [startV, startM], rfl, rfl, by simp [startV]⟩⟩
  · obtain ⟨s', e, q, hg⟩ : ∃ s' e q, goM ops ops.length 0 (startM ops.length) = (s', e, q) := ⟨_, _, _, rfl⟩
    by_cases he : e = 0
    · subst he; exact ⟨s', q, hg⟩
    · rw [mapP_err hg he] at h; exact absurd h he
  · intro o ho
    simp only [startV, List.mem_singleton] at ho
    subst ho
    exact ⟨show (⟨#[]⟩ : ByteArray).size ≤ 8 by decide, hr, show (⟨#[]⟩ : ByteArray).size + (⟨#[]⟩ : ByteArray).size ≤ 256 by decide, fun h => absurd h (show ¬ (0 : Nat) = 4 by decide)⟩
theorem MOk.szc {m : ModD} (h : MOk m) (hc : c.types = m.types) : SzC c := by
  intro t
  rw [hc]
  unfold sigAt
  rw [List.getD_eq_getElem?_getD]
  cases hq : m.types[t.toNat]? with
  | none => exact ⟨show (⟨#[]⟩ : ByteArray).size ≤ 8 by decide, show (⟨#[]⟩ : ByteArray).size ≤ 8 by decide⟩
  | some y => exact h.sz _ (List.mem_of_getElem? hq)
end
end Go.Proofs.YtfhkjahjenpbgaaDoor
namespace Go.Proofs.YtfhkjahjenpbgaaDoor
open Go Go.RowKit

section
variable {k : Wc} {w w' w1 : World} {v v1 : VwD} {pc : Int} {q : Wq} {b : Nat}
/-- The innermost opener goes. -/
theorem Wv.pop {g n cap : Nat} (h : Wv k w v pc q) (hn : v.opens.length = n + 1) (e : q.ov = .slice (some ⟨g, 0, none⟩) (n + 1) cap) :
    Wv k (w.setCell ⟨k.p, 17, none⟩ (.slice (some ⟨g, 0, none⟩) n cap)) { v with opens := v.opens.dropLast } pc { q with ov := .slice (some ⟨g, 0, none⟩) n cap, ps := q.ps.dropLast } ∧ Kn k w (w.setCell ⟨k.p, 17, none⟩ (.slice (some ⟨g, 0, none⟩) n cap)) := by
  have hk := (Keeps.refl (fun b => b ≠ k.p) w).setCell (a := ⟨k.p, 17, none⟩) (by simp) (.slice (some ⟨g, 0, none⟩) n cap)
  have hlo := h.lo
  have hps := h.psl
  have hf := h.fam.keeps hk fun b hb _ => by omega
  refine ⟨⟨row_setCell h.row 17 _, ?_, h.lo, Nat.le_trans h.hi hk.size, by show q.ps.dropLast.length = v.opens.dropLast.length; rw [List.length_dropLast, List.length_dropLast, hps], fun i hi => ?_, h.rd.keeps hk fun b hb => by omega, fun b hx => ⟨Nat.lt_of_lt_of_le (h.al b hx).1 hk.size, (h.al b hx).2.1, (h.al b hx).2.2.1, by have := (h.al b hx).2.2.2; rw [e] at this; exact this⟩⟩, hk⟩
  · have ho : Ent.own k.B (w.setCell ⟨k.p, 17, none⟩ (.slice (some ⟨g, 0, none⟩) n cap)) (opE { q with ov := .slice (some ⟨g, 0, none⟩) n cap, ps := q.ps.dropLast } { v with opens := v.opens.dropLast }) := by
      have h1 : (w.setCell ⟨k.p, 17, none⟩ (.slice (some ⟨g, 0, none⟩) n cap)).ownsRow k.B 91 1 q.ov v.opens.length (q.ps.map ptrV) := hf.own (opE q v) (by simp [Wq.ents])
      rw [e, hn] at h1
      have h2 := own_cut h1 n (by omega)
      show (w.setCell ⟨k.p, 17, none⟩ (.slice (some ⟨g, 0, none⟩) n cap)).ownsRow k.B 91 1 (.slice (some ⟨g, 0, none⟩) n cap) v.opens.dropLast.length (q.ps.dropLast.map ptrV)
      rw [List.length_dropLast, hn, Nat.add_sub_cancel, List.dropLast_eq_take, hps, hn, Nat.add_sub_cancel, List.map_take]
      rw [Nat.mul_one] at h2
      exact h2
    exact Fam.set (a := [shE q v, flE q v]) (e := opE q v) (c := []) hf (Keeps.refl (fun _ => True) _) (fun _ _ _ _ => trivial) ho fun g' hg' => .inl (by
      show q.ov.ownBlock = some g'
      rw [e]; exact hg')
  · have hi' : i < v.opens.dropLast.length := hi
    have hi2 : i < v.opens.length := by rw [List.length_dropLast] at hi'; omega
    obtain ⟨b, h1, h2⟩ := h.ops i hi2
    refine ⟨b, ?_, ?_⟩
    · show q.ps.dropLast[i]? = some b
      rw [List.dropLast_eq_take, List.getElem?_take, if_pos (by rw [List.length_dropLast] at hi'; omega)]
      exact h1
    · have := row_ne h2 h.row (by decide)
      rw [hk.block b (row_lt h2) this, h2]
      show some (Obj.cells (opC v.opens[i]) _ _) = some (Obj.cells (opC v.opens.dropLast[i]) _ _)
      rw [List.getElem_dropLast]
/-- What the end of an if looks up. -/
theorem Wr.els_at (h : Wr k w) {n : Nat} (hn : n < k.elses.length) : ∃ b o cap, k.lv = .slice (some ⟨b, o, none⟩) k.elses.length cap ∧ w.cell? ⟨b, o + n, none⟩ = some (.int .i64 (k.elses.getD n 0)) ∧ k.elses.length ≤ cap ∧ k.elses.length ≤ 140737488355328 := by
  obtain ⟨a, cap, e1, c1, l1, p1⟩ := h.els
  obtain ⟨b, o, rfl, _, hc⟩ := p1 n hn
  refine ⟨b, o, cap, e1, ?_, c1, l1⟩
  rw [List.getD_eq_getElem?_getD, List.getElem?_eq_getElem hn]
  exact hc
theorem ends_bad {c : VcD} {x : InsD} {e : Int} (h : justV v v.top v.top.res = .error e) : endsV c v x = .error e := by unfold endsV; rw [h]; rfl
theorem ends_5 {c : VcD} {a : Int} {l : List Int} {o : OpD} (ho : v.top = o) (h : justV v o o.res = .ok v1) : endsV c v ⟨5, a, l⟩ = .ok { v1 with dead := false, shape := o.base ++ o.par } := by subst ho; unfold endsV; rw [h]; rfl
theorem ends_37 {c : VcD} {a : Int} {l : List Int} {o : OpD} (ho : v.top = o) (h : justV v o o.res = .ok v1) (h2 : o.op = 4 ∧ c.elses.getD o.pc.toNat 0 < 0 ∧ o.par ≠ o.res) : endsV c v ⟨6, a, l⟩ = .error 37 := by
  subst ho; unfold endsV; rw [h]
  simp only [andV]
  rw [if_neg (show ¬ (6 : Nat) = 5 by decide), if_pos h2]
theorem ends_6 {c : VcD} {a : Int} {l : List Int} {o : OpD} (ho : v.top = o) (h : justV v o o.res = .ok v1) (h2 : ¬ (o.op = 4 ∧ c.elses.getD o.pc.toNat 0 < 0 ∧ o.par ≠ o.res)) : endsV c v ⟨6, a, l⟩ = .ok { v1 with dead := false, opens := v1.opens.dropLast } := by
  subst ho; unfold endsV; rw [h]
  simp only [andV]
  rw [if_neg (show ¬ (6 : Nat) = 5 by decide), if_neg h2]
set_option maxRecDepth 100000 in
set_option maxHeartbeats 3200000 in
theorem val_else (h : Wv k w v pc q) (hne : 0 < v.opens.length) (hob : v.top.base.size + v.top.par.size ≤ 256 ∧ v.top.res.size ≤ 8) (a : Int) (l : List Int) (vl : Value) :
    Calls Tryd.prog 50 #[.pointer (some ⟨k.p, 0, none⟩), .agg #[.int .u8 5, .int .i64 a, vl]] w fun r w' => WE k w pc (.tuple #[]) (endsV k.ctx v ⟨5, a, l⟩) r w' := by
  have hb := below_alloc w (.cells #[.int .u8 5, .int .i64 a, vl] 68)
  have hnw := heap_alloc_new w (.cells #[.int .u8 5, .int .i64 a, vl] 68)
  have HW := Lib.hid (h.on hb)
  have HK := Lib.hid (Kw.on (k := k) hb)
  have hgp : w.heap.size ≠ k.p := by have := row_lt h.row; omega
  obtain ⟨b, ht, hrow, -⟩ := HW.out.topAt hne
  obtain ⟨o, hto⟩ : ∃ o, v.top = o := ⟨_, rfl⟩
  rw [hto] at hrow hob
  have hbp : b ≠ k.p := row_ne hrow HW.out.row (by decide)
  have HTO := Lib.hid hto
  have HT := Lib.hid (show Calls Tryd.prog 34 #[.pointer (some ⟨k.p, 0, none⟩)] (w.alloc (.cells #[.int .u8 5, .int .i64 a, vl] 68)) _ from val_topQ hne ht)
  clear h hb ht hto
  go_enter Tryd.func50, Tryd.ntmps50
  go_wp2_with fail
  generalize w.alloc (.cells #[.int .u8 5, .int .i64 a, vl] 68) = w1 at *
  generalize w.heap.size = g at *
  refine HT.out.mono ?_
  rintro e w2 ⟨rfl, m, rfl⟩
  have hq : Below w1.heap.size w1 (w1.drewN m) := bel_drewV (Below.refl _ _) m
  have HW2 := Lib.hid (HW.out.on hq)
  have HK2 := Lib.hid (HK.out.trans (Kn.on (k := k) hq))
  have HN2 : Hid ((w1.drewN m).heap[g]? = _) := Lib.hid hnw
  have HB2 : Hid ((w1.drewN m).heap[b]? = _) := Lib.hid hrow
  clear HW HK hnw hrow hq HT
  generalize w1.drewN m = w2 at *
  have y1 : w2.cell? ⟨b, 1, none⟩ = some (.string o.res) := row_cell HB2.out 1 rfl
  go_wp2_with (first
    | ((go_at_call 63; refine (val_just HW2.out o HB2.out o.res (by omega) (by omega)).mono ?_)
       rintro e w3 (⟨v1, q1, h1, rfl, h2, h3⟩ | ⟨z, h1, rfl, h2, h3⟩)
       rotate_left
       · exact ⟨rfl, .inr ⟨z, ends_bad (by rw [HTO.out]; exact h1), rfl, h2, HK2.out.trans h3⟩⟩
       have f19 := h2.free 19
       have y19 := h2.cell 19 rfl
       obtain ⟨hP, hK⟩ := h2.put (v' := { v1 with dead := false }) (q' := q1) (pc' := pc) 19 (.bool false) rfl rfl rfl rfl
       have HJ := Lib.hid h1
       have HW3 := Lib.hid hP
       have HK3 := Lib.hid ((HK2.out.trans h3).trans hK)
       have HB3 := Lib.hid ((hK.block b (Nat.lt_of_lt_of_le (row_lt HB2.out) h3.size) hbp).trans ((h3.block b (row_lt HB2.out) hbp).trans HB2.out))
       have hgx := (hK.block g (Nat.lt_of_lt_of_le (row_lt HN2.out) h3.size) hgp).trans ((h3.block g (row_lt HN2.out) hgp).trans HN2.out)
       have x0 := row_cell hgx 0 rfl
       simp only [List.getElem_toArray, List.getElem_cons_zero] at x0
       have y0 : (w3.setCell ⟨k.p, 19, none⟩ (.bool false)).cell? ⟨b, 0, none⟩ = some (.string o.par) := row_cell HB3.out 0 rfl
       have y4 : (w3.setCell ⟨k.p, 19, none⟩ (.bool false)).cell? ⟨b, 4, none⟩ = some (.string o.base) := row_cell HB3.out 4 rfl
       have hcat : ¬ 9223372036854775807 < o.base.size + o.par.size := by omega
       clear h1 h2 h3 hP hK y1 HN2 HB2 HW2 HK2 hgx))
  generalize w3.setCell ⟨k.p, 19, none⟩ (.bool false) = w4 at *
  go_still_tail 13, (by kernel_rfl)
  change wpList _ _ _ _ _ w4.drew
  have P := HW3.out.drew
  have HW4 := Lib.hid P.1
  have HK4 := Lib.hid (HK3.out.trans P.2)
  have f18 : w4.drew.frozen? ⟨k.p, 18, none⟩ = false := HW4.out.free 18
  have y18 : w4.drew.cell? ⟨k.p, 18, none⟩ = some (.string v1.shape) := HW4.out.cell 18 rfl
  clear HW3 HK3 HB3 P y0 y4 x0 f19 y19
  generalize w4.drew = w5 at *
  go_wp2
  obtain ⟨hP, hK⟩ := HW4.out.put (v' := { v1 with dead := false, shape := o.base ++ o.par }) (q' := q1) (pc' := pc) 18 (.string (o.base ++ o.par)) rfl rfl rfl rfl
  exact bodyPost_ret (results_none rfl _ _ _) rfl (.inl ⟨_, q1, ends_5 HTO.out HJ.out, rfl, hP, HK4.out.trans hK⟩)
set_option maxRecDepth 100000 in
set_option maxHeartbeats 6400000 in
theorem val_end (h : Wv k w v pc q) (hne : 0 < v.opens.length) (hob : v.top.base.size + v.top.par.size ≤ 256 ∧ v.top.res.size ≤ 8) (hpc : v.top.op = 4 → 0 ≤ v.top.pc ∧ v.top.pc < k.elses.length) (a : Int) (l : List Int) (vl : Value) :
    Calls Tryd.prog 50 #[.pointer (some ⟨k.p, 0, none⟩), .agg #[.int .u8 6, .int .i64 a, vl]] w fun r w' => WE k w pc (.tuple #[]) (endsV k.ctx v ⟨6, a, l⟩) r w' := by
  have hb := below_alloc w (.cells #[.int .u8 6, .int .i64 a, vl] 68)
  have hnw := heap_alloc_new w (.cells #[.int .u8 6, .int .i64 a, vl] 68)
  have HW := Lib.hid (h.on hb)
  have HK := Lib.hid (Kw.on (k := k) hb)
  have hgp : w.heap.size ≠ k.p := by have := row_lt h.row; omega
  obtain ⟨b, ht, hrow, -⟩ := HW.out.topAt hne
  obtain ⟨o, hto⟩ : ∃ o, v.top = o := ⟨_, rfl⟩
  rw [hto] at hrow hob hpc
  have hbp : b ≠ k.p := row_ne hrow HW.out.row (by decide)
  have HTO := Lib.hid hto
  have HT := Lib.hid (show Calls Tryd.prog 34 #[.pointer (some ⟨k.p, 0, none⟩)] (w.alloc (.cells #[.int .u8 6, .int .i64 a, vl] 68)) _ from val_topQ hne ht)
  clear h hb ht hto
  go_enter Tryd.func50, Tryd.ntmps50
  go_wp2_with fail
  generalize w.alloc (.cells #[.int .u8 6, .int .i64 a, vl] 68) = w1 at *
  generalize w.heap.size = g at *
  refine HT.out.mono ?_
  rintro e w2 ⟨rfl, m, rfl⟩
  have hq : Below w1.heap.size w1 (w1.drewN m) := bel_drewV (Below.refl _ _) m
  have HW2 := Lib.hid (HW.out.on hq)
  have HK2 := Lib.hid (HK.out.trans (Kn.on (k := k) hq))
  have HN2 : Hid ((w1.drewN m).heap[g]? = _) := Lib.hid hnw
  have HB2 : Hid ((w1.drewN m).heap[b]? = _) := Lib.hid hrow
  clear HW HK hnw hrow hq HT
  generalize w1.drewN m = w2 at *
  have y1 : w2.cell? ⟨b, 1, none⟩ = some (.string o.res) := row_cell HB2.out 1 rfl
  go_wp2_with (first
    | ((go_at_call 63; refine (val_just HW2.out o HB2.out o.res (by omega) (by omega)).mono ?_)
       rintro e w3 (⟨v1, q1, h1, rfl, h2, h3⟩ | ⟨z, h1, rfl, h2, h3⟩)
       rotate_left
       · exact ⟨rfl, .inr ⟨z, ends_bad (by rw [HTO.out]; exact h1), rfl, h2, HK2.out.trans h3⟩⟩
       have f19 := h2.free 19
       have y19 := h2.cell 19 rfl
       obtain ⟨hP, hK⟩ := h2.put (v' := { v1 with dead := false }) (q' := q1) (pc' := pc) 19 (.bool false) rfl rfl rfl rfl
       have HJ := Lib.hid h1
       have HW3 := Lib.hid hP
       have HK3 := Lib.hid ((HK2.out.trans h3).trans hK)
       have HB3 := Lib.hid ((hK.block b (Nat.lt_of_lt_of_le (row_lt HB2.out) h3.size) hbp).trans ((h3.block b (row_lt HB2.out) hbp).trans HB2.out))
       have hgx := (hK.block g (Nat.lt_of_lt_of_le (row_lt HN2.out) h3.size) hgp).trans ((h3.block g (row_lt HN2.out) hgp).trans HN2.out)
       have x0 := row_cell hgx 0 rfl
       simp only [List.getElem_toArray, List.getElem_cons_zero] at x0
       have y0 : (w3.setCell ⟨k.p, 19, none⟩ (.bool false)).cell? ⟨b, 0, none⟩ = some (.string o.par) := row_cell HB3.out 0 rfl
       have y1' : (w3.setCell ⟨k.p, 19, none⟩ (.bool false)).cell? ⟨b, 1, none⟩ = some (.string o.res) := row_cell HB3.out 1 rfl
       have y2 : (w3.setCell ⟨k.p, 19, none⟩ (.bool false)).cell? ⟨b, 2, none⟩ = some (.int .i64 o.pc) := row_cell HB3.out 2 rfl
       have y3 : (w3.setCell ⟨k.p, 19, none⟩ (.bool false)).cell? ⟨b, 3, none⟩ = some (.int .u8 o.op) := row_cell HB3.out 3 rfl
       have hvl : v1.opens.length = v.opens.length := by rw [(just_ok h1).1]; rfl
       clear h1 h2 h3 hP hK y1 HN2 HB2 HW2 HK2 hgx))
  generalize w3.setCell ⟨k.p, 19, none⟩ (.bool false) = w4 at *
  obtain ⟨n, hvn'⟩ : ∃ n, v.opens.length = n + 1 := ⟨v.opens.length - 1, by omega⟩
  have hvn : v1.opens.length = n + 1 := by omega
  have hnj : ((n + 1 : Nat) : Int) - 1 = n := by omega
  clear hvl hvn' x0 f19 y19
  have HW := HW3; have HK := HK3
  clear HW3 HK3
  by_cases h4 : o.op = 4
  · obtain ⟨hp0, hpn⟩ := hpc h4
    have hd4 : ((o.op : Int) == 4) = true := by simp [h4]
    obtain ⟨i, hi⟩ : ∃ i : Nat, o.pc = i := ⟨o.pc.toNat, by omega⟩
    have hie : o.pc.toNat = i := by omega
    have hil : i < k.elses.length := by omega
    obtain ⟨be, oe, ce, hle, cE, hce, hme⟩ := HW.out.rd.els_at hil
    have y14 : w4.cell? ⟨k.p, 14, none⟩ = some k.lv := HW.out.cell 14 rfl
    rw [hle] at y14
    rw [hi] at y2
    obtain ⟨ei, hei⟩ : ∃ e, k.elses.getD i 0 = e := ⟨_, rfl⟩
    rw [hei] at cE
    have HEI : Hid (k.ctx.elses.getD o.pc.toNat 0 = ei) := Lib.hid (by rw [hie]; exact hei)
    clear hle hei hpc hpn hi hp0
    by_cases hneg : ei < 0
    · have hd : decide (ei < 0) = true := decide_eq_true hneg
      go_quiet (fail)
      clear y2 y3 y14 cE
      have hq : Below w4.heap.size w4 (w4.drewN nq) := bel_drewV (Below.refl _ _) nq
      have HWn := Lib.hid (HW.out.on hq)
      have HKn := Lib.hid (HK.out.trans (Kn.on (k := k) hq))
      have y0n : (w4.drewN nq).cell? _ = _ := y0
      have y1'n : (w4.drewN nq).cell? _ = _ := y1'
      clear HW HK hq y0 y1'
      generalize w4.drewN nq = w5 at *
      have HW := HWn; have HK := HKn
      have y0 := y0n
      have y1' := y1'n
      clear HWn HKn y0n y1'n
      go_wp2_with fail
      by_cases hpr : o.par = o.res
      · have he2 : (o.par.toList == o.res.toList) = true := by rw [hpr]; simp
        go_quiet ((go_at_call 33; exact Calls.quiet_of_same (val_must_ok _ _)))
        clear y0 y1'
        have hq : Below w5.heap.size w5 (w5.drewN nq) := bel_drewV (Below.refl _ _) nq
        have HWn := Lib.hid (HW.out.on hq)
        have HKn := Lib.hid (HK.out.trans (Kn.on (k := k) hq))
        clear HW HK hq 
        generalize w5.drewN nq = w6 at *
        have HW := HWn; have HK := HKn
        clear HWn HKn 
        go_wp2_with fail
        obtain ⟨gt, ct, het, hct, hnct⟩ : ∃ g c, q1.ov = .slice (some ⟨g, 0, none⟩) (n + 1) c ∧ n + 1 ≤ c ∧ c ≤ 9223372036854775807 := by
          obtain ⟨_, g, c, e, -, -, h4, h5⟩ := HW.out.open_ (i := 0) (by show 0 < v1.opens.length; omega)
          change _ = Value.slice _ v1.opens.length _ at e
          change v1.opens.length ≤ _ at h4
          rw [hvn] at e h4
          exact ⟨g, c, e, h4, h5⟩
        have y17 : w6.cell? ⟨k.p, 17, none⟩ = some q1.ov := HW.out.cell 17 rfl
        rw [het] at y17
        have HET := Lib.hid het
        clear het hnj
        obtain ⟨m, hm⟩ : ∃ m, n + 1 = m := ⟨_, rfl⟩
        rw [hm] at y17
        have e1 : IntKind.i64.wrap ((m : Int) - 1) = (m : Int) - 1 := IntWalk.i64_in _ (by omega)
        have e2 : ((m : Int) - 1).toNat = n := by omega
        have e3 : (0 : Int) ≤ (m : Int) - 1 := by omega
        have e4 : (m : Int) - 1 ≤ ct := by omega
        have e5 : (1 : Int) ≤ m := by omega
        go_still_tail 14, (by kernel_rfl)
        change wpList _ _ _ _ _ w6.drew
        have P := HW.out.drew
        have HW7 := Lib.hid P.1
        have HK7 := Lib.hid (HK.out.trans P.2)
        have f17 : w6.drew.frozen? ⟨k.p, 17, none⟩ = false := HW7.out.free 17
        have y17' : w6.drew.cell? ⟨k.p, 17, none⟩ = some (.slice (some ⟨gt, 0, none⟩) m ct) := y17
        clear HW HK P y17
        generalize w6.drew = w9 at *
        go_wp2
        obtain ⟨hP, hK⟩ := HW7.out.pop hvn HET.out
        exact bodyPost_end (results_none rfl _ _ _) rfl (.inl ⟨_, _, ends_6 HTO.out HJ.out (fun hh => hh.2.2 hpr), rfl, hP, HK7.out.trans hK⟩)
      · have he2 : (o.par.toList == o.res.toList) = false := by simpa using fun e => hpr (ba_inj5 e)
        refine wp_region_held_drew (S := (fun wx => wx.cell? ⟨b, 0, none⟩ = some (.string o.par) ∧ wx.cell? ⟨b, 1, none⟩ = some (.string o.res))) (by kernel_rfl) ⟨y0, y1'⟩ (fun hHeld => ?_)
        refine takeAt (i := 0) (d := 53) (v := ?_) rfl (by kernel_rfl) (by kernel_rfl) (by kernel_rfl) (by kernel_rfl) (fun _ _ _ h => h) (Or.inl ⟨by kernel_rfl, ?_⟩) (by assumption) ?_
        rotate_left
        · (intro w hSw; (try dsimp only at hSw); go_simp; all_goals (with_reducible rfl))
        (try simp only [Act.put, List.setIfInBounds_toArray, List.set_cons_zero, List.set_cons_succ])
        refine takeAt (i := 1) (d := 54) (v := ?_) rfl (by kernel_rfl) (by kernel_rfl) (by kernel_rfl) (by kernel_rfl) (fun _ _ _ h => h) (Or.inl ⟨by kernel_rfl, ?_⟩) (by assumption) ?_
        rotate_left
        · (intro w hSw; (try dsimp only at hSw); go_simp; all_goals (with_reducible rfl))
        (try simp only [Act.put, List.setIfInBounds_toArray, List.set_cons_zero, List.set_cons_succ])
        refine takeAt (i := 2) (d := 55) (v := ?_) rfl (by kernel_rfl) (by kernel_rfl) (by kernel_rfl) (by kernel_rfl) (fun _ _ _ h => h) (Or.inl ⟨by kernel_rfl, ?_⟩) (by assumption) ?_
        rotate_left
        · (intro w hSw; (try dsimp only at hSw); go_simp; all_goals (with_reducible rfl))
        (try simp only [Act.put, List.setIfInBounds_toArray, List.set_cons_zero, List.set_cons_succ])
        refine takeAt (i := 3) (d := 56) (v := ?_) rfl (by kernel_rfl) (by kernel_rfl) (by kernel_rfl) (by kernel_rfl) (fun _ _ _ h => h) (Or.inl ⟨by kernel_rfl, ?_⟩) (by assumption) ?_
        rotate_left
        · (intro w hSw; (try dsimp only at hSw); go_simp; all_goals (with_reducible rfl))
        (try simp only [Act.put, List.setIfInBounds_toArray, List.set_cons_zero, List.set_cons_succ])
        refine takeAt (i := 4) (d := 57) (v := ?_) rfl (by kernel_rfl) (by kernel_rfl) (by kernel_rfl) (by kernel_rfl) (fun _ _ _ h => h) (Or.inl ⟨by kernel_rfl, ?_⟩) (by assumption) ?_
        rotate_left
        · (intro w hSw; (try dsimp only at hSw); go_simp; all_goals (with_reducible rfl))
        (try simp only [Act.put, List.setIfInBounds_toArray, List.set_cons_zero, List.set_cons_succ])
        refine takeAt (i := 5) (d := 58) (v := ?_) rfl (by kernel_rfl) (by kernel_rfl) (by kernel_rfl) (by kernel_rfl) (fun _ _ _ h => h) (Or.inl ⟨by kernel_rfl, ?_⟩) (by assumption) ?_
        rotate_left
        · (intro w hSw; (try dsimp only at hSw); go_simp; all_goals (with_reducible rfl))
        (try simp only [Act.put, List.setIfInBounds_toArray, List.set_cons_zero, List.set_cons_succ])
        refine takeAt (i := 6) (d := 59) (v := ?_) rfl (by kernel_rfl) (by kernel_rfl) (by kernel_rfl) (by kernel_rfl) (fun _ _ _ h => h) (Or.inl ⟨by kernel_rfl, ?_⟩) (by assumption) ?_
        rotate_left
        · (intro w hSw; (try dsimp only at hSw); go_simp; all_goals (with_reducible rfl))
        (try simp only [Act.put, List.setIfInBounds_toArray, List.set_cons_zero, List.set_cons_succ])
        refine takeAt (i := 7) (d := 60) (v := ?_) rfl (by kernel_rfl) (by kernel_rfl) (by kernel_rfl) (by kernel_rfl) (fun _ _ _ h => h) (Or.inl ⟨by kernel_rfl, ?_⟩) (by assumption) ?_
        rotate_left
        · (intro w hSw; (try dsimp only at hSw); go_simp; all_goals (with_reducible rfl))
        (try simp only [Act.put, List.setIfInBounds_toArray, List.set_cons_zero, List.set_cons_succ])
        refine takeAt (i := 8) (d := 61) (v := ?_) rfl (by kernel_rfl) (by kernel_rfl) (by kernel_rfl) (by kernel_rfl) (fun _ _ _ h => h) (Or.inl ⟨by kernel_rfl, ?_⟩) (by assumption) ?_
        rotate_left
        · (intro w hSw; (try dsimp only at hSw); go_simp; all_goals (with_reducible rfl))
        (try simp only [Act.put, List.setIfInBounds_toArray, List.set_cons_zero, List.set_cons_succ])
        refine takeAt (i := 9) (d := 62) (v := ?_) rfl (by kernel_rfl) (by kernel_rfl) (by kernel_rfl) (by kernel_rfl) (fun _ _ _ h => h) (Or.inl ⟨by kernel_rfl, ?_⟩) (by assumption) ?_
        rotate_left
        · (intro w hSw; (try dsimp only at hSw); go_simp; all_goals (with_reducible rfl))
        (try simp only [Act.put, List.setIfInBounds_toArray, List.set_cons_zero, List.set_cons_succ])
        refine takeAt (i := 10) (d := 63) (v := ?_) rfl (by kernel_rfl) (by kernel_rfl) (by kernel_rfl) (by kernel_rfl) (fun _ _ _ h => h) (Or.inl ⟨by kernel_rfl, ?_⟩) (by assumption) ?_
        rotate_left
        · (intro w hSw; (try dsimp only at hSw); go_simp; all_goals (with_reducible rfl))
        (try simp only [Act.put, List.setIfInBounds_toArray, List.set_cons_zero, List.set_cons_succ])
        refine wpAnyH_ready (rs := [11]) (by kernel_rfl) (by simp) ?_
        refine AllReadyH.cons rfl (fun K hK => ?_) AllReadyH.nil
        go_simp
        refine (val_must_no _ _).mono ?_
        rintro e w7 ⟨rfl, rfl⟩
        exact ⟨rfl, .inr ⟨37, ends_37 HTO.out HJ.out ⟨h4, by rw [HEI.out]; exact hneg, hpr⟩, rfl, HW.out.drew.1.cell 20 rfl, HK.out.trans HW.out.drew.2⟩⟩
    · have hd : decide (ei < 0) = false := decide_eq_false hneg
      go_quiet (fail)
      clear y0 y1' y2 y3 y14 cE
      have hq : Below w4.heap.size w4 (w4.drewN nq) := bel_drewV (Below.refl _ _) nq
      have HWn := Lib.hid (HW.out.on hq)
      have HKn := Lib.hid (HK.out.trans (Kn.on (k := k) hq))
      clear HW HK hq 
      generalize w4.drewN nq = w5 at *
      have HW := HWn; have HK := HKn
      clear HWn HKn 
      go_wp2_with fail
      obtain ⟨gt, ct, het, hct, hnct⟩ : ∃ g c, q1.ov = .slice (some ⟨g, 0, none⟩) (n + 1) c ∧ n + 1 ≤ c ∧ c ≤ 9223372036854775807 := by
        obtain ⟨_, g, c, e, -, -, h4, h5⟩ := HW.out.open_ (i := 0) (by show 0 < v1.opens.length; omega)
        change _ = Value.slice _ v1.opens.length _ at e
        change v1.opens.length ≤ _ at h4
        rw [hvn] at e h4
        exact ⟨g, c, e, h4, h5⟩
      have y17 : w5.cell? ⟨k.p, 17, none⟩ = some q1.ov := HW.out.cell 17 rfl
      rw [het] at y17
      have HET := Lib.hid het
      clear het hnj
      obtain ⟨m, hm⟩ : ∃ m, n + 1 = m := ⟨_, rfl⟩
      rw [hm] at y17
      have e1 : IntKind.i64.wrap ((m : Int) - 1) = (m : Int) - 1 := IntWalk.i64_in _ (by omega)
      have e2 : ((m : Int) - 1).toNat = n := by omega
      have e3 : (0 : Int) ≤ (m : Int) - 1 := by omega
      have e4 : (m : Int) - 1 ≤ ct := by omega
      have e5 : (1 : Int) ≤ m := by omega
      go_still_tail 14, (by kernel_rfl)
      change wpList _ _ _ _ _ w5.drew
      have P := HW.out.drew
      have HW7 := Lib.hid P.1
      have HK7 := Lib.hid (HK.out.trans P.2)
      have f17 : w5.drew.frozen? ⟨k.p, 17, none⟩ = false := HW7.out.free 17
      have y17' : w5.drew.cell? ⟨k.p, 17, none⟩ = some (.slice (some ⟨gt, 0, none⟩) m ct) := y17
      clear HW HK P y17
      generalize w5.drew = w9 at *
      go_wp2
      obtain ⟨hP, hK⟩ := HW7.out.pop hvn HET.out
      exact bodyPost_end (results_none rfl _ _ _) rfl (.inl ⟨_, _, ends_6 HTO.out HJ.out (fun hh => by have h9 := hh.2.1; rw [HEI.out] at h9; omega), rfl, hP, HK7.out.trans hK⟩)
  · have hd4 : ((o.op : Int) == 4) = false := by simp; omega
    go_quiet (fail)
    clear y0 y1' y2 y3 hpc
    have hq : Below w4.heap.size w4 (w4.drewN nq) := bel_drewV (Below.refl _ _) nq
    have HWn := Lib.hid (HW.out.on hq)
    have HKn := Lib.hid (HK.out.trans (Kn.on (k := k) hq))
    clear HW HK hq 
    generalize w4.drewN nq = w5 at *
    have HW := HWn; have HK := HKn
    clear HWn HKn 
    go_wp2_with fail
    obtain ⟨gt, ct, het, hct, hnct⟩ : ∃ g c, q1.ov = .slice (some ⟨g, 0, none⟩) (n + 1) c ∧ n + 1 ≤ c ∧ c ≤ 9223372036854775807 := by
      obtain ⟨_, g, c, e, -, -, h4, h5⟩ := HW.out.open_ (i := 0) (by show 0 < v1.opens.length; omega)
      change _ = Value.slice _ v1.opens.length _ at e
      change v1.opens.length ≤ _ at h4
      rw [hvn] at e h4
      exact ⟨g, c, e, h4, h5⟩
    have y17 : w5.cell? ⟨k.p, 17, none⟩ = some q1.ov := HW.out.cell 17 rfl
    rw [het] at y17
    have HET := Lib.hid het
    clear het hnj
    obtain ⟨m, hm⟩ : ∃ m, n + 1 = m := ⟨_, rfl⟩
    rw [hm] at y17
    have e1 : IntKind.i64.wrap ((m : Int) - 1) = (m : Int) - 1 := IntWalk.i64_in _ (by omega)
    have e2 : ((m : Int) - 1).toNat = n := by omega
    have e3 : (0 : Int) ≤ (m : Int) - 1 := by omega
    have e4 : (m : Int) - 1 ≤ ct := by omega
    have e5 : (1 : Int) ≤ m := by omega
    go_still_tail 14, (by kernel_rfl)
    change wpList _ _ _ _ _ w5.drew
    have P := HW.out.drew
    have HW7 := Lib.hid P.1
    have HK7 := Lib.hid (HK.out.trans P.2)
    have f17 : w5.drew.frozen? ⟨k.p, 17, none⟩ = false := HW7.out.free 17
    have y17' : w5.drew.cell? ⟨k.p, 17, none⟩ = some (.slice (some ⟨gt, 0, none⟩) m ct) := y17
    clear HW HK P y17
    generalize w5.drew = w9 at *
    go_wp2
    obtain ⟨hP, hK⟩ := HW7.out.pop hvn HET.out
    exact bodyPost_end (results_none rfl _ _ _) rfl (.inl ⟨_, _, ends_6 HTO.out HJ.out (fun hh => h4 hh.1), rfl, hP, HK7.out.trans hK⟩)

theorem val_ends (h : Wv k w v pc q) (hne : 0 < v.opens.length) (hob : v.top.base.size + v.top.par.size ≤ 256 ∧ v.top.res.size ≤ 8) (hpc : v.top.op = 4 → 0 ≤ v.top.pc ∧ v.top.pc < k.elses.length) (x : InsD) (vl : Value) (hop : x.op = 5 ∨ x.op = 6) :
    Calls Tryd.prog 50 #[.pointer (some ⟨k.p, 0, none⟩), .agg (insW x vl)] w fun r w' => WE k w pc (.tuple #[]) (endsV k.ctx v x) r w' := by
  obtain ⟨op, a, l⟩ := x
  rcases hop with rfl | rfl
  · exact val_else h hne hob a l vl
  · exact val_end h hne hob hpc a l vl
end
end Go.Proofs.YtfhkjahjenpbgaaDoor
namespace Go.Proofs.YtfhkjahjenpbgaaDoor
open Go Go.RowKit

/-- A block that is neither a list of the walker's nor an opener's box. -/
structure Fr (q : Wq) (c : Nat) : Prop where
  s : q.sv.ownBlock ≠ some c
  f : q.fv.ownBlock ≠ some c
  o : q.ov.ownBlock ≠ some c
  p : c ∉ q.ps
section
variable {k : Wc} {w w1 w2 : World} {v v1 : VwD} {pc : Int} {q : Wq} {c : Nat}
theorem Wv.frs (h : Wv k w v pc q) (hc : w.heap.size ≤ c) : Fr q c := by
  have key : ∀ e ∈ q.ents v, e.v.ownBlock ≠ some c := fun e he h1 => by have := (Ent.lt (h.fam.own e he) c h1).2; omega
  refine ⟨key (shE q v) (by simp [Wq.ents]), key (flE q v) (by simp [Wq.ents]), key (opE q v) (by simp [Wq.ents]), fun hp => ?_⟩
  obtain ⟨i, hi, e⟩ := List.getElem_of_mem hp
  obtain ⟨b, h1, h2⟩ := h.ops i (by rw [← h.psl]; exact hi)
  rw [List.getElem?_eq_getElem hi, e] at h1
  simp only [Option.some.injEq] at h1
  have := row_lt h2
  omega
/-- A box of its own is written. -/
theorem Wv.other (h : Wv k w v pc q) (hf : Fr q c) (hc : k.B ≤ c) (i : Nat) (u : Value) : Wv k (w.setCell ⟨c, i, none⟩ u) v pc q := by
  have hk := (Keeps.refl (fun b => b ≠ c) w).setCell (a := ⟨c, i, none⟩) (by simp) u
  have hlo := h.lo
  refine ⟨(hk.block _ (row_lt h.row) (by omega)).trans h.row, ⟨fun e he => Ent.keeps (h.fam.own e he) hk fun b hb e1 => ?_, h.fam.nd⟩, h.lo, Nat.le_trans h.hi hk.size, h.psl, fun j hj => ?_, h.rd.keeps hk fun b hb => by omega, fun b hx => ⟨Nat.lt_of_lt_of_le (h.al b hx).1 hk.size, (h.al b hx).2⟩⟩
  · subst e1
    simp only [Wq.ents, List.mem_cons, List.not_mem_nil, or_false] at he
    rcases he with rfl | rfl | rfl
    · exact hf.s hb
    · exact hf.f hb
    · exact hf.o hb
  · obtain ⟨b, h1, h2⟩ := h.ops j hj
    exact ⟨b, h1, (hk.block b (row_lt h2) (fun e => hf.p (by rw [← e]; exact List.mem_of_getElem? h1))).trans h2⟩
/-- A floor is written. -/
theorem Wv.floor {g n cap : Nat} (h : Wv k w v pc q) (e : q.fv = .slice (some ⟨g, 0, none⟩) n cap) (j : Nat) (x : Int) :
    Wv k (w.setCell ⟨g, j, none⟩ (.int .i64 x)) { v with floors := v.floors.set j x } pc q ∧ Kw k w (w.setCell ⟨g, j, none⟩ (.int .i64 x)) := by
  have hk := (Keeps.refl (fun b => b ≠ g) w).setCell (a := ⟨g, j, none⟩) (by simp) (.int .i64 x)
  have hlo := h.lo
  have hof : w.ownsRow k.B 3 1 q.fv v.floors.length (ints v.floors) := h.fam.own (flE q v) (by simp [Wq.ents])
  have hgb := (World.ownsRow.lt hof g (by rw [e]; rfl)).1
  have hob : q.fv.ownBlock = some g := by rw [e]; rfl
  refine ⟨⟨(hk.block _ (row_lt h.row) (by omega)).trans h.row, ?_, h.lo, Nat.le_trans h.hi hk.size, h.psl, fun j' hj => ?_, h.rd.keeps hk fun b hb => by omega, fun b hx => ⟨Nat.lt_of_lt_of_le (h.al b hx).1 hk.size, (h.al b hx).2⟩⟩, hk.mono fun b _ hb => ?_⟩
  · have ho : Ent.own k.B (w.setCell ⟨g, j, none⟩ (.int .i64 x)) (flE q { v with floors := v.floors.set j x }) := by
      have hn : n = v.floors.length := by
        obtain ⟨a, cc, e1, _⟩ := own_slice hof
        rw [e] at e1
        simp only [Value.slice.injEq] at e1
        exact e1.2.1
      have h1 : OwnI k.B 3 w (.slice (some ⟨g, 0, none⟩) n cap) v.floors := by rw [← e]; exact hof
      have h2 := h1.set (k := j) x
      show (w.setCell ⟨g, j, none⟩ (.int .i64 x)).ownsRow k.B 3 1 q.fv (v.floors.set j x).length (ints (v.floors.set j x))
      rw [e]; exact h2
    exact Fam.set (a := [shE q v]) (e := flE q v) (c := [opE q v]) h.fam hk (fun b _ _ hb e1 => hb (by rw [e1]; exact hob)) ho fun g' hg' => .inl hg'
  · obtain ⟨b, h1, h2⟩ := h.ops j' hj
    refine ⟨b, h1, (hk.block b (row_lt h2) fun e1 => ?_).trans h2⟩
    exact own_ne hof h2 (by decide) (by rw [e1]; exact hob)
  · rcases hb with hb | hb
    · omega
    · exact fun e1 => (h.al b hb.2).2.2.1 (by rw [e1]; exact hob)
/-- A shape more. -/
theorem Wv.moreS {x' : Value} {x : ByteArray} (h : Wv k w v pc q) (hg : w.grownBy w2 q.sv.ownBlock) (ho : w2.ownsRow k.B 9 1 x' (v.shapes.length + 1) (v.shapes.map .string ++ [.string x])) (hat : ∀ g, x'.ownBlock = some g → q.sv.ownBlock = some g ∨ w.heap.size ≤ g) :
    Wv k (w2.setCell ⟨k.p, 12, none⟩ x') { v with shapes := v.shapes ++ [x] } pc { q with sv := x' } ∧ Kw k w (w2.setCell ⟨k.p, 12, none⟩ x') := by
  have hk1 : Keeps (fun b => q.sv.ownBlock ≠ some b) w w2 := (Keeps.refl _ w).grown hg fun k hk' _ h' => h' hk'
  have hk2 := (Keeps.refl (fun b => b ≠ k.p) w2).setCell (a := ⟨k.p, 12, none⟩) (by simp) x'
  have hlo := h.lo
  have hof : w.ownsRow k.B 9 1 q.sv v.shapes.length (v.shapes.map .string) := h.fam.own (shE q v) (by simp [Wq.ents])
  have hpn := own_ne hof h.row (by decide)
  have ho' : Ent.own k.B w2 (shE { q with sv := x' } { v with shapes := v.shapes ++ [x] }) := by
    show w2.ownsRow k.B 9 1 x' (v.shapes ++ [x]).length ((v.shapes ++ [x]).map (Value.string))
    rw [List.length_append, List.map_append]
    exact ho
  have hf := (Fam.set (a := []) (e := shE q v) (c := [flE q v, opE q v]) h.fam hk1 (fun b _ _ hb => hb) ho' hat).keeps hk2 fun b hb _ => by omega
  have hr2 := (hk1.block _ (row_lt h.row) hpn).trans h.row
  refine ⟨⟨row_setCell hr2 12 x', hf, h.lo, Nat.le_trans h.hi (Nat.le_trans hk1.size hk2.size), h.psl, fun j hj => ?_, (h.rd.keeps hk1 fun b hb e => ?_).keeps hk2 fun b hb => by omega, fun b hx => ⟨Nat.lt_of_lt_of_le (h.al b hx).1 (Nat.le_trans hk1.size hk2.size), (fun e => by rcases hat b e with e | e; exact (h.al b hx).2.1 e; have := (h.al b hx).1; omega), (h.al b hx).2.2.1, (h.al b hx).2.2.2⟩⟩, (hk1.mono fun b _ hb e => ?_).trans (hk2.mono fun b _ hb => ne_kp hb)⟩
  · obtain ⟨b, h1, h2⟩ := h.ops j hj
    have h3 := (hk1.block b (row_lt h2) (own_ne hof h2 (by decide))).trans h2
    exact ⟨b, h1, (hk2.block b (row_lt h3) (row_ne h3 hr2 (by decide))).trans h3⟩
  · have := (World.ownsRow.lt hof b e).1; omega
  · rcases hb with hb | hb
    · have := (World.ownsRow.lt hof b e).1; omega
    · exact (h.al b hb.2).2.1 e
/-- A floor more. -/
theorem Wv.moreF {x' : Value} {x : Int} (h : Wv k w v pc q) (hg : w.grownBy w2 q.fv.ownBlock) (ho : w2.ownsRow k.B 3 1 x' (v.floors.length + 1) (ints v.floors ++ [.int .i64 x])) (hat : ∀ g, x'.ownBlock = some g → q.fv.ownBlock = some g ∨ w.heap.size ≤ g) :
    Wv k (w2.setCell ⟨k.p, 15, none⟩ x') { v with floors := v.floors ++ [x] } pc { q with fv := x' } ∧ Kw k w (w2.setCell ⟨k.p, 15, none⟩ x') := by
  have hk1 : Keeps (fun b => q.fv.ownBlock ≠ some b) w w2 := (Keeps.refl _ w).grown hg fun k hk' _ h' => h' hk'
  have hk2 := (Keeps.refl (fun b => b ≠ k.p) w2).setCell (a := ⟨k.p, 15, none⟩) (by simp) x'
  have hlo := h.lo
  have hof : w.ownsRow k.B 3 1 q.fv v.floors.length (ints v.floors) := h.fam.own (flE q v) (by simp [Wq.ents])
  have hpn := own_ne hof h.row (by decide)
  have ho' : Ent.own k.B w2 (flE { q with fv := x' } { v with floors := v.floors ++ [x] }) := by
    show w2.ownsRow k.B 3 1 x' (v.floors ++ [x]).length ((v.floors ++ [x]).map (Value.int .i64))
    rw [List.length_append, List.map_append]
    exact ho
  have hf := (Fam.set (a := [shE q v]) (e := flE q v) (c := [opE q v]) h.fam hk1 (fun b _ _ hb => hb) ho' hat).keeps hk2 fun b hb _ => by omega
  have hr2 := (hk1.block _ (row_lt h.row) hpn).trans h.row
  refine ⟨⟨row_setCell hr2 15 x', hf, h.lo, Nat.le_trans h.hi (Nat.le_trans hk1.size hk2.size), h.psl, fun j hj => ?_, (h.rd.keeps hk1 fun b hb e => ?_).keeps hk2 fun b hb => by omega, fun b hx => ⟨Nat.lt_of_lt_of_le (h.al b hx).1 (Nat.le_trans hk1.size hk2.size), (h.al b hx).2.1, (fun e => by rcases hat b e with e | e; exact (h.al b hx).2.2.1 e; have := (h.al b hx).1; omega), (h.al b hx).2.2.2⟩⟩, (hk1.mono fun b _ hb e => ?_).trans (hk2.mono fun b _ hb => ne_kp hb)⟩
  · obtain ⟨b, h1, h2⟩ := h.ops j hj
    have h3 := (hk1.block b (row_lt h2) (own_ne hof h2 (by decide))).trans h2
    exact ⟨b, h1, (hk2.block b (row_lt h3) (row_ne h3 hr2 (by decide))).trans h3⟩
  · have := (World.ownsRow.lt hof b e).1; omega
  · rcases hb with hb | hb
    · have := (World.ownsRow.lt hof b e).1; omega
    · exact (h.al b hb.2).2.2.1 e
/-- An opener more. -/
theorem Wv.push {n ob : Nat} {x' : Value} {x : OpD} (h : Wv k w v pc q) (hg : Kept w w2 q.ov.ownBlock n) (ho : w2.ownsRow k.B 91 1 x' (v.opens.length + 1) (q.ps.map ptrV ++ [ptrV ob])) (hat : ∀ g, x'.ownBlock = some g → q.ov.ownBlock = some g ∨ w.heap.size ≤ g) (hrow : w.heap[ob]? = some (.cells (opC x) 93 (0, 0))) :
    Wv k (w2.setCell ⟨k.p, 17, none⟩ x') { v with opens := v.opens ++ [x] } pc { q with ov := x', ps := q.ps ++ [ob] } ∧ Kw k w (w2.setCell ⟨k.p, 17, none⟩ x') := by
  have hk1 : Keeps (fun b => q.ov.ownBlock ≠ some b) w w2 := (Keeps.refl _ w).grown hg.grown fun k hk' _ h' => h' hk'
  have hk2 := (Keeps.refl (fun b => b ≠ k.p) w2).setCell (a := ⟨k.p, 17, none⟩) (by simp) x'
  have hlo := h.lo
  have hof : w.ownsRow k.B 91 1 q.ov v.opens.length (q.ps.map ptrV) := h.fam.own (opE q v) (by simp [Wq.ents])
  have hpn := own_ne hof h.row (by decide)
  have ho' : Ent.own k.B w2 (opE { q with ov := x', ps := q.ps ++ [ob] } { v with opens := v.opens ++ [x] }) := by
    show w2.ownsRow k.B 91 1 x' (v.opens ++ [x]).length ((q.ps ++ [ob]).map ptrV)
    rw [List.length_append, List.map_append]
    exact ho
  have hf := (Fam.set (a := [shE q v, flE q v]) (e := opE q v) (c := []) h.fam hk1 (fun b _ _ hb => hb) ho' hat).keeps hk2 fun b hb _ => by omega
  have hr2 := (hk1.block _ (row_lt h.row) hpn).trans h.row
  have kept : ∀ (b : Nat) (o : OpD), w.heap[b]? = some (.cells (opC o) 93 (0, 0)) → (w2.setCell ⟨k.p, 17, none⟩ x').heap[b]? = some (.cells (opC o) 93 (0, 0)) := fun b o h2 => by
    have h3 := (hk1.block b (row_lt h2) (own_ne hof h2 (by decide))).trans h2
    exact (hk2.block b (row_lt h3) (row_ne h3 hr2 (by decide))).trans h3
  have hps := h.psl
  refine ⟨⟨row_setCell hr2 17 x', hf, h.lo, Nat.le_trans h.hi (Nat.le_trans hk1.size hk2.size), by show (q.ps ++ [ob]).length = (v.opens ++ [x]).length; rw [List.length_append, List.length_append, hps]; rfl, fun j hj => ?_, (h.rd.keeps hk1 fun b hb e => ?_).keeps hk2 fun b hb => by omega, fun b hx => ⟨Nat.lt_of_lt_of_le (h.al b hx).1 (Nat.le_trans hk1.size hk2.size), (h.al b hx).2.1, (h.al b hx).2.2.1, (fun e => by rcases hat b e with e | e; exact (h.al b hx).2.2.2 e; have := (h.al b hx).1; omega)⟩⟩, (hk1.mono fun b _ hb e => ?_).trans (hk2.mono fun b _ hb => ne_kp hb)⟩
  · have hj' : j < (v.opens ++ [x]).length := hj
    by_cases hlt : j < v.opens.length
    · obtain ⟨b, h1, h2⟩ := h.ops j hlt
      refine ⟨b, ?_, ?_⟩
      · show (q.ps ++ [ob])[j]? = some b
        rw [List.getElem?_append_left (by omega)]; exact h1
      · have e : (v.opens ++ [x])[j] = v.opens[j] := List.getElem_append_left hlt
        show _ = some (Obj.cells (opC (v.opens ++ [x])[j]) _ _)
        rw [e]; exact kept b _ h2
    · have hjn : j = v.opens.length := by rw [List.length_append, List.length_singleton] at hj'; omega
      subst hjn
      refine ⟨ob, ?_, ?_⟩
      · show (q.ps ++ [ob])[v.opens.length]? = some ob
        rw [List.getElem?_append_right (by omega), hps, Nat.sub_self]; rfl
      · have e : (v.opens ++ [x])[v.opens.length] = x := by simp
        show _ = some (Obj.cells (opC (v.opens ++ [x])[v.opens.length]) _ _)
        rw [e]; exact kept ob x hrow
  · have := (World.ownsRow.lt hof b e).1; omega
  · rcases hb with hb | hb
    · have := (World.ownsRow.lt hof b e).1; omega
    · exact (h.al b hb.2).2.2.2 e
/-- The same walker, with other boxes beside it. -/
theorem Wv.withX (h : Wv k w v pc q) (X : Nat → Prop) (hX : ∀ b, X b → b < w.heap.size ∧ q.sv.ownBlock ≠ some b ∧ q.fv.ownBlock ≠ some b ∧ q.ov.ownBlock ≠ some b) : Wv { k with X := X } w v pc q :=
  ⟨h.row, h.fam, h.lo, h.hi, h.psl, h.ops, ⟨h.rd.mod, h.rd.cod, h.rd.els, h.rd.sS⟩, hX⟩
end
end Go.Proofs.YtfhkjahjenpbgaaDoor
