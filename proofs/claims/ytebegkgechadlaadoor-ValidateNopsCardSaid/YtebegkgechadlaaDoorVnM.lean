/- ValidateNops: the loop's two lists; the copied module in which a nop is put in, in memory; flagonref10.Away. -/
import Derived.Test.YtebegkgechadlaaDoorNopP
import Derived.Test.YtebegkgechadlaaDoorMVaM
import Derived.Test.YtebegkgechadlaaDoorMCopy
namespace Go.Proofs.YtebegkgechadlaaDoor
open Go Go.RowKit
set_option linter.unusedSimpArgs false

/-- A list with one put in at k; so far as it is told. -/
def insA {α : Type} (k : Nat) (x : α) (l : List α) : List α := l.take k ++ x :: l.drop k
def partA {α : Type} (x : α) (p k : Nat) (l : List α) : List α := if k ≤ p then l.take k else insA p x (l.take k)
section
variable {α : Type} {x : α} {p k : Nat} {l : List α}
theorem part_next (hk : k < l.length) (h : k ≠ p) : partA x p (k + 1) l = partA x p k l ++ [l[k]] := by
  unfold partA insA
  by_cases h1 : k + 1 ≤ p
  · rw [if_pos h1, if_pos (by omega), List.take_succ_eq_append_getElem hk]
  · rw [if_neg h1, if_neg (by omega), List.take_succ_eq_append_getElem hk, List.take_append_of_le_length (by simp; omega), List.drop_append_of_le_length (by simp; omega)]
    simp
theorem part_at (hk : p < l.length) : partA x p (p + 1) l = partA x p p l ++ [x] ++ [l[p]] := by
  unfold partA insA
  rw [if_neg (by omega), if_pos (Nat.le_refl _), List.take_succ_eq_append_getElem hk, List.take_append_of_le_length (by simp; omega), List.drop_append_of_le_length (by simp; omega)]
  have e : (l.take p).drop p = [] := List.drop_eq_nil_iff.2 (by simp; omega)
  rw [e, List.take_take, Nat.min_self]
  simp
theorem part_end (hk : p < l.length) : partA x p l.length l = insA p x l := by
  unfold partA
  rw [if_neg (by omega), List.take_length]
theorem part_len (hk : k ≤ l.length) : (partA x p k l).length ≤ k + 1 := by
  unfold partA insA
  split
  · simp; omega
  · simp; omega
end
/-- The loop's two lists: instructions, texts. -/
structure Nst (L : Nat → Prop) (w0 w : World) (v1 v2 : Value) (ps : List (InsD × Value)) (ss : List ByteArray) : Prop where
  lb : ∀ b, L b → b < w0.heap.size
  row : w.ownsRow w0.heap.size 43 3 v1 ps.length (insC ps)
  ls : ∀ p ∈ ps, RdI .i64 L w p.2 p.1.l
  txt : w.ownsRow w0.heap.size 9 1 v2 ss.length (texts ss)
  dj : ∀ g, v1.ownBlock = some g → v2.ownBlock ≠ some g
  bel : Below w0.heap.size w0 w
section
variable {L : Nat → Prop} {w0 w w' : World} {v1 v2 v' u : Value} {ps : List (InsD × Value)} {ss : List ByteArray} {x : InsD} {s : ByteArray} {n : Nat}
theorem Nst.start (hL : ∀ b, L b → b < w.heap.size) : Nst L w w (.slice none 0 0) (.slice none 0 0) [] [] :=
  ⟨hL, World.ownsRow_nil _ _ _ _, (fun p h => absurd h (by simp)), World.ownsRow_nil _ _ _ _, (fun g h => absurd h (by simp [Value.ownBlock])), Below.refl _ _⟩
theorem Nst.on (h : Nst L w0 w v1 v2 ps ss) (hb : Below w.heap.size w w') : Nst L w0 w' v1 v2 ps ss :=
  ⟨h.lb, own_below h.row hb, fun p hp => (h.ls p hp).keeps (Keeps.all _ hb), own_below h.txt hb, h.dj, below_next h.bel hb⟩
theorem Nst.addI (h : Nst L w0 w v1 v2 ps ss) (ho : w'.ownsRow w0.heap.size 43 3 v' (ps.length + 1) (insC ps ++ [.int .u8 x.op, .int .i64 x.a, u])) (hk : Kept w w' v1.ownBlock n)
    (hf : ∀ g, v'.ownBlock = some g → v1.ownBlock = some g ∨ w.heap.size ≤ g) (hx : RdI .i64 L w u x.l) : Nst L w0 w' v' v2 (ps ++ [(x, u)]) ss := by
  have hk1 : Keeps (fun b => v1.ownBlock ≠ some b) w w' := (Keeps.refl _ w).grown hk.grown fun k hk' _ h' => h' hk'
  have hLk : ∀ b, b < w.heap.size → L b → v1.ownBlock ≠ some b := fun b _ hb e => by
    have := (h.row.lt b e).1; have := h.lb b hb; omega
  refine ⟨h.lb, by rw [List.length_append, insC_app]; exact ho, fun p hp => ?_, own_keeps h.txt hk1 (fun b hb e => h.dj b e hb), fun g hg e => ?_, h.bel.grown hk.grown h.bel.size fun j hj => (h.row.lt j hj).1⟩
  · rcases List.mem_append.1 hp with h1 | h1
    · exact (h.ls p h1).keeps (hk1.mono hLk)
    · rw [List.mem_singleton.1 h1]; exact hx.keeps (hk1.mono hLk)
  · rcases hf g hg with h1 | h1
    · exact h.dj g h1 e
    · have := (h.txt.lt g e).2; omega
theorem Nst.addS (h : Nst L w0 w v1 v2 ps ss) (ho : w'.ownsRow w0.heap.size 9 1 v' (ss.length + 1) (texts ss ++ [.string s])) (hk : Kept w w' v2.ownBlock n)
    (hf : ∀ g, v'.ownBlock = some g → v2.ownBlock = some g ∨ w.heap.size ≤ g) : Nst L w0 w' v1 v' ps (ss ++ [s]) := by
  have hk1 : Keeps (fun b => v2.ownBlock ≠ some b) w w' := (Keeps.refl _ w).grown hk.grown fun k hk' _ h' => h' hk'
  have hLk : ∀ b, b < w.heap.size → L b → v2.ownBlock ≠ some b := fun b _ hb e => by
    have := (h.txt.lt b e).1; have := h.lb b hb; omega
  refine ⟨h.lb, own_keeps h.row hk1 (fun b hb e => h.dj b hb e), fun p hp => (h.ls p hp).keeps (hk1.mono hLk), by rw [List.length_append, texts, List.map_append]; exact ho, fun g hg e => ?_, h.bel.grown hk.grown h.bel.size fun j hj => (h.txt.lt j hj).1⟩
  rcases hf g e with h1 | h1
  · exact h.dj g hg h1
  · have := (h.row.lt g hg).2; omega
/-- The instructions, read as a code. -/
theorem Nst.cd (h : Nst L w0 w v1 v2 ps ss) (hl : ps.length ≤ 140737488355328) : CdS (fun b => w0.heap.size ≤ b ∨ L b) w v1 (ps.map Prod.fst) := by
  rcases h.row.2 with ⟨rfl, h0⟩ | ⟨g, cap, cur, rfl, hb, hg, hn, hm, hs, ht⟩
  · have : ps = [] := List.eq_nil_of_length_eq_zero h0
    subst this
    exact RdL.nil _ _ _ _
  · refine ⟨some ⟨g, 0, none⟩, cap, by simp, by simpa using hn, by simpa using hl, fun k hk => ?_⟩
    have hk' : k < ps.length := by simpa using hk
    obtain ⟨h0, h1, h2⟩ := insC_at ps k ps[k] (List.getElem?_eq_getElem hk')
    have c0 := own_at h.row rfl h0; have c1 := own_at h.row rfl h1; have c2 := own_at h.row rfl h2
    refine ⟨g, 0, [.int .u8 ps[k].1.op, .int .i64 ps[k].1.a, ps[k].2], rfl, .inl hb, rfl, fun i hi => ?_, ps[k].2, by simp, ?_⟩
    · rw [Nat.zero_add]
      match i, hi with
      | 0, _ => exact c0
      | 1, _ => exact c1
      | 2, _ => exact c2
    · have := (h.ls ps[k] (List.getElem_mem _)).mono (T := fun b => w0.heap.size ≤ b ∨ L b) fun _ _ h => .inr h
      simpa using this
end
/-- The module behind the store of a function's code. -/
theorem nop_mem {B g c gn : Nat} {L : Nat → Prop} {w6 w8 : World} {tv hv gv dv ev v : Value} {m : ModD} {code : List InsD} {ps : List (FunD × Value)} (hb : Below w6.heap.size w6 w8) (hof : OwnF B w6 (.slice (some ⟨g, 0, none⟩) m.funs.length c) ps) (hp : ps.map Prod.fst = m.funs) (hl : m.funs.length ≤ 140737488355328) (hg : gn < m.funs.length)
    (q1 : RdSigs (fun b => B ≤ b ∧ (Value.slice (some ⟨g, 0, none⟩) m.funs.length c).ownBlock ≠ some b) w6 tv m.types) (q2 : RdI .i64 (fun b => B ≤ b ∧ (Value.slice (some ⟨g, 0, none⟩) m.funs.length c).ownBlock ≠ some b) w6 hv m.hosts) (q3 : RdGlobs (fun b => B ≤ b ∧ (Value.slice (some ⟨g, 0, none⟩) m.funs.length c).ownBlock ≠ some b) w6 gv m.globals) (q5 : RdDats (fun b => B ≤ b ∧ (Value.slice (some ⟨g, 0, none⟩) m.funs.length c).ownBlock ≠ some b) w6 dv m.datas) (q6 : RdExps (fun b => B ≤ b ∧ (Value.slice (some ⟨g, 0, none⟩) m.funs.length c).ownBlock ≠ some b) w6 ev m.exps)
    (hcv : CdS L w8 v code) (hL : ∀ b, L b → b ≠ g) :
    RMod (· < (w8.setCell ⟨g, gn * 3 + 2, none⟩ v).heap.size) (w8.setCell ⟨g, gn * 3 + 2, none⟩ v) [tv, hv, gv, .int .i64 m.first, .int .i64 m.most, .slice (some ⟨g, 0, none⟩) m.funs.length c, dv, ev] { m with funs := m.funs.set gn { m.funs.getD gn funZ with code := code } } := by
  have hof8 := OwnG.on deepF hof hb
  obtain ⟨⟨a2, n2, cc2, c0, c1, c2⟩, -, -, cur, fr, hrow⟩ := ownF_at hof8 hp hl hg
  have k1 := (Keeps.refl (fun b => b ≠ g) w8).setCell (a := ⟨g, gn * 3 + 2, none⟩) (by simp) v
  have r10 := row_setCell hrow (gn * 3 + 2) v
  have hz2 : gn * 3 + 2 < cur.size := by
    have e2 := cell_of_row w8 g (gn * 3 + 2) cur _ fr hrow
    rw [c2] at e2
    exact (Array.getElem?_eq_some_iff.1 e2.symm).1
  generalize w8.setCell ⟨g, gn * 3 + 2, none⟩ v = W at *
  have other : ∀ i, i ≠ gn * 3 + 2 → W.cell? ⟨g, i, none⟩ = w8.cell? ⟨g, i, none⟩ := fun i h1 => by
    rw [cell_of_row W g i _ _ fr r10, cell_of_row w8 g i cur _ fr hrow, Array.getElem?_setIfInBounds_ne (Ne.symm h1)]
  have kk : Keeps (fun b => B ≤ b ∧ (Value.slice (some ⟨g, 0, none⟩) m.funs.length c).ownBlock ≠ some b) w6 W := (Keeps.all _ hb).trans (k1.mono fun b _ hb' e => hb'.2 (by rw [e]; rfl))
  have hfd : m.funs.getD gn funZ = m.funs[gn] := by rw [List.getD_eq_getElem?_getD, List.getElem?_eq_getElem hg]; rfl
  refine ⟨tv, hv, gv, .slice (some ⟨g, 0, none⟩) m.funs.length c, dv, ev, rfl, ?_, ?_, ?_, ?_, ?_, ?_⟩
  · exact RdL.mono (RdL.map q1 kk (fun _ h => h) fun _ _ h => h) (Nat.succ_pos _) (fun b hb' _ => hb') fun _ _ h => h
  · exact (q2.keeps kk).mono fun b hb' _ => hb'
  · exact RdL.mono (RdL.map q3 kk (fun _ h => h) fun _ _ h => h) (Nat.succ_pos _) (fun b hb' _ => hb') fun _ _ h => h
  · have hrd := OwnF.rd hof8 (by rw [← List.length_map (f := Prod.fst), hp]; exact hl)
    rw [hp] at hrd
    refine rdF_set (x := { m.funs.getD gn funZ with code := code }) (v := v) hrd rfl hg (fun j hj hne i hi => other _ (by omega)) ?_ ?_ ?_ ?_ (k1.mono fun b _ hb' => hb'.2) (row_lt r10)
    · rw [other _ (by omega), c0, ← hfd]
    · rw [other _ (by omega), c1, ← hfd]
    · rw [cell_of_row W g _ _ _ fr r10]
      simp [hz2]
    · exact (CdS.keeps hcv (k1.mono fun b _ hb' => hL b hb') fun _ h => h).monoS fun b hb' _ => hb'
  · exact RdL.mono (RdL.map q5 kk (fun _ h => h) fun _ _ h => h.keeps kk) (Nat.succ_pos _) (fun b hb' _ => hb') fun _ _ h => h.mono fun b hb' _ => hb'
  · exact RdL.mono (RdL.map q6 kk (fun _ h => h) fun _ _ h => h) (Nat.succ_pos _) (fun b hb' _ => hb') fun _ _ h => h
instance (op : Nat) : Decidable (awayP op) := by unfold awayP; infer_instance
set_option maxHeartbeats 400000 in
theorem away (w : World) (op : Nat) :
    Calls Tryd.prog 11 #[.int .u8 op] w fun e w' => e = .returned (.bool (decide (awayP op))) ∧ w' = w := by
  by_cases h0 : op = 0
  · subst h0
    go_enter Tryd.func11, Tryd.ntmps11
    go_wp2
    go_ret
    exact ⟨rfl, rfl⟩
  by_cases h7 : op = 7
  · subst h7
    go_enter Tryd.func11, Tryd.ntmps11
    go_wp2
    go_ret
    exact ⟨rfl, rfl⟩
  by_cases h9 : op = 9
  · subst h9
    go_enter Tryd.func11, Tryd.ntmps11
    go_wp2
    go_ret
    exact ⟨rfl, rfl⟩
  by_cases h10 : op = 10
  · subst h10
    go_enter Tryd.func11, Tryd.ntmps11
    go_wp2
    go_ret
    exact ⟨rfl, rfl⟩
  have d0 : ((op : Int) == 0) = false := by simp; omega
  have d7 : ((op : Int) == 7) = false := by simp; omega
  have d9 : ((op : Int) == 9) = false := by simp; omega
  have d10 : ((op : Int) == 10) = false := by simp; omega
  go_enter Tryd.func11, Tryd.ntmps11
  go_wp2
  go_ret
  refine ⟨?_, rfl⟩
  rw [decide_eq_false (by unfold awayP; omega)]
  rfl
end Go.Proofs.YtebegkgechadlaaDoor
