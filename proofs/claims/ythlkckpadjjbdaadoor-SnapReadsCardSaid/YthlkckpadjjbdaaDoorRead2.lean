/- snap.Read: the reading itself. -/
import Derived.Test.YthlkckpadjjbdaaDoorRead
import Derived.Laws.CopyOwn
import Derived.Laws.Tables
import Derived.BigRegion
namespace Go.Proofs.YthlkckpadjjbdaaDoor
open Go Go.RowKit

theorem RdLL.widen {k : IntKind} {S T : Nat → Prop} {w : World} {v : Value} {xs : List (List Int)} (h : RdLL k S w v xs) (hS : ∀ b, b < w.heap.size → S b → T b) : RdLL k T w v xs := RdL.mono h (by omega) hS fun _ _ ⟨u, e, x⟩ => ⟨u, e, x.mono hS⟩
section
variable {t6 p : Nat} {w w' : World}
theorem RdI.set6 {k : IntKind} {v : Value} {l : List Int} (h : RdI k (fun x => t6 < x) w v l) (i : Nat) (u : Value) : RdI k (fun x => t6 < x) (w.setCell ⟨t6, i, none⟩ u) v l := h.keeps ((Keeps.refl _ w).setCell (a := ⟨t6, i, none⟩) (by simp) _)
theorem RdLL.set6 {k : IntKind} {v : Value} {l : List (List Int)} (h : RdLL k (fun x => t6 < x) w v l) (i : Nat) (u : Value) : RdLL k (fun x => t6 < x) (w.setCell ⟨t6, i, none⟩ u) v l := h.keeps ((Keeps.refl _ w).setCell (a := ⟨t6, i, none⟩) (by simp) _)
variable {cs : List Value} {s : StateD}
theorem RState.set6 (h : RState (fun x => t6 < x) w cs s) (i : Nat) (u : Value) : RState (fun x => t6 < x) (w.setCell ⟨t6, i, none⟩ u) cs s := h.keeps ((Keeps.refl _ w).setCell (a := ⟨t6, i, none⟩) (by simp) _)
theorem RState.stepP (h : RState (fun x => t6 < x) w cs s) (hk : Keeps (fun x => x ≠ p) w w') (hp : p < t6) : RState (fun x => t6 < x) w' cs s := h.keeps (hk.mono fun x _ hx => by omega)
theorem RState.stepPg (h : RState (fun x => t6 < x) w cs s) (hk : Keeps (fun x => x ≠ p ∧ x < w.heap.size) w w') (hp : p < t6) : RState (fun x => t6 < x) w' cs s :=
  ((h.mono (T := fun x => t6 < x ∧ x < w.heap.size) fun x h1 h2 => ⟨h2, h1⟩).keeps (hk.mono fun x _ hx => ⟨by omega, hx.2⟩)).mono fun x _ hx => hx.1
end
section
variable {T : Nat → Prop} {w : World} {f g p r e rs t u : Value} {s : StateD}
theorem RState.put_used (h : RState T w [f, g, p, r, e, rs, t, u] s) (n : Int) : RState T w [f, g, p, r, e, rs, t, .int .i64 n] { s with used := n } := by
  obtain ⟨fv, gv, pv, rv, e, h1, h2, h3, h4⟩ := h
  simp only [List.cons.injEq, and_true] at e
  obtain ⟨rfl, rfl, rfl, rfl, rfl, rfl, rfl, rfl⟩ := e
  exact ⟨_, _, _, _, rfl, h1, h2, h3, h4⟩
theorem RState.put_rep (h : RState T w [f, g, p, r, e, rs, t, u] s) (n : Int) : RState T w [f, g, p, .int .i64 n, e, rs, t, u] { s with replies := n } := by
  obtain ⟨fv, gv, pv, rv, e, h1, h2, h3, h4⟩ := h
  simp only [List.cons.injEq, and_true] at e
  obtain ⟨rfl, rfl, rfl, rfl, rfl, rfl, rfl, rfl⟩ := e
  exact ⟨_, _, _, _, rfl, h1, h2, h3, h4⟩
theorem RState.put_res (h : RState T w [f, g, p, r, e, rs, t, u] s) {v : Value} {l : List Int} (hv : RdI .u64 T w v l) : RState T w [f, g, p, r, e, v, t, u] { s with results := l } := by
  obtain ⟨fv, gv, pv, rv, e, h1, h2, h3, h4⟩ := h
  simp only [List.cons.injEq, and_true] at e
  obtain ⟨rfl, rfl, rfl, rfl, rfl, rfl, rfl, rfl⟩ := e
  exact ⟨_, _, _, _, rfl, h1, h2, h3, hv⟩
theorem RState.put_gl (h : RState T w [f, g, p, r, e, rs, t, u] s) {v : Value} {l : List Int} (hv : RdI .u64 T w v l) : RState T w [f, v, p, r, e, rs, t, u] { s with globals := l } := by
  obtain ⟨fv, gv, pv, rv, e, h1, h2, h3, h4⟩ := h
  simp only [List.cons.injEq, and_true] at e
  obtain ⟨rfl, rfl, rfl, rfl, rfl, rfl, rfl, rfl⟩ := e
  exact ⟨_, _, _, _, rfl, h1, hv, h3, h4⟩
theorem RState.put_pg (h : RState T w [f, g, p, r, e, rs, t, u] s) {v : Value} {l : List (List Int)} (hv : RdLL .u8 T w v l) : RState T w [f, g, v, r, e, rs, t, u] { s with pages := l } := by
  obtain ⟨fv, gv, pv, rv, e, h1, h2, h3, h4⟩ := h
  simp only [List.cons.injEq, and_true] at e
  obtain ⟨rfl, rfl, rfl, rfl, rfl, rfl, rfl, rfl⟩ := e
  exact ⟨_, _, _, _, rfl, h1, h2, hv, h4⟩
theorem RState.put_fr (h : RState T w [f, g, p, r, e, rs, t, u] s) {v : Value} {l : List FrameD} (hv : RdFrames T w v l) : RState T w [v, g, p, r, e, rs, t, u] { s with frames := l } := by
  obtain ⟨fv, gv, pv, rv, e, h1, h2, h3, h4⟩ := h
  simp only [List.cons.injEq, and_true] at e
  obtain ⟨rfl, rfl, rfl, rfl, rfl, rfl, rfl, rfl⟩ := e
  exact ⟨_, _, _, _, rfl, hv, h2, h3, h4⟩
end

abbrev Fq := FrameD × Value × Value
def frq (x : Fq) : List Value := [.int .i64 x.1.fn, .int .i64 x.1.pc, x.2.1, x.2.2]
def frqs (xs : List Fq) : List Value := xs.flatMap frq
theorem frqs_app (xs : List Fq) (x : Fq) : frqs (xs ++ [x]) = frqs xs ++ frq x := by simp [frqs]
theorem frqs_get : ∀ (xs : List Fq) (j i : Nat), i < 4 → (frqs xs)[j * 4 + i]? = (xs[j]?).bind fun x => (frq x)[i]? := by
  intro xs
  induction xs with
  | nil => intro j i _; simp [frqs]
  | cons x xs ih =>
    intro j i hi
    have e : frqs (x :: xs) = frq x ++ frqs xs := by simp [frqs]
    rw [e]
    cases j with
    | zero => rw [Nat.zero_mul, Nat.zero_add, List.getElem?_append_left (by simpa [frq] using hi)]; simp
    | succ j =>
      rw [List.getElem?_append_right (by simp [frq]; omega), show (j + 1) * 4 + i - (frq x).length = j * 4 + i by simp [frq]; omega, ih j i hi]
      simp
/-- The list of frames that is being built. -/
structure FrOwn (base : Nat) (w : World) (v : Value) (xs : List Fq) : Prop where
  own : w.ownsRow base 66 4 v xs.length (frqs xs)
  loc : ∀ x ∈ xs, RdI .u64 (fun b => base ≤ b ∧ v.ownBlock ≠ some b) w x.2.1 x.1.loc
  stk : ∀ x ∈ xs, RdI .u64 (fun b => base ≤ b ∧ v.ownBlock ≠ some b) w x.2.2 x.1.stk
theorem FrOwn.nil (base : Nat) (w : World) : FrOwn base w (.slice none 0 0) [] := ⟨World.ownsRow_nil _ _ _ _, by simp, by simp⟩
theorem FrOwn.keeps {S : Nat → Prop} {base : Nat} {w w' : World} {v : Value} {xs : List Fq} (h : FrOwn base w v xs) (hk : Keeps S w w') (hS : ∀ b, base ≤ b → b < w.heap.size → S b) : FrOwn base w' v xs := by
  have hc : ∀ u l, RdI .u64 (fun b => base ≤ b ∧ v.ownBlock ≠ some b) w u l → RdI .u64 (fun b => base ≤ b ∧ v.ownBlock ≠ some b) w' u l := fun u l hu =>
    ((hu.mono (T := fun b => (base ≤ b ∧ v.ownBlock ≠ some b) ∧ b < w.heap.size) fun b hb h => ⟨h, hb⟩).keeps (hk.mono fun b _ hb => hS b hb.1.1 hb.2)).mono fun b _ hb => hb.1
  exact ⟨own_keeps h.own hk fun b hb => hS b (h.own.lt b hb).1 (h.own.lt b hb).2, fun x hx => hc _ _ (h.loc x hx), fun x hx => hc _ _ (h.stk x hx)⟩
theorem FrOwn.add {base : Nat} {wr w2 : World} {u : Value} {g cap : Nat} {xs : List Fq} {f : FrameD} {lv sv : Value} (h : FrOwn base wr u xs)
    (hl : RdI .u64 (fun b => base ≤ b ∧ u.ownBlock ≠ some b) wr lv f.loc) (hs : RdI .u64 (fun b => base ≤ b ∧ u.ownBlock ≠ some b) wr sv f.stk) {o : Obj}
    (hown2 : w2.ownsRow base 66 4 (.slice (some ⟨g, 0, none⟩) (xs.length + 1) cap) (xs.length + 1) (frqs xs ++ frq (f, lv, sv))) (hg2 : (wr.alloc o).grownBy w2 u.ownBlock) (hat : u.ownBlock = some g ∨ g = (wr.alloc o).heap.size) :
    FrOwn base w2 (.slice (some ⟨g, 0, none⟩) (xs.length + 1) cap) (xs ++ [(f, lv, sv)]) := by
  have hk1 : Keeps (fun b => u.ownBlock ≠ some b) wr w2 := ((Keeps.refl _ wr).alloc o).grown hg2 fun k hk _ h => h hk
  have hc : ∀ v l, RdI .u64 (fun b => base ≤ b ∧ u.ownBlock ≠ some b) wr v l → RdI .u64 (fun b => base ≤ b ∧ (Value.slice (some ⟨g, 0, none⟩) (xs.length + 1) cap).ownBlock ≠ some b) w2 v l := fun v l hv => by
    have h1 := hv.mono (T := fun b => (base ≤ b ∧ u.ownBlock ≠ some b) ∧ b < wr.heap.size) fun b hb h => ⟨h, hb⟩
    refine (h1.keeps (hk1.mono fun b _ hb => hb.1.2)).mono fun b _ hb => ⟨hb.1.1, ?_⟩
    simp only [Value.ownBlock, ne_eq, Option.some.injEq]
    rintro rfl
    rcases hat with e | e
    · exact hb.1.2 e
    · have := hb.2; rw [World.size_alloc] at e; omega
  refine ⟨by rw [frqs_app, List.length_append]; exact hown2, fun x hx => ?_, fun x hx => ?_⟩
  · rcases List.mem_append.1 hx with hx | hx
    · exact hc _ _ (h.loc x hx)
    · simp only [List.mem_singleton] at hx; subst hx; exact hc _ _ hl
  · rcases List.mem_append.1 hx with hx | hx
    · exact hc _ _ (h.stk x hx)
    · simp only [List.mem_singleton] at hx; subst hx; exact hc _ _ hs
theorem FrOwn.read {base : Nat} {w : World} {v : Value} {xs : List Fq} (h : FrOwn base w v xs) (hlen : xs.length ≤ 140737488355328) : RdFrames (fun b => base ≤ b) w v (xs.map (·.1)) := by
  have hR : ∀ x ∈ xs, RFrame (fun b => base ≤ b) w (frq x) x.1 := fun x hx => ⟨_, _, rfl, (h.loc x hx).mono fun _ _ hb => hb.1, (h.stk x hx).mono fun _ _ hb => hb.1⟩
  rcases Nat.eq_zero_or_pos xs.length with h0 | h0
  · obtain ⟨a, c, e, ha⟩ := own_slice h.own
    have hx : xs = [] := List.eq_nil_of_length_eq_zero h0
    subst hx
    exact ⟨a, c, e, by simp, by simp, fun j hj => absurd hj (by simp)⟩
  · obtain ⟨g, cap, e, hg, _⟩ := h.own.form h0
    have hgl : xs.length ≤ cap := by
      rcases h.own.2 with ⟨e', hn⟩ | ⟨g', cap', cur, e', _, _, hn, hm, _⟩
      · omega
      · rw [e] at e'
        simp only [Value.slice.injEq, true_and] at e'
        obtain ⟨_, rfl⟩ := e'
        exact hn
    refine ⟨some ⟨g, 0, none⟩, cap, by rw [e, List.length_map], by rw [List.length_map]; exact hgl, by rw [List.length_map]; exact hlen, fun j hj => ?_⟩
    have hjx : j < xs.length := by rw [List.length_map] at hj; exact hj
    refine ⟨g, 0, frq xs[j], rfl, hg, rfl, fun i hi => ?_, ?_⟩
    · have hgt := frqs_get xs j i hi
      rw [List.getElem?_eq_getElem hjx] at hgt
      simp only [Option.bind_some] at hgt
      have hi' : i < (frq xs[j]).length := hi
      rw [List.getElem?_eq_getElem hi'] at hgt ⊢
      have hc := h.own.cells (g := g) (by rw [e]; rfl) (j * 4 + i) _ hgt
      unfold Addr.add at hc
      split at hc
      · rename_i e0; rw [show (0 : Nat) + j * 4 + i = 0 by omega]; exact hc
      · rw [show (0 : Nat) + j * 4 + i = 0 + (j * 4 + i) by omega]; exact hc
    · have := hR xs[j] (List.getElem_mem hjx)
      simpa using this
theorem RdFrames.mono' {S T : Nat → Prop} {w : World} {v : Value} {xs : List FrameD} (h : RdFrames S w v xs) (hS : ∀ b, S b → T b) : RdFrames T w v xs :=
  RdL.mono h (by omega) (fun b _ => hS b) fun _ _ ⟨lv, sv, e, k1, k2⟩ => ⟨lv, sv, e, k1.mono fun b _ => hS b, k2.mono fun b _ => hS b⟩
theorem set8_row {w : World} {g : Nat} {o0 o1 o2 o3 o4 o5 o6 o7 : Value} {T : Nat} {fr : Nat × Nat} (h : w.heap[g]? = some (.cells #[o0, o1, o2, o3, o4, o5, o6, o7] T fr)) (v0 v1 v2 v3 v4 v5 v6 v7 : Value) :
    ((((((((w.setCell ⟨g, 0, none⟩ v0).setCell ⟨g, 1, none⟩ v1).setCell ⟨g, 2, none⟩ v2).setCell ⟨g, 3, none⟩ v3).setCell ⟨g, 4, none⟩ v4).setCell ⟨g, 5, none⟩ v5).setCell ⟨g, 6, none⟩ v6).setCell ⟨g, 7, none⟩ v7).heap[g]? = some (.cells #[v0, v1, v2, v3, v4, v5, v6, v7] T fr) := by
  have h0 := row_setCell h 0 v0
  simp only [List.setIfInBounds_toArray, List.set_cons_zero] at h0
  have h1 := row_setCell h0 1 v1
  simp only [List.setIfInBounds_toArray, List.set_cons_zero, List.set_cons_succ] at h1
  have h2 := row_setCell h1 2 v2
  simp only [List.setIfInBounds_toArray, List.set_cons_zero, List.set_cons_succ] at h2
  have h3 := row_setCell h2 3 v3
  simp only [List.setIfInBounds_toArray, List.set_cons_zero, List.set_cons_succ] at h3
  have h4 := row_setCell h3 4 v4
  simp only [List.setIfInBounds_toArray, List.set_cons_zero, List.set_cons_succ] at h4
  have h5 := row_setCell h4 5 v5
  simp only [List.setIfInBounds_toArray, List.set_cons_zero, List.set_cons_succ] at h5
  have h6 := row_setCell h5 6 v6
  simp only [List.setIfInBounds_toArray, List.set_cons_zero, List.set_cons_succ] at h6
  have h7 := row_setCell h6 7 v7
  simp only [List.setIfInBounds_toArray, List.set_cons_zero, List.set_cons_succ] at h7
  exact h7
theorem set8_rowD {w : World} {g : Nat} {o0 o1 o2 o3 o4 o5 o6 o7 : Value} {T : Nat} {fr : Nat × Nat} (h : w.heap[g]? = some (.cells #[o0, o1, o2, o3, o4, o5, o6, o7] T fr)) (v0 v1 v2 v3 v4 v5 v6 v7 : Value) :
    ((((((((w.setCell ⟨g, 0, none⟩ v0).setCell ⟨g, 1, none⟩ v1).setCell ⟨g, 2, none⟩ v2).setCell ⟨g, 3, none⟩ v3).setCell ⟨g, 4, none⟩ v4).setCell ⟨g, 5, none⟩ v5).setCell ⟨g, 6, none⟩ v6).setCell ⟨g, 7, none⟩ v7).drew.heap[g]? = some (.cells #[v0, v1, v2, v3, v4, v5, v6, v7] T fr) := by rw [heap_drew]; exact set8_row h v0 v1 v2 v3 v4 v5 v6 v7
theorem set8_keeps (w : World) (g : Nat) (v0 v1 v2 v3 v4 v5 v6 v7 : Value) : Keeps (fun x => x ≠ g) w
    ((((((((w.setCell ⟨g, 0, none⟩ v0).setCell ⟨g, 1, none⟩ v1).setCell ⟨g, 2, none⟩ v2).setCell ⟨g, 3, none⟩ v3).setCell ⟨g, 4, none⟩ v4).setCell ⟨g, 5, none⟩ v5).setCell ⟨g, 6, none⟩ v6).setCell ⟨g, 7, none⟩ v7) := by
  have hx : ∀ {i : Nat}, (⟨g, i, none⟩ : Addr).block < w.heap.size → ¬ (fun x => x ≠ g) (⟨g, i, none⟩ : Addr).block := fun _ h => h rfl
  have k0 := (Keeps.refl (fun x => x ≠ g) w).setCell (a := ⟨g, 0, none⟩) hx v0
  have k1 := k0.setCell (a := ⟨g, 1, none⟩) hx v1
  have k2 := k1.setCell (a := ⟨g, 2, none⟩) hx v2
  have k3 := k2.setCell (a := ⟨g, 3, none⟩) hx v3
  have k4 := k3.setCell (a := ⟨g, 4, none⟩) hx v4
  have k5 := k4.setCell (a := ⟨g, 5, none⟩) hx v5
  have k6 := k5.setCell (a := ⟨g, 6, none⟩) hx v6
  exact k6.setCell (a := ⟨g, 7, none⟩) hx v7
theorem RB.far {S : Nat → Prop} {w : World} {p : Nat} {v : Value} {b : List Int} {t6 : Nat} {cs : Array Value} {r : RS} {wx w' : World} (h : RB S w p v b t6 cs r wx) (hk : Keeps (fun x => x ≤ t6) wx w') : RB S w p v b t6 cs r w' := by
  have h1 := h.p6; have h2 := h.p2
  exact h.step (h.rr.keeps hk (by omega) fun x hx => by have := h.hS x hx; omega) (hk.mono fun x _ hx => hx.2)

theorem Tryd.sizeSt : (Tryd.prog.info? 27).map (·.size) = some 8 := by kernel_rfl
theorem Tryd.infoFrame : (Tryd.prog.info? 66).map (fun i => (i.zero, i.size, i.bytes)) = some (some (.agg #[.int .i64 0, .int .i64 0, .slice none 0 0, .slice none 0 0]), 4, 64) := by kernel_rfl
def Stopped (p : Prop) : Prop := p
theorem stopped {p : Prop} (h : Stopped p) : p := h
theorem news4 (w : World) (a b c d : Value) (t : Nat) : ∀ j u, [a, b, c, d][j]? = some u → (w.alloc (.cells #[a, b, c, d] t)).cell? ((⟨w.heap.size, 0, none⟩ : Addr).add j) = some u := by
  intro j u h
  have e := cell_of_row (w.alloc (.cells #[a, b, c, d] t)) w.heap.size j _ _ _ (heap_alloc_new _ _)
  match j, h with
  | 0, h => exact e.trans (by simpa using h)
  | 1, h => exact e.trans (by simpa using h)
  | 2, h => exact e.trans (by simpa using h)
  | 3, h => exact e.trans (by simpa using h)
  | j + 4, h => simp at h

set_option maxRecDepth 100000 in
set_option maxHeartbeats 6400000 in
theorem snap_Read_main (w : World) (S) (v : Value) (b : List Int) (hb : ∀ x ∈ b, 0 ≤ x ∧ x ≤ 255) (h : RdI .u8 S w v b) (hl : ¬ 524288 < b.length) (hm : ¬ (b.length < 5 ∨ b.take 5 ≠ magic5)) :
    Calls Tryd.prog 16 #[v] w fun en w' => ∃ cs, en = .returned (.tuple #[.agg cs.toArray, .int .i64 (rread b).2.1, .int .i64 (rread b).2.2]) ∧ RState (fun x => w.heap.size ≤ x) w' cs (rread b).1 ∧ Below w.heap.size w w' := by
  obtain ⟨i1, hi1, hy0, hy1, hy2⟩ := info_parts Tryd.infoFrame
  have hS : RdI .u8 (fun x => x < w.heap.size) w v b := h.mono fun x hx _ => hx
  have HRD := Lib.hid hS; clear hS
  obtain ⟨a, c, rfl, hc, _, hr⟩ := h
  have h5' : 5 ≤ b.length := by omega
  have hm5 : b.take 5 = magic5 := Decidable.byContradiction fun e => hm (.inr e)
  have EREAD : Hid (rread b = let h := rhead b; let f := rframesGo b h.2.2 h.2.1 []; let r := rlast b f.2; if r.e ≠ 0 then (emptyS, r.e, r.bad) else ({ h.1 with frames := f.1 }, 0, 0)) := by
    show _ = _; rw [rread, if_neg hl, if_neg hm]
  have hl' : b.length ≤ 524288 := by omega
  obtain ⟨bb, off, rfl, _, hzz⟩ := hr 0 (by omega)
  clear hzz
  have hcv := run_convert_bytes_arg (P := Tryd.prog) (w.alloc (Obj.cells #[.slice none 0 0, .slice none 0 0, .slice none 0 0, .int .i64 0, .int .i8 0, .slice none 0 0, .int .i8 0, .int .i64 0] 27)) 31 5 Tryd.underlying31 Tryd.underlying5 bb off 5 c (b.take 5) (by rw [List.length_take]; omega) (read5 hr (by omega) _) 9 Tryd.underlying9
  have hs : (strOfNums (b.take 5)).toList = [70, 83, 78, 80, 1] := by rw [hm5]; exact of_magic
  have h5c : 5 ≤ c := by omega
  generalize strOfNums (b.take 5) = str at *
  have hs1 : (str.toList == [70, 83, 78, 80, 1]) = true := by simpa using hs
  have hs2 : (str.toList != [70, 83, 78, 80, 1]) = false := by simpa using hs
  have HB := Lib.hid hb
  clear hm hl hs hr hb hm5
  have hp1 : w.heap.size + 1 = (w.alloc (Obj.cells #[.slice none 0 0, .slice none 0 0, .slice none 0 0, .int .i64 0, .int .i8 0, .slice none 0 0, .int .i8 0, .int .i64 0] 27)).heap.size := by rw [World.size_alloc]
  have HR0 : Hid (Rr (fun x => x < w.heap.size) ((w.alloc (Obj.cells #[.slice none 0 0, .slice none 0 0, .slice none 0 0, .int .i64 0, .int .i8 0, .slice none 0 0, .int .i8 0, .int .i64 0] 27)).alloc (Obj.cells #[.slice (some ⟨bb, off, none⟩) b.length c, .int .i64 5, .int .i64 0, .int .i64 0] 86)) (w.heap.size + 1) (.slice (some ⟨bb, off, none⟩) b.length c) b ⟨5, 0, 0⟩) :=
    ⟨by rw [hp1]; exact heap_alloc_new _ _, HRD.out.keeps (((Keeps.refl _ w).alloc _).alloc _), fun x hx => by have : x < w.heap.size := hx; omega, h5'⟩
  have hrow20 : ((w.alloc (Obj.cells #[.slice none 0 0, .slice none 0 0, .slice none 0 0, .int .i64 0, .int .i8 0, .slice none 0 0, .int .i8 0, .int .i64 0] 27)).alloc (Obj.cells #[.slice (some ⟨bb, off, none⟩) b.length c, .int .i64 5, .int .i64 0, .int .i64 0] 86)).heap[w.heap.size]? = some (.cells #[.slice none 0 0, .slice none 0 0, .slice none 0 0, .int .i64 0, .int .i8 0, .slice none 0 0, .int .i8 0, .int .i64 0] 27 (0, 0)) := by
    rw [Below.heap_alloc _ _ _ (by rw [World.size_alloc]; omega)]; exact heap_alloc_new _ _
  have HROW2 := Lib.hid hrow20; clear hrow20 hp1
  go_enter Tryd.func16, Tryd.ntmps16
  go_wp2_with fail
  (with_reducible refine (rd_octet _ _ _ _ b _ HR0.out HB.out 1 3).mono ?_)
  rintro e w1 ⟨rfl, hr1, hk1⟩
  obtain ⟨x1, r1, h1⟩ : ∃ x1 r1, roct b ⟨5, 0, 0⟩ 1 3 = (x1, r1) := ⟨_, _, rfl⟩
  rw [h1] at hr1 ⊢
  have HR1 := Lib.hid hr1; have HK1 := Lib.hid hk1; have H1 := Lib.hid h1; clear hr1 hk1 h1
  go_wp2_with fail
  (with_reducible refine (rd_octet _ _ _ _ b _ HR1.out HB.out 0 6).mono ?_)
  rintro e w2 ⟨rfl, hr2, hk2⟩
  obtain ⟨x2, r2, h2⟩ : ∃ x2 r2, roct b r1 0 6 = (x2, r2) := ⟨_, _, rfl⟩
  rw [h2] at hr2 ⊢
  have HR2 := Lib.hid hr2; have HK2 := Lib.hid (HK1.out.trans hk2); have H2 := Lib.hid h2; clear hr2 hk2 h2 HR0 HR1 HK1
  have hsz2 : w.heap.size + 2 ≤ w2.heap.size := by have := HK2.out.size; simp only [World.size_alloc] at this; omega
  have HRB0 : Hid (RB (fun x => x < w.heap.size) w (w.heap.size + 1) (.slice (some ⟨bb, off, none⟩) b.length c) b w2.heap.size #[.slice none 0 0, .slice none 0 0, .slice none 0 0, .int .i64 0, .int .i8 x1, .slice none 0 0, .int .i8 x2, .int .i64 0] r2 (w2.alloc (Obj.cells #[.slice none 0 0, .slice none 0 0, .slice none 0 0, .int .i64 0, .int .i8 x1, .slice none 0 0, .int .i8 x2, .int .i64 0] 27))) := by
    refine ⟨HR2.out.keeps ((Keeps.refl (fun _ => True) _).alloc _) trivial fun _ _ => trivial, heap_alloc_new _ _, ?_, ?_, by omega, by omega, fun x hx => hx⟩
    · rw [Below.heap_alloc _ _ _ (by omega)]
      exact (HK2.out.block _ (by simp only [World.size_alloc]; omega) (by omega)).trans HROW2.out
    · exact (((below_alloc2 w _ _).trans (HK2.out.below (by simp only [World.size_alloc]; omega) fun x hx => by omega)).alloc (by omega) _)
  clear HR2 HROW2
  go_wp2_with fail
  generalize w2.heap.size = t6 at *
  generalize hW2 : w2.alloc (Obj.cells #[.slice none 0 0, .slice none 0 0, .slice none 0 0, .int .i64 0, .int .i8 x1, .slice none 0 0, .int .i8 x2, .int .i64 0] 27) = wa2 at *
  clear hW2 HK2 w2
  have HST : Hid (RState (fun x => t6 < x) wa2 [.slice none 0 0, .slice none 0 0, .slice none 0 0, .int .i64 0, .int .i8 x1, .slice none 0 0, .int .i8 x2, .int .i64 0] ⟨[], [], [], 0, x1, [], x2, 0⟩) := ⟨_, _, _, _, rfl, RdL.nil _ _ _ _, RdI.nil _ _ _, RdL.nil _ _ _ _, RdI.nil _ _ _⟩
  have HRB := HRB0; clear HRB0
  (with_reducible refine (rb_number HRB.out HB.out 4611686018427387904 4611686018427387904 (by omega) 17 (by omega)).mono ?_)
  rintro e w3 ⟨rfl, hrb, hk⟩
  obtain ⟨n3, r3, h3⟩ : ∃ n3 r3, rnum b r2 4611686018427387904 17 = (n3, r3) := ⟨_, _, rfl⟩
  have hn3 : n3 ≤ 4611686018427387904 := by have := rnum_le b r2 4611686018427387904 17; rw [h3] at this; exact this
  rw [h3] at hrb ⊢
  have HSTn := Lib.hid (HST.out.stepP hk (by have := HRB.out.p6; omega)); clear HST hk
  have H3 := Lib.hid h3; have HRBn := Lib.hid hrb; clear h3 hrb HRB
  have hw : IntKind.i64.wrap (n3 : Int) = n3 := IntWalk.i64_in _ ⟨by omega, by omega⟩
  have yf := row_free HRBn.out.row6 7; have yc := row_cell HRBn.out.row6 7 rfl
  go_wp2_with fail
  have HRB : Hid (RB (fun x => x < w.heap.size) w (w.heap.size + 1) (.slice (some ⟨bb, off, none⟩) b.length c) b t6 #[.slice none 0 0, .slice none 0 0, .slice none 0 0, .int .i64 0, .int .i8 x1, .slice none 0 0, .int .i8 x2, .int .i64 n3] r3 (w3.setCell ⟨t6, 7, none⟩ (.int .i64 n3))) := HRBn.out.set 7 _
  have HST : Hid (RState (fun x => t6 < x) (w3.setCell ⟨t6, 7, none⟩ (.int .i64 n3)) [.slice none 0 0, .slice none 0 0, .slice none 0 0, .int .i64 0, .int .i8 x1, .slice none 0 0, .int .i8 x2, .int .i64 n3] ⟨[], [], [], 0, x1, [], x2, n3⟩) := (HSTn.out.set6 7 _).put_used _
  clear yf yc HRBn HSTn
  generalize w3.setCell ⟨t6, 7, none⟩ (.int .i64 n3) = w3s at *
  clear hw
  (with_reducible refine (rb_number HRB.out HB.out 9223372036854775807 9223372036854775807 (by omega) 17 (by omega)).mono ?_)
  rintro e w4 ⟨rfl, hrb, hk⟩
  obtain ⟨n4, r4, h4⟩ : ∃ n4 r4, rnum b r3 9223372036854775807 17 = (n4, r4) := ⟨_, _, rfl⟩
  have hn4 : n4 ≤ 9223372036854775807 := by have := rnum_le b r3 9223372036854775807 17; rw [h4] at this; exact this
  rw [h4] at hrb ⊢
  have HSTn := Lib.hid (HST.out.stepP hk (by have := HRB.out.p6; omega)); clear HST hk
  have H4 := Lib.hid h4; have HRBn := Lib.hid hrb; clear h4 hrb HRB
  have hw : IntKind.i64.wrap (n4 : Int) = n4 := IntWalk.i64_in _ ⟨by omega, by omega⟩
  have yf := row_free HRBn.out.row6 3; have yc := row_cell HRBn.out.row6 3 rfl
  go_wp2_with fail
  have HRB : Hid (RB (fun x => x < w.heap.size) w (w.heap.size + 1) (.slice (some ⟨bb, off, none⟩) b.length c) b t6 #[.slice none 0 0, .slice none 0 0, .slice none 0 0, .int .i64 n4, .int .i8 x1, .slice none 0 0, .int .i8 x2, .int .i64 n3] r4 (w4.setCell ⟨t6, 3, none⟩ (.int .i64 n4))) := HRBn.out.set 3 _
  have HST : Hid (RState (fun x => t6 < x) (w4.setCell ⟨t6, 3, none⟩ (.int .i64 n4)) [.slice none 0 0, .slice none 0 0, .slice none 0 0, .int .i64 n4, .int .i8 x1, .slice none 0 0, .int .i8 x2, .int .i64 n3] ⟨[], [], [], n4, x1, [], x2, n3⟩) := (HSTn.out.set6 3 _).put_rep _
  clear yf yc HRBn HSTn
  generalize w4.setCell ⟨t6, 3, none⟩ (.int .i64 n4) = w4s at *
  clear hw
  (with_reducible refine (rb_values HRB.out HB.out 8 8 (by omega) (by omega)).mono ?_)
  rintro e w5 ⟨a5, c5, rfl, hl, hrb, hk⟩
  obtain ⟨l5, r5, h5⟩ : ∃ l5 r5, rvals b r4 8 = (l5, r5) := ⟨_, _, rfl⟩
  rw [h5] at hrb hl ⊢
  have HSTn := Lib.hid (HST.out.stepP hk (by have := HRB.out.p6; omega)); clear HST hk
  have HL5 := Lib.hid (hl.mono (T := fun x => t6 < x) fun x _ hx => by have := HRB.out.lt; omega); clear hl
  have H5 := Lib.hid h5; have HRBn := Lib.hid hrb; clear h5 hrb HRB
  have yf := row_free HRBn.out.row6 5; have yc := row_cell HRBn.out.row6 5 rfl
  go_wp2_with fail
  have HRB : Hid (RB (fun x => x < w.heap.size) w (w.heap.size + 1) (.slice (some ⟨bb, off, none⟩) b.length c) b t6 #[.slice none 0 0, .slice none 0 0, .slice none 0 0, .int .i64 n4, .int .i8 x1, .slice a5 l5.length c5, .int .i8 x2, .int .i64 n3] r5 (w5.setCell ⟨t6, 5, none⟩ (.slice a5 l5.length c5))) := HRBn.out.set 5 _
  have HST : Hid (RState (fun x => t6 < x) (w5.setCell ⟨t6, 5, none⟩ (.slice a5 l5.length c5)) [.slice none 0 0, .slice none 0 0, .slice none 0 0, .int .i64 n4, .int .i8 x1, .slice a5 l5.length c5, .int .i8 x2, .int .i64 n3] ⟨[], [], [], n4, x1, l5, x2, n3⟩) := (HSTn.out.set6 5 _).put_res (HL5.out.set6 5 _)
  clear yf yc HRBn HSTn
  generalize w5.setCell ⟨t6, 5, none⟩ (.slice a5 l5.length c5) = w5s at *
  clear HL5
  (with_reducible refine (rb_values HRB.out HB.out 64 64 (by omega) (by omega)).mono ?_)
  rintro e w6 ⟨a6, c6, rfl, hl, hrb, hk⟩
  obtain ⟨l6, r6, h6⟩ : ∃ l6 r6, rvals b r5 64 = (l6, r6) := ⟨_, _, rfl⟩
  rw [h6] at hrb hl ⊢
  have HSTn := Lib.hid (HST.out.stepP hk (by have := HRB.out.p6; omega)); clear HST hk
  have HL6 := Lib.hid (hl.mono (T := fun x => t6 < x) fun x _ hx => by have := HRB.out.lt; omega); clear hl
  have H6 := Lib.hid h6; have HRBn := Lib.hid hrb; clear h6 hrb HRB
  have yf := row_free HRBn.out.row6 1; have yc := row_cell HRBn.out.row6 1 rfl
  go_wp2_with fail
  have HRB : Hid (RB (fun x => x < w.heap.size) w (w.heap.size + 1) (.slice (some ⟨bb, off, none⟩) b.length c) b t6 #[.slice none 0 0, .slice a6 l6.length c6, .slice none 0 0, .int .i64 n4, .int .i8 x1, .slice a5 l5.length c5, .int .i8 x2, .int .i64 n3] r6 (w6.setCell ⟨t6, 1, none⟩ (.slice a6 l6.length c6))) := HRBn.out.set 1 _
  have HST : Hid (RState (fun x => t6 < x) (w6.setCell ⟨t6, 1, none⟩ (.slice a6 l6.length c6)) [.slice none 0 0, .slice a6 l6.length c6, .slice none 0 0, .int .i64 n4, .int .i8 x1, .slice a5 l5.length c5, .int .i8 x2, .int .i64 n3] ⟨[], l6, [], n4, x1, l5, x2, n3⟩) := (HSTn.out.set6 1 _).put_gl (HL6.out.set6 1 _)
  clear yf yc HRBn HSTn
  generalize w6.setCell ⟨t6, 1, none⟩ (.slice a6 l6.length c6) = w6s at *
  clear HL6
  (with_reducible refine (rb_pages HRB.out HB.out).mono ?_)
  rintro e w7 ⟨a7, c7, rfl, hl, hrb, hk⟩
  obtain ⟨l7, r7, h7⟩ : ∃ l7 r7, rpages b r6 = (l7, r7) := ⟨_, _, rfl⟩
  rw [h7] at hrb hl ⊢
  have HSTn := Lib.hid (HST.out.stepPg hk (by have := HRB.out.p6; omega)); clear HST hk
  have HL7 : Hid (RdLL .u8 (fun x => t6 < x) w7 (.slice a7 l7.length c7) l7) := hl.widen fun x _ hx => by have := HRB.out.lt; omega
  clear hl
  have H7 := Lib.hid h7; have HRBn := Lib.hid hrb; clear h7 hrb HRB
  have yf := row_free HRBn.out.row6 2; have yc := row_cell HRBn.out.row6 2 rfl
  go_wp2_with fail
  have HRB : Hid (RB (fun x => x < w.heap.size) w (w.heap.size + 1) (.slice (some ⟨bb, off, none⟩) b.length c) b t6 #[.slice none 0 0, .slice a6 l6.length c6, .slice a7 l7.length c7, .int .i64 n4, .int .i8 x1, .slice a5 l5.length c5, .int .i8 x2, .int .i64 n3] r7 (w7.setCell ⟨t6, 2, none⟩ (.slice a7 l7.length c7))) := HRBn.out.set 2 _
  have HST : Hid (RState (fun x => t6 < x) (w7.setCell ⟨t6, 2, none⟩ (.slice a7 l7.length c7)) [.slice none 0 0, .slice a6 l6.length c6, .slice a7 l7.length c7, .int .i64 n4, .int .i8 x1, .slice a5 l5.length c5, .int .i8 x2, .int .i64 n3] ⟨[], l6, l7, n4, x1, l5, x2, n3⟩) := (HSTn.out.set6 2 _).put_pg (HL7.out.set6 2 _)
  clear yf yc HRBn HSTn
  generalize w7.setCell ⟨t6, 2, none⟩ (.slice a7 l7.length c7) = w7s at *
  clear HL7
  (with_reducible refine (rb_number HRB.out HB.out 64 64 (by omega) 20 (by omega)).mono ?_)
  rintro e w8 ⟨rfl, hrb, hk⟩
  obtain ⟨n8, r8, h8⟩ : ∃ n8 r8, rnum b r7 64 20 = (n8, r8) := ⟨_, _, rfl⟩
  have hn8 : n8 ≤ 64 := by have := rnum_le b r7 64 20; rw [h8] at this; exact this
  rw [h8] at hrb ⊢
  have HSTn := Lib.hid (HST.out.stepP hk (by have := HRB.out.p6; omega)); clear HST hk
  have H8 := Lib.hid h8; have HRBn := Lib.hid hrb; clear h8 hrb HRB
  go_wp2

  have hB6 := HRBn.out.lt
  have HK8 := HRBn.out
  have HST := Lib.hid (HSTn.out.mono (T := fun x => t6 < x ∧ x < w8.heap.size) fun x hx h => ⟨h, hx⟩); clear HSTn
  clear HK8
  go_loopw [49] (fun i wr => ∃ (j : Nat) (xs : List Fq) (fa : Option Addr) (fc : Nat) (rj : RS), j ≤ n8 ∧ i = .int .u64 j ∧ xs.length = j ∧ w8.heap.size ≤ wr.heap.size ∧
      Hid (RB (fun x => x < w.heap.size) w (w.heap.size + 1) (.slice (some ⟨bb, off, none⟩) b.length c) b t6 #[.slice fa xs.length fc, .slice a6 l6.length c6, .slice a7 l7.length c7, .int .i64 n4, .int .i8 x1, .slice a5 l5.length c5, .int .i8 x2, .int .i64 n3] rj wr) ∧ Hid (RState (fun x => t6 < x ∧ x < w8.heap.size) wr [.slice none 0 0, .slice a6 l6.length c6, .slice a7 l7.length c7, .int .i64 n4, .int .i8 x1, .slice a5 l5.length c5, .int .i8 x2, .int .i64 n3] ⟨[], l6, l7, n4, x1, l5, x2, n3⟩) ∧ Hid (FrOwn w8.heap.size wr (.slice fa xs.length fc) xs) ∧ Hid (rframesGo b n8 r8 [] = rframesGo b (n8 - j) rj (xs.map (·.1)))) (fun i _ => n8 - (intOf i).toNat)
  case atStart => exact ⟨0, [], none, 0, r8, by omega, rfl, rfl, Nat.le_refl _, HRBn, HST, FrOwn.nil _ _, rfl⟩
  case round =>
    clear HST HRBn
    obtain ⟨j, xs, fa, fc, rj, hj, rfl, hxl, hBw, HRB, HST, HFR, HE⟩ := hrel
    subst hxl
    by_cases hlt : xs.length < n8
    · 
      go_wp2_with fail
      obtain ⟨nA, rA, hA⟩ : ∃ nA rA, rnum b rj 127 17 = (nA, rA) := ⟨_, _, rfl⟩
      obtain ⟨nB, rB, hB⟩ : ∃ nB rB, rnum b rA 2047 17 = (nB, rB) := ⟨_, _, rfl⟩
      obtain ⟨lC, rC, hC⟩ : ∃ lC rC, rvals b rB 64 = (lC, rC) := ⟨_, _, rfl⟩
      obtain ⟨lD, rD, hD⟩ : ∃ lD rD, rvals b rC 256 = (lD, rD) := ⟨_, _, rfl⟩
      have HE2 : Hid (rframesGo b n8 r8 [] = rframesGo b (n8 - (xs.length + 1)) rD (xs.map (·.1) ++ [⟨nA, nB, lC, lD⟩])) := by
        show _ = _
        rw [HE.out, show n8 - xs.length = (n8 - (xs.length + 1)) + 1 by omega, rframesGo, rframe]
        simp only [hA, hB, hC, hD]
      have hnA : nA ≤ 127 := by have := rnum_le b rj 127 17; rw [hA] at this; exact this
      have hnB : nB ≤ 2047 := by have := rnum_le b rA 2047 17; rw [hB] at this; exact this
      have hwA : IntKind.i64.wrap (nA : Int) = nA := IntWalk.i64_in _ ⟨by omega, by omega⟩
      have hwB : IntKind.i64.wrap (nB : Int) = nB := IntWalk.i64_in _ ⟨by omega, by omega⟩
      have HA := Lib.hid hA; have HBe := Lib.hid hB; have HC := Lib.hid hC; have HD := Lib.hid hD
      clear hA hB hC hD HE
      have hp6 := HRB.out.p6
      (with_reducible refine (rb_number HRB.out HB.out 127 127 (by omega) 17 (by omega)).mono ?_)
      rintro e wA ⟨rfl, hrb, hk⟩
      rw [HA.out] at hrb ⊢
      have HRBA := Lib.hid hrb; have HKA := Lib.hid hk; clear hrb hk HRB
      go_wp2_with fail
      (with_reducible refine (rb_number HRBA.out HB.out 2047 2047 (by omega) 17 (by omega)).mono ?_)
      rintro e wB ⟨rfl, hrb, hk⟩
      rw [HBe.out] at hrb ⊢
      have HKB := Lib.hid (HKA.out.trans hk); clear hk HKA
      have HFR2 := Lib.hid (HFR.out.keeps HKB.out fun x h1 h2 => by omega)
      have HST2 := Lib.hid (HST.out.keeps (HKB.out.mono fun x h1 h2 => by omega))
      have hszB := HKB.out.size
      have HRBB := Lib.hid hrb; clear hrb HRBA HKB HFR HST
      have hg7 := HRBB.out.lt
      have HW7 : Hid ((wB.alloc (Obj.cells #[.int .i64 nA, .int .i64 nB, .slice none 0 0, .slice none 0 0] 66)).heap[wB.heap.size]? = some (.cells #[.int .i64 nA, .int .i64 nB, .slice none 0 0, .slice none 0 0] 66 (0, 0))) := heap_alloc_new _ _
      have HRBC := Lib.hid (HRBB.out.far (((Keeps.refl _ wB)).alloc (Obj.cells #[.int .i64 nA, .int .i64 nB, .slice none 0 0, .slice none 0 0] 66)))
      have HK7 : Hid (Keeps (fun x => x ≠ w.heap.size + 1 ∧ x < wB.heap.size) wB (wB.alloc (Obj.cells #[.int .i64 nA, .int .i64 nB, .slice none 0 0, .slice none 0 0] 66))) := ((Keeps.refl _ wB)).alloc _
      clear HRBB
      go_wp2_with fail
      generalize ht7 : wB.heap.size = t7 at *
      generalize wB.alloc (Obj.cells #[.int .i64 nA, .int .i64 nB, .slice none 0 0, .slice none 0 0] 66) = wC0 at *
      (with_reducible refine (rb_values HRBC.out HB.out 64 64 (by omega) (by omega)).mono ?_)
      rintro e wC ⟨aC, cC, rfl, hl, hrb, hk⟩
      rw [HC.out] at hrb hl ⊢
      have HLC := Lib.hid (hl.mono (T := fun x => t7 < x) fun x _ hx => by have := row_lt HW7.out; omega)
      have HK7' := Lib.hid (HK7.out.trans (hk.mono fun x _ hx => hx.1))
      have HW7' := Lib.hid ((hk.block t7 (row_lt HW7.out) (by omega)).trans HW7.out)
      have HRBD := Lib.hid hrb
      clear hl hrb HRBC HK7 HW7 hk
      have yf := row_free HW7'.out 2; have yc := row_cell HW7'.out 2 rfl
      go_wp2_with fail
      have HRBC := Lib.hid (HRBD.out.far ((Keeps.refl (fun x => x ≤ t6) wC).setCell (a := ⟨t7, 2, none⟩) (by simp; omega) (.slice aC lC.length cC)))
      have HK7 := Lib.hid (HK7'.out.trans ((Keeps.refl (fun x => x ≠ w.heap.size + 1 ∧ x < t7) wC).setCell (a := ⟨t7, 2, none⟩) (by simp) (.slice aC lC.length cC)))
      have HW7 : Hid ((wC.setCell ⟨t7, 2, none⟩ (.slice aC lC.length cC)).heap[t7]? = some (.cells #[.int .i64 nA, .int .i64 nB, .slice aC lC.length cC, .slice none 0 0] 66 (0, 0))) := row_setCell HW7'.out 2 _
      have HLC' := Lib.hid (HLC.out.set6 2 (.slice aC lC.length cC)); clear HLC; have HLC := HLC'; clear HLC'
      clear yf yc HRBD HK7' HW7'
      generalize wC.setCell ⟨t7, 2, none⟩ (.slice aC lC.length cC) = wCs at *
      (with_reducible refine (rb_values HRBC.out HB.out 256 256 (by omega) (by omega)).mono ?_)
      rintro e wD ⟨aD, cD, rfl, hl, hrb, hk⟩
      rw [HD.out] at hrb hl ⊢
      have HLD := Lib.hid (hl.mono (T := fun x => t7 < x) fun x _ hx => by have := row_lt HW7.out; omega)
      have HK7' := Lib.hid (HK7.out.trans (hk.mono fun x _ hx => hx.1))
      have HW7' := Lib.hid ((hk.block t7 (row_lt HW7.out) (by omega)).trans HW7.out)
      have HRBD := Lib.hid hrb
      have HLC' := Lib.hid (HLC.out.keeps (hk.mono fun x _ hx => by omega)); clear HLC; have HLC := HLC'; clear HLC'
      clear hl hrb HRBC HK7 HW7 hk
      have HRBC := Lib.hid (HRBD.out.far ((Keeps.refl (fun x => x ≤ t6) wD).setCell (a := ⟨t7, 3, none⟩) (by simp; omega) (.slice aD lD.length cD)))
      have HK7 := Lib.hid (HK7'.out.trans ((Keeps.refl (fun x => x ≠ w.heap.size + 1 ∧ x < t7) wD).setCell (a := ⟨t7, 3, none⟩) (by simp) (.slice aD lD.length cD)))
      have HLC' := Lib.hid (HLC.out.set6 3 (.slice aD lD.length cD)); have HLD' := Lib.hid (HLD.out.set6 3 (.slice aD lD.length cD))
      have HFR3 := Lib.hid (HFR2.out.keeps HK7.out fun x h1 h2 => ⟨by omega, by omega⟩)
      have HST3 := Lib.hid (HST2.out.keeps (HK7.out.mono fun x h1 h2 => ⟨by omega, by omega⟩))
      have hszD := HK7.out.size
      have hltD : t7 < (wD.setCell ⟨t7, 3, none⟩ (.slice aD lD.length cD)).heap.size := by rw [World.size_setCell]; exact row_lt HW7'.out
      have hsetD : (wD.setCell ⟨t7, 3, none⟩ (.slice aD lD.length cD)).heap.size = wD.heap.size := World.size_setCell _ _ _
      have hu7 : (Value.slice fa xs.length fc).ownBlock ≠ some t7 ∧ ∀ x, t7 < x → (Value.slice fa xs.length fc).ownBlock ≠ some x := ⟨fun e => by have := (HFR2.out.own.lt _ e).2; omega, fun x hx e => by have := (HFR2.out.own.lt _ e).2; omega⟩
      have HU7 := Lib.hid hu7; clear hu7
      have HRW : Hid (frq ((⟨nA, nB, lC, lD⟩ : FrameD), .slice aC lC.length cC, .slice aD lD.length cD) = [.int .i64 nA, .int .i64 nB, .slice aC lC.length cC, .slice aD lD.length cD]) := rfl
      clear HLC HLD HK7' HFR2 HST2
      have yf := row_free HW7'.out 3
      have z6 := row_cell HRBD.out.row6 0 rfl; have z6f := row_free HRBD.out.row6 0
      have y0 := row_cell HW7'.out 0 rfl; have y1 := row_cell HW7'.out 1 rfl; have y2 := row_cell HW7'.out 2 rfl; have y3 := row_cell HW7'.out 3 rfl
      have hn67 : t6 ≠ t7 := by omega
      have hn76 : t7 ≠ t6 := by omega
      have hxs64 : xs.length < 64 := by omega
      simp only [List.getElem_toArray, List.getElem_cons_zero, List.getElem_cons_succ] at z6 y0 y1 y2 y3
      go_wp2_with (at_builtin; refine stopped ?_)
      unfold Stopped
      refine wpList_append_lies _ rfl _ _ 22 rfl w8.heap.size 66 i1 _ 4 64 Tryd.underlying22 hi1 hy0 hy1 hy2 rfl (by decide) _ xs.length (frqs xs) rfl (own_keeps HFR3.out.own ((Keeps.refl (fun _ => True) _).alloc _) (fun _ _ => trivial)) _ 1 1 [.int .i64 nA, .int .i64 nB, .slice aC lC.length cC, .slice aD lD.length cD] rfl rfl (by rw [← hsetD]; exact news4 _ _ _ _ _ _) (by simp [Value.oneCell']) (by omega) (by unfold maxLen; omega) (by omega) (by rw [World.size_alloc]; omega) _ rfl ?_
      intro g cap wE hown2 hgrow2 hat hlt2
      have HP := Lib.hid (HFR3.out.add (f := ⟨nA, nB, lC, lD⟩) (HLC'.out.mono fun x _ hx => ⟨by omega, HU7.out.2 x hx⟩) (HLD'.out.mono fun x _ hx => ⟨by omega, HU7.out.2 x hx⟩) hown2 hgrow2 hat)
      have HRBE := Lib.hid (HRBC.out.far (((Keeps.refl (fun x => x ≤ t6) _).alloc _).grown hgrow2 fun k hk _ h => by have := (HFR3.out.own.lt k hk).1; omega))
      have HSTE := Lib.hid (HST3.out.keeps (((Keeps.refl (fun x => t6 < x ∧ x < w8.heap.size) _).alloc _).grown hgrow2 fun k hk _ h => by have := (HFR3.out.own.lt k hk).1; omega))
      have hszE : w8.heap.size ≤ wE.heap.size := by have := hgrow2.size; rw [World.size_alloc] at this; omega
      clear hown2 hgrow2 hat HFR3 HST3 HLC' HLD' HU7 HRW HRBC HRBD yf z6 z6f y0 y1 y2 y3 HK7 HW7'
      have z6 := row_cell HRBE.out.row6 0 rfl; have z6f := row_free HRBE.out.row6 0
      go_wp2
      have HRB : Hid (RB (fun x => x < w.heap.size) w (w.heap.size + 1) (.slice (some ⟨bb, off, none⟩) b.length c) b t6 #[.slice (some ⟨g, 0, none⟩) (xs.length + 1) cap, .slice a6 l6.length c6, .slice a7 l7.length c7, .int .i64 n4, .int .i8 x1, .slice a5 l5.length c5, .int .i8 x2, .int .i64 n3] rD (wE.setCell ⟨t6, 0, none⟩ (.slice (some ⟨g, 0, none⟩) (xs.length + 1) cap))) := HRBE.out.set 0 _
      have HST := Lib.hid (HSTE.out.keeps ((Keeps.refl (fun x => t6 < x ∧ x < w8.heap.size) _).setCell (a := ⟨t6, 0, none⟩) (by simp) (.slice (some ⟨g, 0, none⟩) (xs.length + 1) cap)))
      have HFR := Lib.hid (HP.out.keeps ((Keeps.refl (fun x => t6 < x) _).setCell (a := ⟨t6, 0, none⟩) (by simp) (.slice (some ⟨g, 0, none⟩) (xs.length + 1) cap)) fun x h1 h2 => by omega)
      clear HRBE HSTE HP z6 z6f
      have hlen : (xs ++ [((⟨nA, nB, lC, lD⟩ : FrameD), Value.slice aC lC.length cC, Value.slice aD lD.length cD)]).length = xs.length + 1 := by simp
      have HLEN := Lib.hid hlen; clear hlen
      go_roundw
      case rel => exact ⟨xs.length + 1, _, some ⟨g, 0, none⟩, cap, rD, by omega, by go_num, HLEN.out, by rw [World.size_setCell]; exact hszE, by rw [HLEN.out]; exact HRB, HST, by rw [HLEN.out]; exact HFR, by rw [List.map_append]; exact HE2⟩
      case measure => simp [intOf]; omega
    · obtain rfl : n8 = xs.length := by omega
      have EH : Hid (rhead b = (⟨[], l6, l7, n4, x1, l5, x2, n3⟩, r8, xs.length)) := by show _ = _; simp only [rhead, H1.out, H2.out, H3.out, H4.out, H5.out, H6.out, H7.out, H8.out]
      have EF : Hid (rframesGo b xs.length r8 [] = (xs.map (·.1), rj)) := by show _ = _; rw [HE.out, Nat.sub_self, rframesGo]
      have ER : Hid (rread b = if (rlast b rj).e ≠ 0 then (emptyS, (rlast b rj).e, (rlast b rj).bad) else (⟨xs.map (·.1), l6, l7, n4, x1, l5, x2, n3⟩, 0, 0)) := by show _ = _; rw [EREAD.out]; simp only [EH.out, EF.out]
      clear EH EF HE EREAD H1 H2 H3 H4 H5 H6 H7 H8
      have hp6 := HRB.out.p6
      have hrowp := HRB.out.rr.row
      have z1 := row_cell hrowp 1 rfl; have z2 := row_cell hrowp 2 rfl
      simp only [List.getElem_toArray, List.getElem_cons_zero, List.getElem_cons_succ] at z1 z2
      clear hrowp
      by_cases hje : rj.e = 0
      · by_cases hja : rj.at_ = b.length
        · have E : rlast b rj = rj := by rw [rlast, if_neg (fun h => h.2 hja)]
          rw [E] at ER
          have he1 : (rj.e == 0) = true := by simp [hje]
          have he2 : (rj.e != 0) = false := by simp [hje]
          have hne : ((rj.at_ : Int) != (b.length : Int)) = false := by simp [hja]
          have HJE := Lib.hid hje; have HJA := Lib.hid hja; clear hje hja E
          have HRF := Lib.hid (HFR.out.read (by omega))
          have HS9 := Lib.hid ((HST.out.mono (T := fun x => w.heap.size < x) fun x _ h => by have := HRB.out.p2; omega).put_fr (HRF.out.mono' fun x hx => by have := HRB.out.p2; have := HRB.out.p6; omega))
          have HKS := Lib.hid (Nat.le_refl 0)
          clear HST HFR HRF HKS
          have hne62 : t6 ≠ w.heap.size := by have := HRB.out.p2; omega
          have hk := HRB.out.row6
          have k0 := row_cell hk 0 rfl; have k1 := row_cell hk 1 rfl; have k2 := row_cell hk 2 rfl; have k3 := row_cell hk 3 rfl; have k4 := row_cell hk 4 rfl; have k5 := row_cell hk 5 rfl; have k6 := row_cell hk 6 rfl; have k7 := row_cell hk 7 rfl
          simp only [List.getElem_toArray, List.getElem_cons_zero, List.getElem_cons_succ] at k0 k1 k2 k3 k4 k5 k6 k7
          clear hk
          have hg := HRB.out.row2
          have g0 := row_cell hg 0 rfl; have g1 := row_cell hg 1 rfl; have g2 := row_cell hg 2 rfl; have g3 := row_cell hg 3 rfl; have g4 := row_cell hg 4 rfl; have g5 := row_cell hg 5 rfl; have g6 := row_cell hg 6 rfl; have g7 := row_cell hg 7 rfl
          have f0 := row_free hg 0; have f1 := row_free hg 1; have f2 := row_free hg 2; have f3 := row_free hg 3; have f4 := row_free hg 4; have f5 := row_free hg 5; have f6 := row_free hg 6; have f7 := row_free hg 7
          simp only [List.getElem_toArray, List.getElem_cons_zero, List.getElem_cons_succ] at g0 g1 g2 g3 g4 g5 g6 g7
          clear hg
          go_wp2
          refine bodyPost_ret (read_results w.heap.size _ (.int .i64 0) (.int .i64 0) (set8_row HRB.out.row2 _ _ _ _ _ _ _ _) rfl rfl rfl rfl) rfl ?_
          rw [ER.out, if_neg (by rw [HJE.out]; decide)]
          exact ⟨_, rfl, (HS9.out.keeps ((set8_keeps _ w.heap.size _ _ _ _ _ _ _ _).mono fun x _ hx => by omega)).mono fun x _ hx => by omega, HRB.out.bel.trans ((set8_keeps _ w.heap.size _ _ _ _ _ _ _ _).below HRB.out.bel.size fun x hx => by omega)⟩
        · have E : rlast b rj = rj.no 19 rj.at_ := by rw [rlast, if_pos ⟨hje, hja⟩]
          have hr' : (rj.no 19 rj.at_).e = 19 := by rw [RS.no, if_pos hje]
          rw [E] at ER
          have HR' := Lib.hid hr'; clear hr' E
          have he1 : (rj.e == 0) = true := by simp [hje]
          have hne : ((rj.at_ : Int) != (b.length : Int)) = true := by simp; omega
          clear hje hja
          go_wp2_with fail
          (with_reducible refine (rd_no _ _ _ _ _ _ HRB.out.rr 19 rj.at_ rj.at_ rfl).mono ?_)
          rintro e wz ⟨rfl, hrr, hk⟩
          have HRB2 := Lib.hid (HRB.out.step hrr (hk.mono fun x _ hx => hx.1))
          clear hrr hk z1 z2 HRB HST HFR
          generalize rj.no 19 rj.at_ = rz at *
          have he2 : (rz.e != 0) = true := by rw [HR'.out]; rfl
          have hrowp := HRB2.out.rr.row
          have z3 := row_cell hrowp 3 rfl; have z2 := row_cell hrowp 2 rfl
          simp only [List.getElem_toArray, List.getElem_cons_zero, List.getElem_cons_succ] at z3 z2
          clear hrowp
          have hg := HRB2.out.row2
          have g0 := row_cell hg 0 rfl; have g1 := row_cell hg 1 rfl; have g2 := row_cell hg 2 rfl; have g3 := row_cell hg 3 rfl; have g4 := row_cell hg 4 rfl; have g5 := row_cell hg 5 rfl; have g6 := row_cell hg 6 rfl; have g7 := row_cell hg 7 rfl
          have f0 := row_free hg 0; have f1 := row_free hg 1; have f2 := row_free hg 2; have f3 := row_free hg 3; have f4 := row_free hg 4; have f5 := row_free hg 5; have f6 := row_free hg 6; have f7 := row_free hg 7
          simp only [List.getElem_toArray, List.getElem_cons_zero, List.getElem_cons_succ] at g0 g1 g2 g3 g4 g5 g6 g7
          clear hg
          go_wp2_with fail
          go_region
          all_goals go_wp2
          refine bodyPost_ret (read_results w.heap.size #[.slice none 0 0, .slice none 0 0, .slice none 0 0, .int .i64 0, .int .i8 0, .slice none 0 0, .int .i8 0, .int .i64 0] (.int .i64 rz.e) (.int .i64 rz.bad) (set8_rowD HRB2.out.row2 _ _ _ _ _ _ _ _) rfl rfl rfl rfl) rfl ?_
          rw [ER.out, if_pos (by rw [HR'.out]; decide)]
          exact ⟨_, rfl, REmpty _ _, HRB2.out.bel.trans (((set8_keeps _ w.heap.size _ _ _ _ _ _ _ _).below HRB2.out.bel.size fun x hx => by omega).drew)⟩
      · have E : rlast b rj = rj := by rw [rlast, if_neg (fun h => hje h.1)]
        rw [E] at ER
        have HJE := Lib.hid hje
        have he1 : (rj.e == 0) = false := by simp [hje]
        have he2 : (rj.e != 0) = true := by simp [hje]
        clear hje E z1 z2 HST HFR
        have hrowp := HRB.out.rr.row
        have z3 := row_cell hrowp 3 rfl; have z2 := row_cell hrowp 2 rfl
        simp only [List.getElem_toArray, List.getElem_cons_zero, List.getElem_cons_succ] at z3 z2
        clear hrowp
        have hg := HRB.out.row2
        have g0 := row_cell hg 0 rfl; have g1 := row_cell hg 1 rfl; have g2 := row_cell hg 2 rfl; have g3 := row_cell hg 3 rfl; have g4 := row_cell hg 4 rfl; have g5 := row_cell hg 5 rfl; have g6 := row_cell hg 6 rfl; have g7 := row_cell hg 7 rfl
        have f0 := row_free hg 0; have f1 := row_free hg 1; have f2 := row_free hg 2; have f3 := row_free hg 3; have f4 := row_free hg 4; have f5 := row_free hg 5; have f6 := row_free hg 6; have f7 := row_free hg 7
        simp only [List.getElem_toArray, List.getElem_cons_zero, List.getElem_cons_succ] at g0 g1 g2 g3 g4 g5 g6 g7
        clear hg
        go_wp2_with fail
        go_region
        all_goals go_wp2
        refine bodyPost_ret (read_results w.heap.size #[.slice none 0 0, .slice none 0 0, .slice none 0 0, .int .i64 0, .int .i8 0, .slice none 0 0, .int .i8 0, .int .i64 0] (.int .i64 rj.e) (.int .i64 rj.bad) (set8_rowD HRB.out.row2 _ _ _ _ _ _ _ _) rfl rfl rfl rfl) rfl ?_
        rw [ER.out, if_pos (HJE.out)]
        exact ⟨_, rfl, REmpty _ _, HRB.out.bel.trans (((set8_keeps _ w.heap.size _ _ _ _ _ _ _ _).below HRB.out.bel.size fun x hx => by omega).drew)⟩

/-- 'snap.Read'. -/
theorem snap_Read (w : World) (S) (v : Value) (b : List Int) (hb : ∀ x ∈ b, 0 ≤ x ∧ x ≤ 255) (h : RdI .u8 S w v b) :
    Calls Tryd.prog 16 #[v] w fun en w' => ∃ cs, en = .returned (.tuple #[.agg cs.toArray, .int .i64 (rread b).2.1, .int .i64 (rread b).2.2]) ∧ RState (fun x => w.heap.size ≤ x) w' cs (rread b).1 ∧ Below w.heap.size w w' := by
  by_cases hl : 524288 < b.length
  · exact snap_Read_long w S v b h hl
  · by_cases hm : b.length < 5 ∨ b.take 5 ≠ magic5
    · exact snap_Read_magic w S v b hb h hl hm
    · exact snap_Read_main w S v b hb h hl hm
end Go.Proofs.YthlkckpadjjbdaaDoor
