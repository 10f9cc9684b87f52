/- snap.Read: its answer's lists are its own and apart. -/
import Derived.Test.YthlkckpadjjbdaaDoorAddG22
namespace Go.Proofs.YthlkckpadjjbdaaDoor
open Go Go.RowKit
set_option linter.unusedVariables false

/-- The three lists that lie ahead of the frames. -/
structure Osl (t : Nat) (w : World) (v5 v6 v7 : Value) (l5 l6 : List Int) (gs : List Nat) (l7 : List (List Int)) : Prop where
  o5 : w.ownsRow (t + 1) 63 1 v5 l5.length (l5.map (Value.int .u64))
  o6 : w.ownsRow (t + 1) 63 1 v6 l6.length (l6.map (Value.int .u64))
  o7 : PgOwn (t + 1) w v7 gs l7
  dj : G.Dj ([v5] ++ [v6] ++ [v7] ++ gs.map pgv)
theorem Osl.init (t : Nat) (w : World) : Osl t w (.slice none 0 0) (.slice none 0 0) (.slice none 0 0) [] [] [] [] := ⟨World.ownsRow_nil _ _ _ _, World.ownsRow_nil _ _ _ _, PgOwn.nil _ _, List.nodup_nil⟩
section
variable {t : Nat} {w w' : World} {v5 v6 v7 : Value} {l5 l6 : List Int} {gs : List Nat} {l7 : List (List Int)}
theorem pg_lt {base g : Nat} {v : Value} {pages : List (List Int)} (h : PgOwn base w v gs pages) (hg : g ∈ gs) : base ≤ g ∧ g < w.heap.size := by
  obtain ⟨i, hi, rfl⟩ := List.mem_iff_getElem.1 hg
  exact ⟨(h.ge _ hg).1, row_lt (h.row i _ (List.getElem?_eq_getElem hi))⟩
theorem Osl.all (h : Osl t w v5 v6 v7 l5 l6 gs l7) : ∀ v ∈ [v5] ++ [v6] ++ [v7] ++ gs.map pgv, ∀ g, v.ownBlock = some g → t < g ∧ g < w.heap.size := fun v hv g e => by
  simp only [List.mem_append, List.mem_singleton, List.mem_map] at hv
  rcases hv with ((rfl | rfl) | rfl) | ⟨y, hy, rfl⟩
  · have := h.o5.lt g e; omega
  · have := h.o6.lt g e; omega
  · have := h.o7.own.lt g e; omega
  · have := pg_lt h.o7 hy
    simp only [pgv, Value.ownBlock, Option.some.injEq] at e
    omega
theorem Osl.kept' {S : Nat → Prop} (h : Osl t w v5 v6 v7 l5 l6 gs l7) (hk : Keeps S w w') (hS : ∀ v ∈ [v5] ++ [v6] ++ [v7] ++ gs.map pgv, ∀ g, v.ownBlock = some g → S g) : Osl t w' v5 v6 v7 l5 l6 gs l7 :=
  ⟨own_keeps h.o5 hk (hS v5 (by simp)), own_keeps h.o6 hk (hS v6 (by simp)), G.pg_kept h.o7 hk (hS v7 (by simp)) fun g hg => hS (pgv g) (by simp only [List.mem_append, List.mem_map]; exact .inr ⟨g, hg, rfl⟩) g rfl, h.dj⟩
theorem Osl.keeps {S : Nat → Prop} (h : Osl t w v5 v6 v7 l5 l6 gs l7) (hk : Keeps S w w') (hS : ∀ b, t < b → b < w.heap.size → S b) : Osl t w' v5 v6 v7 l5 l6 gs l7 := h.kept' hk fun v hv g e => hS g (h.all v hv g e).1 (h.all v hv g e).2
theorem Osl.kept {T : Nat} (h : Osl t w v5 v6 v7 l5 l6 gs l7) (hk : Keeps (fun x => t < x ∧ x < T) w w') (hT : ∀ v ∈ [v5] ++ [v6] ++ [v7] ++ gs.map pgv, ∀ g, v.ownBlock = some g → t < g ∧ g < T) : Osl t w' v5 v6 v7 l5 l6 gs l7 := h.kept' hk hT
theorem Osl.set6 (h : Osl t w v5 v6 v7 l5 l6 gs l7) (i : Nat) (u : Value) : Osl t (w.setCell ⟨t, i, none⟩ u) v5 v6 v7 l5 l6 gs l7 := h.keeps (S := fun x => x ≠ t) ((Keeps.refl _ w).setCell (a := ⟨t, i, none⟩) (by simp) u) fun b h _ => by omega
theorem own_far {n k : Nat} {v : Value} {l : List Int} (h : w.ownsRow n 63 1 v k (l.map (Value.int .u64))) (hn : t < n) (i : Nat) (u : Value) : (w.setCell ⟨t, i, none⟩ u).ownsRow n 63 1 v k (l.map (Value.int .u64)) :=
  own_keeps (S := fun x => x ≠ t) h ((Keeps.refl _ w).setCell (a := ⟨t, i, none⟩) (by simp) u) fun g e => by have := (h.lt g e).1; omega
theorem pg_far {n : Nat} (h : PgOwn n w v7 gs l7) (hn : t < n) (i : Nat) (u : Value) : PgOwn n (w.setCell ⟨t, i, none⟩ u) v7 gs l7 :=
  h.keeps (S := fun x => x ≠ t) ((Keeps.refl _ w).setCell (a := ⟨t, i, none⟩) (by simp) u) fun b h _ => by omega
theorem dj_one (v : Value) : G.Dj [v] := by
  unfold G.Dj G.blks
  cases h : v.ownBlock <;> simp [h]
theorem dj_nils {a : List Value} (h : G.Dj a) : G.Dj (a ++ [.slice none 0 0]) := by
  unfold G.Dj at *; rw [G.blks_app]; show (G.blks a ++ []).Nodup; rw [List.append_nil]; exact h
theorem Osl.put5 {v : Value} {l : List Int} (h : Osl t w (.slice none 0 0) (.slice none 0 0) (.slice none 0 0) [] [] [] []) (ho : w.ownsRow (t + 1) 63 1 v l.length (l.map (Value.int .u64))) : Osl t w v (.slice none 0 0) (.slice none 0 0) l [] [] [] :=
  ⟨ho, h.o6, h.o7, by show G.Dj ([v] ++ [.slice none 0 0] ++ [.slice none 0 0] ++ []); rw [List.append_nil]; exact dj_nils (dj_nils (dj_one v))⟩
theorem Osl.put6 {v : Value} {l : List Int} (h : Osl t w v5 (.slice none 0 0) (.slice none 0 0) l5 [] [] []) (ho : w.ownsRow (t + 1) 63 1 v l.length (l.map (Value.int .u64))) (hs : ∀ g g', v5.ownBlock = some g → v.ownBlock = some g' → g < g') : Osl t w v5 v (.slice none 0 0) l5 l [] [] := by
  refine ⟨h.o5, ho, h.o7, ?_⟩
  show G.Dj ([v5] ++ [v] ++ [.slice none 0 0] ++ [])
  rw [List.append_nil]
  refine dj_nils ?_
  unfold G.Dj
  rw [G.blks_app, List.nodup_append]
  refine ⟨dj_one v5, dj_one v, fun x hx y hy e => ?_⟩
  obtain ⟨a, ha, e1⟩ := G.mem_blks.1 hx
  obtain ⟨b, hb, e2⟩ := G.mem_blks.1 hy
  simp only [List.mem_singleton] at ha hb
  subst ha hb
  have := hs x y e1 e2
  omega
theorem dj_pages {n : Nat} (h : PgOwn n w v7 gs l7) : G.Dj ([v7] ++ gs.map pgv) := by
  unfold G.Dj
  have e : G.blks (gs.map pgv) = gs := by
    unfold G.blks
    rw [List.filterMap_map]
    have : (Value.ownBlock ∘ pgv) = some := by funext g; rfl
    rw [this, List.filterMap_some]
  rw [G.blks_app, List.nodup_append, e]
  refine ⟨dj_one v7, h.nd, fun x hx y hy e => ?_⟩
  obtain ⟨a, ha, e1⟩ := G.mem_blks.1 hx
  simp only [List.mem_singleton] at ha
  subst ha e
  exact (h.ge x hy).2 e1
theorem Osl.put7 {n : Nat} {v : Value} (h : Osl t w v5 v6 (.slice none 0 0) l5 l6 [] []) (ho : PgOwn n w v gs l7) (hn : t < n) (hs : (∀ g, v5.ownBlock = some g → g < n) ∧ ∀ g, v6.ownBlock = some g → g < n) : Osl t w v5 v6 v l5 l6 gs l7 := by
  refine ⟨h.o5, h.o6, pg_base ho hn, ?_⟩
  have hd : G.Dj ([v5] ++ [v6]) := G.Dj.left (b := [.slice none 0 0]) (by simpa using h.dj)
  have := G.Dj.join (n := n) hd (dj_pages ho) (fun u hu g e => ?_) (fun u hu g e => ?_)
  · simpa using this
  · simp only [List.mem_append, List.mem_singleton] at hu
    rcases hu with rfl | rfl
    · exact hs.1 g e
    · exact hs.2 g e
  · simp only [List.mem_append, List.mem_singleton, List.mem_map] at hu
    rcases hu with rfl | ⟨y, hy, rfl⟩
    · exact (ho.own.lt g e).1
    · simp only [pgv, Value.ownBlock, Option.some.injEq] at e
      subst e; exact (ho.ge y hy).1
end
/-- The frames: the list, the lists in it. -/
structure FrO (base : Nat) (w : World) (v : Value) (xs : List Fq) : Prop where
  own : w.ownsRow base 66 4 v xs.length (frqs xs)
  inr : ∀ x ∈ xs, w.ownsRow base 63 1 x.2.1 x.1.loc.length (x.1.loc.map (Value.int .u64)) ∧ w.ownsRow base 63 1 x.2.2 x.1.stk.length (x.1.stk.map (Value.int .u64))
  dj : G.Dj ([v] ++ G.inn xs)
theorem FrO.nil (base : Nat) (w : World) : FrO base w (.slice none 0 0) [] := ⟨World.ownsRow_nil _ _ _ _, by simp, List.nodup_nil⟩
theorem inn_mem {xs : List Fq} {u : Value} (h : u ∈ G.inn xs) : ∃ x ∈ xs, u = x.2.1 ∨ u = x.2.2 := by
  unfold G.inn at h
  simp only [List.mem_flatMap, List.mem_cons, List.not_mem_nil, or_false] at h
  exact h
theorem FrO.all {base : Nat} {w : World} {v : Value} {xs : List Fq} (h : FrO base w v xs) : ∀ u ∈ [v] ++ G.inn xs, ∀ g, u.ownBlock = some g → base ≤ g ∧ g < w.heap.size := fun u hu g e => by
  simp only [List.mem_append, List.mem_singleton] at hu
  rcases hu with rfl | hu
  · exact h.own.lt g e
  · obtain ⟨x, hx, rfl | rfl⟩ := inn_mem hu
    · exact (h.inr x hx).1.lt g e
    · exact (h.inr x hx).2.lt g e
theorem FrO.keeps {S : Nat → Prop} {base : Nat} {w w' : World} {v : Value} {xs : List Fq} (h : FrO base w v xs) (hk : Keeps S w w') (hS : ∀ b, base ≤ b → b < w.heap.size → S b) : FrO base w' v xs :=
  ⟨own_keeps h.own hk fun b hb => hS b (h.own.lt b hb).1 (h.own.lt b hb).2, fun x hx => ⟨own_keeps (h.inr x hx).1 hk fun b hb => hS b ((h.inr x hx).1.lt b hb).1 ((h.inr x hx).1.lt b hb).2, own_keeps (h.inr x hx).2 hk fun b hb => hS b ((h.inr x hx).2.lt b hb).1 ((h.inr x hx).2.lt b hb).2⟩, h.dj⟩
theorem dj_frame {t7 nD : Nat} {fv lv sv : Value} {xs : List Fq} (hd : G.Dj ([fv] ++ G.inn xs)) (h1 : ∀ v ∈ [fv] ++ G.inn xs, ∀ g, v.ownBlock = some g → g < t7) (h2 : ∀ g, lv.ownBlock = some g → g < nD) (h3 : ∀ g, lv.ownBlock = some g → t7 + 1 ≤ g) (h4 : ∀ g, sv.ownBlock = some g → nD ≤ g) (ht : t7 ≤ nD) : G.Dj ([fv] ++ G.inn xs ++ [lv] ++ [sv]) := by
  refine G.Dj.join (n := nD) (G.Dj.join (n := t7) hd (dj_one lv) h1 fun v hv g e => ?_) (dj_one sv) (fun v hv g e => ?_) fun v hv g e => ?_
  · simp only [List.mem_singleton] at hv; subst hv; have := h3 g e; omega
  · rcases List.mem_append.1 hv with hv | hv
    · have := h1 v hv g e; omega
    · simp only [List.mem_singleton] at hv; subst hv; exact h2 g e
  · simp only [List.mem_singleton] at hv; subst hv; exact h4 g e
theorem inn_app (xs : List Fq) (x : Fq) : G.inn (xs ++ [x]) = G.inn xs ++ [x.2.1] ++ [x.2.2] := by simp [G.inn]
theorem FrO.add {base : Nat} {wr w2 : World} {u : Value} {g cap : Nat} {xs : List Fq} {f : FrameD} {lv sv : Value} (h : FrO base wr u xs)
    (hl : wr.ownsRow base 63 1 lv f.loc.length (f.loc.map (Value.int .u64))) (hs : wr.ownsRow base 63 1 sv f.stk.length (f.stk.map (Value.int .u64))) (hd : G.Dj ([u] ++ G.inn xs ++ [lv] ++ [sv])) {o : Obj}
    (hown2 : w2.ownsRow base 66 4 (.slice (some ⟨g, 0, none⟩) (xs.length + 1) cap) (xs.length + 1) (frqs xs ++ frq (f, lv, sv))) (hg2 : (wr.alloc o).grownBy w2 u.ownBlock) (hat : u.ownBlock = some g ∨ g = (wr.alloc o).heap.size) :
    FrO base w2 (.slice (some ⟨g, 0, none⟩) (xs.length + 1) cap) (xs ++ [(f, lv, sv)]) := by
  have hk1 : Keeps (fun b => u.ownBlock ≠ some b) wr w2 := ((Keeps.refl _ wr).alloc o).grown hg2 fun k hk _ h => h hk
  have hrest : ∀ y ∈ G.inn xs ++ [lv] ++ [sv], ∀ b, y.ownBlock = some b → u.ownBlock ≠ some b ∧ b < wr.heap.size := fun y hy b e => by
    constructor
    · intro e2
      unfold G.Dj at hd
      rw [show [u] ++ G.inn xs ++ [lv] ++ [sv] = [u] ++ (G.inn xs ++ [lv] ++ [sv]) by simp, G.blks_app, List.nodup_append] at hd
      exact hd.2.2 b (G.mem_blks.2 ⟨u, by simp, e2⟩) b (G.mem_blks.2 ⟨y, hy, e⟩) rfl
    · simp only [List.mem_append, List.mem_singleton] at hy
      rcases hy with (hy | rfl) | rfl
      · exact (h.all y (List.mem_append_right _ hy) b e).2
      · exact (hl.lt b e).2
      · exact (hs.lt b e).2
  refine ⟨by rw [frqs_app, List.length_append]; exact hown2, fun x hx => ?_, ?_⟩
  · rcases List.mem_append.1 hx with hx | hx
    · exact ⟨own_keeps (h.inr x hx).1 hk1 fun b e => (hrest _ (by simp [(G.mem_inn hx).1]) b e).1, own_keeps (h.inr x hx).2 hk1 fun b e => (hrest _ (by simp [(G.mem_inn hx).2]) b e).1⟩
    · simp only [List.mem_singleton] at hx; subst hx
      exact ⟨own_keeps hl hk1 fun b e => (hrest _ (by simp) b e).1, own_keeps hs hk1 fun b e => (hrest _ (by simp) b e).1⟩
  · rw [inn_app]
    show G.Dj ([_] ++ (G.inn xs ++ [lv] ++ [sv]))
    have hr : G.Dj (G.inn xs ++ [lv] ++ [sv]) := G.Dj.right (a := [u]) (by simpa using hd)
    unfold G.Dj at *
    rw [G.blks_app, List.nodup_append]
    refine ⟨dj_one _, hr, fun x hx y hy e => ?_⟩
    subst e
    obtain ⟨a, ha, e1⟩ := G.mem_blks.1 hx
    obtain ⟨c, hc, e2⟩ := G.mem_blks.1 hy
    simp only [List.mem_singleton] at ha
    subst ha
    simp only [Value.ownBlock, Option.some.injEq] at e1
    subst e1
    obtain ⟨q1, q2⟩ := hrest c hc g e2
    rcases hat with e | e
    · exact q1 e
    · rw [World.size_alloc] at e; omega
theorem own_state {t n : Nat} {w : World} {v5 v6 v7 fv : Value} {l5 l6 : List Int} {gs : List Nat} {l7 : List (List Int)} {xs : List Fq} {rep ends trap used : Int} (h : Osl t w v5 v6 v7 l5 l6 gs l7) (hF : FrO n w fv xs) (hT : ∀ v ∈ [v5] ++ [v6] ++ [v7] ++ gs.map pgv, ∀ g, v.ownBlock = some g → t < g ∧ g < n) (hn : t < n) :
    G.OwnSt (t + 1) w fv v6 v7 v5 xs gs ⟨xs.map (·.1), l6, l7, rep, ends, l5, trap, used⟩ := by
  refine ⟨own_base hF.own hn, rfl, fun x hx => ⟨own_base (hF.inr x hx).1 hn, own_base (hF.inr x hx).2 hn⟩, h.o6, h.o7, h.o5, ?_⟩
  have hj := G.Dj.join (n := n) h.dj hF.dj (fun v hv g e => (hT v hv g e).2) fun v hv g e => (hF.all v hv g e).1
  refine hj.perm ?_
  unfold G.allOf
  have e1 : [v5] ++ [v6] ++ [v7] ++ gs.map pgv ++ ([fv] ++ G.inn xs) = [v5] ++ ([v6] ++ [v7] ++ gs.map pgv) ++ ([fv] ++ G.inn xs) := by simp
  have e2 : [fv] ++ G.inn xs ++ [v6] ++ [v7] ++ gs.map pgv ++ [v5] = ([fv] ++ G.inn xs) ++ (([v6] ++ [v7] ++ gs.map pgv) ++ [v5]) := by simp
  rw [e1, e2]
  exact List.perm_append_comm.trans (List.Perm.append_left _ List.perm_append_comm)
theorem ownst_all {B : Nat} {w : World} {fv gv pv rv : Value} {xs : List Fq} {gs : List Nat} {s : StateD} (h : G.OwnSt B w fv gv pv rv xs gs s) : ∀ u ∈ G.allOf fv xs gv pv gs rv, ∀ g, u.ownBlock = some g → B ≤ g ∧ g < w.heap.size := fun u hu g e => by
  unfold G.allOf at hu
  simp only [List.mem_append, List.mem_singleton, List.mem_map] at hu
  rcases hu with ((((rfl | hu) | rfl) | rfl) | ⟨y, hy, rfl⟩) | rfl
  · exact h.fr.lt g e
  · obtain ⟨x, hx, rfl | rfl⟩ := inn_mem hu
    · exact (h.inr x hx).1.lt g e
    · exact (h.inr x hx).2.lt g e
  · exact h.gl.lt g e
  · exact h.pg.own.lt g e
  · have := pg_lt h.pg hy
    simp only [pgv, Value.ownBlock, Option.some.injEq] at e
    omega
  · exact h.rs.lt g e
theorem ownst_on {S : Nat → Prop} {B : Nat} {w w' : World} {fv gv pv rv : Value} {xs : List Fq} {gs : List Nat} {s : StateD} (h : G.OwnSt B w fv gv pv rv xs gs s) (hk : Keeps S w w') (hS : ∀ u ∈ G.allOf fv xs gv pv gs rv, ∀ g, u.ownBlock = some g → S g) : G.OwnSt B w' fv gv pv rv xs gs s := by
  have hm : ∀ u, u ∈ G.allOf fv xs gv pv gs rv ↔ ((((u = fv ∨ u ∈ G.inn xs) ∨ u = gv) ∨ u = pv) ∨ ∃ y ∈ gs, pgv y = u) ∨ u = rv := fun u => by unfold G.allOf; simp only [List.mem_append, List.mem_singleton, List.mem_map]
  exact ⟨own_keeps h.fr hk (hS fv ((hm _).2 (.inl (.inl (.inl (.inl (.inl rfl))))))), h.fl,
    fun x hx => ⟨own_keeps (h.inr x hx).1 hk (hS _ ((hm _).2 (.inl (.inl (.inl (.inl (.inr (G.mem_inn hx).1))))))), own_keeps (h.inr x hx).2 hk (hS _ ((hm _).2 (.inl (.inl (.inl (.inl (.inr (G.mem_inn hx).2)))))))⟩,
    own_keeps h.gl hk (hS gv ((hm _).2 (.inl (.inl (.inl (.inr rfl)))))), G.pg_kept h.pg hk (hS pv ((hm _).2 (.inl (.inl (.inr rfl))))) (fun g hg => hS (pgv g) ((hm _).2 (.inl (.inr ⟨g, hg, rfl⟩))) g rfl), own_keeps h.rs hk (hS rv ((hm _).2 (.inr rfl))), h.dj⟩
theorem ownst_kept {n B B' : Nat} {w w' : World} {fv gv pv rv : Value} {xs : List Fq} {gs : List Nat} {s : StateD} (h : G.OwnSt B w fv gv pv rv xs gs s) (hk : Keeps (fun x => x ≠ n) w w') (hn : n < B) (hB : B' ≤ B) : G.OwnSt B' w' fv gv pv rv xs gs s := by
  have h' := ownst_on h hk fun u hu g e => by have := (ownst_all h u hu g e).1; omega
  exact ⟨own_base h'.fr hB, h'.fl, fun x hx => ⟨own_base (h'.inr x hx).1 hB, own_base (h'.inr x hx).2 hB⟩, own_base h'.gl hB, pg_base h'.pg hB, own_base h'.rs hB, h'.dj⟩
theorem ownst_nil (B : Nat) (w : World) : G.OwnSt B w (.slice none 0 0) (.slice none 0 0) (.slice none 0 0) (.slice none 0 0) [] [] emptyS :=
  ⟨World.ownsRow_nil _ _ _ _, rfl, fun x hx => by simp at hx, World.ownsRow_nil _ _ _ _, PgOwn.nil _ _, World.ownsRow_nil _ _ _ _, List.nodup_nil⟩
section
variable {S : Nat → Prop} {w : World} {p : Nat} {v : Value} {b : List Int} {t6 : Nat} {cs : Array Value} {r : RS} {wx : World}
theorem rbO_values (h : RB S w p v b t6 cs r wx) (hb : ∀ x ∈ b, 0 ≤ x ∧ x ≤ 255) (most : Nat) (M : Int) (hM : (most : Int) = M) (hmost : most ≤ 1000000) :
    Calls Tryd.prog 57 #[.pointer (some ⟨p, 0, none⟩), .int .u64 M] wx fun en w' => ∃ a c, en = .returned (.slice a (rvals b r most).1.length c) ∧ w'.ownsRow wx.heap.size 63 1 (.slice a (rvals b r most).1.length c) (rvals b r most).1.length ((rvals b r most).1.map (Value.int .u64)) ∧
      RB S w p v b t6 cs (rvals b r most).2 w' ∧ Keeps (fun x => x ≠ p) wx w' := by
  have hsz := h.bel.size
  refine (rd_values S wx p v b r h.rr hb (fun x hx => by have := h.hS x hx; omega) most M hM hmost).mono ?_
  rintro en w' ⟨v', rfl, h1, h2, h3⟩
  obtain ⟨a, c, rfl, _⟩ := own_slice h1
  exact ⟨a, c, rfl, h1, h.step h2 (h3.mono fun _ _ h => h.1), h3⟩
theorem rbO_pages (h : RB S w p v b t6 cs r wx) (hb : ∀ x ∈ b, 0 ≤ x ∧ x ≤ 255) :
    Calls Tryd.prog 58 #[.pointer (some ⟨p, 0, none⟩)] wx fun en w' => ∃ a c gs, en = .returned (.slice a (rpages b r).1.length c) ∧ PgOwn wx.heap.size w' (.slice a (rpages b r).1.length c) gs (rpages b r).1 ∧
      RB S w p v b t6 cs (rpages b r).2 w' ∧ Keeps (fun x => x ≠ p ∧ x < wx.heap.size) wx w' := by
  have hsz := h.bel.size
  have h6 := h.lt
  refine (rd_pages S wx p v b r h.rr hb (fun x hx => by have := h.hS x hx; omega)).mono ?_
  rintro en w' ⟨v', rfl, ⟨gs, hg⟩, h2, h3⟩
  obtain ⟨a, c, rfl, hx⟩ := own_slice hg.own
  have e := hg.len
  rw [e] at hg ⊢
  exact ⟨a, c, gs, rfl, hg, h.step h2 (h3.mono fun x _ hx => ⟨hx.1, by omega⟩), h3⟩
end

set_option maxRecDepth 100000 in
set_option maxHeartbeats 6400000 in
theorem snap_Read_longO (w : World) (S) (v : Value) (b : List Int) (h : RdI .u8 S w v b) (hl : 524288 < b.length) :
    Calls Tryd.prog 16 #[v] w fun en w' => ∃ fv gv pv rv xs gs, en = .returned (.tuple #[.agg #[fv, gv, pv, .int .i64 (rread b).1.replies, .int .i8 (rread b).1.ends, rv, .int .i8 (rread b).1.trap, .int .i64 (rread b).1.used], .int .i64 (rread b).2.1, .int .i64 (rread b).2.2]) ∧ G.OwnSt w.heap.size w' fv gv pv rv xs gs (rread b).1 ∧ Below w.heap.size w w' := by
  obtain ⟨a, c, rfl, hc, hm, _⟩ := h
  have E : Hid (rread b = (emptyS, 13, 0)) := by show _ = _; rw [rread, if_pos hl]
  go_enter Tryd.func16, Tryd.ntmps16
  go_wp2
  refine bodyPost_ret (read_results w.heap.size #[.slice none 0 0, .slice none 0 0, .slice none 0 0, .int .i64 0, .int .i8 0, .slice none 0 0, .int .i8 0, .int .i64 0] (.int .i64 13) (.int .i64 0) (heap_alloc_new _ _) rfl rfl rfl rfl) rfl ?_
  rw [E.out]
  exact ⟨.slice none 0 0, .slice none 0 0, .slice none 0 0, .slice none 0 0, [], [], rfl, ownst_nil _ _, below_alloc _ _⟩

set_option maxRecDepth 100000 in
set_option maxHeartbeats 1600000 in
theorem snap_Read_magicO (w : World) (S) (v : Value) (b : List Int) (hb : ∀ x ∈ b, 0 ≤ x ∧ x ≤ 255) (h : RdI .u8 S w v b) (hl : ¬ 524288 < b.length) (hm : b.length < 5 ∨ b.take 5 ≠ magic5) :
    Calls Tryd.prog 16 #[v] w fun en w' => ∃ fv gv pv rv xs gs, en = .returned (.tuple #[.agg #[fv, gv, pv, .int .i64 (rread b).1.replies, .int .i8 (rread b).1.ends, rv, .int .i8 (rread b).1.trap, .int .i64 (rread b).1.used], .int .i64 (rread b).2.1, .int .i64 (rread b).2.2]) ∧ G.OwnSt w.heap.size w' fv gv pv rv xs gs (rread b).1 ∧ Below w.heap.size w w' := by
  obtain ⟨a, c, rfl, hc, _, hr⟩ := h
  have E : Hid (rread b = (emptyS, 14, 0)) := by show _ = _; rw [rread, if_neg hl, if_pos hm]
  have hl' : b.length ≤ 524288 := by omega
  by_cases h5 : b.length < 5
  · clear hm hl
    go_enter Tryd.func16, Tryd.ntmps16
    go_wp2
    refine bodyPost_ret (read_results w.heap.size #[.slice none 0 0, .slice none 0 0, .slice none 0 0, .int .i64 0, .int .i8 0, .slice none 0 0, .int .i8 0, .int .i64 0] (.int .i64 14) (.int .i64 0) (heap_alloc_new _ _) rfl rfl rfl rfl) rfl ?_
    rw [E.out]
    exact ⟨.slice none 0 0, .slice none 0 0, .slice none 0 0, .slice none 0 0, rfl, ⟨[], [], ownst_nil _ _⟩, below_alloc _ _⟩
  · obtain ⟨bb, off, rfl, _, hzz⟩ := hr 0 (by omega)
    clear hzz
    have hcv := run_convert_bytes_arg (P := Tryd.prog) (w.alloc (Obj.cells #[.slice none 0 0, .slice none 0 0, .slice none 0 0, .int .i64 0, .int .i8 0, .slice none 0 0, .int .i8 0, .int .i64 0] 27)) 31 5 Tryd.underlying31 Tryd.underlying5 bb off 5 c (b.take 5) (by rw [List.length_take]; omega) (read5 hr (by omega) _) 9 Tryd.underlying9
    have hne : b.take 5 ≠ magic5 := by rcases hm with h | h; exact absurd h h5; exact h
    have hs : (strOfNums (b.take 5)).toList ≠ [70, 83, 78, 80, 1] := fun e => hne (magic_of (by rw [List.length_take]; omega) (fun x hx => hb x (List.mem_of_mem_take hx)) e)
    have h5' : 5 ≤ b.length := by omega
    have h5c : 5 ≤ c := by omega
    generalize strOfNums (b.take 5) = str at *
    have hs1 : (str.toList == [70, 83, 78, 80, 1]) = false := by simpa using hs
    have hs2 : (str.toList != [70, 83, 78, 80, 1]) = true := by simpa using hs
    clear hm hl hne hs h5 hr hb
    go_enter Tryd.func16, Tryd.ntmps16
    go_wp2
    all_goals refine bodyPost_ret (read_results w.heap.size #[.slice none 0 0, .slice none 0 0, .slice none 0 0, .int .i64 0, .int .i8 0, .slice none 0 0, .int .i8 0, .int .i64 0] (.int .i64 14) (.int .i64 0) (heap_alloc_new _ _) rfl rfl rfl rfl) rfl ?_
    all_goals rw [E.out]
    all_goals exact ⟨.slice none 0 0, .slice none 0 0, .slice none 0 0, .slice none 0 0, [], [], rfl, ownst_nil _ _, below_alloc _ _⟩
set_option maxRecDepth 100000 in
set_option maxHeartbeats 6400000 in
theorem snap_Read_mainO (w : World) (S) (v : Value) (b : List Int) (hb : ∀ x ∈ b, 0 ≤ x ∧ x ≤ 255) (h : RdI .u8 S w v b) (hl : ¬ 524288 < b.length) (hm : ¬ (b.length < 5 ∨ b.take 5 ≠ magic5)) :
    Calls Tryd.prog 16 #[v] w fun en w' => ∃ fv gv pv rv xs gs, en = .returned (.tuple #[.agg #[fv, gv, pv, .int .i64 (rread b).1.replies, .int .i8 (rread b).1.ends, rv, .int .i8 (rread b).1.trap, .int .i64 (rread b).1.used], .int .i64 (rread b).2.1, .int .i64 (rread b).2.2]) ∧ G.OwnSt w.heap.size w' fv gv pv rv xs gs (rread b).1 ∧ Below w.heap.size w w' := by
  obtain ⟨i1, hi1, hy0, hy1, hy2⟩ := info_parts Tryd.infoFrame
  have hS : RdI .u8 (fun x => x < w.heap.size) w v b := h.mono fun x hx _ => hx
  have HRD := Lib.hid hS; clear hS
  obtain ⟨a, c, rfl, hc, _, hr⟩ := h
  have h5' : 5 ≤ b.length := by omega
  have hm5 : b.take 5 = magic5 := Decidable.byContradiction fun e => hm (.inr e)
  have EREAD : Hid (rread b = let h := rhead b; let f := rframesGo b h.2.2 h.2.1 []; let r := rlast b f.2; if r.e ≠ 0 then (emptyS, r.e, r.bad) else ({ h.1 with frames := f.1 }, 0, 0)) := by
    show _ = _; rw [rread, if_neg hl, if_neg hm]
  have hl' : b.length ≤ 524288 := by omega
  obtain ⟨bb, off, rfl, _, hzz⟩ := hr 0 (by omega)
  clear hzz
  have hcv := run_convert_bytes_arg (P := Tryd.prog) (w.alloc (Obj.cells #[.slice none 0 0, .slice none 0 0, .slice none 0 0, .int .i64 0, .int .i8 0, .slice none 0 0, .int .i8 0, .int .i64 0] 27)) 31 5 Tryd.underlying31 Tryd.underlying5 bb off 5 c (b.take 5) (by rw [List.length_take]; omega) (read5 hr (by omega) _) 9 Tryd.underlying9
  have hs : (strOfNums (b.take 5)).toList = [70, 83, 78, 80, 1] := by rw [hm5]; exact of_magic
  have h5c : 5 ≤ c := by omega
  generalize strOfNums (b.take 5) = str at *
  have hs1 : (str.toList == [70, 83, 78, 80, 1]) = true := by simpa using hs
  have hs2 : (str.toList != [70, 83, 78, 80, 1]) = false := by simpa using hs
  have HB := Lib.hid hb
  clear hm hl hs hr hb hm5
  have hp1 : w.heap.size + 1 = (w.alloc (Obj.cells #[.slice none 0 0, .slice none 0 0, .slice none 0 0, .int .i64 0, .int .i8 0, .slice none 0 0, .int .i8 0, .int .i64 0] 27)).heap.size := by rw [World.size_alloc]
  have HR0 : Hid (Rr (fun x => x < w.heap.size) ((w.alloc (Obj.cells #[.slice none 0 0, .slice none 0 0, .slice none 0 0, .int .i64 0, .int .i8 0, .slice none 0 0, .int .i8 0, .int .i64 0] 27)).alloc (Obj.cells #[.slice (some ⟨bb, off, none⟩) b.length c, .int .i64 5, .int .i64 0, .int .i64 0] 86)) (w.heap.size + 1) (.slice (some ⟨bb, off, none⟩) b.length c) b ⟨5, 0, 0⟩) :=
    ⟨by rw [hp1]; exact heap_alloc_new _ _, HRD.out.keeps (((Keeps.refl _ w).alloc _).alloc _), fun x hx => by have : x < w.heap.size := hx; omega, h5'⟩
  have hrow20 : ((w.alloc (Obj.cells #[.slice none 0 0, .slice none 0 0, .slice none 0 0, .int .i64 0, .int .i8 0, .slice none 0 0, .int .i8 0, .int .i64 0] 27)).alloc (Obj.cells #[.slice (some ⟨bb, off, none⟩) b.length c, .int .i64 5, .int .i64 0, .int .i64 0] 86)).heap[w.heap.size]? = some (.cells #[.slice none 0 0, .slice none 0 0, .slice none 0 0, .int .i64 0, .int .i8 0, .slice none 0 0, .int .i8 0, .int .i64 0] 27 (0, 0)) := by
    rw [Below.heap_alloc _ _ _ (by rw [World.size_alloc]; omega)]; exact heap_alloc_new _ _
  have HROW2 := Lib.hid hrow20; clear hrow20 hp1
  go_enter Tryd.func16, Tryd.ntmps16
  go_wp2_with fail
  (with_reducible refine (rd_octet _ _ _ _ b _ HR0.out HB.out 1 3).mono ?_)
  rintro e w1 ⟨rfl, hr1, hk1⟩
  obtain ⟨x1, r1, h1⟩ : ∃ x1 r1, roct b ⟨5, 0, 0⟩ 1 3 = (x1, r1) := ⟨_, _, rfl⟩
  rw [h1] at hr1 ⊢
  have HR1 := Lib.hid hr1; have HK1 := Lib.hid hk1; have H1 := Lib.hid h1; clear hr1 hk1 h1
  go_wp2_with fail
  (with_reducible refine (rd_octet _ _ _ _ b _ HR1.out HB.out 0 6).mono ?_)
  rintro e w2 ⟨rfl, hr2, hk2⟩
  obtain ⟨x2, r2, h2⟩ : ∃ x2 r2, roct b r1 0 6 = (x2, r2) := ⟨_, _, rfl⟩
  rw [h2] at hr2 ⊢
  have HR2 := Lib.hid hr2; have HK2 := Lib.hid (HK1.out.trans hk2); have H2 := Lib.hid h2; clear hr2 hk2 h2 HR0 HR1 HK1
  have hsz2 : w.heap.size + 2 ≤ w2.heap.size := by have := HK2.out.size; simp only [World.size_alloc] at this; omega
  have HRB0 : Hid (RB (fun x => x < w.heap.size) w (w.heap.size + 1) (.slice (some ⟨bb, off, none⟩) b.length c) b w2.heap.size #[.slice none 0 0, .slice none 0 0, .slice none 0 0, .int .i64 0, .int .i8 x1, .slice none 0 0, .int .i8 x2, .int .i64 0] r2 (w2.alloc (Obj.cells #[.slice none 0 0, .slice none 0 0, .slice none 0 0, .int .i64 0, .int .i8 x1, .slice none 0 0, .int .i8 x2, .int .i64 0] 27))) := by
    refine ⟨HR2.out.keeps ((Keeps.refl (fun _ => True) _).alloc _) trivial fun _ _ => trivial, heap_alloc_new _ _, ?_, ?_, by omega, by omega, fun x hx => hx⟩
    · rw [Below.heap_alloc _ _ _ (by omega)]
      exact (HK2.out.block _ (by simp only [World.size_alloc]; omega) (by omega)).trans HROW2.out
    · exact (((below_alloc2 w _ _).trans (HK2.out.below (by simp only [World.size_alloc]; omega) fun x hx => by omega)).alloc (by omega) _)
  clear HR2 HROW2
  go_wp2_with fail
  generalize w2.heap.size = t6 at *
  generalize hW2 : w2.alloc (Obj.cells #[.slice none 0 0, .slice none 0 0, .slice none 0 0, .int .i64 0, .int .i8 x1, .slice none 0 0, .int .i8 x2, .int .i64 0] 27) = wa2 at *
  clear hW2 HK2 w2
  have HST : Hid (Osl t6 wa2 (.slice none 0 0) (.slice none 0 0) (.slice none 0 0) [] [] [] []) := Lib.hid (Osl.init _ _)
  have HRB := HRB0; clear HRB0
  (with_reducible refine (rb_number HRB.out HB.out 4611686018427387904 4611686018427387904 (by omega) 17 (by omega)).mono ?_)
  rintro e w3 ⟨rfl, hrb, hk⟩
  obtain ⟨n3, r3, h3⟩ : ∃ n3 r3, rnum b r2 4611686018427387904 17 = (n3, r3) := ⟨_, _, rfl⟩
  have hn3 : n3 ≤ 4611686018427387904 := by have := rnum_le b r2 4611686018427387904 17; rw [h3] at this; exact this
  rw [h3] at hrb ⊢
  have HSTn := Lib.hid (HST.out.keeps hk fun x h1 _ => by have := HRB.out.p6; omega); clear HST hk
  have H3 := Lib.hid h3; have HRBn := Lib.hid hrb; clear h3 hrb HRB
  have hw : IntKind.i64.wrap (n3 : Int) = n3 := IntWalk.i64_in _ ⟨by omega, by omega⟩
  have yf := row_free HRBn.out.row6 7; have yc := row_cell HRBn.out.row6 7 rfl
  go_wp2_with fail
  have HRB : Hid (RB (fun x => x < w.heap.size) w (w.heap.size + 1) (.slice (some ⟨bb, off, none⟩) b.length c) b t6 #[.slice none 0 0, .slice none 0 0, .slice none 0 0, .int .i64 0, .int .i8 x1, .slice none 0 0, .int .i8 x2, .int .i64 n3] r3 (w3.setCell ⟨t6, 7, none⟩ (.int .i64 n3))) := HRBn.out.set 7 _
  have HST := Lib.hid (HSTn.out.set6 7 (.int .i64 n3))
  clear yf yc HRBn HSTn
  generalize w3.setCell ⟨t6, 7, none⟩ (.int .i64 n3) = w3s at *
  clear hw
  (with_reducible refine (rb_number HRB.out HB.out 9223372036854775807 9223372036854775807 (by omega) 17 (by omega)).mono ?_)
  rintro e w4 ⟨rfl, hrb, hk⟩
  obtain ⟨n4, r4, h4⟩ : ∃ n4 r4, rnum b r3 9223372036854775807 17 = (n4, r4) := ⟨_, _, rfl⟩
  have hn4 : n4 ≤ 9223372036854775807 := by have := rnum_le b r3 9223372036854775807 17; rw [h4] at this; exact this
  rw [h4] at hrb ⊢
  have HSTn := Lib.hid (HST.out.keeps hk fun x h1 _ => by have := HRB.out.p6; omega); clear HST hk
  have H4 := Lib.hid h4; have HRBn := Lib.hid hrb; clear h4 hrb HRB
  have hw : IntKind.i64.wrap (n4 : Int) = n4 := IntWalk.i64_in _ ⟨by omega, by omega⟩
  have yf := row_free HRBn.out.row6 3; have yc := row_cell HRBn.out.row6 3 rfl
  go_wp2_with fail
  have HRB : Hid (RB (fun x => x < w.heap.size) w (w.heap.size + 1) (.slice (some ⟨bb, off, none⟩) b.length c) b t6 #[.slice none 0 0, .slice none 0 0, .slice none 0 0, .int .i64 n4, .int .i8 x1, .slice none 0 0, .int .i8 x2, .int .i64 n3] r4 (w4.setCell ⟨t6, 3, none⟩ (.int .i64 n4))) := HRBn.out.set 3 _
  have HST := Lib.hid (HSTn.out.set6 3 (.int .i64 n4))
  clear yf yc HRBn HSTn
  generalize w4.setCell ⟨t6, 3, none⟩ (.int .i64 n4) = w4s at *
  clear hw
  (with_reducible refine (rbO_values HRB.out HB.out 8 8 (by omega) (by omega)).mono ?_)
  rintro e w5 ⟨a5, c5, rfl, hl, hrb, hk⟩
  obtain ⟨l5, r5, h5⟩ : ∃ l5 r5, rvals b r4 8 = (l5, r5) := ⟨_, _, rfl⟩
  rw [h5] at hrb hl ⊢
  have HSTn := Lib.hid (HST.out.keeps hk fun x h1 _ => by have := HRB.out.p6; omega); clear HST hk
  have HL5 := Lib.hid (And.intro (own_base hl (show t6 + 1 ≤ _ from HRB.out.lt)) (fun g e => (hl.lt g e).1)); clear hl
  have H5 := Lib.hid h5; have HRBn := Lib.hid hrb; clear h5 hrb HRB
  have yf := row_free HRBn.out.row6 5; have yc := row_cell HRBn.out.row6 5 rfl
  go_wp2_with fail
  have HRB : Hid (RB (fun x => x < w.heap.size) w (w.heap.size + 1) (.slice (some ⟨bb, off, none⟩) b.length c) b t6 #[.slice none 0 0, .slice none 0 0, .slice none 0 0, .int .i64 n4, .int .i8 x1, .slice a5 l5.length c5, .int .i8 x2, .int .i64 n3] r5 (w5.setCell ⟨t6, 5, none⟩ (.slice a5 l5.length c5))) := HRBn.out.set 5 _
  have HST := Lib.hid ((HSTn.out.set6 5 (.slice a5 l5.length c5)).put5 (own_far HL5.out.1 (Nat.lt_succ_self t6) 5 (.slice a5 l5.length c5)))
  clear yf yc HRBn HSTn
  generalize w5.setCell ⟨t6, 5, none⟩ (.slice a5 l5.length c5) = w5s at *
  clear HL5
  have HF6 := Lib.hid (fun g e => (HST.out.o5.lt g e).2)
  (with_reducible refine (rbO_values HRB.out HB.out 64 64 (by omega) (by omega)).mono ?_)
  rintro e w6 ⟨a6, c6, rfl, hl, hrb, hk⟩
  obtain ⟨l6, r6, h6⟩ : ∃ l6 r6, rvals b r5 64 = (l6, r6) := ⟨_, _, rfl⟩
  rw [h6] at hrb hl ⊢
  have HSTn := Lib.hid (HST.out.keeps hk fun x h1 _ => by have := HRB.out.p6; omega); clear HST hk
  have HL6 := Lib.hid (And.intro (own_base hl (show t6 + 1 ≤ _ from HRB.out.lt)) (fun g e => (hl.lt g e).1)); clear hl
  have H6 := Lib.hid h6; have HRBn := Lib.hid hrb; clear h6 hrb HRB
  have yf := row_free HRBn.out.row6 1; have yc := row_cell HRBn.out.row6 1 rfl
  go_wp2_with fail
  have HRB : Hid (RB (fun x => x < w.heap.size) w (w.heap.size + 1) (.slice (some ⟨bb, off, none⟩) b.length c) b t6 #[.slice none 0 0, .slice a6 l6.length c6, .slice none 0 0, .int .i64 n4, .int .i8 x1, .slice a5 l5.length c5, .int .i8 x2, .int .i64 n3] r6 (w6.setCell ⟨t6, 1, none⟩ (.slice a6 l6.length c6))) := HRBn.out.set 1 _
  have HST := Lib.hid ((HSTn.out.set6 1 (.slice a6 l6.length c6)).put6 (own_far HL6.out.1 (Nat.lt_succ_self t6) 1 (.slice a6 l6.length c6)) fun g g' e e' => Nat.lt_of_lt_of_le (HF6.out g e) (HL6.out.2 g' e'))
  clear yf yc HRBn HSTn
  generalize w6.setCell ⟨t6, 1, none⟩ (.slice a6 l6.length c6) = w6s at *
  clear HL6
  have HF7 := Lib.hid (And.intro HRB.out.lt (And.intro (fun g e => (HST.out.o5.lt g e).2) (fun g e => (HST.out.o6.lt g e).2)))
  (with_reducible refine (rbO_pages HRB.out HB.out).mono ?_)
  rintro e w7 ⟨a7, c7, gs, rfl, hl, hrb, hk⟩
  obtain ⟨l7, r7, h7⟩ : ∃ l7 r7, rpages b r6 = (l7, r7) := ⟨_, _, rfl⟩
  rw [h7] at hrb hl ⊢
  have HSTn := Lib.hid (HST.out.keeps hk fun x h1 h2 => ⟨by have := HRB.out.p6; omega, h2⟩); clear HST hk
  have HL7 := Lib.hid hl
  clear hl
  have H7 := Lib.hid h7; have HRBn := Lib.hid hrb; clear h7 hrb HRB
  have yf := row_free HRBn.out.row6 2; have yc := row_cell HRBn.out.row6 2 rfl
  go_wp2_with fail
  have HRB : Hid (RB (fun x => x < w.heap.size) w (w.heap.size + 1) (.slice (some ⟨bb, off, none⟩) b.length c) b t6 #[.slice none 0 0, .slice a6 l6.length c6, .slice a7 l7.length c7, .int .i64 n4, .int .i8 x1, .slice a5 l5.length c5, .int .i8 x2, .int .i64 n3] r7 (w7.setCell ⟨t6, 2, none⟩ (.slice a7 l7.length c7))) := HRBn.out.set 2 _
  have HST := Lib.hid ((HSTn.out.set6 2 (.slice a7 l7.length c7)).put7 (pg_far HL7.out HF7.out.1 2 (.slice a7 l7.length c7)) HF7.out.1 HF7.out.2)
  clear yf yc HRBn HSTn
  generalize w7.setCell ⟨t6, 2, none⟩ (.slice a7 l7.length c7) = w7s at *
  clear HL7
  (with_reducible refine (rb_number HRB.out HB.out 64 64 (by omega) 20 (by omega)).mono ?_)
  rintro e w8 ⟨rfl, hrb, hk⟩
  obtain ⟨n8, r8, h8⟩ : ∃ n8 r8, rnum b r7 64 20 = (n8, r8) := ⟨_, _, rfl⟩
  have hn8 : n8 ≤ 64 := by have := rnum_le b r7 64 20; rw [h8] at this; exact this
  rw [h8] at hrb ⊢
  have HSTn := Lib.hid (HST.out.keeps hk fun x h1 _ => by have := HRB.out.p6; omega); clear HST hk
  have H8 := Lib.hid h8; have HRBn := Lib.hid hrb; clear h8 hrb HRB
  go_wp2

  have hB6 := HRBn.out.lt
  have HK8 := HRBn.out
  have HTOP := Lib.hid HSTn.out.all
  have HST := HSTn; clear HSTn
  clear HK8
  go_loopw [49] (fun i wr => ∃ (j : Nat) (xs : List Fq) (fa : Option Addr) (fc : Nat) (rj : RS), j ≤ n8 ∧ i = .int .u64 j ∧ xs.length = j ∧ w8.heap.size ≤ wr.heap.size ∧
      Hid (RB (fun x => x < w.heap.size) w (w.heap.size + 1) (.slice (some ⟨bb, off, none⟩) b.length c) b t6 #[.slice fa xs.length fc, .slice a6 l6.length c6, .slice a7 l7.length c7, .int .i64 n4, .int .i8 x1, .slice a5 l5.length c5, .int .i8 x2, .int .i64 n3] rj wr) ∧ Hid (Osl t6 wr (.slice a5 l5.length c5) (.slice a6 l6.length c6) (.slice a7 l7.length c7) l5 l6 gs l7) ∧ Hid (FrO w8.heap.size wr (.slice fa xs.length fc) xs) ∧ Hid (rframesGo b n8 r8 [] = rframesGo b (n8 - j) rj (xs.map (·.1)))) (fun i _ => n8 - (intOf i).toNat)
  case atStart => exact ⟨0, [], none, 0, r8, by omega, rfl, rfl, Nat.le_refl _, HRBn, HST, FrO.nil _ _, rfl⟩
  case round =>
    clear HST HRBn
    obtain ⟨j, xs, fa, fc, rj, hj, rfl, hxl, hBw, HRB, HST, HFR, HE⟩ := hrel
    subst hxl
    by_cases hlt : xs.length < n8
    · 
      go_wp2_with fail
      obtain ⟨nA, rA, hA⟩ : ∃ nA rA, rnum b rj 127 17 = (nA, rA) := ⟨_, _, rfl⟩
      obtain ⟨nB, rB, hB⟩ : ∃ nB rB, rnum b rA 2047 17 = (nB, rB) := ⟨_, _, rfl⟩
      obtain ⟨lC, rC, hC⟩ : ∃ lC rC, rvals b rB 64 = (lC, rC) := ⟨_, _, rfl⟩
      obtain ⟨lD, rD, hD⟩ : ∃ lD rD, rvals b rC 256 = (lD, rD) := ⟨_, _, rfl⟩
      have HE2 : Hid (rframesGo b n8 r8 [] = rframesGo b (n8 - (xs.length + 1)) rD (xs.map (·.1) ++ [⟨nA, nB, lC, lD⟩])) := by
        show _ = _
        rw [HE.out, show n8 - xs.length = (n8 - (xs.length + 1)) + 1 by omega, rframesGo, rframe]
        simp only [hA, hB, hC, hD]
      have hnA : nA ≤ 127 := by have := rnum_le b rj 127 17; rw [hA] at this; exact this
      have hnB : nB ≤ 2047 := by have := rnum_le b rA 2047 17; rw [hB] at this; exact this
      have hwA : IntKind.i64.wrap (nA : Int) = nA := IntWalk.i64_in _ ⟨by omega, by omega⟩
      have hwB : IntKind.i64.wrap (nB : Int) = nB := IntWalk.i64_in _ ⟨by omega, by omega⟩
      have HA := Lib.hid hA; have HBe := Lib.hid hB; have HC := Lib.hid hC; have HD := Lib.hid hD
      clear hA hB hC hD HE
      have hp6 := HRB.out.p6
      (with_reducible refine (rb_number HRB.out HB.out 127 127 (by omega) 17 (by omega)).mono ?_)
      rintro e wA ⟨rfl, hrb, hk⟩
      rw [HA.out] at hrb ⊢
      have HRBA := Lib.hid hrb; have HKA := Lib.hid hk; clear hrb hk HRB
      go_wp2_with fail
      (with_reducible refine (rb_number HRBA.out HB.out 2047 2047 (by omega) 17 (by omega)).mono ?_)
      rintro e wB ⟨rfl, hrb, hk⟩
      rw [HBe.out] at hrb ⊢
      have HKB := Lib.hid (HKA.out.trans hk); clear hk HKA
      have HFR2 := Lib.hid (HFR.out.keeps HKB.out fun x h1 h2 => by omega)
      have HST2 := Lib.hid (HST.out.kept (HKB.out.mono fun x h1 h2 => by omega) HTOP.out)
      have HUT := Lib.hid (fun u hu g e => (HFR2.out.all u hu g e).2)
      have hszB := HKB.out.size
      have HRBB := Lib.hid hrb; clear hrb HRBA HKB HFR HST
      have hg7 := HRBB.out.lt
      have HW7 : Hid ((wB.alloc (Obj.cells #[.int .i64 nA, .int .i64 nB, .slice none 0 0, .slice none 0 0] 66)).heap[wB.heap.size]? = some (.cells #[.int .i64 nA, .int .i64 nB, .slice none 0 0, .slice none 0 0] 66 (0, 0))) := heap_alloc_new _ _
      have HRBC := Lib.hid (HRBB.out.far (((Keeps.refl _ wB)).alloc (Obj.cells #[.int .i64 nA, .int .i64 nB, .slice none 0 0, .slice none 0 0] 66)))
      have HK7 : Hid (Keeps (fun x => x ≠ w.heap.size + 1 ∧ x < wB.heap.size) wB (wB.alloc (Obj.cells #[.int .i64 nA, .int .i64 nB, .slice none 0 0, .slice none 0 0] 66))) := ((Keeps.refl _ wB)).alloc _
      clear HRBB
      go_wp2_with fail
      generalize ht7 : wB.heap.size = t7 at *
      generalize wB.alloc (Obj.cells #[.int .i64 nA, .int .i64 nB, .slice none 0 0, .slice none 0 0] 66) = wC0 at *
      (with_reducible refine (rbO_values HRBC.out HB.out 64 64 (by omega) (by omega)).mono ?_)
      rintro e wC ⟨aC, cC, rfl, hl, hrb, hk⟩
      rw [HC.out] at hrb hl ⊢
      have HLC := Lib.hid (own_base hl (show t7 + 1 ≤ _ from row_lt HW7.out))
      have HK7' := Lib.hid (HK7.out.trans (hk.mono fun x _ hx => hx.1))
      have HW7' := Lib.hid ((hk.block t7 (row_lt HW7.out) (by omega)).trans HW7.out)
      have HRBD := Lib.hid hrb
      clear hl hrb HRBC HK7 HW7 hk
      have yf := row_free HW7'.out 2; have yc := row_cell HW7'.out 2 rfl
      go_wp2_with fail
      have HRBC := Lib.hid (HRBD.out.far ((Keeps.refl (fun x => x ≤ t6) wC).setCell (a := ⟨t7, 2, none⟩) (by simp; omega) (.slice aC lC.length cC)))
      have HK7 := Lib.hid (HK7'.out.trans ((Keeps.refl (fun x => x ≠ w.heap.size + 1 ∧ x < t7) wC).setCell (a := ⟨t7, 2, none⟩) (by simp) (.slice aC lC.length cC)))
      have HW7 : Hid ((wC.setCell ⟨t7, 2, none⟩ (.slice aC lC.length cC)).heap[t7]? = some (.cells #[.int .i64 nA, .int .i64 nB, .slice aC lC.length cC, .slice none 0 0] 66 (0, 0))) := row_setCell HW7'.out 2 _
      have HLC' := Lib.hid (own_far HLC.out (Nat.lt_succ_self t7) 2 (.slice aC lC.length cC)); clear HLC; have HLC := HLC'; clear HLC'
      clear yf yc HRBD HK7' HW7'
      generalize wC.setCell ⟨t7, 2, none⟩ (.slice aC lC.length cC) = wCs at *
      have HCD := Lib.hid (fun g e => (HLC.out.lt g e).2)
      (with_reducible refine (rbO_values HRBC.out HB.out 256 256 (by omega) (by omega)).mono ?_)
      rintro e wD ⟨aD, cD, rfl, hl, hrb, hk⟩
      rw [HD.out] at hrb hl ⊢
      have hw7 := row_lt HW7.out
      have HDJ : Hid (G.Dj ([.slice fa xs.length fc] ++ G.inn xs ++ [.slice aC lC.length cC] ++ [.slice aD lD.length cD])) := Lib.hid (dj_frame HFR2.out.dj HUT.out HCD.out (fun g e => (HLC.out.lt g e).1) (fun g e => (hl.lt g e).1) (Nat.le_of_lt hw7))
      have HLD := Lib.hid (own_base hl (show t7 + 1 ≤ _ from hw7))
      have HK7' := Lib.hid (HK7.out.trans (hk.mono fun x _ hx => hx.1))
      have HW7' := Lib.hid ((hk.block t7 (row_lt HW7.out) (by omega)).trans HW7.out)
      have HRBD := Lib.hid hrb
      have HLC' := Lib.hid (own_keeps HLC.out hk fun g e => by have := (HLC.out.lt g e).1; have := HRBC.out.p6; omega); clear HLC; have HLC := HLC'; clear HLC'
      clear hl hrb HRBC HK7 HW7 hk
      have HRBC := Lib.hid (HRBD.out.far ((Keeps.refl (fun x => x ≤ t6) wD).setCell (a := ⟨t7, 3, none⟩) (by simp; omega) (.slice aD lD.length cD)))
      have HK7 := Lib.hid (HK7'.out.trans ((Keeps.refl (fun x => x ≠ w.heap.size + 1 ∧ x < t7) wD).setCell (a := ⟨t7, 3, none⟩) (by simp) (.slice aD lD.length cD)))
      have HLC' := Lib.hid (own_far HLC.out (Nat.lt_succ_self t7) 3 (.slice aD lD.length cD)); have HLD' := Lib.hid (own_far HLD.out (Nat.lt_succ_self t7) 3 (.slice aD lD.length cD))
      have HFR3 := Lib.hid (HFR2.out.keeps HK7.out fun x h1 h2 => ⟨by omega, by omega⟩)
      have HST3 := Lib.hid (HST2.out.kept (HK7.out.mono fun x h1 h2 => ⟨by omega, by omega⟩) HTOP.out)
      have hszD := HK7.out.size
      have hltD : t7 < (wD.setCell ⟨t7, 3, none⟩ (.slice aD lD.length cD)).heap.size := by rw [World.size_setCell]; exact row_lt HW7'.out
      have hsetD : (wD.setCell ⟨t7, 3, none⟩ (.slice aD lD.length cD)).heap.size = wD.heap.size := World.size_setCell _ _ _
      have hu7 : (Value.slice fa xs.length fc).ownBlock ≠ some t7 ∧ ∀ x, t7 < x → (Value.slice fa xs.length fc).ownBlock ≠ some x := ⟨fun e => by have := (HFR2.out.own.lt _ e).2; omega, fun x hx e => by have := (HFR2.out.own.lt _ e).2; omega⟩
      have HU7 := Lib.hid hu7; clear hu7
      have HRW : Hid (frq ((⟨nA, nB, lC, lD⟩ : FrameD), .slice aC lC.length cC, .slice aD lD.length cD) = [.int .i64 nA, .int .i64 nB, .slice aC lC.length cC, .slice aD lD.length cD]) := rfl
      clear HLC HLD HK7' HFR2 HST2
      have yf := row_free HW7'.out 3
      have z6 := row_cell HRBD.out.row6 0 rfl; have z6f := row_free HRBD.out.row6 0
      have y0 := row_cell HW7'.out 0 rfl; have y1 := row_cell HW7'.out 1 rfl; have y2 := row_cell HW7'.out 2 rfl; have y3 := row_cell HW7'.out 3 rfl
      have hn67 : t6 ≠ t7 := by omega
      have hn76 : t7 ≠ t6 := by omega
      have hxs64 : xs.length < 64 := by omega
      simp only [List.getElem_toArray, List.getElem_cons_zero, List.getElem_cons_succ] at z6 y0 y1 y2 y3
      go_wp2_with (at_builtin; refine stopped ?_)
      unfold Stopped
      refine wpList_append_lies _ rfl _ _ 22 rfl w8.heap.size 66 i1 _ 4 64 Tryd.underlying22 hi1 hy0 hy1 hy2 rfl (by decide) _ xs.length (frqs xs) rfl (own_keeps HFR3.out.own ((Keeps.refl (fun _ => True) _).alloc _) (fun _ _ => trivial)) _ 1 1 [.int .i64 nA, .int .i64 nB, .slice aC lC.length cC, .slice aD lD.length cD] rfl rfl (by rw [← hsetD]; exact news4 _ _ _ _ _ _) (by simp [Value.oneCell']) (by omega) (by unfold maxLen; omega) (by omega) (by rw [World.size_alloc]; omega) _ rfl ?_
      intro g cap wE hown2 hgrow2 hat hlt2
      have HP := Lib.hid (HFR3.out.add (f := ⟨nA, nB, lC, lD⟩) (own_base HLC'.out (by omega)) (own_base HLD'.out (by omega)) HDJ.out hown2 hgrow2 hat)
      have HRBE := Lib.hid (HRBC.out.far (((Keeps.refl (fun x => x ≤ t6) _).alloc _).grown hgrow2 fun k hk _ h => by have := (HFR3.out.own.lt k hk).1; omega))
      have HSTE := Lib.hid (HST3.out.kept (((Keeps.refl (fun x => t6 < x ∧ x < w8.heap.size) _).alloc _).grown hgrow2 fun k hk _ h => by have := (HFR3.out.own.lt k hk).1; omega) HTOP.out)
      have hszE : w8.heap.size ≤ wE.heap.size := by have := hgrow2.size; rw [World.size_alloc] at this; omega
      clear hown2 hgrow2 hat HFR3 HST3 HLC' HLD' HU7 HRW HRBC HRBD yf z6 z6f y0 y1 y2 y3 HK7 HW7'
      have z6 := row_cell HRBE.out.row6 0 rfl; have z6f := row_free HRBE.out.row6 0
      go_wp2
      have HRB : Hid (RB (fun x => x < w.heap.size) w (w.heap.size + 1) (.slice (some ⟨bb, off, none⟩) b.length c) b t6 #[.slice (some ⟨g, 0, none⟩) (xs.length + 1) cap, .slice a6 l6.length c6, .slice a7 l7.length c7, .int .i64 n4, .int .i8 x1, .slice a5 l5.length c5, .int .i8 x2, .int .i64 n3] rD (wE.setCell ⟨t6, 0, none⟩ (.slice (some ⟨g, 0, none⟩) (xs.length + 1) cap))) := HRBE.out.set 0 _
      have HST := Lib.hid (HSTE.out.kept ((Keeps.refl (fun x => t6 < x ∧ x < w8.heap.size) _).setCell (a := ⟨t6, 0, none⟩) (by simp) (.slice (some ⟨g, 0, none⟩) (xs.length + 1) cap)) HTOP.out)
      have HFR := Lib.hid (HP.out.keeps ((Keeps.refl (fun x => t6 < x) _).setCell (a := ⟨t6, 0, none⟩) (by simp) (.slice (some ⟨g, 0, none⟩) (xs.length + 1) cap)) fun x h1 h2 => by omega)
      clear HRBE HSTE HP z6 z6f
      have hlen : (xs ++ [((⟨nA, nB, lC, lD⟩ : FrameD), Value.slice aC lC.length cC, Value.slice aD lD.length cD)]).length = xs.length + 1 := by simp
      have HLEN := Lib.hid hlen; clear hlen
      go_roundw
      case rel => exact ⟨xs.length + 1, _, some ⟨g, 0, none⟩, cap, rD, by omega, by go_num, HLEN.out, by rw [World.size_setCell]; exact hszE, by rw [HLEN.out]; exact HRB, HST, by rw [HLEN.out]; exact HFR, by rw [List.map_append]; exact HE2⟩
      case measure => simp [intOf]; omega
    · obtain rfl : n8 = xs.length := by omega
      have EH : Hid (rhead b = (⟨[], l6, l7, n4, x1, l5, x2, n3⟩, r8, xs.length)) := by show _ = _; simp only [rhead, H1.out, H2.out, H3.out, H4.out, H5.out, H6.out, H7.out, H8.out]
      have EF : Hid (rframesGo b xs.length r8 [] = (xs.map (·.1), rj)) := by show _ = _; rw [HE.out, Nat.sub_self, rframesGo]
      have ER : Hid (rread b = if (rlast b rj).e ≠ 0 then (emptyS, (rlast b rj).e, (rlast b rj).bad) else (⟨xs.map (·.1), l6, l7, n4, x1, l5, x2, n3⟩, 0, 0)) := by show _ = _; rw [EREAD.out]; simp only [EH.out, EF.out]
      clear EH EF HE EREAD H1 H2 H3 H4 H5 H6 H7 H8
      have hp6 := HRB.out.p6
      have hrowp := HRB.out.rr.row
      have z1 := row_cell hrowp 1 rfl; have z2 := row_cell hrowp 2 rfl
      simp only [List.getElem_toArray, List.getElem_cons_zero, List.getElem_cons_succ] at z1 z2
      clear hrowp
      by_cases hje : rj.e = 0
      · by_cases hja : rj.at_ = b.length
        · have E : rlast b rj = rj := by rw [rlast, if_neg (fun h => h.2 hja)]
          rw [E] at ER
          have he1 : (rj.e == 0) = true := by simp [hje]
          have he2 : (rj.e != 0) = false := by simp [hje]
          have hne : ((rj.at_ : Int) != (b.length : Int)) = false := by simp [hja]
          have HJE := Lib.hid hje; have HJA := Lib.hid hja; clear hje hja E
          have HOS : Hid (G.OwnSt (t6 + 1) wr (.slice fa xs.length fc) (.slice a6 l6.length c6) (.slice a7 l7.length c7) (.slice a5 l5.length c5) xs gs ⟨xs.map (·.1), l6, l7, n4, x1, l5, x2, n3⟩) := Lib.hid (own_state HST.out HFR.out HTOP.out hB6)
          clear HST HFR
          have hne62 : t6 ≠ w.heap.size := by have := HRB.out.p2; omega
          have hk := HRB.out.row6
          have k0 := row_cell hk 0 rfl; have k1 := row_cell hk 1 rfl; have k2 := row_cell hk 2 rfl; have k3 := row_cell hk 3 rfl; have k4 := row_cell hk 4 rfl; have k5 := row_cell hk 5 rfl; have k6 := row_cell hk 6 rfl; have k7 := row_cell hk 7 rfl
          simp only [List.getElem_toArray, List.getElem_cons_zero, List.getElem_cons_succ] at k0 k1 k2 k3 k4 k5 k6 k7
          clear hk
          have hg := HRB.out.row2
          have g0 := row_cell hg 0 rfl; have g1 := row_cell hg 1 rfl; have g2 := row_cell hg 2 rfl; have g3 := row_cell hg 3 rfl; have g4 := row_cell hg 4 rfl; have g5 := row_cell hg 5 rfl; have g6 := row_cell hg 6 rfl; have g7 := row_cell hg 7 rfl
          have f0 := row_free hg 0; have f1 := row_free hg 1; have f2 := row_free hg 2; have f3 := row_free hg 3; have f4 := row_free hg 4; have f5 := row_free hg 5; have f6 := row_free hg 6; have f7 := row_free hg 7
          simp only [List.getElem_toArray, List.getElem_cons_zero, List.getElem_cons_succ] at g0 g1 g2 g3 g4 g5 g6 g7
          clear hg
          go_wp2
          refine bodyPost_ret (read_results w.heap.size _ (.int .i64 0) (.int .i64 0) (set8_row HRB.out.row2 _ _ _ _ _ _ _ _) rfl rfl rfl rfl) rfl ?_
          rw [ER.out, if_neg (by rw [HJE.out]; decide)]
          exact ⟨_, _, _, _, xs, gs, rfl, ownst_kept HOS.out (set8_keeps _ w.heap.size _ _ _ _ _ _ _ _) (by have := HRB.out.p2; have := HRB.out.p6; omega) (by have := HRB.out.p2; have := HRB.out.p6; omega), HRB.out.bel.trans ((set8_keeps _ w.heap.size _ _ _ _ _ _ _ _).below HRB.out.bel.size fun x hx => by omega)⟩
        · have E : rlast b rj = rj.no 19 rj.at_ := by rw [rlast, if_pos ⟨hje, hja⟩]
          have hr' : (rj.no 19 rj.at_).e = 19 := by rw [RS.no, if_pos hje]
          rw [E] at ER
          have HR' := Lib.hid hr'; clear hr' E
          have he1 : (rj.e == 0) = true := by simp [hje]
          have hne : ((rj.at_ : Int) != (b.length : Int)) = true := by simp; omega
          clear hje hja
          go_wp2_with fail
          (with_reducible refine (rd_no _ _ _ _ _ _ HRB.out.rr 19 rj.at_ rj.at_ rfl).mono ?_)
          rintro e wz ⟨rfl, hrr, hk⟩
          have HRB2 := Lib.hid (HRB.out.step hrr (hk.mono fun x _ hx => hx.1))
          clear hrr hk z1 z2 HRB HST HFR
          generalize rj.no 19 rj.at_ = rz at *
          have he2 : (rz.e != 0) = true := by rw [HR'.out]; rfl
          have hrowp := HRB2.out.rr.row
          have z3 := row_cell hrowp 3 rfl; have z2 := row_cell hrowp 2 rfl
          simp only [List.getElem_toArray, List.getElem_cons_zero, List.getElem_cons_succ] at z3 z2
          clear hrowp
          have hg := HRB2.out.row2
          have g0 := row_cell hg 0 rfl; have g1 := row_cell hg 1 rfl; have g2 := row_cell hg 2 rfl; have g3 := row_cell hg 3 rfl; have g4 := row_cell hg 4 rfl; have g5 := row_cell hg 5 rfl; have g6 := row_cell hg 6 rfl; have g7 := row_cell hg 7 rfl
          have f0 := row_free hg 0; have f1 := row_free hg 1; have f2 := row_free hg 2; have f3 := row_free hg 3; have f4 := row_free hg 4; have f5 := row_free hg 5; have f6 := row_free hg 6; have f7 := row_free hg 7
          simp only [List.getElem_toArray, List.getElem_cons_zero, List.getElem_cons_succ] at g0 g1 g2 g3 g4 g5 g6 g7
          clear hg
          go_wp2_with fail
          go_region
          all_goals go_wp2
          refine bodyPost_ret (read_results w.heap.size #[.slice none 0 0, .slice none 0 0, .slice none 0 0, .int .i64 0, .int .i8 0, .slice none 0 0, .int .i8 0, .int .i64 0] (.int .i64 rz.e) (.int .i64 rz.bad) (set8_rowD HRB2.out.row2 _ _ _ _ _ _ _ _) rfl rfl rfl rfl) rfl ?_
          rw [ER.out, if_pos (by rw [HR'.out]; decide)]
          exact ⟨.slice none 0 0, .slice none 0 0, .slice none 0 0, .slice none 0 0, [], [], rfl, ownst_nil _ _, HRB2.out.bel.trans (((set8_keeps _ w.heap.size _ _ _ _ _ _ _ _).below HRB2.out.bel.size fun x hx => by omega).drew)⟩
      · have E : rlast b rj = rj := by rw [rlast, if_neg (fun h => hje h.1)]
        rw [E] at ER
        have HJE := Lib.hid hje
        have he1 : (rj.e == 0) = false := by simp [hje]
        have he2 : (rj.e != 0) = true := by simp [hje]
        clear hje E z1 z2 HST HFR
        have hrowp := HRB.out.rr.row
        have z3 := row_cell hrowp 3 rfl; have z2 := row_cell hrowp 2 rfl
        simp only [List.getElem_toArray, List.getElem_cons_zero, List.getElem_cons_succ] at z3 z2
        clear hrowp
        have hg := HRB.out.row2
        have g0 := row_cell hg 0 rfl; have g1 := row_cell hg 1 rfl; have g2 := row_cell hg 2 rfl; have g3 := row_cell hg 3 rfl; have g4 := row_cell hg 4 rfl; have g5 := row_cell hg 5 rfl; have g6 := row_cell hg 6 rfl; have g7 := row_cell hg 7 rfl
        have f0 := row_free hg 0; have f1 := row_free hg 1; have f2 := row_free hg 2; have f3 := row_free hg 3; have f4 := row_free hg 4; have f5 := row_free hg 5; have f6 := row_free hg 6; have f7 := row_free hg 7
        simp only [List.getElem_toArray, List.getElem_cons_zero, List.getElem_cons_succ] at g0 g1 g2 g3 g4 g5 g6 g7
        clear hg
        go_wp2_with fail
        go_region
        all_goals go_wp2
        refine bodyPost_ret (read_results w.heap.size #[.slice none 0 0, .slice none 0 0, .slice none 0 0, .int .i64 0, .int .i8 0, .slice none 0 0, .int .i8 0, .int .i64 0] (.int .i64 rj.e) (.int .i64 rj.bad) (set8_rowD HRB.out.row2 _ _ _ _ _ _ _ _) rfl rfl rfl rfl) rfl ?_
        rw [ER.out, if_pos (HJE.out)]
        exact ⟨.slice none 0 0, .slice none 0 0, .slice none 0 0, .slice none 0 0, [], [], rfl, ownst_nil _ _, HRB.out.bel.trans (((set8_keeps _ w.heap.size _ _ _ _ _ _ _ _).below HRB.out.bel.size fun x hx => by omega).drew)⟩

/-- 'snap.Read': the state's lists are new memory, each apart from the others. -/
theorem snap_ReadO (w : World) (S) (v : Value) (b : List Int) (hb : ∀ x ∈ b, 0 ≤ x ∧ x ≤ 255) (h : RdI .u8 S w v b) :
    Calls Tryd.prog 16 #[v] w fun en w' => ∃ fv gv pv rv xs gs, en = .returned (.tuple #[.agg #[fv, gv, pv, .int .i64 (rread b).1.replies, .int .i8 (rread b).1.ends, rv, .int .i8 (rread b).1.trap, .int .i64 (rread b).1.used], .int .i64 (rread b).2.1, .int .i64 (rread b).2.2]) ∧ G.OwnSt w.heap.size w' fv gv pv rv xs gs (rread b).1 ∧ Below w.heap.size w w' := by
  by_cases hl : 524288 < b.length
  · exact snap_Read_longO w S v b h hl
  · by_cases hm : b.length < 5 ∨ b.take 5 ≠ magic5
    · exact snap_Read_magicO w S v b hb h hl hm
    · exact snap_Read_mainO w S v b hb h hl hm
end Go.Proofs.YthlkckpadjjbdaaDoor
