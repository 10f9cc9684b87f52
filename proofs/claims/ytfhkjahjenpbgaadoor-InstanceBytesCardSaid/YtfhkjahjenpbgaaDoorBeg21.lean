/- instance.Begin. -/
import Derived.Test.YtfhkjahjenpbgaaDoorFind21
import Derived.Test.YtfhkjahjenpbgaaDoorMAll
import Derived.StillTailTactics
namespace Go.Proofs.YtfhkjahjenpbgaaDoor
open Go Go.RowKit
set_option linter.unusedSimpArgs false

theorem run_app {P : Program} (w : World) (base : Nat) (t ty e : TypeId) (i : TypeInfo) (z : Value) (size bytes : Nat) (ht : P.underlying t = some (.slice e)) (hi : P.info? e = some i) (hz : i.zero = some z)
    (hsize : i.size = size) (hby : i.bytes = bytes) (hzs : z.cells.size = size) (hsz : 0 < size) (v : Value) (n : Nat) (xs : List Value) (hown : w.ownsRow base e size v n xs)
    (A : Option Addr) (m c : Nat) (news : List Value) (hl : news.length = m * size) (hsrc : ∀ j u, news[j]? = some u → ∃ ad, A = some ad ∧ w.cell? (ad.add j) = some u) (hA : A = none → m = 0) (h1 : ∀ u ∈ news, u.oneCell' = true)
    (h63 : n + m ≤ maxLen) (hbytes : (n + m) * bytes ≤ 140737488355328) (hbase : base ≤ w.heap.size) :
    ∃ v' w', (Builtin.append_ #[t, t] ty #[v, .slice A m c]).run P w = .ok v' w' ∧ w'.ownsRow base e size v' (n + m) (xs ++ news) ∧ Kept w w' v.ownBlock (n * size) ∧ (∀ g, v'.ownBlock = some g → v.ownBlock = some g ∨ w.heap.size ≤ g) := by
  cases A with
  | some ad => exact run_append_kept w base t ty e i z size bytes ht hi hz hsize hby hzs hsz v n xs hown ad m c news hl (fun j u hu => by obtain ⟨ad', e', h'⟩ := hsrc j u hu; cases e'; exact h') h1 h63 hbytes hbase
  | none =>
    obtain rfl : m = 0 := hA rfl
    obtain rfl : news = [] := List.eq_nil_of_length_eq_zero (by simpa using hl)
    refine ⟨v, w, ?_, by simpa using hown, ⟨⟨rfl, rfl, rfl, Nat.le_refl _, fun _ _ _ => rfl⟩, fun _ _ _ _ => rfl⟩, fun g hg => .inl hg⟩
    rcases hown.2 with ⟨rfl, rfl⟩ | ⟨g, cap, cur, rfl, _, _, hnc, _⟩
    · simp [Builtin.append_, run_underlying ht, sizeOf, typeInfo, hi, Builtin.lenOf, Builtin.firstCells]
    · simp [Builtin.append_, run_underlying ht, sizeOf, typeInfo, hi, Builtin.lenOf, Builtin.firstCells, hnc, storeCells]
theorem step_app {P : Program} {ops : Array Oper} {o : Oper} {a : Act} {w : World} {K : Act → World → Prop} {Q : Exit → Act → World → Prop} {E : Prop} (hgd : o.guard = none) (s x : Operand) (t : TypeId)
    (ho : o.op = .call { callee := .builtin .append, args := #[s, x], argTypes := #[t, t] }) (base : Nat) (e : TypeId) (i : TypeInfo) (z : Value) (size bytes : Nat) (ht : P.underlying t = some (.slice e)) (hi : P.info? e = some i) (hz : i.zero = some z)
    (hsize : i.size = size) (hby : i.bytes = bytes) (hzs : z.cells.size = size) (hsz : 0 < size) (v : Value) (n : Nat) (xs : List Value) (hs : a.eval s = v) (hown : w.ownsRow base e size v n xs)
    (A : Option Addr) (m c : Nat) (news : List Value) (hx : a.eval x = .slice A m c) (hl : news.length = m * size) (hsrc : ∀ j u, news[j]? = some u → ∃ ad, A = some ad ∧ w.cell? (ad.add j) = some u) (hA : A = none → m = 0) (h1 : ∀ u ∈ news, u.oneCell' = true)
    (h63 : n + m ≤ maxLen) (hbytes : (n + m) * bytes ≤ 140737488355328) (hbase : base ≤ w.heap.size)
    (h : ∀ v' w', w'.ownsRow base e size v' (n + m) (xs ++ news) → Kept w w' v.ownBlock (n * size) → (∀ g, v'.ownBlock = some g → v.ownBlock = some g ∨ w.heap.size ≤ g) → K (a.put o.dst v') w') :
    if Region.wanted o (yielded ops a.tmps) = true then Oper.wp P o a w K Q else E := by
  rw [if_pos (by simp [Region.wanted, hgd])]
  obtain ⟨v', w', hrun, r1, r2, r3⟩ := run_app (P := P) w base t o.type e i z size bytes ht hi hz hsize hby hzs hsz v n xs hown A m c news hl hsrc hA h1 h63 hbytes hbase
  unfold Oper.wp
  simp [execOp, ho, resolve, invoke, builtin, hs, hx, hrun, Result.andThen]
  exact h _ _ r1 r2 r3
theorem src_of {k : IntKind} {T : Nat → Prop} {w : World} {A : Option Addr} {n c : Nat} {l : List Int} (h : RdI k T w (.slice A n c) l) : (∀ j u, (l.map (Value.int k))[j]? = some u → ∃ ad, A = some ad ∧ w.cell? (ad.add j) = some u) ∧ (A = none → n = 0) := by
  cases A with
  | some ad => exact ⟨fun j u hu => ⟨ad, rfl, RdI.news h j u hu⟩, fun e => by cases e⟩
  | none =>
    obtain ⟨a, cap, e, h1, h2, h3⟩ := h
    simp only [Value.slice.injEq] at e
    obtain ⟨rfl, rfl, rfl⟩ := e
    have h0 : l.length = 0 := by
      rcases Nat.eq_zero_or_pos l.length with h0 | h0
      · exact h0
      · obtain ⟨b, off, e, _⟩ := h3 0 h0; cases e
    refine ⟨fun j u hu => ?_, fun _ => h0⟩
    rw [List.eq_nil_of_length_eq_zero h0] at hu
    simp at hu
theorem src_own {w : World} {base e n c : Nat} {A : Option Addr} {xs : List Value} (h : w.ownsRow base e 1 (.slice A n c) n xs) : (∀ j u, xs[j]? = some u → ∃ ad, A = some ad ∧ w.cell? (ad.add j) = some u) ∧ (A = none → n = 0) := by
  have hl := h.1
  rcases h.2 with ⟨e1, h0⟩ | ⟨g, cap, cur, e1, hb, hg, hn, hm, hs, ht⟩
  · simp only [Value.slice.injEq] at e1
    obtain ⟨rfl, -, -⟩ := e1
    have hx : xs = [] := List.eq_nil_of_length_eq_zero (by rw [hl, h0])
    refine ⟨fun j u hu => ?_, fun _ => h0⟩
    rw [hx] at hu
    simp at hu
  · simp only [Value.slice.injEq] at e1
    obtain ⟨rfl, -, rfl⟩ := e1
    exact ⟨fun j u hu => ⟨_, rfl, h.cells rfl j u hu⟩, fun e => by cases e⟩
theorem row8 {w : World} {g : Nat} {o0 o1 o2 o3 o4 o5 o6 o7 : Value} {T : Nat} {fr : Nat × Nat} (h : w.heap[g]? = some (.cells #[o0, o1, o2, o3, o4, o5, o6, o7] T fr)) (v0 v1 v2 v3 v4 v5 v6 v7 : Value) :
    ((((((((w.setCell ⟨g, 0, none⟩ v0).setCell ⟨g, 1, none⟩ v1).setCell ⟨g, 2, none⟩ v2).setCell ⟨g, 3, none⟩ v3).setCell ⟨g, 4, none⟩ v4).setCell ⟨g, 5, none⟩ v5).setCell ⟨g, 6, none⟩ v6).setCell ⟨g, 7, none⟩ v7).heap[g]? = some (.cells #[v0, v1, v2, v3, v4, v5, v6, v7] T fr) := by
  simpa using row_setCell (row_setCell (row_setCell (row_setCell (row_setCell (row_setCell (row_setCell (row_setCell h 0 v0) 1 v1) 2 v2) 3 v3) 4 v4) 5 v5) 6 v6) 7 v7
theorem keeps8 {w : World} {g : Nat} (v0 v1 v2 v3 v4 v5 v6 v7 : Value) : Keeps (fun b => b ≠ g) w ((((((((w.setCell ⟨g, 0, none⟩ v0).setCell ⟨g, 1, none⟩ v1).setCell ⟨g, 2, none⟩ v2).setCell ⟨g, 3, none⟩ v3).setCell ⟨g, 4, none⟩ v4).setCell ⟨g, 5, none⟩ v5).setCell ⟨g, 6, none⟩ v6).setCell ⟨g, 7, none⟩ v7) :=
  ((((((((Keeps.refl _ w).setCell (a := ⟨g, 0, none⟩) (by simp) _).setCell (a := ⟨g, 1, none⟩) (by simp) _).setCell (a := ⟨g, 2, none⟩) (by simp) _).setCell (a := ⟨g, 3, none⟩) (by simp) _).setCell (a := ⟨g, 4, none⟩) (by simp) _).setCell (a := ⟨g, 5, none⟩) (by simp) _).setCell (a := ⟨g, 6, none⟩) (by simp) _).setCell (a := ⟨g, 7, none⟩) (by simp) _
theorem below8 {w0 w : World} {g : Nat} (h : Below w0.heap.size w0 w) (hg : w0.heap.size ≤ g) (v0 v1 v2 v3 v4 v5 v6 v7 : Value) : Below w0.heap.size w0 ((((((((w.setCell ⟨g, 0, none⟩ v0).setCell ⟨g, 1, none⟩ v1).setCell ⟨g, 2, none⟩ v2).setCell ⟨g, 3, none⟩ v3).setCell ⟨g, 4, none⟩ v4).setCell ⟨g, 5, none⟩ v5).setCell ⟨g, 6, none⟩ v6).setCell ⟨g, 7, none⟩ v7) := by
  have k := keeps8 (w := w) (g := g) v0 v1 v2 v3 v4 v5 v6 v7
  exact ⟨k.os.trans h.os, k.tape.trans h.tape, k.output.trans h.output, Nat.le_trans h.size k.size, fun b hb => (k.block b (Nat.lt_of_lt_of_le hb h.size) (by omega)).trans (h.block b hb)⟩
theorem beg_results {a : Act} {w : World} (g : Nat) (cs : Array Value) (x : Value) (hrow : w.heap[g]? = some (.cells cs 37 (0, 0))) (hsz : cs.size = 8) (h6 : a.tmps.getD 6 undef = .pointer (some ⟨g, 0, none⟩)) (h7 : a.tmps.getD 7 undef = x) :
    (results Tryd.f6 a.tmps).run Tryd.prog w = .ok (.tuple #[.agg cs, x]) w := by
  have hl := run_loadVar_row (P := Tryd.prog) w g 37 37 cs (0, 0) _ hrow Tryd.underlying37 rfl (by rw [hsz]; kernel_rfl)
  have h6' : a.tmps[6]?.getD undef = .pointer (some ⟨g, 0, none⟩) := by simpa using h6
  have h7' : a.tmps[7]?.getD undef = x := by simpa using h7
  simp [results, Tryd.results6, asAddr, h6', hl, h7']
/-- The globals' values, as cells. -/
def gvsM (m : ModD) (k : Nat) : List Value := (m.globals.take k).map fun g => Value.int .u64 (g.v : Int)
/-- The error of instance.Begin. -/
def begE (m : ModD) (name : ByteArray) (vs : List Int) : Int :=
  if (findM m name).2 ≠ 0 then (findM m name).2 else if allT vs (sigAt m.types (m.funs.getD (findM m name).1.toNat funZ).t).1 = true then 0 else 42
/-- The frame's locals. -/
def begL (m : ModD) (name : ByteArray) (vs : List Int) : List Int := vs ++ List.replicate (m.funs.getD (findM m name).1.toNat funZ).locals.size 0
/-- What instance.Begin answers. -/
def BegP (w : World) (m : ModD) (name : ByteArray) (vs : List Int) (r : Ending) (w' : World) : Prop :=
  Below w.heap.size w w' ∧ ((begE m name vs ≠ 0 ∧ r = .returned (.tuple #[.agg #[.slice none 0 0, .slice none 0 0, .slice none 0 0, .int .i64 0, .int .i8 0, .slice none 0 0, .int .i8 0, .int .i64 0], .int .i64 (begE m name vs)])) ∨
  (begE m name vs = 0 ∧ (findM m name).2 = 0 ∧ (encM m).2 = 0 ∧ ∃ fb gv pv lv ab, r = .returned (.tuple #[.agg #[.slice (some ⟨fb, 0, none⟩) 1 1, gv, pv, .int .i64 0, .int .i8 1, .slice none 0 0, .int .i8 0, .int .i64 0], .int .i64 0]) ∧ w.heap.size ≤ fb ∧ w.heap.size ≤ ab ∧
    w'.heap[fb]? = some (.cells #[.int .i64 (findM m name).1, .int .i64 0, lv, .slice none 0 0] 53 (0, 0)) ∧ RdI .u64 (fun b => w.heap.size ≤ b) w' lv (begL m name vs) ∧ RdI .u64 (fun b => w.heap.size ≤ b) w' gv (m.globals.map fun g => (g.v : Int)) ∧
    w'.heap[ab]? = some (.cells ((memM m).map (Value.int .u8)).toArray 5 (0, 0)) ∧ RdV (fun b => w.heap.size ≤ b) w' pv (pgV ab m.first.toNat)))
theorem find_ok {m : ModD} {name : ByteArray} (h : (findM m name).2 = 0) : (encM m).2 = 0 ∧ 0 ≤ (findM m name).1 ∧ (findM m name).1 < m.funs.length := by
  unfold findM at h ⊢
  split at h
  · rename_i h1; exact absurd h h1
  rename_i h1
  rw [if_neg h1]
  have he := (valM_ok.1 (Classical.not_not.1 h1)).1
  refine ⟨he, ?_⟩
  cases hq : m.exps.find? fun x => x.name = name with
  | none => rw [hq] at h; exact absurd h (by simp [pickM])
  | some x =>
    have hp := (enc_good he).2.1
    unfold partsM at hp
    simp only [thenE_0, errMany_0] at hp
    have hx := okL_eachP (P := fun x : ExpD => 0 ≤ x.f ∧ x.f < m.funs.length) (fun a x hx => by unfold errE at hx; rw [thenE_0] at hx; exact errI_0.1 hx.2) _ _ hp.2.2.2.2.2.2.2.2 x (List.mem_of_find?_eq_some hq)
    exact hx
/-- Letters alone: a function's locals. -/
theorem locals_ok {m : ModD} (he : (encM m).2 = 0) {f : FunD} (hf : f ∈ m.funs) : letsFrom f.locals 0 = true ∧ f.locals.size ≤ 64 := by
  have hp := (enc_good he).2.1
  unfold partsM at hp
  simp only [thenE_0, errMany_0] at hp
  obtain ⟨h1, h2, h3, h4, h5, h6, h7, h8⟩ := hp
  have hs := okL_eachP (P := StF m.types) (fun a x hx => (errF_iff.1 hx).1) _ _ h6.2 f hf
  have hl := errT_0.1 hs.loc
  refine ⟨?_, Nat.le_trans hl.1 (roomT_le _ _)⟩
  have h2 := hl.2
  split at h2
  · rename_i h3
    unfold letsFrom
    rw [List.drop_zero]
    exact h3
  · exact absurd h2 (by decide)
set_option maxRecDepth 100000 in
set_option maxHeartbeats 6400000 in
theorem inst_Begin (w : World) (S : Nat → Prop) (hS : ∀ b, S b → b < w.heap.size) (m : ModD) (cs : List Value) (hm : RMod S w cs m) (sm : SmM m) (wf : WfM m) (htb : Tb w) (name : ByteArray) (T : Nat → Prop) (vv : Value) (vs : List Int) (hr : RdI .u64 T w vv vs) (h0 : ∀ x ∈ vs, 0 ≤ x) (hvl : vs.length ≤ 1048576) :
    Calls Tryd.prog 6 #[.agg cs.toArray, .string name, vv] w (BegP w m name vs) := by
  obtain ⟨i0, hi, hz0, hz1, hz2⟩ := info_parts Tryd.infoU64Z
  have hm0 := hm
  obtain ⟨tv, hv, gv, fv, dv, ev, rfl, r1, r2, r3, r4, r5, r6⟩ := hm
  obtain ⟨ta, tc, rfl, tl⟩ := r1.len
  obtain ⟨ha, hc, rfl, hl⟩ := r2.len
  obtain ⟨ga, gc, rfl, gl⟩ := r3.len
  obtain ⟨fa, fc, rfl, fl⟩ := r4.len
  obtain ⟨da, dc, rfl, dl⟩ := r5.len
  obtain ⟨ea, ec, rfl, el⟩ := r6.len
  obtain ⟨va, vc, rfl, -⟩ := hr.lenc
  have hba : Below w.heap.size w ((w.alloc (.cells #[.slice ta m.types.length tc, .slice ha m.hosts.length hc, .slice ga m.globals.length gc, .int .i64 m.first, .int .i64 m.most, .slice fa m.funs.length fc, .slice da m.datas.length dc, .slice ea m.exps.length ec] 29)).alloc (.cells #[.slice none 0 0, .slice none 0 0, .slice none 0 0, .int .i64 0, .int .i8 0, .slice none 0 0, .int .i8 0, .int .i64 0] 37)) := below_next (below_alloc _ _) (below_alloc _ _)
  have hmb : ((w.alloc (.cells #[.slice ta m.types.length tc, .slice ha m.hosts.length hc, .slice ga m.globals.length gc, .int .i64 m.first, .int .i64 m.most, .slice fa m.funs.length fc, .slice da m.datas.length dc, .slice ea m.exps.length ec] 29)).alloc (.cells #[.slice none 0 0, .slice none 0 0, .slice none 0 0, .int .i64 0, .int .i8 0, .slice none 0 0, .int .i8 0, .int .i64 0] 37)).heap[w.heap.size]? = some (.cells #[.slice ta m.types.length tc, .slice ha m.hosts.length hc, .slice ga m.globals.length gc, .int .i64 m.first, .int .i64 m.most, .slice fa m.funs.length fc, .slice da m.datas.length dc, .slice ea m.exps.length ec] 29 (0, 0)) := ((below_alloc (w.alloc (.cells #[.slice ta m.types.length tc, .slice ha m.hosts.length hc, .slice ga m.globals.length gc, .int .i64 m.first, .int .i64 m.most, .slice fa m.funs.length fc, .slice da m.datas.length dc, .slice ea m.exps.length ec] 29)) (.cells #[.slice none 0 0, .slice none 0 0, .slice none 0 0, .int .i64 0, .int .i8 0, .slice none 0 0, .int .i8 0, .int .i64 0] 37)).block _ (by rw [World.size_alloc]; omega)).trans (heap_alloc_new w (.cells #[.slice ta m.types.length tc, .slice ha m.hosts.length hc, .slice ga m.globals.length gc, .int .i64 m.first, .int .i64 m.most, .slice fa m.funs.length fc, .slice da m.datas.length dc, .slice ea m.exps.length ec] 29))
  have hsb : ((w.alloc (.cells #[.slice ta m.types.length tc, .slice ha m.hosts.length hc, .slice ga m.globals.length gc, .int .i64 m.first, .int .i64 m.most, .slice fa m.funs.length fc, .slice da m.datas.length dc, .slice ea m.exps.length ec] 29)).alloc (.cells #[.slice none 0 0, .slice none 0 0, .slice none 0 0, .int .i64 0, .int .i8 0, .slice none 0 0, .int .i8 0, .int .i64 0] 37)).heap[w.heap.size + 1]? = some (.cells #[.slice none 0 0, .slice none 0 0, .slice none 0 0, .int .i64 0, .int .i8 0, .slice none 0 0, .int .i8 0, .int .i64 0] 37 (0, 0)) := by
    have := heap_alloc_new (w.alloc (.cells #[.slice ta m.types.length tc, .slice ha m.hosts.length hc, .slice ga m.globals.length gc, .int .i64 m.first, .int .i64 m.most, .slice fa m.funs.length fc, .slice da m.datas.length dc, .slice ea m.exps.length ec] 29)) (.cells #[.slice none 0 0, .slice none 0 0, .slice none 0 0, .int .i64 0, .int .i8 0, .slice none 0 0, .int .i8 0, .int .i64 0] 37)
    rw [World.size_alloc] at this
    exact this
  have HF := Lib.hid (inst_find ((w.alloc (.cells #[.slice ta m.types.length tc, .slice ha m.hosts.length hc, .slice ga m.globals.length gc, .int .i64 m.first, .int .i64 m.most, .slice fa m.funs.length fc, .slice da m.datas.length dc, .slice ea m.exps.length ec] 29)).alloc (.cells #[.slice none 0 0, .slice none 0 0, .slice none 0 0, .int .i64 0, .int .i8 0, .slice none 0 0, .int .i8 0, .int .i64 0] 37)) S (fun b hb => by have := hS b hb; have := hba.size; omega) m _ (hm0.keeps (Keeps.all S hba)) sm wf (htb.bel hba) name)
  have HM := Lib.hid hm0; have HMB := Lib.hid hmb; have HSB := Lib.hid hsb; have HB := Lib.hid hba; have HT := Lib.hid htb; have HS := Lib.hid hS; have HSM := Lib.hid sm; have HWF := Lib.hid wf; have HR := Lib.hid hr; have HN0 := Lib.hid h0
  have g0 := row_cell hmb 0 rfl; have g1 := row_cell hmb 1 rfl; have g2 := row_cell hmb 2 rfl; have g3 := row_cell hmb 3 rfl; have g4 := row_cell hmb 4 rfl; have g5 := row_cell hmb 5 rfl; have g6 := row_cell hmb 6 rfl; have g7 := row_cell hmb 7 rfl
  simp only [List.getElem_toArray, List.getElem_cons_zero, List.getElem_cons_succ] at g0 g1 g2 g3 g4 g5 g6 g7
  clear hm0 r1 r2 r3 r4 r5 r6 hba hmb hsb htb hS sm wf hr h0
  go_enter Tryd.func6, Tryd.ntmps6
  go_wp2_with fail
  refine HF.out.mono ?_
  rintro e w2 ⟨rfl, hb2⟩
  have HB2 := Lib.hid (below_next HB.out hb2)
  have HMB2 := Lib.hid (MB_cells HMB.out hb2)
  have HSB2 := Lib.hid ((hb2.block _ (row_lt HSB.out)).trans HSB.out)
  obtain ⟨ff, hff⟩ : ∃ f, (findM m name).1 = f := ⟨_, rfl⟩
  obtain ⟨fe, hfe⟩ : ∃ e, (findM m name).2 = e := ⟨_, rfl⟩
  rw [hff, hfe]
  have HFF := Lib.hid hff; have HFE := Lib.hid hfe
  have s0 := row_free HSB2.out 0; have s1 := row_free HSB2.out 1; have s2 := row_free HSB2.out 2; have s3 := row_free HSB2.out 3; have s4 := row_free HSB2.out 4; have s5 := row_free HSB2.out 5; have s6 := row_free HSB2.out 6; have s7 := row_free HSB2.out 7
  have HPB : Hid (∃ ps : List Value, ps = []) := Lib.hid ⟨_, rfl⟩
  clear g0 g1 g2 g3 g4 g5 g6 g7 hb2 HF HB HMB HSB hff hfe HPB
  have g0 := row_cell HMB2.out 0 rfl; have g1 := row_cell HMB2.out 1 rfl; have g2 := row_cell HMB2.out 2 rfl; have g3 := row_cell HMB2.out 3 rfl; have g4 := row_cell HMB2.out 4 rfl; have g5 := row_cell HMB2.out 5 rfl; have g6 := row_cell HMB2.out 6 rfl; have g7 := row_cell HMB2.out 7 rfl
  simp only [List.getElem_toArray, List.getElem_cons_zero, List.getElem_cons_succ] at g0 g1 g2 g3 g4 g5 g6 g7
  have x0 := row_cell HSB2.out 0 rfl; have x1 := row_cell HSB2.out 1 rfl; have x2 := row_cell HSB2.out 2 rfl; have x3 := row_cell HSB2.out 3 rfl; have x4 := row_cell HSB2.out 4 rfl; have x5 := row_cell HSB2.out 5 rfl; have x6 := row_cell HSB2.out 6 rfl; have x7 := row_cell HSB2.out 7 rfl
  simp only [List.getElem_toArray, List.getElem_cons_zero, List.getElem_cons_succ] at x0 x1 x2 x3 x4 x5 x6 x7
  by_cases hfe0 : fe = 0
  rotate_left
  · have hvb : (fe != 0) = true := by simpa using hfe0
    have HBE : Hid (begE m name vs = fe ∧ fe ≠ 0) := Lib.hid ⟨by unfold begE; rw [HFE.out, if_pos hfe0], hfe0⟩
    clear hfe0
    go_wp2
    refine bodyPost_ret (beg_results (w.heap.size + 1) #[.slice none 0 0, .slice none 0 0, .slice none 0 0, .int .i64 0, .int .i8 0, .slice none 0 0, .int .i8 0, .int .i64 0] (.int .i64 fe) (row8 HSB2.out _ _ _ _ _ _ _ _) rfl rfl rfl) rfl ⟨below8 HB2.out (Nat.le_succ _) _ _ _ _ _ _ _ _, .inl ⟨by rw [HBE.out.1]; exact HBE.out.2, by rw [HBE.out.1]⟩⟩
  have hvb : (fe != 0) = false := by simp [hfe0]
  have HOK := Lib.hid (find_ok (HFE.out.trans hfe0))
  have HF0 := Lib.hid (HFE.out.trans hfe0)
  subst hfe0
  obtain ⟨f0, f1⟩ := HOK.out.2
  rw [HFF.out] at f0 f1
  obtain ⟨fn, rfl⟩ : ∃ fn : Nat, ff = fn := ⟨ff.toNat, by omega⟩
  have hfn : fn < m.funs.length := by omega
  clear f0 f1
  have HM2 := Lib.hid (HM.out.keeps (Keeps.all S HB2.out))
  obtain ⟨rt, -, rg, rf, -, -⟩ := RMod.parts HM2.out
  obtain ⟨fb, foff, cv, rfl, c0, c1, c2, hcv⟩ := RdFuns.at_ rf hfn
  have hfm := List.getElem_mem hfn
  obtain ⟨f, hfx⟩ : ∃ f, m.funs[fn] = f := ⟨_, rfl⟩
  have HFD : Hid (m.funs.getD fn funZ = f) := Lib.hid (by rw [← hfx, List.getD_eq_getElem?_getD, List.getElem?_eq_getElem hfn]; rfl)
  rw [hfx] at c0 c1 hfm
  have hft := (gd_of HOK.out.1 HWF.out).ok.ft _ hfm
  have hloc := locals_ok HOK.out.1 hfm
  obtain ⟨t, loc, code⟩ := f
  simp only at c0 c1 hft hloc
  obtain ⟨tn, rfl⟩ : ∃ tn : Nat, t = tn := ⟨t.toNat, by omega⟩
  have htn : tn < m.types.length := by omega
  obtain ⟨tb, toff, rfl, d0, d1⟩ := sg_at rt htn
  obtain ⟨⟨par, res⟩, htx⟩ : ∃ x, m.types[tn] = x := ⟨_, rfl⟩
  rw [htx] at d0 d1
  simp only at d0 d1
  have HTD : Hid (sigAt m.types tn = (par, res)) := Lib.hid (by unfold sigAt; rw [Int.toNat_natCast, List.getD_eq_getElem?_getD, List.getElem?_eq_getElem htn, htx]; rfl)
  have HLO := Lib.hid hloc
  have hll := hloc.2
  have HRG := Lib.hid rg
  have hps : par.size ≤ 8 := by have := (gd_of HOK.out.1 HWF.out).ok.sz _ (List.getElem_mem htn); rw [htx] at this; exact this.1
  clear hcv hfx hfm hft hloc htx rt rf rg c2 HM2
  have hbt := (below_alloc w2 (.cells #[.string par, .string res] 48)).drew
  have HBT := Lib.hid hbt
  have HB4 := Lib.hid (below_next HB2.out hbt)
  have hrt := heap_alloc_new w2 (.cells #[.string par, .string res] 48)
  have y0 := row_cell hrt 0 rfl
  simp only [List.getElem_toArray, List.getElem_cons_zero, List.getElem_cons_succ] at y0
  have r0 := heap_alloc_new w2 (.cells #[.string ⟨#[]⟩, .string ⟨#[]⟩] 48)
  have fr0 := row_free r0 0; have fr1 := row_free r0 1
  have HALL := Lib.hid (types_All (w2.alloc (.cells #[.string par, .string res] 48)).drew par (by omega) T _ vs (HR.out.keeps (Keeps.all T HB4.out)) HN0.out)
  have hz := below_alloc w2 (.cells #[.string ⟨#[]⟩, .string ⟨#[]⟩] 48)
  have g0z := cell_below hz g0; have g5z := cell_below hz g5; have c0z := cell_below hz c0; have d0z := cell_below hz d0; have d1z := cell_below hz d1
  clear hbt hrt r0 hz
  go_wp2_with fail
  go_region
  go_wp2_with fail
  refine HALL.out.mono ?_
  rintro e w5 ⟨rfl, hb5⟩
  have HB25 := Lib.hid (below_next HBT.out hb5)
  have HB5 := Lib.hid (below_next HB4.out hb5)
  have HMB5 := Lib.hid (MB_cells HMB2.out HB25.out)
  have HSB5 := Lib.hid ((HB25.out.block _ (row_lt HSB2.out)).trans HSB2.out)
  have c1 := cell_below HB25.out c1
  clear g0 g1 g2 g3 g4 g5 g6 g7 x0 x1 x2 x3 x4 x5 x6 x7 s0 s1 s2 s3 s4 s5 s6 s7 g0z g5z c0z d0z d1z c0 d0 d1 fr0 fr1 y0 hb5 HALL
  have g0 := row_cell HMB5.out 0 rfl; have g1 := row_cell HMB5.out 1 rfl; have g2 := row_cell HMB5.out 2 rfl; have g3 := row_cell HMB5.out 3 rfl; have g4 := row_cell HMB5.out 4 rfl; have g5 := row_cell HMB5.out 5 rfl; have g6 := row_cell HMB5.out 6 rfl; have g7 := row_cell HMB5.out 7 rfl
  simp only [List.getElem_toArray, List.getElem_cons_zero, List.getElem_cons_succ] at g0 g1 g2 g3 g4 g5 g6 g7
  by_cases hat : allT vs par = true
  rotate_left
  · have hatf : allT vs par = false := by simpa using hat
    have HBE : Hid (begE m name vs = 42) := Lib.hid (by unfold begE; rw [HFE.out, HFF.out, Int.toNat_natCast, HFD.out]; simp only; rw [HTD.out]; simp only; rw [if_neg (by simp), if_neg hat])
    rw [hatf]
    have s0 := row_free HSB5.out 0; have s1 := row_free HSB5.out 1; have s2 := row_free HSB5.out 2; have s3 := row_free HSB5.out 3; have s4 := row_free HSB5.out 4; have s5 := row_free HSB5.out 5; have s6 := row_free HSB5.out 6; have s7 := row_free HSB5.out 7
    have x0 := row_cell HSB5.out 0 rfl; have x1 := row_cell HSB5.out 1 rfl; have x2 := row_cell HSB5.out 2 rfl; have x3 := row_cell HSB5.out 3 rfl; have x4 := row_cell HSB5.out 4 rfl; have x5 := row_cell HSB5.out 5 rfl; have x6 := row_cell HSB5.out 6 rfl; have x7 := row_cell HSB5.out 7 rfl
    simp only [List.getElem_toArray, List.getElem_cons_zero, List.getElem_cons_succ] at x0 x1 x2 x3 x4 x5 x6 x7
    clear hat hatf
    go_wp2
    refine bodyPost_ret (beg_results (w.heap.size + 1) #[.slice none 0 0, .slice none 0 0, .slice none 0 0, .int .i64 0, .int .i8 0, .slice none 0 0, .int .i8 0, .int .i64 0] (.int .i64 42) (row8 HSB5.out _ _ _ _ _ _ _ _) rfl rfl rfl) rfl ⟨below8 HB5.out (Nat.le_succ _) _ _ _ _ _ _ _ _, .inl ⟨by rw [HBE.out]; decide, by rw [HBE.out]⟩⟩
  rw [hat]
  have HBE : Hid (begE m name vs = 0 ∧ begL m name vs = vs ++ List.replicate loc.size 0) := Lib.hid ⟨by unfold begE; rw [HFE.out, HFF.out, Int.toNat_natCast, HFD.out]; simp only; rw [HTD.out]; simp only; rw [if_neg (by simp), if_pos hat], by unfold begL; rw [HFF.out, Int.toNat_natCast, HFD.out]⟩
  clear hat HTD HFD
  have HZ := Lib.hid (fun wx : World => types_Zero wx loc (by omega) HLO.out.1)
  have HR5 := Lib.hid (HR.out.keeps (Keeps.all T HB5.out))
  have HC0 : Hid (Below w5.heap.size w5 w5.drew) := Lib.hid (Below.refl _ w5).drew
  have hz1u : ∀ u ∈ zer loc.size, u.oneCell' = true := fun u hu => by rw [List.eq_of_mem_replicate hu]; rfl
  have HZ1 := Lib.hid hz1u
  clear hz1u
  go_wp2_with fail
  go_region_law (first
    | (refine step_app (by rfl) _ _ 30 (by rfl) w5.heap.size 46 i0 (.int .u64 0) 1 8 Tryd.underlying30 hi hz0 hz1 hz2 rfl (by omega) (.slice none 0 0) 0 [] (by rfl) (World.ownsRow_nil _ _ _ _) va vs.length vc (vs.map (Value.int .u64)) (by rfl) (by simp) (by first | exact (src_of (HR5.out.keeps (Keeps.all _ HC0.out))).1 | exact (src_of (HR5.out.keeps (Keeps.all _ HC49.out))).1) (src_of HR5.out).2 (fun u hu => by obtain ⟨x, -, rfl⟩ := List.mem_map.1 hu; rfl) (by unfold maxLen; omega) (by omega) (by first | exact HC0.out.size | exact HC49.out.size) ?_; intro v42 w42 ho42 hk42 hf42; rw [Nat.zero_add] at ho42; rw [List.nil_append] at ho42; (obtain ⟨a42, c42, rfl, -⟩ := own_slice ho42); have HC42 : Hid (Below w5.heap.size w5 w42) := Lib.hid (by first | exact HC49.out.grown hk42.grown HC49.out.size (fun j hj => by cases hj) | exact HC0.out.grown hk42.grown HC0.out.size (fun j hj => by cases hj)); have g5b := cell_below HC42.out g5; have c1b := cell_below HC42.out c1)
    | (refine step_app (by rfl) _ _ 30 (by rfl) w5.heap.size 46 i0 (.int .u64 0) 1 8 Tryd.underlying30 hi hz0 hz1 hz2 rfl (by omega) (.slice a42 vs.length c42) vs.length (vs.map (Value.int .u64)) (by rfl) (by first | exact own_below ho42 hb49 | exact ho42) a49 loc.size c49 (zer loc.size) (by rfl) (by simp) (by first | exact (src_own ho49).1 | exact (src_own (own_below ho49 ((Below.refl _ _).grown hk42.grown (Nat.le_refl _) (fun j hj => by cases hj)))).1) (src_own ho49).2 HZ1.out (by unfold maxLen; omega) (by omega) (by first | exact HC49.out.size | exact HC42.out.size) ?_; intro v50 w50 ho50 hk50 hf50; have HC50 : Hid (Below w5.heap.size w5 w50) := Lib.hid (by first | exact HC49.out.grown hk50.grown HC49.out.size (fun j hj => (ho42.lt j hj).1) | exact HC42.out.grown hk50.grown HC42.out.size (fun j hj => (ho42.lt j hj).1)))
    | (go_simp; go_at_call 13; (with_reducible refine (HZ.out _).mono ?_); rintro r w49 ⟨v49, rfl, ho49, hb49⟩; (obtain ⟨a49, c49, rfl, -⟩ := own_slice ho49); have HC49 : Hid (Below w5.heap.size w5 w49) := Lib.hid (by first | exact below_next HC42.out hb49 | exact below_next HC0.out hb49)))
  all_goals
    obtain ⟨a50, c50, rfl, -⟩ := own_slice ho50
    have HO50 := Lib.hid ho50
    have HB50 := Lib.hid (below_next HB5.out HC50.out)
    have HMB50 := Lib.hid (MB_cells HMB5.out HC50.out)
    have HSB50 := Lib.hid ((HC50.out.block _ (row_lt HSB5.out)).trans HSB5.out)
    have hsz5 : w.heap.size ≤ w5.heap.size := HB5.out.size
    try clear g5b c1b
    clear g0 g1 g2 g3 g4 g5 g6 g7 c1 ho50 hk50 hf50 ho42 hk42 hf42 ho49 hb49
    obtain ⟨n50, hn50⟩ : ∃ n, vs.length + loc.size = n := ⟨_, rfl⟩
    rw [hn50] at HO50 ⊢
    have HN50 := Lib.hid hn50
    clear hn50
    have hbf := below_alloc w50 (.cells #[.int .i64 fn, .int .i64 0, .slice a50 n50 c50, .slice none 0 0] 53)
    have HFR := Lib.hid (heap_alloc_new w50 (.cells #[.int .i64 fn, .int .i64 0, .slice a50 n50 c50, .slice none 0 0] 53))
    have HB8 := Lib.hid (below_next HB50.out hbf)
    have HBF := Lib.hid hbf
    have HMB8 := Lib.hid (MB_cells HMB50.out hbf)
    have g0 := row_cell HMB8.out 0 rfl; have g1 := row_cell HMB8.out 1 rfl; have g2 := row_cell HMB8.out 2 rfl; have g3 := row_cell HMB8.out 3 rfl; have g4 := row_cell HMB8.out 4 rfl; have g5 := row_cell HMB8.out 5 rfl; have g6 := row_cell HMB8.out 6 rfl; have g7 := row_cell HMB8.out 7 rfl
    simp only [List.getElem_toArray, List.getElem_cons_zero, List.getElem_cons_succ] at g0 g1 g2 g3 g4 g5 g6 g7
    have HPG := Lib.hid (inst_pages (w50.alloc (.cells #[.int .i64 fn, .int .i64 0, .slice a50 n50 c50, .slice none 0 0] 53)) S (fun b hb => by have := HS.out b hb; have := HB8.out.size; omega) m _ (HM.out.keeps (Keeps.all S HB8.out)) HOK.out.1)
    clear hbf
    go_wp2_with fail
    refine HPG.out.mono ?_
    rintro e w9 ⟨pv, ab, rfl, hb9, hab, hmem, hpg⟩
    obtain ⟨pa, pc, hpv, -⟩ := hpg.lenc
    rw [pgV_len] at hpv
    obtain ⟨pn, hpn⟩ : ∃ n, m.first.toNat = n := ⟨_, rfl⟩
    rw [hpn] at hpv
    subst hpv
    have hbs := below_alloc w9 (.cells #[.slice (some ⟨w50.heap.size, 0, none⟩) 1 1, .slice none 0 0, .slice pa pn pc, .int .i64 0, .int .i8 1, .slice none 0 0, .int .i8 0, .int .i64 0] 37)
    have HST := Lib.hid (heap_alloc_new w9 (.cells #[.slice (some ⟨w50.heap.size, 0, none⟩) 1 1, .slice none 0 0, .slice pa pn pc, .int .i64 0, .int .i8 1, .slice none 0 0, .int .i8 0, .int .i64 0] 37))
    have HB89 := Lib.hid (below_next (below_next HBF.out hb9) hbs)
    have HB9 := Lib.hid (below_next HB50.out HB89.out)
    have HMB9 := Lib.hid (MB_cells HMB50.out HB89.out)
    have HSB9 := Lib.hid ((HB89.out.block _ (row_lt HSB50.out)).trans HSB50.out)
    have HO9 := Lib.hid (own_below HO50.out HB89.out)
    have HFR9 := Lib.hid ((hbs.block _ (Nat.lt_of_lt_of_le (row_lt HFR.out) hb9.size)).trans ((hb9.block _ (row_lt HFR.out)).trans HFR.out))
    have HMEM := Lib.hid ((hbs.block _ (row_lt hmem)).trans hmem)
    have HPGS := Lib.hid ((hpg.mono (T := fun b => w50.heap.size ≤ b ∧ b < w9.heap.size) fun b hb h => ⟨by have := HBF.out.size; omega, hb⟩).keeps (Keeps.all _ hbs))
    have hl1 : w50.heap.size < w9.heap.size := Nat.lt_of_lt_of_le (row_lt HFR.out) hb9.size
    have hl2 : ab < w9.heap.size := row_lt hmem
    have hl3 : w.heap.size + 1 < w9.heap.size := Nat.lt_of_lt_of_le (row_lt HSB50.out) (by omega)
    have hl4 : w50.heap.size ≤ ab := by have := HBF.out.size; omega
    have hl5 : w5.heap.size ≤ w50.heap.size := HC50.out.size
    have hsl2 : (w9.alloc (.cells #[.slice (some ⟨w50.heap.size, 0, none⟩) 1 1, .slice none 0 0, .slice pa pn pc, .int .i64 0, .int .i8 1, .slice none 0 0, .int .i8 0, .int .i64 0] 37)).heap.size ≤ w9.heap.size + 1 := by rw [World.size_alloc]; exact Nat.le_refl _
    have HO50L : Hid (∀ b, (Value.slice a50 n50 c50).ownBlock = some b → w5.heap.size ≤ b ∧ b < w50.heap.size) := Lib.hid fun b hb => HO50.out.lt b hb
    have hl6 : w.heap.size + 1 < w5.heap.size := row_lt HSB5.out
    have HPN := Lib.hid hpn
    have r0 := heap_alloc_new w9 (.cells #[.slice none 0 0, .slice none 0 0, .slice none 0 0, .int .i64 0, .int .i8 0, .slice none 0 0, .int .i8 0, .int .i64 0] 37)
    have fr0 := row_free r0 0; have fr1 := row_free r0 1; have fr2 := row_free r0 2; have fr3 := row_free r0 3; have fr4 := row_free r0 4; have fr5 := row_free r0 5; have fr6 := row_free r0 6; have fr7 := row_free r0 7
    have g2 := row_cell HMB9.out 2 rfl
    simp only [List.getElem_toArray, List.getElem_cons_zero, List.getElem_cons_succ] at g2
    clear r0 hpn hbs hmem hpg hb9 hab HPG g0 g1 g3 g4 g5 g6 g7
    go_wp2
    clear fr0 fr1 fr2 fr3 fr4 fr5 fr6 fr7 g2
    generalize hws : w9.alloc (.cells #[.slice (some ⟨w50.heap.size, 0, none⟩) 1 1, .slice none 0 0, .slice pa pn pc, .int .i64 0, .int .i8 1, .slice none 0 0, .int .i8 0, .int .i64 0] 37) = ws at *
    clear hws
    have hsl := row_lt HST.out
    generalize w9.heap.size = sb2 at *
    generalize w50.heap.size = fb8 at *
    go_loopw [61] (fun i wr => ∃ (k : Nat) (gvv : Value), k ≤ m.globals.length ∧ i = .int .i64 k ∧ Hid (wr.heap[sb2]? = some (.cells #[.slice (some ⟨fb8, 0, none⟩) 1 1, gvv, .slice pa pn pc, .int .i64 0, .int .i8 1, .slice none 0 0, .int .i8 0, .int .i64 0] 37 (0, 0))) ∧ Hid (wr.ownsRow (sb2 + 1) 46 1 gvv k (gvsM m k)) ∧ Hid (Keeps (fun b => b ≠ sb2) ws wr)) (fun i _ => m.globals.length - (intOf i).toNat)
    case atStart => exact ⟨0, .slice none 0 0, by omega, rfl, HST, Lib.hid (World.ownsRow_nil _ _ _ _), Lib.hid (Keeps.refl _ _)⟩
    case round =>
      obtain ⟨k, gvv, hk, rfl, HRS, HG, HK⟩ := hrel
      obtain ⟨ga2, gc2, rfl, -⟩ := own_slice HG.out
      have hkS : Keeps S w wr := (Keeps.all S HB9.out).trans (HK.out.mono fun b _ hb => by have := HS.out b hb; omega)
      by_cases hlt : k < m.globals.length
      · obtain ⟨-, -, rg, -, -, -⟩ := RMod.parts (HM.out.keeps hkS)
        obtain ⟨gb, goff, rfl, e0, e1, e2⟩ := gl_at rg hlt
        obtain ⟨⟨let_, mu, gvl⟩, hgx⟩ : ∃ x, m.globals[k] = x := ⟨_, rfl⟩
        rw [hgx] at e0 e1 e2
        simp only at e0 e1 e2
        have HTK : Hid (gvsM m (k + 1) = gvsM m k ++ [Value.int .u64 (gvl : Int)]) := Lib.hid (by unfold gvsM; rw [List.take_succ_eq_append_getElem hlt, hgx]; simp)
        have hbg := below_alloc wr (.cells #[.int .u8 let_, .bool mu, .int .u64 gvl] 66)
        have hrg := heap_alloc_new wr (.cells #[.int .u8 let_, .bool mu, .int .u64 gvl] 66)
        have y2 := row_cell hrg 2 rfl
        have z1 := row_cell ((hbg.block _ (row_lt HRS.out)).trans HRS.out) 1 rfl
        simp only [List.getElem_toArray, List.getElem_cons_zero, List.getElem_cons_succ] at y2 z1
        have r0 := heap_alloc_new wr (.cells #[.int .u8 0, .bool false, .int .u64 0] 66)
        have fr0 := row_free r0 0; have fr1 := row_free r0 1; have fr2 := row_free r0 2
        have hbn := below_next hbg (below_alloc (wr.alloc (.cells #[.int .u8 let_, .bool mu, .int .u64 gvl] 66)) (.cells #[.int .u64 gvl] 46))
        have HBN := Lib.hid hbn
        have HGN := Lib.hid (own_below HG.out hbn)
        have hbase : sb2 + 1 ≤ ((wr.alloc (.cells #[.int .u8 let_, .bool mu, .int .u64 gvl] 66)).alloc (.cells #[.int .u64 gvl] 46)).heap.size := by have := row_lt HRS.out; have := hbn.size; omega
        have hgl2 : m.globals.length ≤ 64 := by
          have hp := (enc_good HOK.out.1).2.1
          unfold partsM at hp
          simp only [thenE_0, errMany_0] at hp
          exact hp.2.2.1.1
        have hzc := zcell_new (wr.alloc (.cells #[.int .u8 let_, .bool mu, .int .u64 gvl] 66)) (.int .u64 gvl) 46
        rw [World.size_alloc] at hzc
        have HZC := Lib.hid hzc
        clear r0 hbg hrg hbn rg hgx hkS hzc
        go_wp2_with (at_builtin; refine wpList_append_kept _ rfl _ _ 30 rfl (sb2 + 1) 46 i0 (.int .u64 0) 1 8 Tryd.underlying30 hi hz0 hz1 hz2 rfl (by decide) _ k (gvsM m k) rfl HGN.out ⟨wr.heap.size + 1, 0, none⟩ 1 1 [.int .u64 gvl] rfl rfl HZC.out (by simp [Value.oneCell']) (by unfold maxLen; omega) (by omega) hbase ?_)
        intro v7 w7 ho7 hk7 hf7
        obtain ⟨ga7, gc7, rfl, -⟩ := own_slice ho7
        have hne : (Value.slice ga2 k gc2).ownBlock ≠ some sb2 := fun e => by have := (HGN.out.lt sb2 e).1; omega
        have hr7 := (hk7.grown.block sb2 (Nat.lt_of_lt_of_le (row_lt HRS.out) HBN.out.size) (fun e => hne e.symm)).trans ((HBN.out.block _ (row_lt HRS.out)).trans HRS.out)
        have z7 := row_cell hr7 1 rfl; have zf7 := row_free hr7 1
        simp only [List.getElem_toArray, List.getElem_cons_zero, List.getElem_cons_succ] at z7
        have HR7 := Lib.hid hr7
        have HG7 := Lib.hid ho7
        have HK7 : Hid (Keeps (fun b => b ≠ sb2) ws w7) := Lib.hid ⟨hk7.grown.os.trans (HBN.out.os.trans HK.out.os), hk7.grown.tape.trans (HBN.out.tape.trans HK.out.tape), hk7.grown.output.trans (HBN.out.output.trans HK.out.output), Nat.le_trans HK.out.size (Nat.le_trans HBN.out.size hk7.grown.size), fun b hb hb' => (hk7.grown.block b (by have := HK.out.size; have := HBN.out.size; omega) (fun e => by have := (HGN.out.lt b e.symm).1; have := HB9.out.size; omega)).trans ((HBN.out.block b (by have := HK.out.size; omega)).trans (HK.out.block b hb hb'))⟩
        clear ho7 hk7 hf7 hr7 hne e0 e1 e2 y2 z1 fr0 fr1 fr2
        go_wp2
        go_roundw
        case rel =>
          refine ⟨k + 1, .slice ga7 (k + 1) gc7, by omega, by go_num, Lib.hid ?_, Lib.hid ?_, Lib.hid (HK7.out.trans ((Keeps.refl _ w7).setCell (a := ⟨sb2, 1, none⟩) (by simp) _))⟩
          · simpa using row_setCell HR7.out 1 (.slice ga7 (k + 1) gc7)
          · rw [HTK.out]
            exact own_keeps (S := fun b => b ≠ sb2) HG7.out ((Keeps.refl _ w7).setCell (a := ⟨sb2, 1, none⟩) (by simp) _) fun b hb e => by have := (HG7.out.lt b hb).1; omega
        case measure => simp [intOf]; omega
      · obtain rfl : k = m.globals.length := by omega
        have hsr := (HK.out.block _ (Nat.lt_trans hl3 hsl) (by omega)).trans HSB9.out
        have s0 := row_free hsr 0; have s1 := row_free hsr 1; have s2 := row_free hsr 2; have s3 := row_free hsr 3; have s4 := row_free hsr 4; have s5 := row_free hsr 5; have s6 := row_free hsr 6; have s7 := row_free hsr 7
        have x0 := row_cell hsr 0 rfl; have x1 := row_cell hsr 1 rfl; have x2 := row_cell hsr 2 rfl; have x3 := row_cell hsr 3 rfl; have x4 := row_cell hsr 4 rfl; have x5 := row_cell hsr 5 rfl; have x6 := row_cell hsr 6 rfl; have x7 := row_cell hsr 7 rfl
        simp only [List.getElem_toArray, List.getElem_cons_zero, List.getElem_cons_succ] at x0 x1 x2 x3 x4 x5 x6 x7
        have z0 := row_cell HRS.out 0 rfl; have z1 := row_cell HRS.out 1 rfl; have z2 := row_cell HRS.out 2 rfl; have z3 := row_cell HRS.out 3 rfl; have z4 := row_cell HRS.out 4 rfl; have z5 := row_cell HRS.out 5 rfl; have z6 := row_cell HRS.out 6 rfl; have z7 := row_cell HRS.out 7 rfl
        simp only [List.getElem_toArray, List.getElem_cons_zero, List.getElem_cons_succ] at z0 z1 z2 z3 z4 z5 z6 z7
        have HSR := Lib.hid hsr
        clear hsr hkS
        go_wp2
        have k8 := keeps8 (w := wr) (g := w.heap.size + 1) (.slice (some ⟨fb8, 0, none⟩) 1 1) (.slice ga2 m.globals.length gc2) (.slice pa pn pc) (.int .i64 0) (.int .i8 1) (.slice none 0 0) (.int .i8 0) (.int .i64 0)
        have kk : Keeps (fun b => b ≠ sb2 ∧ b ≠ w.heap.size + 1) ws _ := (HK.out.mono fun b _ hb => hb.1).trans (k8.mono fun b _ hb => hb.2)
        have hw9 := HB9.out.size
        refine bodyPost_ret (beg_results (w.heap.size + 1) #[.slice (some ⟨fb8, 0, none⟩) 1 1, .slice ga2 m.globals.length gc2, .slice pa pn pc, .int .i64 0, .int .i8 1, .slice none 0 0, .int .i8 0, .int .i64 0] (.int .i64 0) (row8 HSR.out _ _ _ _ _ _ _ _) rfl rfl rfl) rfl ⟨?_, .inr ⟨HBE.out.1, HF0.out, HOK.out.1, fb8, .slice ga2 m.globals.length gc2, .slice pa pn pc, .slice a50 n50 c50, ab, rfl, by omega, by omega, ?_, ?_, ?_, ?_, ?_⟩⟩
        · exact ⟨kk.os.trans HB9.out.os, kk.tape.trans HB9.out.tape, kk.output.trans HB9.out.output, Nat.le_trans HB9.out.size kk.size, fun b hb => (kk.block b (by omega) ⟨by omega, by omega⟩).trans (HB9.out.block b hb)⟩
        · refine (kk.block fb8 (Nat.lt_trans hl1 hsl) ⟨by omega, by omega⟩).trans ?_
          rw [HFF.out]; exact HFR9.out
        · have h1 := own_keeps (S := fun b => b ≠ sb2 ∧ b ≠ w.heap.size + 1) HO9.out kk fun b hb => by have := (HO50L.out b hb); exact ⟨by omega, by omega⟩
          rw [HBE.out.2]
          have e : (vs ++ List.replicate loc.size (0 : Int)).length = n50 := by rw [List.length_append, List.length_replicate]; exact HN50.out
          have h3 := RdI.of_own (k := .u64) (l := vs ++ List.replicate loc.size 0) (v := .slice a50 n50 c50) (base := w5.heap.size) (by rw [e, List.map_append, List.map_replicate]; exact h1) (by have := HN50.out; omega)
          exact h3.mono fun b _ hb => by have := (HO9.out.lt b hb).1; omega
        · have h1 := own_keeps (S := fun b => b ≠ w.heap.size + 1) HG.out k8 fun b hb e => by have := (HG.out.lt b hb).1; omega
          have e : (m.globals.map fun g => (g.v : Int)).length = m.globals.length := by simp
          unfold gvsM at h1
          rw [List.take_length] at h1
          have h3 := RdI.of_own (k := .u64) (l := m.globals.map fun g => (g.v : Int)) (v := .slice ga2 m.globals.length gc2) (base := sb2 + 1) (by rw [e, List.map_map]; exact h1) (by rw [e]; exact gl)
          exact h3.mono fun b _ hb => by have := (HG.out.lt b hb).1; omega
        · exact (kk.block ab (Nat.lt_trans hl2 hsl) ⟨by omega, by omega⟩).trans HMEM.out
        · exact (HPGS.out.keeps (kk.mono fun b _ hb => ⟨by omega, by omega⟩)).mono fun b _ hb => by omega
end Go.Proofs.YtfhkjahjenpbgaaDoor
