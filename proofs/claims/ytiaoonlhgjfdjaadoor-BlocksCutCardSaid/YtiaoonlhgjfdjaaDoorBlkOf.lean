/- blocks.Of. -/
import Derived.Test.YtiaoonlhgjfdjaaDoorBlk3
namespace Go.Proofs.YtiaoonlhgjfdjaaDoor
open Go Go.RowKit Go.Shelf
attribute [local go_sem] Oper.semAt_some
set_option linter.unusedSimpArgs false

/-- What Of tells: where segments begin, how much is left. -/
def blkP (ops : List Nat) (te tl : List Int) : List Int × List Int :=
  if (mapP ops).2.2.2.1 ≠ 0 ∨ (mapP ops).1 ≠ te ∨ (mapP ops).2.1 ≠ tl then ([], []) else (startsL (leadL ops te) ops.length, leftsL (leadL ops te) ops.length)
/-- A pair of rows of its own. -/
structure Bl (B : Nat) (w : World) (v1 v2 : Value) (S L : List Int) : Prop where
  s : OwnI B 3 w v1 S
  l : OwnI B 3 w v2 L
  d : ∀ g, v1.ownBlock = some g → v2.ownBlock ≠ some g
/-- What has been gathered, behind the pointer gb; all else below n0 stands. -/
structure Oi (n0 gb : Nat) (w8 : World) (S L : List Int) (W : World) : Prop where
  box : ∃ v1 v2, W.heap[gb]? = some (.cells #[v1, v2] 33 (0, 0)) ∧ Bl n0 W v1 v2 S L
  kp : Keeps (fun b => b ≠ gb ∧ b < n0) w8 W
theorem own_cells {B T : Nat} {w : World} {v : Value} {l : List Int} (h : OwnI B T w v l) {g : Nat} (hg : v.ownBlock = some g) : ∃ o : Obj, w.heap[g]? = some o ∧ o.isCells = true := by
  rcases h.2 with ⟨rfl, _⟩ | ⟨g', cap, cur, rfl, _, hgb, _⟩
  · cases hg
  · simp only [Value.ownBlock, Option.some.injEq] at hg
    subst hg
    exact ⟨_, hgb, rfl⟩
theorem Oi.grown {n0 gb : Nat} {w8 W W' : World} {S L : List Int} {row : Option Nat} (h : Oi n0 gb w8 S L W) (hgb : gb < n0) (hg : W.grownBy W' row) (hr : ∀ r, row = some r → n0 ≤ r ∧ ∃ o : Obj, W.heap[r]? = some o ∧ o.isCells = false) : Oi n0 gb w8 S L W' := by
  obtain ⟨v1, v2, h1, h2⟩ := h.box
  have hk : Keeps (fun b => row ≠ some b) W W' := (Keeps.refl _ W).grown hg fun k hk _ h' => h' hk
  have hne : ∀ {v : Value} {l : List Int}, OwnI n0 3 W v l → ∀ b, v.ownBlock = some b → row ≠ some b := fun ho b hb e => by
    obtain ⟨o, e1, e2⟩ := own_cells ho hb
    obtain ⟨o', e3, e4⟩ := (hr b e).2
    rw [e1] at e3; cases e3; rw [e2] at e4; cases e4
  exact ⟨⟨v1, v2, (hk.block gb (row_lt h1) fun e => by have := (hr gb e).1; omega).trans h1, own_keeps h2.s hk (hne h2.s), own_keeps h2.l hk (hne h2.l), h2.d⟩, h.kp.grown hg fun k hk' _ h' => by have := (hr k hk').1; omega⟩
/-- How a round stands: what it keeps of its beginning W. -/
structure Oj (n0 gb : Nat) (w8 W : World) (S L : List Int) (wr : World) : Prop where
  oi : Oi n0 gb w8 S L wr
  kf : KeepsFrom n0 W wr
  kp : Keeps (fun b => b ≠ gb ∧ b < n0) W wr
theorem box_at {n0 gb : Nat} {wr : World} {v1 v2 : Value} {S L : List Int} {w8 : World} (h : Oi n0 gb w8 S L wr) (hbox : wr.heap[gb]? = some (.cells #[v1, v2] 33 (0, 0))) : Bl n0 wr v1 v2 S L := by
  obtain ⟨u1, u2, h1, h2⟩ := h.box
  rw [hbox] at h1
  simp only [Option.some.injEq, Obj.cells.injEq, and_true] at h1
  obtain ⟨rfl, rfl⟩ : v1 = u1 ∧ v2 = u2 := by simpa using h1
  exact h2
theorem app_grown {n0 gb m : Nat} {w8 wr wx w7 : World} {v1 : Value} {o : Obj} (hx : wx = wr.alloc o) (hgb : gb < wr.heap.size) (hlt : ∀ g, v1.ownBlock = some g → n0 ≤ g ∧ ∃ c T f, wr.heap[g]? = some (.cells c T f)) (hn : gb < n0) (hk : Kept wx w7 v1.ownBlock m) (W : World) (hkf : KeepsFrom n0 W wr) (hkp : Keeps (fun b => b ≠ gb ∧ b < n0) W wr) (hkp8 : Keeps (fun b => b ≠ gb ∧ b < n0) w8 wr) (i : Nat) (u : Value) :
    KeepsFrom n0 W (w7.setCell ⟨gb, i, none⟩ u) ∧ Keeps (fun b => b ≠ gb ∧ b < n0) W (w7.setCell ⟨gb, i, none⟩ u) ∧ Keeps (fun b => b ≠ gb ∧ b < n0) w8 (w7.setCell ⟨gb, i, none⟩ u) ∧ Keeps (fun b => v1.ownBlock ≠ some b) wr w7 ∧ w7.heap[gb]? = wr.heap[gb]? := by
  subst hx
  have k1 : Keeps (fun b => v1.ownBlock ≠ some b) wr w7 := ((Keeps.refl _ wr).alloc o).grown hk.grown fun k hk _ h' => h' hk
  have kc : Keeps (fun b => b ≠ gb ∧ b < n0) wr (w7.setCell ⟨gb, i, none⟩ u) := (k1.mono fun b _ hb e => by have := (hlt b e).1; omega).setCell (a := ⟨gb, i, none⟩) (fun _ h => h.1 rfl) u
  refine ⟨hkf.trans (((KeepsOthers.alloc wr o).trans ((KeepsOthers.of_grownBy hk.grown fun j o' hj ho' => ?_).trans (KeepsOthers.setCell _ _ _))).from _), hkp.trans kc, hkp8.trans kc, k1, k1.block gb hgb fun e => by have := (hlt gb e).1; omega⟩
  obtain ⟨_, c, T, f, h1⟩ := hlt j hj
  rw [(Below.heap_alloc wr o j (row_lt h1)).trans h1] at ho'
  cases ho'; rfl
theorem own_rows {B T : Nat} {w : World} {v : Value} {l : List Int} (h : OwnI B T w v l) (g : Nat) (hg : v.ownBlock = some g) : B ≤ g ∧ ∃ c T' f, w.heap[g]? = some (.cells c T' f) := by
  rcases h.2 with ⟨rfl, _⟩ | ⟨g', cap, cur, rfl, hb, hgb, _⟩
  · cases hg
  · simp only [Value.ownBlock, Option.some.injEq] at hg
    subst hg
    exact ⟨hb, _, _, _, hgb⟩
theorem Oj.app1 {n0 gb m : Nat} {w8 W wr wx w7 : World} {S L : List Int} {v1 v2 v' : Value} {x : Int} {o : Obj} (h : Oj n0 gb w8 W S L wr) (hn : gb < n0) (_ : n0 ≤ wr.heap.size) (hbox : wr.heap[gb]? = some (.cells #[v1, v2] 33 (0, 0))) (hx : wx = wr.alloc o)
    (ho : w7.ownsRow n0 3 1 v' (S.length + 1) (ints S ++ [.int .i64 x])) (hk : Kept wx w7 v1.ownBlock m) (hf : ∀ g, v'.ownBlock = some g → v1.ownBlock = some g ∨ wr.heap.size + 1 ≤ g) :
    Oj n0 gb w8 W (S ++ [x]) L (w7.setCell ⟨gb, 0, none⟩ v') ∧ w7.heap[gb]? = some (.cells #[v1, v2] 33 (0, 0)) ∧ (w7.setCell ⟨gb, 0, none⟩ v').heap[gb]? = some (.cells #[v', v2] 33 (0, 0)) := by
  have hb := box_at h.oi hbox
  obtain ⟨g1, g2, g3, g4, g5⟩ := app_grown (w8 := w8) hx (row_lt hbox) (own_rows hb.s) hn hk W h.kf h.kp h.oi.kp 0 v'
  have h7 : w7.heap[gb]? = some (.cells #[v1, v2] 33 (0, 0)) := g5.trans hbox
  have h8 : (w7.setCell ⟨gb, 0, none⟩ v').heap[gb]? = some (.cells #[v', v2] 33 (0, 0)) := by simpa using row_setCell h7 0 v'
  have kS : Keeps (fun b => b ≠ gb) w7 (w7.setCell ⟨gb, 0, none⟩ v') := (Keeps.refl _ w7).setCell (a := ⟨gb, 0, none⟩) (by simp) v'
  have e : OwnI n0 3 w7 v' (S ++ [x]) := by simpa [OwnI, ints] using ho
  refine ⟨⟨⟨⟨v', v2, h8, own_keeps e kS fun b hb' e' => by have := (e.lt b hb').1; omega, own_keeps (own_keeps hb.l g4 fun b hb' e' => hb.d b e' hb') kS fun b hb' e' => by have := (hb.l.lt b hb').1; omega, fun g hg1 hg2 => ?_⟩, g3⟩, g1, g2⟩, h7, h8⟩
  rcases hf g hg1 with h1 | h1
  · exact hb.d g h1 hg2
  · have := (hb.l.lt g hg2).2
    omega
theorem Oj.app2 {n0 gb m : Nat} {w8 W wr wx w7 : World} {S L : List Int} {v1 v2 v' : Value} {x : Int} {o : Obj} (h : Oj n0 gb w8 W S L wr) (hn : gb < n0) (_ : n0 ≤ wr.heap.size) (hbox : wr.heap[gb]? = some (.cells #[v1, v2] 33 (0, 0))) (hx : wx = wr.alloc o)
    (ho : w7.ownsRow n0 3 1 v' (L.length + 1) (ints L ++ [.int .i64 x])) (hk : Kept wx w7 v2.ownBlock m) (hf : ∀ g, v'.ownBlock = some g → v2.ownBlock = some g ∨ wr.heap.size + 1 ≤ g) :
    Oj n0 gb w8 W S (L ++ [x]) (w7.setCell ⟨gb, 1, none⟩ v') ∧ w7.heap[gb]? = some (.cells #[v1, v2] 33 (0, 0)) ∧ (w7.setCell ⟨gb, 1, none⟩ v').heap[gb]? = some (.cells #[v1, v'] 33 (0, 0)) := by
  have hb := box_at h.oi hbox
  obtain ⟨g1, g2, g3, g4, g5⟩ := app_grown (w8 := w8) hx (row_lt hbox) (own_rows hb.l) hn hk W h.kf h.kp h.oi.kp 1 v'
  have h7 : w7.heap[gb]? = some (.cells #[v1, v2] 33 (0, 0)) := g5.trans hbox
  have h8 : (w7.setCell ⟨gb, 1, none⟩ v').heap[gb]? = some (.cells #[v1, v'] 33 (0, 0)) := by simpa using row_setCell h7 1 v'
  have kS : Keeps (fun b => b ≠ gb) w7 (w7.setCell ⟨gb, 1, none⟩ v') := (Keeps.refl _ w7).setCell (a := ⟨gb, 1, none⟩) (by simp) v'
  have e : OwnI n0 3 w7 v' (L ++ [x]) := by simpa [OwnI, ints] using ho
  refine ⟨⟨⟨⟨v1, v', h8, own_keeps (own_keeps hb.s g4 fun b hb' e' => hb.d b hb' e') kS fun b hb' e' => by have := (hb.s.lt b hb').1; omega, own_keeps e kS fun b hb' e' => by have := (e.lt b hb').1; omega, fun g hg1 hg2 => ?_⟩, g3⟩, g1, g2⟩, h7, h8⟩
  rcases hf g hg2 with h1 | h1
  · exact hb.d g hg1 h1
  · have := (hb.s.lt g hg1).2
    omega
theorem left_next (L0 : List Int) {m j : Nat} (h : j < m) : (L0 ++ (List.range j).map fun i => ((m - i : Nat) : Int)) ++ [(m : Int) - j] = L0 ++ (List.range (j + 1)).map fun i => ((m - i : Nat) : Int) := by
  rw [List.range_succ, List.map_append, ← List.append_assoc]
  simp only [List.map_cons, List.map_nil]
  rw [show ((m - j : Nat) : Int) = (m : Int) - j by omega]
theorem start_next' (S0 : List Int) (f : Int) (j : Nat) : (S0 ++ List.replicate j f) ++ [f] = S0 ++ List.replicate (j + 1) f := by
  rw [List.replicate_succ', List.append_assoc]
theorem of_fin {w w8 W : World} {gb r D : Nat} {v1 v2 : Value} {S L : List Int} (hbw : Below w.heap.size w w8) (hr : w8.heap[r]? = some (.cells #[.slice none 0 0, .slice none 0 0] 33 (0, 0))) (hrw : w.heap.size ≤ r) (hr5 : r < gb) (hgb : gb < w8.heap.size)
    (hI : Oi w8.heap.size gb w8 S L W) (hbl : Bl w8.heap.size W v1 v2 S L) (hD : w8.heap.size ≤ D) (hK : W.heap[D]? = some (.deferred (some []))) :
    W.heap[r]? = some (.cells #[.slice none 0 0, .slice none 0 0] 33 (0, 0)) ∧
    (((W.setCell ⟨r, 0, none⟩ v1).setCell ⟨r, 1, none⟩ v2).putObj D (.deferred none)).heap[r]? = some (.cells #[v1, v2] 33 (0, 0)) ∧ Below w.heap.size w (((W.setCell ⟨r, 0, none⟩ v1).setCell ⟨r, 1, none⟩ v2).putObj D (.deferred none)) ∧
      Bl w.heap.size (((W.setCell ⟨r, 0, none⟩ v1).setCell ⟨r, 1, none⟩ v2).putObj D (.deferred none)) v1 v2 S L ∧ ((W.setCell ⟨r, 0, none⟩ v1).setCell ⟨r, 1, none⟩ v2).heap[D]? = some (.deferred (some [])) := by
  have hrW := (hI.kp.block r (row_lt hr) ⟨by omega, by omega⟩).trans hr
  have h2 := row_setCell (row_setCell hrW 0 v1) 1 v2
  have hk : Keeps (fun b => b ≠ r ∧ b ≠ D) W (((W.setCell ⟨r, 0, none⟩ v1).setCell ⟨r, 1, none⟩ v2).putObj D (.deferred none)) :=
    (((Keeps.refl _ W).setCell (a := ⟨r, 0, none⟩) (fun _ h => h.1 rfl) v1).setCell (a := ⟨r, 1, none⟩) (fun _ h => h.1 rfl) v2).grown (grownBy_putObj' _ D _) fun k hk _ h => by cases hk; exact h.2 rfl
  have hne : ∀ {v : Value} {l : List Int}, OwnI w8.heap.size 3 W v l → ∀ b, v.ownBlock = some b → b ≠ r ∧ b ≠ D := fun ho b hb => by
    have h1 := (ho.lt b hb).1
    refine ⟨by omega, fun e => ?_⟩
    obtain ⟨o, e1, e2⟩ := own_cells ho hb
    rw [e, hK] at e1; cases e1; cases e2
  refine ⟨hrW, ?_, ?_, ⟨own_base (own_keeps hbl.s hk (hne hbl.s)) hbw.size, own_base (own_keeps hbl.l hk (hne hbl.l)) hbw.size, hbl.d⟩, ?_⟩
  · rw [World.putObj_heap_other (by omega : r ≠ D)]
    simpa using h2
  · have hb8 : Below w.heap.size w8 W := hI.kp.below hbw.size fun b hb => ⟨by omega, by have := hbw.size; omega⟩
    exact (((hbw.trans hb8).setCell (p := ⟨r, 0, none⟩) hrw v1).setCell (p := ⟨r, 1, none⟩) hrw v2).grown (grownBy_putObj' _ D _) (by rw [World.size_setCell, World.size_setCell]; exact Nat.le_trans hbw.size hI.kp.size) fun k hk => by cases hk; have := hbw.size; omega
  · exact (Below.heap_setCell _ _ _ _ (by show D ≠ r; omega)).trans ((Below.heap_setCell _ _ _ _ (by show D ≠ r; omega)).trans hK)
theorem of_results {tmps : Array Value} {w : World} (g : Nat) (cs : Array Value) (hrow : w.heap[g]? = some (.cells cs 33 (0, 0))) (hsz : cs.size = 2) (h4 : tmps.getD 4 undef = .pointer (some ⟨g, 0, none⟩)) :
    (results Tryd.f11 tmps).run Tryd.prog w = .ok (.agg cs) w := by
  have hl := run_loadVar_row (P := Tryd.prog) w g 33 33 cs (0, 0) _ hrow Tryd.underlying33 rfl (by rw [hsz]; kernel_rfl)
  have h4' : tmps[4]?.getD undef = .pointer (some ⟨g, 0, none⟩) := by simpa using h4
  simp [results, Tryd.results11, asAddr, h4', hl]
theorem of_none {w : World} {g : Nat} (h : w.heap[g]? = some (.cells #[.slice none 0 0, .slice none 0 0] 33 (0, 0))) :
    ((w.setCell ⟨g, 0, none⟩ (.slice none 0 0)).setCell ⟨g, 1, none⟩ (.slice none 0 0)).heap[g]? = some (.cells #[.slice none 0 0, .slice none 0 0] 33 (0, 0)) := by
  simpa using row_setCell (row_setCell h 0 (.slice none 0 0)) 1 (.slice none 0 0)
theorem Bl.none (B : Nat) (w : World) : Bl B w (.slice none 0 0) (.slice none 0 0) [] [] := ⟨World.ownsRow_nil _ _ _ _, World.ownsRow_nil _ _ _ _, fun g h => by cases h⟩
set_option maxRecDepth 100000 in
set_option maxHeartbeats 6400000 in
theorem blk_Of (w : World) (v v0 ve vl v3 : Value) (hi : Int) (l : List InsD) (te tl : List Int) (hc : Cd w v l) (he : RdI .i64 (· < w.heap.size) w ve te) (hl' : RdI .i64 (· < w.heap.size) w vl tl) (hl : l.length ≤ 1048576) :
    Calls Tryd.prog 11 #[v, .agg #[v0, ve, vl, v3, .int .i64 hi]] w fun e w' => ∃ v1 v2, e = .returned (.agg #[v1, v2]) ∧ Below w.heap.size w w' ∧ Bl w.heap.size w' v1 v2 (blkP (opsOf l) te tl).1 (blkP (opsOf l) te tl).2 := by
  obtain ⟨i0, hii, hz0, hz1, hz2⟩ := info_parts Tryd.infoIntF
  have HC := Lib.hid hc
  have HLO : Hid ((opsOf l).length = l.length) := Lib.hid (opsOf_len l)
  obtain ⟨va, vc, rfl, _⟩ := hc.len
  obtain ⟨ea, ec, rfl, _⟩ := he.lenc
  obtain ⟨la, lc, rfl, _⟩ := hl'.lenc
  have HE := Lib.hid he; have HL := Lib.hid hl'
  clear hc he hl'
  refine (callsIn_wide (n := 6)).1 ?_
  refine callsIn_of_wp_marks Tryd.func11 rfl trivial ?_ rfl
  simp only [Tryd.ntmps11, List.size_toArray, List.length_cons, List.length_nil, Nat.reduceAdd, Nat.reduceSub, Array.replicate_succ, Array.replicate_zero, List.push_toArray, List.append_toArray, List.nil_append, List.cons_append]
  have hb2 := below_alloc2 w (.cells #[v0, .slice ea te.length ec, .slice la tl.length lc, v3, .int .i64 hi] 26) (.cells #[.slice none 0 0, .slice none 0 0] 33)
  have hrT := heap_alloc_new w (.cells #[v0, .slice ea te.length ec, .slice la tl.length lc, v3, .int .i64 hi] 26)
  have hrR := heap_alloc_new (w.alloc (.cells #[v0, .slice ea te.length ec, .slice la tl.length lc, v3, .int .i64 hi] 26)) (.cells #[.slice none 0 0, .slice none 0 0] 33)
  have hrT := ((below_alloc (w.alloc (.cells #[v0, .slice ea te.length ec, .slice la tl.length lc, v3, .int .i64 hi] 26)) (.cells #[.slice none 0 0, .slice none 0 0] 33)).block _ (row_lt hrT)).trans hrT
  rw [World.size_alloc] at hrR
  have HM := Lib.hid (control_Map _ _ l (Cd.bel HC.out hb2) hl)
  have HB2 := Lib.hid hb2
  have HRT := Lib.hid hrT; have HRR := Lib.hid hrR
  clear hb2 hrT hrR
  gi_wp2_with fail
  refine ⟨trivial, (callsIn_wide.2 HM.out).mono ?_⟩
  clear HM
  generalize (w.alloc (.cells #[v0, .slice ea te.length ec, .slice la tl.length lc, v3, .int .i64 hi] 26)).alloc (.cells #[.slice none 0 0, .slice none 0 0] 33) = w2 at *
  rintro e w3 ⟨u1, u2, u3, rfl, hA⟩
  have HRT3 := Lib.hid ((hA.bel.block _ (row_lt HRT.out)).trans HRT.out)
  have HRR3 := Lib.hid ((hA.bel.block _ (row_lt HRR.out)).trans HRR.out)
  have t1 := row_cell HRT3.out 1 rfl; have t2 := row_cell HRT3.out 2 rfl
  simp only [List.getElem_toArray, List.getElem_cons_zero, List.getElem_cons_succ] at t1 t2
  have HB3 := Lib.hid (below_next HB2.out hA.bel)
  have HA := Lib.hid hA
  obtain ⟨er, her⟩ : ∃ er, (mapP (opsOf l)).2.2.2.1 = er := ⟨_, rfl⟩
  have HER := Lib.hid her
  rw [her]
  generalize (mapP (opsOf l)).2.2.2.2 = q at *
  clear her hA
  by_cases he : er = 0
  · subst he
    have HK := Lib.hid (mapP_ok HER.out)
    have HIR := Lib.hid (if_range HER.out HLO.out)
    obtain ⟨E, hE⟩ : ∃ E, (mapP (opsOf l)).1 = E := ⟨_, rfl⟩
    obtain ⟨L, hL⟩ : ∃ L, (mapP (opsOf l)).2.1 = L := ⟨_, rfl⟩
    have HRW := HA.out.rows
    rw [hE] at HRW HK HIR; rw [hL] at HRW HK
    have HEl : Hid (E.length = l.length) := Lib.hid (by rw [HK.out.le, HLO.out])
    have HLl : Hid (L.length = l.length) := Lib.hid (by rw [HK.out.ll, HLO.out])
    have HRE := Lib.hid (HRW.r1.rd (by rw [HEl.out]; omega)).any
    have HRL := Lib.hid (HRW.r2.rd (by rw [HLl.out]; omega)).any
    have HEQ := Lib.hid hE; have HLQ := Lib.hid hL
    clear HRW hE hL HA
    gi_wp2_with fail
    refine ⟨trivial, (callsIn_wide.2 (slices_eq w3 _ _ _ _ E te HRE.out (HE.out.bel HB3.out))).mono ?_⟩
    rintro e w4 ⟨rfl, q4, rfl⟩
    have hb4 := drewN_below w3 q4
    have HB4 := Lib.hid (below_next HB3.out hb4)
    have HRR4 := Lib.hid ((hb4.block _ (row_lt HRR3.out)).trans HRR3.out)
    have HRE4 := Lib.hid (HRE.out.bel hb4)
    have HRL4 := Lib.hid (HRL.out.bel hb4)
    have t2 := cell_below hb4 t2
    clear t1 hb4 HRE HRL HRR3 HB3
    generalize w3.drewN q4 = w4 at *
    by_cases hEt : E = te
    · subst hEt
      rw [decide_eq_true rfl]
      gi_wp2_with fail
      refine ⟨trivial, (callsIn_wide.2 (slices_eq w4 _ _ _ _ L tl HRL4.out (HL.out.bel HB4.out))).mono ?_⟩
      rintro e w5 ⟨rfl, q5, rfl⟩
      have hb5 := drewN_below w4 q5
      have HB5 := Lib.hid (below_next HB4.out hb5)
      have HRR5 := Lib.hid ((hb5.block _ (row_lt HRR4.out)).trans HRR4.out)
      have HRE5 := Lib.hid (HRE4.out.bel hb5)
      clear t2 hb5 HRE4 HRL4 HRR4 HB4
      generalize w4.drewN q5 = w5 at *
      by_cases hLt : L = tl
      · subst hLt
        rw [decide_eq_true rfl]
        have HF : Hid (blkP (opsOf l) E L = (startsL (leadL (opsOf l) E) (opsOf l).length, leftsL (leadL (opsOf l) E) (opsOf l).length)) := Lib.hid (by
          rw [blkP, if_neg]
          rw [HER.out, HEQ.out, HLQ.out]; simp)
        have hb6 := below_alloc w5 (.cells #[.slice none 0 0, .slice none 0 0] 33)
        have hr6 := heap_alloc_new w5 (.cells #[.slice none 0 0, .slice none 0 0] 33)
        have HRE6 := Lib.hid (HRE5.out.bel hb6)
        have HB6 := Lib.hid (below_next HB5.out hb6)
        have HR6 := Lib.hid hr6
        clear hb6 hr6
        gi_wp2_with fail
        refine ⟨trivial, (callsIn_wide.2 (blk_leaders _ _ _ l E (Cd.bel HC.out HB6.out) HRE6.out HEl.out hl HIR.out)).mono ?_⟩
        rintro e w7 ⟨lv, rfl, hb7, ho7⟩
        obtain ⟨ga, gc, rfl, _⟩ := ho7.slice
        have HB7 := Lib.hid hb7; have HO7 := Lib.hid ho7
        clear hb7 ho7
        gi_wp2_with fail
        refine ⟨trivial, (seg_in Fence.wide 5 trivial rfl _ _ _ _).mono ?_⟩
        rintro e w8 ⟨rfl, rfl⟩
        gi_wp2_with fail
        have hb8 := below_alloc w7 (.cells #[.slice ga l.length gc] 35)
        have hbx := heap_alloc_new w7 (.cells #[.slice ga l.length gc] 35)
        have hs8' : (w7.alloc (.cells #[.slice ga l.length gc] 35)).heap.size = w7.heap.size + 1 := World.size_alloc _ _
        obtain ⟨w8, hw8⟩ : ∃ w8, w7.alloc (.cells #[.slice ga l.length gc] 35) = w8 := ⟨_, rfl⟩
        rw [hw8] at hb8 hbx hs8' ⊢
        have HB8 := Lib.hid (below_next HB7.out hb8)
        have hs6 : w5.heap.size < w7.heap.size := by have := HB7.out.size; rw [World.size_alloc] at this; omega
        have hs8 : w7.heap.size < w8.heap.size := by omega
        have hgb : w5.heap.size < w8.heap.size := by omega
        have HLL : Hid ((leadL (opsOf l) E).length = l.length) := Lib.hid (by rw [leadL_len, HLO.out])
        have hbo : RdBo (fun b => b ≠ w5.heap.size ∧ b < w8.heap.size) w8 (.slice ga l.length gc) (leadL (opsOf l) E) := by
          have ho := HO7.out
          rw [← HLL.out] at ho
          have h1 := ho.rdB.keeps (Keeps.all _ hb8)
          rw [HLL.out] at h1
          refine h1.mono fun b hb => ?_
          have h2 := HO7.out.lt b hb
          rw [World.size_alloc] at h2
          omega
        have HB08 := Lib.hid (below_next HB6.out HB8.out)
        have HRR8 := Lib.hid (((below_next (below_alloc w5 (.cells #[.slice none 0 0, .slice none 0 0] 33)) HB8.out).block _ (row_lt HRR5.out)).trans HRR5.out)
        have HBX := Lib.hid hbx; have HBO := Lib.hid hbo
        have HH0 : Hid (Oi w8.heap.size w5.heap.size w8 (startsS []) (leftsS []) w8) := Lib.hid ⟨⟨_, _, (HB8.out.block _ (row_lt HR6.out)).trans HR6.out, Bl.none _ _⟩, Keeps.refl _ _⟩
        have HLT := Lib.hid (And.intro (row_lt HRR5.out) HB5.out.size)
        clear hw8 hb8 hbx hs8' hbo t2 HO7 HB7 HR6 HB6 HB5 HRR5 HRE5 HRE6 HRR HB2
        refine wpIn_rangeFunc_ownG (F := Fence.wide) (n := 6) rfl (by omega) (gf := 73) (lb := #[.pointer (some ⟨w7.heap.size, 0, none⟩)]) rfl trivial (enters_of Tryd.func73 (by kernel_rfl) rfl)
          (seg_stops Fence.wide 5 trivial rfl (by omega) w7.heap.size (fun b => b ≠ w5.heap.size ∧ b < w8.heap.size) (.slice ga l.length gc) (leadL (opsOf l) E) (by rw [HLL.out]; exact hl) w8 ⟨by omega, by omega⟩ (row_cell HBX.out 0 rfl) HBO.out)
          (fun h k => h.trans k) (fun W l' o o' hl' hW _ _ => (Keeps.refl _ W).grown (grownBy_putObj' W l' o') fun k hk _ hS => by cases hk; omega) (Below.refl _ _) (fun _ => rfl)
          (fun pre W => Oi w8.heap.size w5.heap.size w8 (startsS pre) (leftsS pre) W)
          (fun _ _ _ => False)
          (fun pre W W' row h hg hr => h.grown hgb hg hr)
          (fun _ _ _ _ _ hs _ _ => hs)
          HH0.out
          (fun x => { tmps := #[.slice va l.length vc, .agg #[v0, .slice ea E.length ec, .slice la L.length lc, v3, .int .i64 hi], undef, .pointer (some ⟨w.heap.size, 0, none⟩), .pointer (some ⟨w.heap.size + 1, 0, none⟩), u1, u2, u3, .int .i64 0, .int .i64 q, .pointer (some ⟨w5.heap.size, 0, none⟩), .int .i64 (x.1 : Nat), .int .i64 (x.2 : Nat), undef,
            .tuple #[u1, u2, u3, .int .i64 0, .int .i64 q], .slice va l.length vc, .tuple #[u1, u2, u3, .int .i64 0, .int .i64 q], u1, u2, u3, .int .i64 0, .int .i64 q, .int .i64 0, .bool false, .bool false, u1, .pointer (some ⟨w.heap.size, 1, none⟩), .slice ea E.length ec, .bool true, .bool false, .bool false, .bool false, u2, .pointer (some ⟨w.heap.size, 2, none⟩), .slice la L.length lc, .bool true, .bool false, .bool false, undef,
            .agg #[.slice none 0 0, .slice none 0 0], .slice va l.length vc, u1, .slice ga l.length gc, .func (.func 73) #[] #[.pointer (some ⟨w7.heap.size, 0, none⟩)], .int .i64 (x.1 : Nat), .int .i64 (x.2 : Nat), undef, undef, undef, undef, undef, undef, undef, undef, undef, undef, undef, undef, undef, undef, undef, undef, undef, undef, undef, undef], defers := [] }) ?assign ?body ?done ?stop
        case assign =>
          intro ly x W K hK
          gi_wp2
          exact hK
        case body =>
          rintro ly pre ⟨f, M⟩ W hI hlt
          rw [HLL.out] at hlt
          have hM := M.isLt
          have hS16 := startsS_len pre; have hL16 := leftsS_len pre
          obtain ⟨m, hm⟩ : ∃ m : Nat, (M : Nat) = m := ⟨_, rfl⟩
          have happ := And.intro (startsS_app pre (f, M)) (leftsS_app pre (f, M))
          simp only at happ
          dsimp only
          rw [hm] at happ hM ⊢
          have HAPP := Lib.hid happ
          clear happ hm
          generalize startsS pre = S0 at *
          generalize leftsS pre = L0 at *
          have HJ0 : Hid (Oj w8.heap.size w5.heap.size w8 W (S0 ++ List.replicate 0 (f : Int)) (L0 ++ (List.range 0).map fun i => ((m - i : Nat) : Int)) W) := Lib.hid (by
            refine ⟨?_, KeepsFrom.refl _ _, Keeps.refl _ _⟩
            simpa using hI)
          clear hI
          gi_wp2
          gi_loopw [47] (fun i wr => ∃ j : Nat, i = .int .i64 j ∧ j ≤ m ∧ Hid (Oj w8.heap.size w5.heap.size w8 W (S0 ++ List.replicate j (f : Int)) (L0 ++ (List.range j).map fun i => ((m - i : Nat) : Int)) wr)) (fun i _ => m - (intOf i).toNat)
          case atStart => exact ⟨0, rfl, by omega, HJ0⟩
          case round =>
            obtain ⟨j, rfl, hj, HJ⟩ := hrel
            clear HJ0
            by_cases hjm : j < m
            · have hSl : (S0 ++ List.replicate j (f : Int)).length ≤ 16777232 := by simp; omega
              have hLl : (L0 ++ (List.range j).map fun i => ((m - i : Nat) : Int)).length ≤ 16777232 := by simp; omega
              have HSN := Lib.hid (start_next' S0 f j)
              have HLN := Lib.hid (left_next L0 hjm)
              generalize S0 ++ List.replicate j (f : Int) = S at *
              generalize L0 ++ (List.range j).map (fun i => ((m - i : Nat) : Int)) = L' at *
              obtain ⟨v1, v2, hbox, hbl⟩ := HJ.out.oi.box
              have hsz : w8.heap.size ≤ wr.heap.size := HJ.out.oi.kp.size
              obtain ⟨a1, c1, rfl, _⟩ := own_slice hbl.s
              obtain ⟨a2, c2, rfl, _⟩ := own_slice hbl.l
              have hb6 := below_alloc wr (.cells #[.int .i64 f] 3)
              have HS6 : Hid ((wr.alloc (.cells #[.int .i64 f] 3)).ownsRow w8.heap.size 3 1 _ S.length (ints S)) := Lib.hid (own_below hbl.s hb6)
              have hB6 : w8.heap.size ≤ (wr.alloc (.cells #[.int .i64 f] 3)).heap.size := by rw [World.size_alloc]; omega
              have HBOX := Lib.hid hbox
              have y0 := row_cell hbox 0 rfl
              simp only [List.getElem_toArray, List.getElem_cons_zero] at y0
              clear hb6 hbl hbox
              gi_wp2_with (gi_at_builtin; refine wpListIn_append_kept _ rfl _ _ 24 rfl w8.heap.size 3 i0 (.int .i64 0) 1 8 Tryd.underlying24 hii hz0 hz1 hz2 rfl (by decide) _ S.length (ints S) rfl HS6.out ⟨wr.heap.size, 0, none⟩ 1 1 [.int .i64 f] rfl rfl (cell_one_new _ _ _) (by simp [Value.oneCell']) (by unfold maxLen; omega) (by omega) hB6 ?_)
              intro v' w9 ho hk hf
              obtain ⟨a3, c3, rfl, _⟩ := own_slice ho
              have ha := HJ.out.app1 hgb hsz HBOX.out rfl ho hk hf
              have HA := Lib.hid ha
              have y1 := row_cell HA.out.2.1 0 rfl
              have fr := row_free HA.out.2.1 0
              simp only [List.getElem_toArray, List.getElem_cons_zero] at y1
              clear ho hk hf ha y0 HS6 hB6 HBOX HJ
              have hsz9 : w8.heap.size ≤ w9.heap.size := by have := HA.out.1.oi.kp.size; rw [World.size_setCell] at this; exact this
              obtain ⟨W9, hW9⟩ : ∃ W9, w9.setCell ⟨w5.heap.size, 0, none⟩ (.slice a3 (S.length + 1) c3) = W9 := ⟨_, rfl⟩
              have hs9 : W9.heap.size = w9.heap.size := by rw [← hW9, World.size_setCell]
              have HA9 := HA.out.1
              have hbox9 := HA.out.2.2
              rw [hW9] at HA9 hbox9
              have hbl9 := box_at HA9.oi hbox9
              have z0 := row_cell hbox9 1 rfl
              simp only [List.getElem_toArray, List.getElem_cons_zero, List.getElem_cons_succ] at z0
              have HJ9 := Lib.hid HA9; have HBX9 := Lib.hid hbox9
              have hs92 : w8.heap.size ≤ W9.heap.size := by omega
              have hnew := cell_one_new W9 (.int .i64 ((m : Int) - j)) 3
              have HL6 : Hid ((W9.alloc (.cells #[.int .i64 ((m : Int) - j)] 3)).ownsRow w8.heap.size 3 1 _ L'.length (ints L')) := Lib.hid (own_below hbl9.l (below_alloc W9 (.cells #[.int .i64 ((m : Int) - j)] 3)))
              have hB6 : w8.heap.size ≤ (W9.alloc (.cells #[.int .i64 ((m : Int) - j)] 3)).heap.size := by rw [World.size_alloc]; omega
              rw [hs9] at hnew
              subst hW9
              have HNW := Lib.hid hnew
              clear HA HA9 hbox9 hbl9 hnew hs9
              gi_wp2_with (gi_at_builtin; refine wpListIn_append_kept _ rfl _ _ 24 rfl w8.heap.size 3 i0 (.int .i64 0) 1 8 Tryd.underlying24 hii hz0 hz1 hz2 rfl (by decide) _ L'.length (ints L') rfl HL6.out ⟨w9.heap.size, 0, none⟩ 1 1 [.int .i64 ((m : Int) - j)] rfl rfl HNW.out (by simp [Value.oneCell']) (by unfold maxLen; omega) (by omega) hB6 ?_)
              intro v'' w10 ho hk hf
              obtain ⟨a4, c4, rfl, _⟩ := own_slice ho
              have hb := HJ9.out.app2 hgb hs92 HBX9.out rfl ho hk (by simpa using hf)
              have HB := Lib.hid hb
              have y2 := row_cell HB.out.2.1 1 rfl
              have fr2 := row_free HB.out.2.1 1
              simp only [List.getElem_toArray, List.getElem_cons_zero, List.getElem_cons_succ] at y2
              have HFIN := HB.out.1
              rw [HSN.out, HLN.out] at HFIN
              have HFIN := Lib.hid HFIN
              clear ho hk hf hb HL6 hB6 HNW HBX9 HJ9 z0 y1 fr HB
              gi_wp2
              go_roundw
              case rel => exact ⟨j + 1, by go_num, by omega, HFIN⟩
              case measure => simp [intOf]; omega
            · obtain rfl : j = m := by omega
              gi_wp2
              exact ⟨HJ.out.kf, HJ.out.kp, by show Oi _ _ _ (startsS (pre ++ [(f, M)])) (leftsS (pre ++ [(f, M)])) _; rw [HAPP.out.1, HAPP.out.2]; exact HJ.out.oi⟩
        case done =>
          rintro D ys W hD rfl hI hK
          obtain ⟨v1, v2, hbox, hbl⟩ := hI.box
          obtain ⟨a1, c1, rfl, _⟩ := own_slice hbl.s
          obtain ⟨a2, c2, rfl, _⟩ := own_slice hbl.l
          have y0 := row_cell hbox 0 rfl; have y1 := row_cell hbox 1 rfl
          simp only [List.getElem_toArray, List.getElem_cons_zero, List.getElem_cons_succ] at y0 y1
          have hfin := of_fin HB08.out HRR8.out (by omega) HLT.out.1 hgb hI hbl hD hK
          have r0 := row_cell hfin.1 0 rfl; have r1 := row_cell hfin.1 1 rfl
          simp only [List.getElem_toArray, List.getElem_cons_zero, List.getElem_cons_succ] at r0 r1
          have f0 := row_free hfin.1 0; have f1 := row_free hfin.1 1
          have HFIN := Lib.hid hfin
          have HSG := Lib.hid (sgs_all (leadL (opsOf l) E))
          clear hI hK hbl hbox hfin
          gi_wp2
          refine ⟨by simp, .inl ⟨_, _, rfl, run_takeDeferred HFIN.out.2.2.2.2, ?_⟩⟩
          exact ⟨_, of_results (w.heap.size + 1) _ HFIN.out.2.1 rfl rfl, _, _, rfl, HFIN.out.2.2.1, by
            have e := HSG.out
            rw [HLL.out] at e
            rw [HF.out, HLO.out]
            show Bl _ _ _ _ (startsL _ _) (leftsL _ _)
            rw [← e.1, ← e.2]
            exact HFIN.out.2.2.2.1⟩
        case stop =>
          rintro D c pre W _ _ h _
          exact h.elim
      · rw [decide_eq_false hLt]
        have HF : Hid (blkP (opsOf l) E tl = ([], [])) := Lib.hid (by rw [blkP, if_pos (.inr (.inr (by rw [HLQ.out]; exact hLt)))])
        have r0 := row_cell HRR5.out 0 rfl; have r1 := row_cell HRR5.out 1 rfl
        simp only [List.getElem_toArray, List.getElem_cons_zero, List.getElem_cons_succ] at r0 r1
        have f0 := row_free HRR5.out 0; have f1 := row_free HRR5.out 1
        gi_wp2
        exact ⟨_, of_results (w.heap.size + 1) _ (of_none HRR5.out) rfl rfl, _, _, rfl, (HB5.out.setCell (p := ⟨w.heap.size + 1, 0, none⟩) (by simp) _).setCell (p := ⟨w.heap.size + 1, 1, none⟩) (by simp) _, by rw [HF.out]; exact Bl.none _ _⟩
    · rw [decide_eq_false hEt]
      have HF : Hid (blkP (opsOf l) te tl = ([], [])) := Lib.hid (by rw [blkP, if_pos (.inr (.inl (by rw [HEQ.out]; exact hEt)))])
      gi_wp2
      refine ⟨trivial, ?_⟩
      clear t2
      have r0 := row_cell HRR4.out 0 rfl; have r1 := row_cell HRR4.out 1 rfl
      simp only [List.getElem_toArray, List.getElem_cons_zero, List.getElem_cons_succ] at r0 r1
      have f0 := row_free HRR4.out 0; have f1 := row_free HRR4.out 1
      gi_wp2
      exact ⟨_, of_results (w.heap.size + 1) _ (of_none HRR4.out) rfl rfl, _, _, rfl, (HB4.out.setCell (p := ⟨w.heap.size + 1, 0, none⟩) (by simp) _).setCell (p := ⟨w.heap.size + 1, 1, none⟩) (by simp) _, by rw [HF.out]; exact Bl.none _ _⟩
  · have hen : (er != 0) = true := by simp [he]
    have HF : Hid (blkP (opsOf l) te tl = ([], [])) := Lib.hid (by rw [blkP, if_pos (.inl (by rw [HER.out]; exact he))])
    gi_wp2
    refine ⟨trivial, ?_⟩
    gi_wp2
    refine ⟨trivial, ?_⟩
    clear t1 t2
    have r0 := row_cell HRR3.out 0 rfl; have r1 := row_cell HRR3.out 1 rfl
    simp only [List.getElem_toArray, List.getElem_cons_zero, List.getElem_cons_succ] at r0 r1
    have f0 := row_free HRR3.out 0; have f1 := row_free HRR3.out 1
    gi_wp2
    exact ⟨_, of_results (w.heap.size + 1) _ (of_none HRR3.out) rfl rfl, _, _, rfl, (HB3.out.setCell (p := ⟨w.heap.size + 1, 0, none⟩) (by simp) _).setCell (p := ⟨w.heap.size + 1, 1, none⟩) (by simp) _, by rw [HF.out]; exact Bl.none _ _⟩
end Go.Proofs.YtiaoonlhgjfdjaaDoor
