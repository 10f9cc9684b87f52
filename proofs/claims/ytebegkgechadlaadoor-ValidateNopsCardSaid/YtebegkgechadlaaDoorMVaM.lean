/- ValidateAlone, plain: bounds; the module in memory in which one function only stops. flagonref00.CopyModule. ValidateAlone: the copied module, of which one function only stops, in memory. -/
import Derived.Test.YtebegkgechadlaaDoorMAlone
import Derived.Test.YtebegkgechadlaaDoorMCopy
import Derived.Test.YtebegkgechadlaaDoorHead5
import Derived.Test.YtebegkgechadlaaDoorMEnd
namespace Go.Proofs.YtebegkgechadlaaDoor
open Go Go.RowKit

theorem check_ll {x : InsD} (h : checkI x = 0) : x.l.length ≤ 16 := by
  unfold checkI at h
  split at h
  · exact absurd h (by decide)
  split at h
  · exact absurd h (by decide)
  split at h
  · split at h
    · exact absurd h (by decide)
    · omega
  · split at h
    · exact absurd h (by decide)
    · omega
structure LensM (m : ModD) : Prop where
  t : m.types.length ≤ 1048576
  h : m.hosts.length ≤ 1048576
  g : m.globals.length ≤ 1048576
  f : m.funs.length ≤ 1048576
  d : m.datas.length ≤ 1048576
  e : m.exps.length ≤ 1048576
  fs : ∀ f ∈ m.funs, f.code.length ≤ 1048576 ∧ ∀ i ∈ f.code, i.l.length ≤ 1048576
theorem lens_of {m : ModD} (h : (encM m).2 = 0) : LensM m := by
  have hp := (enc_good h).2.1
  unfold partsM at hp
  simp only [thenE_0, errMany_0] at hp
  obtain ⟨h1, h2, h3, h4, h5, h6, h7, h8⟩ := hp
  have hf := okL_eachP (P := StF m.types) (fun a x hx => (errF_iff.1 hx).1) _ _ h6.2
  refine ⟨by have := h1.1; omega, by have := h2.1; omega, by have := h3.1; omega, by have := h6.1; omega, by have := h7.1; omega, by have := h8.1; omega, fun f hm => ⟨by have := (hf f hm).len; omega, fun i hi => ?_⟩⟩
  have hc := (hf f hm).code
  rw [errL_0] at hc
  have := check_ll (okL_eachP (P := fun i : InsD => checkI i = 0) (fun a x hx => hx) _ _ hc i hi)
  omega
theorem sm_alone {m : ModD} {g : Nat} (sm : SmM m) (hg : g < m.funs.length) : SmM (aloneM m g) := by
  have hmem : ∀ f ∈ (aloneM m g).funs, f ∈ m.funs ∨ f = stopF (m.funs.getD g funZ) := fun f hf => List.mem_or_eq_of_mem_set hf
  have hgd : m.funs.getD g funZ ∈ m.funs := by rw [List.getD_eq_getElem?_getD, List.getElem?_eq_getElem hg]; exact List.getElem_mem hg
  refine ⟨sm.types, fun f hf => ?_, sm.exps, sm.hosts, fun f hf => ?_, sm.ats, sm.exf, sm.first, sm.most, sm.glet⟩
  · rcases hmem f hf with h | rfl
    · exact sm.funs f h
    · show (⟨#[]⟩ : ByteArray).size ≤ _; decide
  · rcases hmem f hf with h | rfl
    · exact sm.fts f h
    · show i64P (m.funs.getD g funZ).t
      exact sm.fts (m.funs.getD g funZ) hgd
/-- The functions, of which one only stops. -/
theorem rdF_set {S : Nat → Prop} {w w2 : World} {a : Nat} {n c g : Nat} {l : List FunD} {v : Value} {x : FunD} (h : RdL 3 (RFun S) (fun b => b = a) w (.slice (some ⟨a, 0, none⟩) n c) l) (hn : n = l.length) (hg : g < l.length)
    (ho : ∀ j, j < l.length → j ≠ g → ∀ i, i < 3 → w2.cell? ⟨a, j * 3 + i, none⟩ = w.cell? ⟨a, j * 3 + i, none⟩) (h0 : w2.cell? ⟨a, g * 3, none⟩ = some (.int .i64 x.t)) (h1 : w2.cell? ⟨a, g * 3 + 1, none⟩ = some (.string x.locals)) (h2 : w2.cell? ⟨a, g * 3 + 2, none⟩ = some v) (hx : CdS (fun b => b < w2.heap.size) w2 v x.code)
    (hk : Keeps S w w2) (ha : a < w2.heap.size) : RdFuns (fun b => b < w2.heap.size) w2 (.slice (some ⟨a, 0, none⟩) n c) (l.set g x) := by
  subst hn
  obtain ⟨a', cap, e, hc, hl, hp⟩ := h
  simp only [Value.slice.injEq] at e
  obtain ⟨rfl, -, rfl⟩ := e
  refine ⟨some ⟨a, 0, none⟩, c, by rw [List.length_set], by rw [List.length_set]; exact hc, by rw [List.length_set]; exact hl, fun j hj => ?_⟩
  rw [List.length_set] at hj
  obtain ⟨b, off, cs, e1, e2, e3, e4, e5⟩ := hp j hj
  simp only [Option.some.injEq, Addr.mk.injEq, and_true] at e1
  obtain ⟨rfl, rfl⟩ := e1
  by_cases hjg : j = g
  · subst hjg
    refine ⟨a, 0, [.int .i64 x.t, .string x.locals, v], rfl, ha, rfl, fun i hi => ?_, ?_⟩
    · rw [Nat.zero_add]
      match i, hi with
      | 0, _ => exact h0
      | 1, _ => exact h1
      | 2, _ => exact h2
    · rw [List.getElem_set_self]; exact ⟨v, rfl, hx⟩
  · refine ⟨a, 0, cs, rfl, ha, e3, fun i hi => ?_, ?_⟩
    · rw [Nat.zero_add]
      have := e4 i hi
      rw [Nat.zero_add] at this
      rw [ho j hj hjg i hi]; exact this
    · rw [List.getElem_set_ne (Ne.symm hjg)]; exact (e5.keeps hk).mono fun b hb _ => hb
/-- Copied functions, read. -/
theorem OwnF.rd {B g n c : Nat} {w : World} {ps : List (FunD × Value)} (h : OwnF B w (.slice (some ⟨g, 0, none⟩) n c) ps) (hl : ps.length ≤ 140737488355328) : RdL 3 (RFun fun b => B ≤ b ∧ b ≠ g) (fun b => b = g) w (.slice (some ⟨g, 0, none⟩) n c) (ps.map Prod.fst) := by
  refine RdL.of_map (f := Prod.fst) ?_
  have hb : ∀ b, (B ≤ b ∧ (Value.slice (some ⟨g, 0, none⟩) n c).ownBlock ≠ some b) → (B ≤ b ∧ b ≠ g) := fun b hb => ⟨hb.1, fun e => hb.2 (by rw [e]; rfl)⟩
  have h1 : RdL 3 (fun w cs (p : FunD × Value) => RFun (fun b => B ≤ b ∧ b ≠ g) w cs p.1) (fun b => (Value.slice (some ⟨g, 0, none⟩) n c).ownBlock = some b) w (.slice (some ⟨g, 0, none⟩) n c) ps := rd_own (α := FunD × Value) (enc := fnC) (R := fun w cs p => RFun (fun b => B ≤ b ∧ b ≠ g) w cs p.1) h.row rfl rfl (fun _ _ => rfl) hl fun p hp => ⟨p.2, rfl, (h.ls p hp).monoS fun b _ hb' => hb b hb'⟩
  exact h1.mono (T := fun b => b = g) (R' := fun w cs p => RFun (fun b => B ≤ b ∧ b ≠ g) w cs p.1) (Nat.succ_pos _) (fun b _ hb' => by simpa [Value.ownBlock] using hb'.symm) fun _ _ h => h
end Go.Proofs.YtebegkgechadlaaDoor
namespace Go.Proofs.YtebegkgechadlaaDoor
open Go Go.RowKit

/-- How CopyModule stands: its boxes. -/
structure Cm (n : Nat) (w : World) (cs : Array Value) (wx : World) : Prop where
  bel : Below n w wx
  mb : wx.heap[n]? = some (.cells cs 29 (0, 0))
  rb : wx.heap[n + 1]? = some (.cells #[.slice none 0 0, .slice none 0 0, .slice none 0 0, .int .i64 0, .int .i64 0, .slice none 0 0, .slice none 0 0, .slice none 0 0] 29 (0, 0))
theorem Cm.on {n : Nat} {w wx wy : World} {cs : Array Value} (h : Cm n w cs wx) (hn : n ≤ w.heap.size) (hb : Below wx.heap.size wx wy) : Cm n w cs wy :=
  ⟨h.bel.trans (hb.mono (Nat.le_trans hn h.bel.size)), (hb.block _ (row_lt h.mb)).trans h.mb, (hb.block _ (row_lt h.rb)).trans h.rb⟩
theorem Cm.put {n : Nat} {w wx : World} {cs : Array Value} (h : Cm n w cs wx) (i : Nat) (u : Value) : Cm n w (cs.setIfInBounds i u) (wx.setCell ⟨n, i, none⟩ u) :=
  ⟨h.bel.setCell (p := ⟨n, i, none⟩) (Nat.le_refl _) u, row_setCell h.mb i u, (((Keeps.refl (fun b => b ≠ n) wx).setCell (a := ⟨n, i, none⟩) (by simp) u).block _ (row_lt h.rb) (by omega)).trans h.rb⟩
theorem copyM_results {a : Act} {w : World} (g : Nat) (cs : Array Value) (hrow : w.heap[g]? = some (.cells cs 29 (0, 0))) (hsz : cs.size = 8) (h2 : a.tmps.getD 2 undef = .pointer (some ⟨g, 0, none⟩)) :
    (results Tryd.f9 a.tmps).run Tryd.prog w = .ok (.agg cs) w := by
  have hl := run_loadVar_row (P := Tryd.prog) w g 29 29 cs (0, 0) _ hrow Tryd.underlying29 rfl (by rw [hsz]; kernel_rfl)
  have h2' : a.tmps[2]?.getD undef = .pointer (some ⟨g, 0, none⟩) := by simpa using h2
  simp [results, Tryd.results9, asAddr, h2', hl]
/-- What CopyModule answers. -/
def CopP (w : World) (m : ModD) (r : Ending) (w' : World) : Prop :=
  ∃ tv hv gv fv dv ev ps, r = .returned (.agg #[tv, hv, gv, .int .i64 m.first, .int .i64 m.most, fv, dv, ev]) ∧ Below w.heap.size w w' ∧ ps.map Prod.fst = m.funs ∧ OwnF w.heap.size w' fv ps ∧
    RdSigs (fun b => w.heap.size ≤ b ∧ fv.ownBlock ≠ some b) w' tv m.types ∧ RdI .i64 (fun b => w.heap.size ≤ b ∧ fv.ownBlock ≠ some b) w' hv m.hosts ∧ RdGlobs (fun b => w.heap.size ≤ b ∧ fv.ownBlock ≠ some b) w' gv m.globals ∧ RdDats (fun b => w.heap.size ≤ b ∧ fv.ownBlock ≠ some b) w' dv m.datas ∧ RdExps (fun b => w.heap.size ≤ b ∧ fv.ownBlock ≠ some b) w' ev m.exps
theorem set8_row {w : World} {g : Nat} {o0 o1 o2 o3 o4 o5 o6 o7 : Value} {T : Nat} {fr : Nat × Nat} (h : w.heap[g]? = some (.cells #[o0, o1, o2, o3, o4, o5, o6, o7] T fr)) (v0 v1 v2 v3 v4 v5 v6 v7 : Value) :
    ((((((((w.setCell ⟨g, 0, none⟩ v0).setCell ⟨g, 1, none⟩ v1).setCell ⟨g, 2, none⟩ v2).setCell ⟨g, 3, none⟩ v3).setCell ⟨g, 4, none⟩ v4).setCell ⟨g, 5, none⟩ v5).setCell ⟨g, 6, none⟩ v6).setCell ⟨g, 7, none⟩ v7).heap[g]? = some (.cells #[v0, v1, v2, v3, v4, v5, v6, v7] T fr) := by
  simpa using row_setCell (row_setCell (row_setCell (row_setCell (row_setCell (row_setCell (row_setCell (row_setCell h 0 v0) 1 v1) 2 v2) 3 v3) 4 v4) 5 v5) 6 v6) 7 v7
theorem OwnD.rd {B : Nat} {w : World} {v : Value} {qs : List (DatD × Value)} (h : OwnD B w v qs) (hl : qs.length ≤ 140737488355328) : RdDats (fun b => B ≤ b) w v (qs.map Prod.fst) := by
  refine RdL.of_map (f := Prod.fst) ?_
  have h1 : RdL 2 (fun w cs (p : DatD × Value) => RDat (fun b => B ≤ b) w cs p.1) (fun b => v.ownBlock = some b) w v qs := rd_own (α := DatD × Value) (enc := dnC) (R := fun w cs p => RDat (fun b => B ≤ b) w cs p.1) h.row rfl rfl (fun _ _ => rfl) hl fun p hp => ⟨p.2, rfl, (h.ls p hp).mono fun b _ hb => hb.1⟩
  exact h1.mono (T := fun b => B ≤ b) (R' := fun w cs p => RDat (fun b => B ≤ b) w cs p.1) (Nat.succ_pos _) (fun b _ hb => (World.ownsRow.lt h.row b hb).1) fun _ _ h => h
theorem RMod.anyF {S : Nat → Prop} {w : World} {v : Value} {l : List FunD} (h : RdFuns S w v l) : RdFuns (· < w.heap.size) w v l :=
  RdL.mono h (by omega) (fun _ hb _ => hb) fun _ _ hr => hr.mono fun _ hb _ => hb
theorem RMod.anyD {S : Nat → Prop} {w : World} {v : Value} {l : List DatD} (h : RdDats S w v l) : RdDats (· < w.heap.size) w v l :=
  RdL.mono h (by omega) (fun _ hb _ => hb) fun _ _ hr => hr.mono fun _ hb _ => hb
theorem belowN {n : Nat} {w w' : World} (h : Below n w w') (hn : w.heap.size = n) : Below w.heap.size w w' := by rw [hn]; exact h
set_option maxRecDepth 100000 in
set_option maxHeartbeats 6400000 in
theorem copyModule (w : World) (S : Nat → Prop) (hS : ∀ b, S b → b < w.heap.size) (m : ModD) (cs : List Value) (hm : RMod S w cs m) (hl1 : m.types.length ≤ 1048576) (hl2 : m.hosts.length ≤ 1048576) (hl3 : m.globals.length ≤ 1048576) (hl4 : m.funs.length ≤ 1048576) (hl5 : m.datas.length ≤ 1048576) (hl6 : m.exps.length ≤ 1048576)
    (hlf : ∀ f ∈ m.funs, f.code.length ≤ 1048576 ∧ ∀ i ∈ f.code, i.l.length ≤ 1048576) (hld : ∀ f ∈ m.datas, f.b.length ≤ 140737488355328) :
    Calls Tryd.prog 9 #[.agg cs.toArray] w (CopP w m) := by
  have hm0 := hm
  obtain ⟨tv, hv, gv, fv, dv, ev, rfl, r1, r2, r3, r4, r5, r6⟩ := hm
  obtain ⟨ta, tc, rfl, tl⟩ := r1.len
  obtain ⟨ha, hc, rfl, hl⟩ := r2.len
  obtain ⟨ga, gc, rfl, gl⟩ := r3.len
  obtain ⟨fa, fc, rfl, fl⟩ := r4.len
  obtain ⟨da, dc, rfl, dl⟩ := r5.len
  obtain ⟨ea, ec, rfl, el⟩ := r6.len
  have hba : Below w.heap.size w ((w.alloc (.cells #[.slice ta m.types.length tc, .slice ha m.hosts.length hc, .slice ga m.globals.length gc, .int .i64 m.first, .int .i64 m.most, .slice fa m.funs.length fc, .slice da m.datas.length dc, .slice ea m.exps.length ec] 29)).alloc (.cells #[.slice none 0 0, .slice none 0 0, .slice none 0 0, .int .i64 0, .int .i64 0, .slice none 0 0, .slice none 0 0, .slice none 0 0] 29)) := below_next (below_alloc _ _) (below_alloc _ _)
  have HC := Lib.hid (show Cm w.heap.size w #[.slice ta m.types.length tc, .slice ha m.hosts.length hc, .slice ga m.globals.length gc, .int .i64 m.first, .int .i64 m.most, .slice fa m.funs.length fc, .slice da m.datas.length dc, .slice ea m.exps.length ec] ((w.alloc (.cells #[.slice ta m.types.length tc, .slice ha m.hosts.length hc, .slice ga m.globals.length gc, .int .i64 m.first, .int .i64 m.most, .slice fa m.funs.length fc, .slice da m.datas.length dc, .slice ea m.exps.length ec] 29)).alloc (.cells #[.slice none 0 0, .slice none 0 0, .slice none 0 0, .int .i64 0, .int .i64 0, .slice none 0 0, .slice none 0 0, .slice none 0 0] 29)) from ⟨hba, ((below_alloc (w.alloc (.cells #[.slice ta m.types.length tc, .slice ha m.hosts.length hc, .slice ga m.globals.length gc, .int .i64 m.first, .int .i64 m.most, .slice fa m.funs.length fc, .slice da m.datas.length dc, .slice ea m.exps.length ec] 29)) (.cells #[.slice none 0 0, .slice none 0 0, .slice none 0 0, .int .i64 0, .int .i64 0, .slice none 0 0, .slice none 0 0, .slice none 0 0] 29)).block _ (by rw [World.size_alloc]; omega)).trans (heap_alloc_new w _), by
    have := heap_alloc_new (w.alloc (.cells #[.slice ta m.types.length tc, .slice ha m.hosts.length hc, .slice ga m.globals.length gc, .int .i64 m.first, .int .i64 m.most, .slice fa m.funs.length fc, .slice da m.datas.length dc, .slice ea m.exps.length ec] 29)) (.cells #[.slice none 0 0, .slice none 0 0, .slice none 0 0, .int .i64 0, .int .i64 0, .slice none 0 0, .slice none 0 0, .slice none 0 0] 29)
    rw [World.size_alloc] at this
    exact this⟩)
  have HM := Lib.hid hm0
  have HLF := Lib.hid hlf; have HLD := Lib.hid hld; have HS := Lib.hid hS
  have x0 := row_cell HC.out.mb 0 rfl
  simp only [List.getElem_toArray, List.getElem_cons_zero] at x0
  clear hm0 r1 r2 r3 r4 r5 r6 hlf hld hba hS
  go_enter Tryd.func9, Tryd.ntmps9
  go_wp2_with fail
  generalize (w.alloc (.cells #[.slice ta m.types.length tc, .slice ha m.hosts.length hc, .slice ga m.globals.length gc, .int .i64 m.first, .int .i64 m.most, .slice fa m.funs.length fc, .slice da m.datas.length dc, .slice ea m.exps.length ec] 29)).alloc (.cells #[.slice none 0 0, .slice none 0 0, .slice none 0 0, .int .i64 0, .int .i64 0, .slice none 0 0, .slice none 0 0, .slice none 0 0] 29) = w0 at *
  obtain ⟨n, hn⟩ : ∃ n, w.heap.size = n := ⟨_, rfl⟩
  have HN : Hid (n ≤ w.heap.size) := Lib.hid (by omega)
  rw [hn] at HC ⊢ x0
  have HR0 := Lib.hid (RMod.parts (HM.out.keeps (Keeps.all S (belowN HC.out.bel hn))))
  refine (copySigs w0 _ _ m.types HR0.out.1 (by omega)).mono ?_
  rintro e w1a ⟨v0, rfl, ho0, hb0⟩
  obtain ⟨tv1, tc1, rfl, -⟩ := own_slice ho0
  have HO0 : Hid (RdSigs (fun b => w0.heap.size ≤ b ∧ b < w1a.heap.size) w1a (.slice tv1 m.types.length tc1) m.types) := Lib.hid ((rd_own (R := RSig) ho0 rfl rfl (fun _ _ => rfl) (by omega) fun _ _ => rfl).mono (Nat.succ_pos _) (fun b hb hb2 => (World.ownsRow.lt ho0 b hb2)) fun _ _ h => h)
  have HA0 := Lib.hid (HC.out.on HN.out hb0)
  have HB0 := Lib.hid hb0
  have f0 := row_free HA0.out.mb 0
  have hk0 := (Keeps.refl (fun b => b ≠ n) w1a).setCell (a := ⟨n, 0, none⟩) (by simp) (.slice tv1 m.types.length tc1)
  have HK0 := Lib.hid hk0
  have HC0 : Hid (Cm n w #[.slice tv1 m.types.length tc1, .slice ha m.hosts.length hc, .slice ga m.globals.length gc, .int .i64 m.first, .int .i64 m.most, .slice fa m.funs.length fc, .slice da m.datas.length dc, .slice ea m.exps.length ec] (w1a.setCell ⟨n, 0, none⟩ (.slice tv1 m.types.length tc1))) := Lib.hid (HA0.out.put 0 _)
  have c0 := row_cell HA0.out.mb 0 rfl
  have x1 := row_cell HC0.out.mb 1 rfl
  simp only [List.getElem_toArray, List.getElem_cons_zero, List.getElem_cons_succ] at c0 x1
  clear ho0 hb0 hk0 x0 HR0
  go_wp2_with fail
  obtain ⟨w1, hw1⟩ : ∃ W, w1a.setCell ⟨n, 0, none⟩ (.slice tv1 m.types.length tc1) = W := ⟨_, rfl⟩
  rw [hw1] at HK0 HC0 x1 ⊢
  clear hw1 c0 f0
  have HR1 := Lib.hid (RMod.parts (HM.out.keeps (Keeps.all S (belowN HC0.out.bel hn))))
  refine (copyInts w1 _ _ m.hosts HR1.out.2.1 (by omega)).mono ?_
  rintro e w2a ⟨v1, rfl, ho1, hb1⟩
  obtain ⟨hv1, hc1, rfl, -⟩ := own_slice ho1
  have HO1 : Hid (RdI .i64 (fun b => w1.heap.size ≤ b ∧ b < w2a.heap.size) w2a (.slice hv1 m.hosts.length hc1) m.hosts) := Lib.hid ((RdI.of_own (k := .i64) ho1 (by omega)).mono fun b hb hb2 => (World.ownsRow.lt ho1 b hb2))
  have HA1 := Lib.hid (HC0.out.on HN.out hb1)
  have HB1 := Lib.hid hb1
  have f1 := row_free HA1.out.mb 1
  have hk1 := (Keeps.refl (fun b => b ≠ n) w2a).setCell (a := ⟨n, 1, none⟩) (by simp) (.slice hv1 m.hosts.length hc1)
  have HK1 := Lib.hid hk1
  have HC1 : Hid (Cm n w #[.slice tv1 m.types.length tc1, .slice hv1 m.hosts.length hc1, .slice ga m.globals.length gc, .int .i64 m.first, .int .i64 m.most, .slice fa m.funs.length fc, .slice da m.datas.length dc, .slice ea m.exps.length ec] (w2a.setCell ⟨n, 1, none⟩ (.slice hv1 m.hosts.length hc1))) := Lib.hid (HA1.out.put 1 _)
  have c1 := row_cell HA1.out.mb 1 rfl
  have x2 := row_cell HC1.out.mb 2 rfl
  simp only [List.getElem_toArray, List.getElem_cons_zero, List.getElem_cons_succ] at c1 x2
  clear ho1 hb1 hk1 x1 HR1
  go_wp2_with fail
  obtain ⟨w2, hw2⟩ : ∃ W, w2a.setCell ⟨n, 1, none⟩ (.slice hv1 m.hosts.length hc1) = W := ⟨_, rfl⟩
  rw [hw2] at HK1 HC1 x2 ⊢
  clear hw2 c1 f1
  have HR2 := Lib.hid (RMod.parts (HM.out.keeps (Keeps.all S (belowN HC1.out.bel hn))))
  refine (copyGlobals w2 _ _ m.globals HR2.out.2.2.1 (by omega)).mono ?_
  rintro e w3a ⟨v2, rfl, ho2, hb2⟩
  obtain ⟨gv1, gc1, rfl, -⟩ := own_slice ho2
  have HO2 : Hid (RdGlobs (fun b => w2.heap.size ≤ b ∧ b < w3a.heap.size) w3a (.slice gv1 m.globals.length gc1) m.globals) := Lib.hid ((rd_own (R := RGlob) ho2 rfl rfl (fun _ _ => rfl) (by omega) fun _ _ => rfl).mono (Nat.succ_pos _) (fun b hb hb2 => (World.ownsRow.lt ho2 b hb2)) fun _ _ h => h)
  have HA2 := Lib.hid (HC1.out.on HN.out hb2)
  have HB2 := Lib.hid hb2
  have f2 := row_free HA2.out.mb 2
  have hk2 := (Keeps.refl (fun b => b ≠ n) w3a).setCell (a := ⟨n, 2, none⟩) (by simp) (.slice gv1 m.globals.length gc1)
  have HK2 := Lib.hid hk2
  have HC2 : Hid (Cm n w #[.slice tv1 m.types.length tc1, .slice hv1 m.hosts.length hc1, .slice gv1 m.globals.length gc1, .int .i64 m.first, .int .i64 m.most, .slice fa m.funs.length fc, .slice da m.datas.length dc, .slice ea m.exps.length ec] (w3a.setCell ⟨n, 2, none⟩ (.slice gv1 m.globals.length gc1))) := Lib.hid (HA2.out.put 2 _)
  have c2 := row_cell HA2.out.mb 2 rfl
  have x3 := row_cell HC2.out.mb 5 rfl
  simp only [List.getElem_toArray, List.getElem_cons_zero, List.getElem_cons_succ] at c2 x3
  clear ho2 hb2 hk2 x2 HR2
  go_wp2_with fail
  obtain ⟨w3, hw3⟩ : ∃ W, w3a.setCell ⟨n, 2, none⟩ (.slice gv1 m.globals.length gc1) = W := ⟨_, rfl⟩
  rw [hw3] at HK2 HC2 x3 ⊢
  clear hw3 c2 f2
  have HR3 := Lib.hid (RMod.parts (HM.out.keeps (Keeps.all S (belowN HC2.out.bel hn))))
  refine (copyFunctions w3 _ m.funs (RMod.anyF HR3.out.2.2.2.1) (by omega) HLF.out).mono ?_
  rintro e w4a ⟨v3, ps, rfl, hps, ho3, hb3⟩
  obtain ⟨fv1, fc1, rfl⟩ := ho3.max
  have hpl : ps.length = m.funs.length := by rw [← hps, List.length_map]
  rw [hpl] at ho3 ⊢
  have HO3 := Lib.hid ho3
  have HPS := Lib.hid hps
  have HA3 := Lib.hid (HC2.out.on HN.out hb3)
  have HB3 := Lib.hid hb3
  have f3 := row_free HA3.out.mb 5
  have hk3 := (Keeps.refl (fun b => b ≠ n) w4a).setCell (a := ⟨n, 5, none⟩) (by simp) (.slice fv1 m.funs.length fc1)
  have HK3 := Lib.hid hk3
  have HC3 : Hid (Cm n w #[.slice tv1 m.types.length tc1, .slice hv1 m.hosts.length hc1, .slice gv1 m.globals.length gc1, .int .i64 m.first, .int .i64 m.most, .slice fv1 m.funs.length fc1, .slice da m.datas.length dc, .slice ea m.exps.length ec] (w4a.setCell ⟨n, 5, none⟩ (.slice fv1 m.funs.length fc1))) := Lib.hid (HA3.out.put 5 _)
  have c3 := row_cell HA3.out.mb 5 rfl
  have x4 := row_cell HC3.out.mb 6 rfl
  simp only [List.getElem_toArray, List.getElem_cons_zero, List.getElem_cons_succ] at c3 x4
  clear ho3 hb3 hk3 x3 HR3
  go_wp2_with fail
  obtain ⟨w4, hw4⟩ : ∃ W, w4a.setCell ⟨n, 5, none⟩ (.slice fv1 m.funs.length fc1) = W := ⟨_, rfl⟩
  rw [hw4] at HK3 HC3 x4 ⊢
  clear hw4 c3 f3
  have HR4 := Lib.hid (RMod.parts (HM.out.keeps (Keeps.all S (belowN HC3.out.bel hn))))
  refine (copyDatas w4 _ m.datas (RMod.anyD HR4.out.2.2.2.2.1) (by omega) HLD.out).mono ?_
  rintro e w5a ⟨v4, qs, rfl, hqs, ho4, hb4⟩
  obtain ⟨dv1, dc1, rfl⟩ := ho4.max
  have hql : qs.length = m.datas.length := by rw [← hqs, List.length_map]
  rw [hql] at ho4 ⊢
  have HO4 := Lib.hid ho4
  have HQS := Lib.hid hqs
  have HA4 := Lib.hid (HC3.out.on HN.out hb4)
  have HB4 := Lib.hid hb4
  have f4 := row_free HA4.out.mb 6
  have hk4 := (Keeps.refl (fun b => b ≠ n) w5a).setCell (a := ⟨n, 6, none⟩) (by simp) (.slice dv1 m.datas.length dc1)
  have HK4 := Lib.hid hk4
  have HC4 : Hid (Cm n w #[.slice tv1 m.types.length tc1, .slice hv1 m.hosts.length hc1, .slice gv1 m.globals.length gc1, .int .i64 m.first, .int .i64 m.most, .slice fv1 m.funs.length fc1, .slice dv1 m.datas.length dc1, .slice ea m.exps.length ec] (w5a.setCell ⟨n, 6, none⟩ (.slice dv1 m.datas.length dc1))) := Lib.hid (HA4.out.put 6 _)
  have c4 := row_cell HA4.out.mb 6 rfl
  have x5 := row_cell HC4.out.mb 7 rfl
  simp only [List.getElem_toArray, List.getElem_cons_zero, List.getElem_cons_succ] at c4 x5
  clear ho4 hb4 hk4 x4 HR4
  go_wp2_with fail
  obtain ⟨w5, hw5⟩ : ∃ W, w5a.setCell ⟨n, 6, none⟩ (.slice dv1 m.datas.length dc1) = W := ⟨_, rfl⟩
  rw [hw5] at HK4 HC4 x5 ⊢
  clear hw5 c4 f4
  have HR5 := Lib.hid (RMod.parts (HM.out.keeps (Keeps.all S (belowN HC4.out.bel hn))))
  refine (copyExports w5 _ _ m.exps HR5.out.2.2.2.2.2 (by omega)).mono ?_
  rintro e w6a ⟨v5, rfl, ho5, hb5⟩
  obtain ⟨ev1, ec1, rfl, -⟩ := own_slice ho5
  have HO5 : Hid (RdExps (fun b => w5.heap.size ≤ b ∧ b < w6a.heap.size) w6a (.slice ev1 m.exps.length ec1) m.exps) := Lib.hid ((rd_own (R := RExp) ho5 rfl rfl (fun _ _ => rfl) (by omega) fun _ _ => rfl).mono (Nat.succ_pos _) (fun b hb hb2 => (World.ownsRow.lt ho5 b hb2)) fun _ _ h => h)
  have HA5 := Lib.hid (HC4.out.on HN.out hb5)
  have HB5 := Lib.hid hb5
  have f5 := row_free HA5.out.mb 7
  have hk5 := (Keeps.refl (fun b => b ≠ n) w6a).setCell (a := ⟨n, 7, none⟩) (by simp) (.slice ev1 m.exps.length ec1)
  have HK5 := Lib.hid hk5
  have HC5 : Hid (Cm n w #[.slice tv1 m.types.length tc1, .slice hv1 m.hosts.length hc1, .slice gv1 m.globals.length gc1, .int .i64 m.first, .int .i64 m.most, .slice fv1 m.funs.length fc1, .slice dv1 m.datas.length dc1, .slice ev1 m.exps.length ec1] (w6a.setCell ⟨n, 7, none⟩ (.slice ev1 m.exps.length ec1))) := Lib.hid (HA5.out.put 7 _)
  have c5 := row_cell HA5.out.mb 7 rfl
  have z0 := row_cell HC5.out.mb 0 rfl; have z1 := row_cell HC5.out.mb 1 rfl; have z2 := row_cell HC5.out.mb 2 rfl; have z3 := row_cell HC5.out.mb 3 rfl; have z4 := row_cell HC5.out.mb 4 rfl; have z5 := row_cell HC5.out.mb 5 rfl; have z6 := row_cell HC5.out.mb 6 rfl; have z7 := row_cell HC5.out.mb 7 rfl
  simp only [List.getElem_toArray, List.getElem_cons_zero, List.getElem_cons_succ] at c5 z0 z1 z2 z3 z4 z5 z6 z7
  clear ho5 hb5 hk5 x5 HR5
  have u0 := row_cell HC5.out.rb 0 rfl; have u1 := row_cell HC5.out.rb 1 rfl; have u2 := row_cell HC5.out.rb 2 rfl; have u3 := row_cell HC5.out.rb 3 rfl; have u4 := row_cell HC5.out.rb 4 rfl; have u5 := row_cell HC5.out.rb 5 rfl; have u6 := row_cell HC5.out.rb 6 rfl; have u7 := row_cell HC5.out.rb 7 rfl
  have p0 := row_free HC5.out.rb 0; have p1 := row_free HC5.out.rb 1; have p2 := row_free HC5.out.rb 2; have p3 := row_free HC5.out.rb 3; have p4 := row_free HC5.out.rb 4; have p5 := row_free HC5.out.rb 5; have p6 := row_free HC5.out.rb 6; have p7 := row_free HC5.out.rb 7
  simp only [List.getElem_toArray, List.getElem_cons_zero, List.getElem_cons_succ] at u0 u1 u2 u3 u4 u5 u6 u7
  go_upto_region 7 with fail
  generalize (w6a.setCell ⟨n, 7, none⟩ (.slice ev1 m.exps.length ec1)) = w6 at *
  go_wp2
  have hk8 : Keeps (fun b => b ≠ n + 1) w6 ((((((((w6.setCell ⟨n + 1, 0, none⟩ (.slice tv1 m.types.length tc1)).setCell ⟨n + 1, 1, none⟩ (.slice hv1 m.hosts.length hc1)).setCell ⟨n + 1, 2, none⟩ (.slice gv1 m.globals.length gc1)).setCell ⟨n + 1, 3, none⟩ (.int .i64 m.first)).setCell ⟨n + 1, 4, none⟩ (.int .i64 m.most)).setCell ⟨n + 1, 5, none⟩ (.slice fv1 m.funs.length fc1)).setCell ⟨n + 1, 6, none⟩ (.slice dv1 m.datas.length dc1)).setCell ⟨n + 1, 7, none⟩ (.slice ev1 m.exps.length ec1)) := ((((((((Keeps.refl _ w6).setCell (a := ⟨n + 1, 0, none⟩) (by simp) (.slice tv1 m.types.length tc1)).setCell (a := ⟨n + 1, 1, none⟩) (by simp) (.slice hv1 m.hosts.length hc1)).setCell (a := ⟨n + 1, 2, none⟩) (by simp) (.slice gv1 m.globals.length gc1)).setCell (a := ⟨n + 1, 3, none⟩) (by simp) (.int .i64 m.first)).setCell (a := ⟨n + 1, 4, none⟩) (by simp) (.int .i64 m.most)).setCell (a := ⟨n + 1, 5, none⟩) (by simp) (.slice fv1 m.funs.length fc1)).setCell (a := ⟨n + 1, 6, none⟩) (by simp) (.slice dv1 m.datas.length dc1)).setCell (a := ⟨n + 1, 7, none⟩) (by simp) (.slice ev1 m.exps.length ec1)
  have hr8 : ((((((((w6.setCell ⟨n + 1, 0, none⟩ (.slice tv1 m.types.length tc1)).setCell ⟨n + 1, 1, none⟩ (.slice hv1 m.hosts.length hc1)).setCell ⟨n + 1, 2, none⟩ (.slice gv1 m.globals.length gc1)).setCell ⟨n + 1, 3, none⟩ (.int .i64 m.first)).setCell ⟨n + 1, 4, none⟩ (.int .i64 m.most)).setCell ⟨n + 1, 5, none⟩ (.slice fv1 m.funs.length fc1)).setCell ⟨n + 1, 6, none⟩ (.slice dv1 m.datas.length dc1)).setCell ⟨n + 1, 7, none⟩ (.slice ev1 m.exps.length ec1)).heap[n + 1]? = some (.cells #[.slice tv1 m.types.length tc1, .slice hv1 m.hosts.length hc1, .slice gv1 m.globals.length gc1, .int .i64 m.first, .int .i64 m.most, .slice fv1 m.funs.length fc1, .slice dv1 m.datas.length dc1, .slice ev1 m.exps.length ec1] 29 (0, 0)) := set8_row HC5.out.rb _ _ _ _ _ _ _ _
  generalize ((((((((w6.setCell ⟨n + 1, 0, none⟩ (.slice tv1 m.types.length tc1)).setCell ⟨n + 1, 1, none⟩ (.slice hv1 m.hosts.length hc1)).setCell ⟨n + 1, 2, none⟩ (.slice gv1 m.globals.length gc1)).setCell ⟨n + 1, 3, none⟩ (.int .i64 m.first)).setCell ⟨n + 1, 4, none⟩ (.int .i64 m.most)).setCell ⟨n + 1, 5, none⟩ (.slice fv1 m.funs.length fc1)).setCell ⟨n + 1, 6, none⟩ (.slice dv1 m.datas.length dc1)).setCell ⟨n + 1, 7, none⟩ (.slice ev1 m.exps.length ec1)) = W8 at *
  refine bodyPost_ret (copyM_results (n + 1) #[.slice tv1 m.types.length tc1, .slice hv1 m.hosts.length hc1, .slice gv1 m.globals.length gc1, .int .i64 m.first, .int .i64 m.most, .slice fv1 m.funs.length fc1, .slice dv1 m.datas.length dc1, .slice ev1 m.exps.length ec1] hr8 rfl rfl) rfl ⟨_, _, _, _, _, _, ps, rfl, ?_⟩
  have hk8' := hk8
  have hbel := HC5.out.bel.trans (hk8'.below (by have := HC5.out.bel.size; omega) fun b hb => by omega)
  have n0 : n + 1 < w0.heap.size := row_lt HC.out.rb
  have s0 := HB0.out.size; have s1 := HB1.out.size; have s2 := HB2.out.size; have s3 := HB3.out.size; have s4 := HB4.out.size; have s5 := HB5.out.size
  have v0 := HK0.out.size; have v1 := HK1.out.size; have v2 := HK2.out.size; have v3 := HK3.out.size; have v4 := HK4.out.size; have v5 := HK5.out.size
  have q5 := (HK5.out.mono (T := fun b => n + 1 < b) fun b _ hb => by omega).trans (hk8'.mono fun b _ hb => by omega)
  have q4 := (HK4.out.mono (T := fun b => n + 1 < b) fun b _ hb => by omega).trans ((Keeps.all _ HB5.out).trans q5)
  have q3 := (HK3.out.mono (T := fun b => n + 1 < b) fun b _ hb => by omega).trans ((Keeps.all _ HB4.out).trans q4)
  have q2 := (HK2.out.mono (T := fun b => n + 1 < b) fun b _ hb => by omega).trans ((Keeps.all _ HB3.out).trans q3)
  have q1 := (HK1.out.mono (T := fun b => n + 1 < b) fun b _ hb => by omega).trans ((Keeps.all _ HB2.out).trans q2)
  have q0 := (HK0.out.mono (T := fun b => n + 1 < b) fun b _ hb => by omega).trans ((Keeps.all _ HB1.out).trans q1)
  have fl0 : ∀ b, (Value.slice fv1 m.funs.length fc1).ownBlock = some b → w3.heap.size ≤ b ∧ b < w4a.heap.size := fun b hb => World.ownsRow.lt HO3.out.row b hb
  rw [← hn] at hbel
  refine ⟨by rw [hn] at hbel ⊢; exact hbel, HPS.out, ⟨?_, fun p hp => ?_⟩, ?_, ?_, ?_, ?_, ?_⟩
  · exact own_base (own_keeps HO3.out.row q3 fun b hb => by have := fl0 b hb; omega) (by omega)
  · exact (CdS.keeps (HO3.out.ls p hp) (q3.mono fun b _ hb => hb) fun b hb => by omega).monoS fun b _ hb => ⟨by omega, hb.2⟩
  · exact RdL.mono (RdL.map HO0.out (q0.mono fun b _ hb => by omega) (fun b hb => hb) fun _ _ h => h) (Nat.succ_pos _) (fun b _ hb => ⟨by omega, fun e => by have := fl0 b e; omega⟩) fun _ _ h => h
  · exact (HO1.out.keeps (q1.mono fun b _ hb => by omega)).mono fun b _ hb => ⟨by omega, fun e => by have := fl0 b e; omega⟩
  · exact RdL.mono (RdL.map HO2.out (q2.mono fun b _ hb => by omega) (fun b hb => hb) fun _ _ h => h) (Nat.succ_pos _) (fun b _ hb => ⟨by omega, fun e => by have := fl0 b e; omega⟩) fun _ _ h => h
  · have hd := OwnD.rd HO4.out (by omega)
    rw [HQS.out] at hd
    exact RdL.mono (RdL.map hd (q4.mono fun b _ hb => by omega) (fun b hb => hb) fun _ _ h => h.keeps (q4.mono fun b _ hb => by omega)) (Nat.succ_pos _) (fun b _ hb => ⟨by omega, fun e => by have := fl0 b e; omega⟩) fun _ _ h => h.mono fun b _ hb => ⟨by omega, fun e => by have := fl0 b e; omega⟩
  · exact RdL.mono (RdL.map HO5.out (q5.mono fun b _ hb => by omega) (fun b hb => hb) fun _ _ h => h) (Nat.succ_pos _) (fun b _ hb => ⟨by omega, fun e => by have := fl0 b e; omega⟩) fun _ _ h => h
end Go.Proofs.YtebegkgechadlaaDoor
namespace Go.Proofs.YtebegkgechadlaaDoor
open Go Go.RowKit

/-- Where a copied module's function lies: the cells that are to be written. -/
theorem ownF_at {B g n c gn : Nat} {w : World} {ps : List (FunD × Value)} {l : List FunD} (h : OwnF B w (.slice (some ⟨g, 0, none⟩) n c) ps) (hp : ps.map Prod.fst = l) (hl : l.length ≤ 140737488355328) (hg : gn < l.length) :
    (∃ a2 n2 c2, w.cell? ⟨g, gn * 3, none⟩ = some (.int .i64 l[gn].t) ∧ w.cell? ⟨g, gn * 3 + 1, none⟩ = some (.string l[gn].locals) ∧ w.cell? ⟨g, gn * 3 + 2, none⟩ = some (.slice a2 n2 c2)) ∧ (∀ i, w.frozen? ⟨g, i, none⟩ = false) ∧ B ≤ g ∧ ∃ cur fr, w.heap[g]? = some (.cells cur 46 fr) := by
  subst hp
  have hn : n = ps.length := by
    obtain ⟨a, cc, e, _⟩ := own_slice h.row
    simp only [Value.slice.injEq] at e
    exact e.2.1
  subst hn
  rw [List.length_map] at hl hg
  obtain ⟨a, cap, e, hc, hl2, hpp⟩ := h.rd hl
  obtain ⟨b, off, cs, e1, e2, e3, e4, v, e5, e6⟩ := hpp gn (by rw [List.length_map]; exact hg)
  simp only [Value.slice.injEq] at e
  obtain ⟨rfl, -, -⟩ := e
  simp only [Option.some.injEq, Addr.mk.injEq, and_true] at e1
  obtain ⟨rfl, rfl⟩ := e1
  subst e5
  have c0 := e4 0 (by omega); have c1 := e4 1 (by omega); have c2 := e4 2 (by omega)
  rw [Nat.zero_add] at c0 c1 c2
  obtain ⟨a2, cc2, rfl, -⟩ := e6
  refine ⟨⟨_, _, _, c0, c1, c2⟩, fun i => World.ownsRow.frozenAt h.row i, (World.ownsRow.lt h.row g rfl).1, ?_⟩
  rcases h.row.2 with ⟨h', _⟩ | ⟨g', cap', cur, h', hb, hg', _⟩
  · simp at h'
  · simp only [Value.slice.injEq, Option.some.injEq, Addr.mk.injEq, and_true, true_and] at h'
    obtain ⟨rfl, -⟩ := h'
    exact ⟨cur, _, hg'⟩
/-- The module behind the two stores. -/
theorem alone_mem {B g c gn n8 : Nat} {w6 w8 : World} {tv hv gv dv ev : Value} {m : ModD} {ps : List (FunD × Value)} (hb : Below w6.heap.size w6 w8) (hof : OwnF B w6 (.slice (some ⟨g, 0, none⟩) m.funs.length c) ps) (hp : ps.map Prod.fst = m.funs) (hl : m.funs.length ≤ 140737488355328) (hg : gn < m.funs.length)
    (q1 : RdSigs (fun b => B ≤ b ∧ (Value.slice (some ⟨g, 0, none⟩) m.funs.length c).ownBlock ≠ some b) w6 tv m.types) (q2 : RdI .i64 (fun b => B ≤ b ∧ (Value.slice (some ⟨g, 0, none⟩) m.funs.length c).ownBlock ≠ some b) w6 hv m.hosts) (q3 : RdGlobs (fun b => B ≤ b ∧ (Value.slice (some ⟨g, 0, none⟩) m.funs.length c).ownBlock ≠ some b) w6 gv m.globals) (q5 : RdDats (fun b => B ≤ b ∧ (Value.slice (some ⟨g, 0, none⟩) m.funs.length c).ownBlock ≠ some b) w6 dv m.datas) (q6 : RdExps (fun b => B ≤ b ∧ (Value.slice (some ⟨g, 0, none⟩) m.funs.length c).ownBlock ≠ some b) w6 ev m.exps)
    (h8 : w8.heap[n8]? = some (.cells #[.int .u8 0, .int .i64 0, .slice none 0 0, .int .u8 6, .int .i64 0, .slice none 0 0] 43 (0, 0))) (hn8 : n8 ≠ g) :
    RMod (· < ((w8.setCell ⟨g, gn * 3 + 2, none⟩ (.slice (some ⟨n8, 0, none⟩) 2 2)).setCell ⟨g, gn * 3 + 1, none⟩ (.string ⟨#[]⟩)).heap.size) ((w8.setCell ⟨g, gn * 3 + 2, none⟩ (.slice (some ⟨n8, 0, none⟩) 2 2)).setCell ⟨g, gn * 3 + 1, none⟩ (.string ⟨#[]⟩)) [tv, hv, gv, .int .i64 m.first, .int .i64 m.most, .slice (some ⟨g, 0, none⟩) m.funs.length c, dv, ev] (aloneM m gn) := by
  have hof8 := OwnG.on deepF hof hb
  obtain ⟨⟨a2, n2, cc2, c0, c1, c2⟩, -, -, cur, fr, hrow⟩ := ownF_at hof8 hp hl hg
  have k1 := (Keeps.refl (fun b => b ≠ g) w8).setCell (a := ⟨g, gn * 3 + 2, none⟩) (by simp) (.slice (some ⟨n8, 0, none⟩) 2 2)
  have k2 := k1.setCell (a := ⟨g, gn * 3 + 1, none⟩) (by simp) (.string ⟨#[]⟩)
  have r10 := row_setCell (row_setCell hrow (gn * 3 + 2) (.slice (some ⟨n8, 0, none⟩) 2 2)) (gn * 3 + 1) (.string ⟨#[]⟩)
  have h10 := (k2.block n8 (row_lt h8) hn8).trans h8
  have hz1 : gn * 3 + 1 < cur.size ∧ gn * 3 + 2 < cur.size := by
    have e1 := cell_of_row w8 g (gn * 3 + 1) cur _ fr hrow
    have e2 := cell_of_row w8 g (gn * 3 + 2) cur _ fr hrow
    rw [c1] at e1; rw [c2] at e2
    exact ⟨(Array.getElem?_eq_some_iff.1 e1.symm).1, (Array.getElem?_eq_some_iff.1 e2.symm).1⟩
  generalize (w8.setCell ⟨g, gn * 3 + 2, none⟩ (.slice (some ⟨n8, 0, none⟩) 2 2)).setCell ⟨g, gn * 3 + 1, none⟩ (.string ⟨#[]⟩) = W at *
  have other : ∀ i, i ≠ gn * 3 + 1 → i ≠ gn * 3 + 2 → W.cell? ⟨g, i, none⟩ = w8.cell? ⟨g, i, none⟩ := fun i h1 h2 => by
    rw [cell_of_row W g i _ _ fr r10, cell_of_row w8 g i cur _ fr hrow, Array.getElem?_setIfInBounds_ne (Ne.symm h1), Array.getElem?_setIfInBounds_ne (Ne.symm h2)]
  have kk : Keeps (fun b => B ≤ b ∧ (Value.slice (some ⟨g, 0, none⟩) m.funs.length c).ownBlock ≠ some b) w6 W := (Keeps.all _ hb).trans (k2.mono fun b _ hb' e => hb'.2 (by rw [e]; rfl))
  have hfd : m.funs.getD gn funZ = m.funs[gn] := by rw [List.getD_eq_getElem?_getD, List.getElem?_eq_getElem hg]; rfl
  refine ⟨tv, hv, gv, .slice (some ⟨g, 0, none⟩) m.funs.length c, dv, ev, rfl, ?_, ?_, ?_, ?_, ?_, ?_⟩
  · exact RdL.mono (RdL.map q1 kk (fun _ h => h) fun _ _ h => h) (Nat.succ_pos _) (fun b hb' _ => hb') fun _ _ h => h
  · exact (q2.keeps kk).mono fun b hb' _ => hb'
  · exact RdL.mono (RdL.map q3 kk (fun _ h => h) fun _ _ h => h) (Nat.succ_pos _) (fun b hb' _ => hb') fun _ _ h => h
  · have hrd := OwnF.rd hof8 (by rw [← List.length_map (f := Prod.fst), hp]; exact hl)
    rw [hp] at hrd
    refine rdF_set (x := stopF (m.funs.getD gn funZ)) (v := .slice (some ⟨n8, 0, none⟩) 2 2) hrd rfl hg (fun j hj hne i hi => other _ (by omega) (by omega)) ?_ ?_ ?_ ?_ (k2.mono fun b _ hb' => hb'.2) (row_lt r10)
    · rw [other _ (by omega) (by omega), c0, ← hfd]; rfl
    · rw [cell_of_row W g _ _ _ fr r10]
      simp [hz1.1]; rfl
    · rw [cell_of_row W g _ _ _ fr r10, Array.getElem?_setIfInBounds_ne (by omega)]
      simp [hz1.2]
    · exact cd_lit (l := stopL) h10 rfl (by decide) (by intro x hx; simp only [stopL, List.mem_cons, List.not_mem_nil, or_false] at hx; rcases hx with rfl | rfl <;> rfl)
  · exact RdL.mono (RdL.map q5 kk (fun _ h => h) fun _ _ h => h.keeps kk) (Nat.succ_pos _) (fun b hb' _ => hb') fun _ _ h => h.mono fun b hb' _ => hb'
  · exact RdL.mono (RdL.map q6 kk (fun _ h => h) fun _ _ h => h) (Nat.succ_pos _) (fun b hb' _ => hb') fun _ _ h => h
end Go.Proofs.YtebegkgechadlaaDoor
