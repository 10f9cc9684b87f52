/- A code, looked at in other blocks. validate.function. validate.Function. validate.Module. -/
import Derived.Test.YtfhkjahjenpbgaaDoorMLib
import Derived.Test.YtfhkjahjenpbgaaDoorVw13
import Derived.Test.YtfhkjahjenpbgaaDoorMAlone
import Derived.Test.YtfhkjahjenpbgaaDoorMapC
import Derived.Test.YtfhkjahjenpbgaaDoorMMod
import Derived.Test.YtfhkjahjenpbgaaDoorRdV
import Derived.Test.YtfhkjahjenpbgaaDoorChk5
namespace Go.Proofs.YtfhkjahjenpbgaaDoor
open Go Go.RowKit

theorem CdS.monoS {S T : Nat → Prop} {w : World} {v : Value} {l : List InsD} (h : CdS S w v l) (hS : ∀ b, b < w.heap.size → S b → T b) : CdS T w v l :=
  RdL.mono h (by omega) hS fun _ _ hr => hr.mono hS
end Go.Proofs.YtfhkjahjenpbgaaDoor
namespace Go.Proofs.YtfhkjahjenpbgaaDoor
open Go Go.RowKit

/-- A table's five cells. -/
def RTab (S : Nat → Prop) (w : World) (cs : List Value) (t : TbD) : Prop :=
  ∃ sv ev lv fv, cs = [sv, ev, lv, fv, .int .i64 t.high] ∧ RdV S w sv (texts t.shapes) ∧ RdI .i64 S w ev t.ends ∧ RdI .i64 S w lv t.elses ∧ RdI .i64 S w fv t.floors
theorem RTab.zero (S : Nat → Prop) (w : World) : RTab S w [.slice none 0 0, .slice none 0 0, .slice none 0 0, .slice none 0 0, .int .i64 0] tbZ :=
  ⟨_, _, _, _, rfl, RdV.nil .., RdI.nil .., RdI.nil .., RdI.nil ..⟩
/-- What validate.function answers. -/
def FunP (w : World) (x : TbD × Int × Int) (r : Ending) (w' : World) : Prop :=
  ∃ cs, r = .returned (.tuple #[.agg cs.toArray, .int .i64 x.2.1, .int .i64 x.2.2]) ∧ RTab (fun b => w.heap.size ≤ b) w' cs x.1 ∧ Below w.heap.size w w'
theorem set5_row {w : World} {g : Nat} {o0 o1 o2 o3 o4 : Value} {T : Nat} {fr : Nat × Nat} (h : w.heap[g]? = some (.cells #[o0, o1, o2, o3, o4] T fr)) (v0 v1 v2 v3 v4 : Value) :
    (((((w.setCell ⟨g, 0, none⟩ v0).setCell ⟨g, 1, none⟩ v1).setCell ⟨g, 2, none⟩ v2).setCell ⟨g, 3, none⟩ v3).setCell ⟨g, 4, none⟩ v4).heap[g]? = some (.cells #[v0, v1, v2, v3, v4] T fr) := by
  simpa using row_setCell (row_setCell (row_setCell (row_setCell (row_setCell h 0 v0) 1 v1) 2 v2) 3 v3) 4 v4
theorem RdV.of_own {B T : Nat} {w : World} {v : Value} {l : List Value} {n : Nat} (h : w.ownsRow B T 1 v n l) (hn : n = l.length) (hl : n ≤ 140737488355328) : RdV (fun b => v.ownBlock = some b) w v l := by
  subst hn
  rcases h.2 with ⟨e, h0⟩ | ⟨g, cap, cur, e, hb, hg, hn, hm, hs, ht⟩
  · rw [e]
    have : l = [] := List.eq_nil_of_length_eq_zero h0
    subst this
    exact RdV.nil _ _
  · refine ⟨some ⟨g, 0, none⟩, cap, e, hn, hl, fun j hj => ⟨g, 0, rfl, by rw [e]; rfl, ?_⟩⟩
    rw [e] at h
    have := h.cells (g := g) rfl j l[j] (List.getElem?_eq_getElem hj)
    unfold Addr.add at this
    by_cases h0 : j = 0
    · simpa [h0] using this
    · simpa [h0] using this
theorem st4 (w : World) (a b c d : Obj) : Below w.heap.size w ((((w.alloc a).alloc b).alloc c).alloc d) ∧ ((((w.alloc a).alloc b).alloc c).alloc d).heap[w.heap.size]? = some a ∧ ((((w.alloc a).alloc b).alloc c).alloc d).heap[w.heap.size + 1]? = some b ∧ ((((w.alloc a).alloc b).alloc c).alloc d).heap[w.heap.size + 1 + 1]? = some c ∧ ((((w.alloc a).alloc b).alloc c).alloc d).heap[w.heap.size + 1 + 1 + 1]? = some d ∧ ((((w.alloc a).alloc b).alloc c).alloc d).heap.size = w.heap.size + 1 + 1 + 1 + 1 := by
  have st : ∀ (W : World) (o : Obj), Below W.heap.size W (W.alloc o) ∧ (W.alloc o).heap[W.heap.size]? = some o ∧ (W.alloc o).heap.size = W.heap.size + 1 := fun W o => ⟨below_alloc W o, heap_alloc_new W o, World.size_alloc ..⟩
  obtain ⟨b1, r1, s1⟩ := st w a
  generalize w.alloc a = w1 at *
  obtain ⟨b2, r2, s2⟩ := st w1 b
  generalize w1.alloc b = w2 at *
  obtain ⟨b3, r3, s3⟩ := st w2 c
  generalize w2.alloc c = w3 at *
  obtain ⟨b4, r4, s4⟩ := st w3 d
  generalize w3.alloc d = w4 at *
  rw [s1] at r2
  rw [s2, s1] at r3
  rw [s3, s2, s1] at r4
  have b34 := below_next b3 b4
  have b24 := below_next b2 b34
  exact ⟨below_next b1 b24, (b24.block _ (by omega)).trans r1, (b34.block _ (by omega)).trans r2, (b4.block _ (by omega)).trans r3, r4, by omega⟩
theorem funV_err {m : ModD} {n : Nat} {f : FunD} {e : Int} {p : Nat} (hf : m.funs.getD n funZ = f) (he : (mapP (opsOf f.code)).2.2.2.1 = e) (hp : (mapP (opsOf f.code)).2.2.2.2 = p) (hne : e ≠ 0) : funV m n = (tbZ, e, (p : Int)) := by
  unfold funV; rw [hf, he, hp, if_pos hne]
theorem funV_ok {m : ModD} {n : Nat} {f : FunD} {v : VwD} (hf : m.funs.getD n funZ = f) (he : (mapP (opsOf f.code)).2.2.2.1 = 0) (hg : goV (ctxV m f (mapP (opsOf f.code)).2.1) f.code 0 (startV (sigAt m.types f.t).2) = .ok v) : funV m n = (⟨v.shapes, (mapP (opsOf f.code)).1, (mapP (opsOf f.code)).2.1, v.floors, v.high⟩, 0, 0) := by
  unfold funV; rw [hf, if_neg (by rw [he]; simp), hg]
theorem funV_no {m : ModD} {n : Nat} {f : FunD} {z : Int × Nat} (hf : m.funs.getD n funZ = f) (he : (mapP (opsOf f.code)).2.2.2.1 = 0) (hg : goV (ctxV m f (mapP (opsOf f.code)).2.1) f.code 0 (startV (sigAt m.types f.t).2) = .error z) : funV m n = (tbZ, z.1, ((z.2 : Nat) : Int)) := by
  unfold funV; rw [hf, if_neg (by rw [he]; simp), hg]
theorem fun_results {a : Act} {w : World} (g : Nat) (cs : Array Value) (x y : Value) (hrow : w.heap[g]? = some (.cells cs 78 (0, 0))) (hsz : cs.size = 5) (h4 : a.tmps.getD 4 undef = .pointer (some ⟨g, 0, none⟩)) (h5 : a.tmps.getD 5 undef = x) (h6 : a.tmps.getD 6 undef = y) :
    (results Tryd.f21 a.tmps).run Tryd.prog w = .ok (.tuple #[.agg cs, x, y]) w := by
  have hl := run_loadVar_row (P := Tryd.prog) w g 78 78 cs (0, 0) _ hrow Tryd.underlying78 rfl (by rw [hsz]; kernel_rfl)
  have h4' : a.tmps[4]?.getD undef = .pointer (some ⟨g, 0, none⟩) := by simpa using h4
  have h5' : a.tmps[5]?.getD undef = x := by simpa using h5
  have h6' : a.tmps[6]?.getD undef = y := by simpa using h6
  simp [results, Tryd.results21, asAddr, h4', hl, h5', h6']
set_option maxRecDepth 100000 in
set_option maxHeartbeats 6400000 in
theorem val_function (w : World) (S : Nat → Prop) (hS : ∀ b, S b → b < w.heap.size) (m : ModD) (cs : List Value) (hm : RMod S w cs m) (gd : GdM m) (htb : Tb w) (n : Nat) (hn : n < m.funs.length) :
    Calls Tryd.prog 21 #[.agg cs.toArray, .int .i64 n] w (FunP w (funV m n)) := by
  have hm0 := hm
  obtain ⟨tv, hv, gv, fv, dv, ev, rfl, r1, r2, r3, r4, r5, r6⟩ := hm
  obtain ⟨ta, tc, rfl, tl⟩ := r1.len
  obtain ⟨ha, hc, rfl, hl⟩ := r2.len
  obtain ⟨ga, gc, rfl, gl⟩ := r3.len
  obtain ⟨fa, fc, rfl, fl⟩ := r4.len
  obtain ⟨bf, of_, cv, rfl, c0, c1, c2, hcd⟩ := RdFuns.at_ r4 hn
  obtain ⟨da, dc, rfl, dl⟩ := r5.len
  obtain ⟨ea, ec, rfl, el⟩ := r6.len
  have hba : Below w.heap.size w ((w.alloc (.cells #[.slice ta m.types.length tc, .slice ha m.hosts.length hc, .slice ga m.globals.length gc, .int .i64 m.first, .int .i64 m.most, .slice (some ⟨bf, of_, none⟩) m.funs.length fc, .slice da m.datas.length dc, .slice ea m.exps.length ec] 29)).alloc (.cells #[.slice none 0 0, .slice none 0 0, .slice none 0 0, .slice none 0 0, .int .i64 0] 78)) := below_next (below_alloc _ _) (below_alloc _ _)
  have hmb : ((w.alloc (.cells #[.slice ta m.types.length tc, .slice ha m.hosts.length hc, .slice ga m.globals.length gc, .int .i64 m.first, .int .i64 m.most, .slice (some ⟨bf, of_, none⟩) m.funs.length fc, .slice da m.datas.length dc, .slice ea m.exps.length ec] 29)).alloc (.cells #[.slice none 0 0, .slice none 0 0, .slice none 0 0, .slice none 0 0, .int .i64 0] 78)).heap[w.heap.size]? = some (.cells #[.slice ta m.types.length tc, .slice ha m.hosts.length hc, .slice ga m.globals.length gc, .int .i64 m.first, .int .i64 m.most, .slice (some ⟨bf, of_, none⟩) m.funs.length fc, .slice da m.datas.length dc, .slice ea m.exps.length ec] 29) := ((below_alloc (w.alloc (.cells #[.slice ta m.types.length tc, .slice ha m.hosts.length hc, .slice ga m.globals.length gc, .int .i64 m.first, .int .i64 m.most, .slice (some ⟨bf, of_, none⟩) m.funs.length fc, .slice da m.datas.length dc, .slice ea m.exps.length ec] 29)) (.cells #[.slice none 0 0, .slice none 0 0, .slice none 0 0, .slice none 0 0, .int .i64 0] 78)).block _ (by rw [World.size_alloc]; omega)).trans (heap_alloc_new w (.cells #[.slice ta m.types.length tc, .slice ha m.hosts.length hc, .slice ga m.globals.length gc, .int .i64 m.first, .int .i64 m.most, .slice (some ⟨bf, of_, none⟩) m.funs.length fc, .slice da m.datas.length dc, .slice ea m.exps.length ec] 29))
  have htbx : ((w.alloc (.cells #[.slice ta m.types.length tc, .slice ha m.hosts.length hc, .slice ga m.globals.length gc, .int .i64 m.first, .int .i64 m.most, .slice (some ⟨bf, of_, none⟩) m.funs.length fc, .slice da m.datas.length dc, .slice ea m.exps.length ec] 29)).alloc (.cells #[.slice none 0 0, .slice none 0 0, .slice none 0 0, .slice none 0 0, .int .i64 0] 78)).heap[w.heap.size + 1]? = some (.cells #[.slice none 0 0, .slice none 0 0, .slice none 0 0, .slice none 0 0, .int .i64 0] 78) := by
    have := heap_alloc_new (w.alloc (.cells #[.slice ta m.types.length tc, .slice ha m.hosts.length hc, .slice ga m.globals.length gc, .int .i64 m.first, .int .i64 m.most, .slice (some ⟨bf, of_, none⟩) m.funs.length fc, .slice da m.datas.length dc, .slice ea m.exps.length ec] 29)) (.cells #[.slice none 0 0, .slice none 0 0, .slice none 0 0, .slice none 0 0, .int .i64 0] 78)
    rw [World.size_alloc] at this
    exact this
  have hsz : ((w.alloc (.cells #[.slice ta m.types.length tc, .slice ha m.hosts.length hc, .slice ga m.globals.length gc, .int .i64 m.first, .int .i64 m.most, .slice (some ⟨bf, of_, none⟩) m.funs.length fc, .slice da m.datas.length dc, .slice ea m.exps.length ec] 29)).alloc (.cells #[.slice none 0 0, .slice none 0 0, .slice none 0 0, .slice none 0 0, .int .i64 0] 78)).heap.size = w.heap.size + 1 + 1 := by rw [World.size_alloc, World.size_alloc]
  have rm := hm0.keeps (Keeps.all S hba)
  have c0 := cell_below hba c0; have c1 := cell_below hba c1; have c2 := cell_below hba c2
  have hcd := CdS.keeps hcd (Keeps.all S hba) fun _ h => h
  have hfm := List.getElem_mem hn
  have hft := gd.ok.ft _ hfm
  have hfc := gd.fun_ _ hfm
  obtain ⟨f, hf⟩ : ∃ f, m.funs[n] = f := ⟨_, rfl⟩
  have hfd : m.funs.getD n funZ = f := by rw [← hf, List.getD_eq_getElem?_getD, List.getElem?_eq_getElem hn]; rfl
  rw [hf] at c0 c1 hcd hft hfc
  obtain ⟨t, loc, code⟩ := f
  simp only at c0 c1 hcd hft hfc
  obtain ⟨ca, cc, rfl, -⟩ : ∃ a c, cv = .slice a code.length c ∧ code.length ≤ c := by obtain ⟨a, c, e, h, _⟩ := hcd; exact ⟨a, c, e, h⟩
  have x5 := row_cell hmb 5 rfl
  simp only [List.getElem_toArray, List.getElem_cons_zero, List.getElem_cons_succ] at x5
  have r0 := heap_alloc_new ((w.alloc (.cells #[.slice ta m.types.length tc, .slice ha m.hosts.length hc, .slice ga m.globals.length gc, .int .i64 m.first, .int .i64 m.most, .slice (some ⟨bf, of_, none⟩) m.funs.length fc, .slice da m.datas.length dc, .slice ea m.exps.length ec] 29)).alloc (.cells #[.slice none 0 0, .slice none 0 0, .slice none 0 0, .slice none 0 0, .int .i64 0] 78)) (.cells #[.int .i64 0, .string ⟨#[]⟩, .slice none 0 0] 56)
  have fr0 := row_free r0 0; have fr1 := row_free r0 1; have fr2 := row_free r0 2
  have hbb := below_alloc ((w.alloc (.cells #[.slice ta m.types.length tc, .slice ha m.hosts.length hc, .slice ga m.globals.length gc, .int .i64 m.first, .int .i64 m.most, .slice (some ⟨bf, of_, none⟩) m.funs.length fc, .slice da m.datas.length dc, .slice ea m.exps.length ec] 29)).alloc (.cells #[.slice none 0 0, .slice none 0 0, .slice none 0 0, .slice none 0 0, .int .i64 0] 78)) (.cells #[.int .i64 t, .string loc, .slice ca code.length cc] 56)
  have hfb := heap_alloc_new ((w.alloc (.cells #[.slice ta m.types.length tc, .slice ha m.hosts.length hc, .slice ga m.globals.length gc, .int .i64 m.first, .int .i64 m.most, .slice (some ⟨bf, of_, none⟩) m.funs.length fc, .slice da m.datas.length dc, .slice ea m.exps.length ec] 29)).alloc (.cells #[.slice none 0 0, .slice none 0 0, .slice none 0 0, .slice none 0 0, .int .i64 0] 78)) (.cells #[.int .i64 t, .string loc, .slice ca code.length cc] 56)
  have y2 := row_cell hfb 2 rfl
  simp only [List.getElem_toArray, List.getElem_cons_zero, List.getElem_cons_succ] at y2
  have HMB := Lib.hid ((hbb.block _ (row_lt hmb)).trans hmb)
  have HTB := Lib.hid ((hbb.block _ (row_lt htbx)).trans htbx)
  have HFB := Lib.hid hfb
  have HB := Lib.hid (below_next hba hbb)
  have HRM := Lib.hid (rm.keeps (Keeps.all S hbb))
  have HCD := Lib.hid (CdS.keeps hcd (Keeps.all S hbb) fun _ h => h)
  have HGD := Lib.hid gd; have HS := Lib.hid hS; have HTT := Lib.hid htb; have HFD := Lib.hid hfd; have HFC := Lib.hid hfc
  have HMAP := Lib.hid (control_Map (((w.alloc (.cells #[.slice ta m.types.length tc, .slice ha m.hosts.length hc, .slice ga m.globals.length gc, .int .i64 m.first, .int .i64 m.most, .slice (some ⟨bf, of_, none⟩) m.funs.length fc, .slice da m.datas.length dc, .slice ea m.exps.length ec] 29)).alloc (.cells #[.slice none 0 0, .slice none 0 0, .slice none 0 0, .slice none 0 0, .int .i64 0] 78)).alloc (.cells #[.int .i64 t, .string loc, .slice ca code.length cc] 56)) (.slice ca code.length cc) code (CdS.any HCD.out) (by omega))
  obtain ⟨hft0, hft1⟩ := hft
  clear hm0 r1 r2 r3 r4 r5 r6 hba hmb htbx rm hcd hfc hfm r0 hbb hfb gd hS htb hfd hf
  go_enter Tryd.func21, Tryd.ntmps21
  go_wp2_with fail
  refine HMAP.out.mono ?_
  rintro e w3 ⟨v1, v2, v3, rfl, hma⟩
  rw [hsz] at HFB
  have hb3 := hma.bel
  have HM3 := Lib.hid ((hb3.block _ (row_lt HMB.out)).trans HMB.out)
  have HT3 := Lib.hid ((hb3.block _ (row_lt HTB.out)).trans HTB.out)
  have HF3 := Lib.hid ((hb3.block _ (row_lt HFB.out)).trans HFB.out)
  have HB3 := Lib.hid (below_next HB.out hb3)
  have HRM3 := Lib.hid (HRM.out.keeps (Keeps.all S hb3))
  have HCD3 := Lib.hid (CdS.keeps HCD.out (Keeps.all S hb3) fun _ h => h)
  have HR3 := Lib.hid hma.rows
  obtain ⟨a1, c1', rfl, -⟩ := own_slice hma.rows.r1
  obtain ⟨a2, c2', rfl, -⟩ := own_slice hma.rows.r2
  obtain ⟨a3, c3', rfl, -⟩ := own_slice hma.rows.r3
  obtain ⟨me, hme⟩ : ∃ e, (mapP (opsOf code)).2.2.2.1 = e := ⟨_, rfl⟩
  obtain ⟨mp, hmp⟩ : ∃ e, (mapP (opsOf code)).2.2.2.2 = e := ⟨_, rfl⟩
  rw [hme, hmp]
  have hsz3 : w.heap.size + 1 + 1 + 1 ≤ w3.heap.size := by have := hb3.size; rw [World.size_alloc, hsz] at this; exact this
  clear HMB HTB HFB HB HRM HCD HMAP hb3 hma
  by_cases hz : me = 0
  · have hz1 : (me != 0) = false := by simp [hz]

    subst hz
    have mok := mapP_ok hme
    have hle := mok.le; have hll := mok.ll
    rw [opsOf_len] at hle hll
    obtain ⟨tn, rfl⟩ : ∃ tn : Nat, t = tn := ⟨t.toNat, by omega⟩
    have htn : tn < m.types.length := by omega
    obtain ⟨bt, ot, hta, cS1, cS2⟩ : ∃ b o, ta = some ⟨b, o, none⟩ ∧ w3.cell? ⟨b, o + tn * 2, none⟩ = some (.string (sigAt m.types tn).1) ∧ w3.cell? ⟨b, o + tn * 2 + 1, none⟩ = some (.string (sigAt m.types tn).2) := by
      obtain ⟨rs, -⟩ := RMod.parts HRM3.out
      obtain ⟨a, cap, e1, _, _, p1⟩ := rs
      simp only [Value.slice.injEq] at e1
      obtain ⟨rfl, -, -⟩ := e1
      obtain ⟨b, o, cs, rfl, _, _, hc, hr⟩ := p1 tn htn
      have hr : cs = [.string m.types[tn].1, .string m.types[tn].2] := hr
      subst hr
      have hs : sigAt m.types tn = m.types[tn] := by
        unfold sigAt
        rw [List.getD_eq_getElem?_getD, Int.toNat_natCast, List.getElem?_eq_getElem htn]; rfl
      rw [hs]
      exact ⟨b, o, rfl, hc 0 (by omega), hc 1 (by omega)⟩
    have hsz2 : (sigAt m.types tn).1.size ≤ 8 ∧ (sigAt m.types tn).2.size ≤ 8 := (HGD.out.ok.szc (c := ctxV m ⟨tn, loc, code⟩ (mapP (opsOf code)).2.1) rfl) tn
    obtain ⟨⟨par, res⟩, hsg⟩ : ∃ sg, sigAt m.types tn = sg := ⟨_, rfl⟩
    rw [hsg] at cS1 cS2 hsz2
    simp only at cS1 cS2 hsz2
    obtain ⟨hz8, hz9⟩ := hsz2
    have HSG := Lib.hid hsg
    subst hta
    have m0 := row_cell HM3.out 0 rfl; have f0 := row_cell HF3.out 0 rfl
    have r0 := heap_alloc_new w3 (.cells #[.string ⟨#[]⟩, .string ⟨#[]⟩] 48)
    have fr0 := row_free r0 0; have fr1 := row_free r0 1
    have hb4 := below_alloc w3 (.cells #[.string par, .string res] 48)
    have hm4 := (hb4.block _ (row_lt HM3.out)).trans HM3.out
    have hf4 := (hb4.block _ (row_lt HF3.out)).trans HF3.out
    have hs4 := heap_alloc_new w3 (.cells #[.string par, .string res] 48)
    have g0 := row_cell hm4 0 rfl; have g1 := row_cell hm4 1 rfl; have g2 := row_cell hm4 2 rfl; have g3 := row_cell hm4 3 rfl; have g4 := row_cell hm4 4 rfl; have g5 := row_cell hm4 5 rfl; have g6 := row_cell hm4 6 rfl; have g7 := row_cell hm4 7 rfl
    have s0 := row_cell hs4 0 rfl; have s1 := row_cell hs4 1 rfl
    have l1 := row_cell hf4 1 rfl; have l2 := row_cell hf4 2 rfl
    have hcat : ¬ 9223372036854775807 < par.size + loc.size := by have := HFC.out.2.1; omega
    simp only [List.getElem_toArray, List.getElem_cons_zero, List.getElem_cons_succ] at m0 f0 g0 g1 g2 g3 g4 g5 g6 g7 s0 s1 l1 l2
    clear x5 y2 c0 c1 c2 hb4 hm4 hf4 hs4 r0
    obtain ⟨hbW, hs0, hs1, hs2, hs3, hsW⟩ := st4 w3 (.cells #[.string par, .string res] 48) (.cells #[.slice (some ⟨bt, ot, none⟩) m.types.length tc, .slice ha m.hosts.length hc, .slice ga m.globals.length gc, .int .i64 m.first, .int .i64 m.most, .slice (some ⟨bf, of_, none⟩) m.funs.length fc, .slice da m.datas.length dc, .slice ea m.exps.length ec, .string par, .string res, .string (par ++ loc), .slice ca code.length cc, .slice none 0 0, .slice a1 code.length c1', .slice a2 code.length c2', .slice none 0 0, .int .i64 0, .slice (some ⟨w3.heap.size + 1 + 1 + 1, 0, none⟩) 1 1, .string ⟨#[]⟩, .bool false, .int .i64 0] 90) (.cells #[.string ⟨#[]⟩, .string res, .int .i64 (-1), .int .u8 0, .string ⟨#[]⟩] 93) (.cells #[.pointer (some ⟨w3.heap.size + 1 + 1, 0, none⟩)] 91)
    have hown : ((((w3.alloc (.cells #[.string par, .string res] 48)).alloc (.cells #[.slice (some ⟨bt, ot, none⟩) m.types.length tc, .slice ha m.hosts.length hc, .slice ga m.globals.length gc, .int .i64 m.first, .int .i64 m.most, .slice (some ⟨bf, of_, none⟩) m.funs.length fc, .slice da m.datas.length dc, .slice ea m.exps.length ec, .string par, .string res, .string (par ++ loc), .slice ca code.length cc, .slice none 0 0, .slice a1 code.length c1', .slice a2 code.length c2', .slice none 0 0, .int .i64 0, .slice (some ⟨w3.heap.size + 1 + 1 + 1, 0, none⟩) 1 1, .string ⟨#[]⟩, .bool false, .int .i64 0] 90)).alloc (.cells #[.string ⟨#[]⟩, .string res, .int .i64 (-1), .int .u8 0, .string ⟨#[]⟩] 93)).alloc (.cells #[.pointer (some ⟨w3.heap.size + 1 + 1, 0, none⟩)] 91)).ownsRow (w3.heap.size + 1 + 1) 91 1 (.slice (some ⟨w3.heap.size + 1 + 1 + 1, 0, none⟩) 1 1) 1 [.pointer (some ⟨w3.heap.size + 1 + 1, 0, none⟩)] := by
      have := World.ownsRow_lit (((w3.alloc (.cells #[.string par, .string res] 48)).alloc (.cells #[.slice (some ⟨bt, ot, none⟩) m.types.length tc, .slice ha m.hosts.length hc, .slice ga m.globals.length gc, .int .i64 m.first, .int .i64 m.most, .slice (some ⟨bf, of_, none⟩) m.funs.length fc, .slice da m.datas.length dc, .slice ea m.exps.length ec, .string par, .string res, .string (par ++ loc), .slice ca code.length cc, .slice none 0 0, .slice a1 code.length c1', .slice a2 code.length c2', .slice none 0 0, .int .i64 0, .slice (some ⟨w3.heap.size + 1 + 1 + 1, 0, none⟩) 1 1, .string ⟨#[]⟩, .bool false, .int .i64 0] 90)).alloc (.cells #[.string ⟨#[]⟩, .string res, .int .i64 (-1), .int .u8 0, .string ⟨#[]⟩] 93)) #[.pointer (some ⟨w3.heap.size + 1 + 1, 0, none⟩)] (base := w3.heap.size + 1 + 1) (e := 91) (size := 1) 1 (by rw [World.size_alloc, World.size_alloc, World.size_alloc]; omega) (by decide) rfl
      rw [World.size_alloc, World.size_alloc, World.size_alloc] at this
      exact this
    have HWV : Hid (Wv ({ S := fun y => y < w3.heap.size + 1, B := w3.heap.size + 1 + 1, p := w3.heap.size + 1, m := m, tv := .slice (some ⟨bt, ot, none⟩) m.types.length tc, hv := .slice ha m.hosts.length hc, gv := .slice ga m.globals.length gc, fv := .slice (some ⟨bf, of_, none⟩) m.funs.length fc, dv := .slice da m.datas.length dc, xv := .slice ea m.exps.length ec, s1 := par, s2 := res, loc := par ++ loc, cv := .slice ca code.length cc, ev := .slice a1 code.length c1', lv := .slice a2 code.length c2', code := code, elses := (mapP (opsOf code)).2.1, X := fun _ => False } : Wc) ((((w3.alloc (.cells #[.string par, .string res] 48)).alloc (.cells #[.slice (some ⟨bt, ot, none⟩) m.types.length tc, .slice ha m.hosts.length hc, .slice ga m.globals.length gc, .int .i64 m.first, .int .i64 m.most, .slice (some ⟨bf, of_, none⟩) m.funs.length fc, .slice da m.datas.length dc, .slice ea m.exps.length ec, .string par, .string res, .string (par ++ loc), .slice ca code.length cc, .slice none 0 0, .slice a1 code.length c1', .slice a2 code.length c2', .slice none 0 0, .int .i64 0, .slice (some ⟨w3.heap.size + 1 + 1 + 1, 0, none⟩) 1 1, .string ⟨#[]⟩, .bool false, .int .i64 0] 90)).alloc (.cells #[.string ⟨#[]⟩, .string res, .int .i64 (-1), .int .u8 0, .string ⟨#[]⟩] 93)).alloc (.cells #[.pointer (some ⟨w3.heap.size + 1 + 1, 0, none⟩)] 91)) (startV res) 0 ⟨.slice none 0 0, .slice none 0 0, .slice (some ⟨w3.heap.size + 1 + 1 + 1, 0, none⟩) 1 1, [w3.heap.size + 1 + 1]⟩) := Lib.hid (by
      refine ⟨hs1, ⟨fun e he => ?_, ?_⟩, by show w3.heap.size + 1 < w3.heap.size + 1 + 1; omega, by show w3.heap.size + 1 + 1 ≤ _; rw [hsW]; omega, rfl, fun i hi => ?_, ⟨?_, ?_, ?_, fun y hy => hy⟩, fun b hb => hb.elim⟩
      · simp only [Wq.ents, List.mem_cons, List.not_mem_nil, or_false] at he
        rcases he with rfl | rfl | rfl
        · exact World.ownsRow_nil _ _ _ _
        · exact World.ownsRow_nil _ _ _ _
        · exact hown
      · simp [entBs, Wq.ents, shE, flE, opE, Value.ownBlock]
      · have hi1 : i < 1 := hi
        obtain rfl : i = 0 := by omega
        exact ⟨w3.heap.size + 1 + 1, rfl, hs2⟩
      · exact (HRM3.out.keeps (Keeps.all S hbW)).mono fun b _ hb => by have := HS.out b hb; show b < w3.heap.size + 1; omega
      · exact (CdS.keeps HCD3.out (Keeps.all S hbW) fun _ h => h).monoS fun b _ hb => by have := HS.out b hb; show b < w3.heap.size + 1; omega
      · have h2 := RdI.of_own (k := .i64) (own_below HR3.out.r2 hbW) (by rw [hll]; have := HFC.out.1; omega)
        rw [hll] at h2
        exact h2.mono fun b _ hb => by
          have := (World.ownsRow.lt HR3.out.r2 b (by rw [hll]; exact hb)).2
          show b < w3.heap.size + 1; omega)
    have HWK := Lib.hid (val_walkX ({ S := fun y => y < w3.heap.size + 1, B := w3.heap.size + 1 + 1, p := w3.heap.size + 1, m := m, tv := .slice (some ⟨bt, ot, none⟩) m.types.length tc, hv := .slice ha m.hosts.length hc, gv := .slice ga m.globals.length gc, fv := .slice (some ⟨bf, of_, none⟩) m.funs.length fc, dv := .slice da m.datas.length dc, xv := .slice ea m.exps.length ec, s1 := par, s2 := res, loc := par ++ loc, cv := .slice ca code.length cc, ev := .slice a1 code.length c1', lv := .slice a2 code.length c2', code := code, elses := (mapP (opsOf code)).2.1, X := Xw ((((w3.alloc (.cells #[.string par, .string res] 48)).alloc (.cells #[.slice (some ⟨bt, ot, none⟩) m.types.length tc, .slice ha m.hosts.length hc, .slice ga m.globals.length gc, .int .i64 m.first, .int .i64 m.most, .slice (some ⟨bf, of_, none⟩) m.funs.length fc, .slice da m.datas.length dc, .slice ea m.exps.length ec, .string par, .string res, .string (par ++ loc), .slice ca code.length cc, .slice none 0 0, .slice a1 code.length c1', .slice a2 code.length c2', .slice none 0 0, .int .i64 0, .slice (some ⟨w3.heap.size + 1 + 1 + 1, 0, none⟩) 1 1, .string ⟨#[]⟩, .bool false, .int .i64 0] 90)).alloc (.cells #[.string ⟨#[]⟩, .string res, .int .i64 (-1), .int .u8 0, .string ⟨#[]⟩] 93)).alloc (.cells #[.pointer (some ⟨w3.heap.size + 1 + 1, 0, none⟩)] 91)).heap.size } : Wc) ((((w3.alloc (.cells #[.string par, .string res] 48)).alloc (.cells #[.slice (some ⟨bt, ot, none⟩) m.types.length tc, .slice ha m.hosts.length hc, .slice ga m.globals.length gc, .int .i64 m.first, .int .i64 m.most, .slice (some ⟨bf, of_, none⟩) m.funs.length fc, .slice da m.datas.length dc, .slice ea m.exps.length ec, .string par, .string res, .string (par ++ loc), .slice ca code.length cc, .slice none 0 0, .slice a1 code.length c1', .slice a2 code.length c2', .slice none 0 0, .int .i64 0, .slice (some ⟨w3.heap.size + 1 + 1 + 1, 0, none⟩) 1 1, .string ⟨#[]⟩, .bool false, .int .i64 0] 90)).alloc (.cells #[.string ⟨#[]⟩, .string res, .int .i64 (-1), .int .u8 0, .string ⟨#[]⟩] 93)).alloc (.cells #[.pointer (some ⟨w3.heap.size + 1 + 1, 0, none⟩)] 91)) (startV res) 0 ⟨.slice none 0 0, .slice none 0 0, .slice (some ⟨w3.heap.size + 1 + 1 + 1, 0, none⟩) 1 1, [w3.heap.size + 1 + 1]⟩ rfl
      (fun w' hb hsz' => (HWV.out.on hb).withX _ fun b hx => by
        have hfr := HWV.out.frs (c := b) (by unfold Xw at hx; omega)
        exact ⟨by unfold Xw at hx; omega, hfr.s, hfr.f, hfr.o⟩)
      HGD.out.ok (by show (par ++ loc).size ≤ _; rw [ByteArray.size_append]; have := HFC.out.2.1; omega) hz9 hll (by have := HFC.out.1; show code.length ≤ _; omega) HFC.out.2.2
      (VL.start hz9 hme) w HTT.out (HB3.out.trans (hbW.mono (by omega))) (by show w.heap.size ≤ w3.heap.size + 1; omega) (by show w3.heap.size + 1 < _; rw [hsW]; omega))
    have HCT : Hid (Wc.ctx ({ S := fun y => y < w3.heap.size + 1, B := w3.heap.size + 1 + 1, p := w3.heap.size + 1, m := m, tv := .slice (some ⟨bt, ot, none⟩) m.types.length tc, hv := .slice ha m.hosts.length hc, gv := .slice ga m.globals.length gc, fv := .slice (some ⟨bf, of_, none⟩) m.funs.length fc, dv := .slice da m.datas.length dc, xv := .slice ea m.exps.length ec, s1 := par, s2 := res, loc := par ++ loc, cv := .slice ca code.length cc, ev := .slice a1 code.length c1', lv := .slice a2 code.length c2', code := code, elses := (mapP (opsOf code)).2.1, X := Xw ((((w3.alloc (.cells #[.string par, .string res] 48)).alloc (.cells #[.slice (some ⟨bt, ot, none⟩) m.types.length tc, .slice ha m.hosts.length hc, .slice ga m.globals.length gc, .int .i64 m.first, .int .i64 m.most, .slice (some ⟨bf, of_, none⟩) m.funs.length fc, .slice da m.datas.length dc, .slice ea m.exps.length ec, .string par, .string res, .string (par ++ loc), .slice ca code.length cc, .slice none 0 0, .slice a1 code.length c1', .slice a2 code.length c2', .slice none 0 0, .int .i64 0, .slice (some ⟨w3.heap.size + 1 + 1 + 1, 0, none⟩) 1 1, .string ⟨#[]⟩, .bool false, .int .i64 0] 90)).alloc (.cells #[.string ⟨#[]⟩, .string res, .int .i64 (-1), .int .u8 0, .string ⟨#[]⟩] 93)).alloc (.cells #[.pointer (some ⟨w3.heap.size + 1 + 1, 0, none⟩)] 91)).heap.size } : Wc) = ctxV m ⟨tn, loc, code⟩ (mapP (opsOf code)).2.1) := Lib.hid (by unfold ctxV Wc.ctx; rw [HSG.out])
    have HBW := Lib.hid (HB3.out.trans (hbW.mono (by omega)))
    have HTW := Lib.hid ((hbW.block _ (row_lt HT3.out)).trans HT3.out)
    have HR1 := Lib.hid (own_below HR3.out.r1 hbW); have HR2 := Lib.hid (own_below HR3.out.r2 hbW)
    clear hbW hs0 hs1 hs2 hs3 hown HWV
    go_wp2_with fail
    refine HWK.out.mono ?_
    rintro r w9 hP
    obtain ⟨go, hgo⟩ : ∃ g, goV (ctxV m ⟨tn, loc, code⟩ (mapP (opsOf code)).2.1) code 0 (startV res) = g := ⟨_, rfl⟩
    have hP' : (match go with
      | .error z => r = .returned (.tuple #[.int .i64 z.1, .int .i64 (z.2 : Nat)]) ∧ Keeps (fun b => b < w3.heap.size + 1) ((((w3.alloc (.cells #[.string par, .string res] 48)).alloc (.cells #[.slice (some ⟨bt, ot, none⟩) m.types.length tc, .slice ha m.hosts.length hc, .slice ga m.globals.length gc, .int .i64 m.first, .int .i64 m.most, .slice (some ⟨bf, of_, none⟩) m.funs.length fc, .slice da m.datas.length dc, .slice ea m.exps.length ec, .string par, .string res, .string (par ++ loc), .slice ca code.length cc, .slice none 0 0, .slice a1 code.length c1', .slice a2 code.length c2', .slice none 0 0, .int .i64 0, .slice (some ⟨w3.heap.size + 1 + 1 + 1, 0, none⟩) 1 1, .string ⟨#[]⟩, .bool false, .int .i64 0] 90)).alloc (.cells #[.string ⟨#[]⟩, .string res, .int .i64 (-1), .int .u8 0, .string ⟨#[]⟩] 93)).alloc (.cells #[.pointer (some ⟨w3.heap.size + 1 + 1, 0, none⟩)] 91)) w9
      | .ok v => r = .returned (.tuple #[.int .i64 0, .int .i64 0]) ∧ Keeps (fun b => b < w3.heap.size + 1) ((((w3.alloc (.cells #[.string par, .string res] 48)).alloc (.cells #[.slice (some ⟨bt, ot, none⟩) m.types.length tc, .slice ha m.hosts.length hc, .slice ga m.globals.length gc, .int .i64 m.first, .int .i64 m.most, .slice (some ⟨bf, of_, none⟩) m.funs.length fc, .slice da m.datas.length dc, .slice ea m.exps.length ec, .string par, .string res, .string (par ++ loc), .slice ca code.length cc, .slice none 0 0, .slice a1 code.length c1', .slice a2 code.length c2', .slice none 0 0, .int .i64 0, .slice (some ⟨w3.heap.size + 1 + 1 + 1, 0, none⟩) 1 1, .string ⟨#[]⟩, .bool false, .int .i64 0] 90)).alloc (.cells #[.string ⟨#[]⟩, .string res, .int .i64 (-1), .int .u8 0, .string ⟨#[]⟩] 93)).alloc (.cells #[.pointer (some ⟨w3.heap.size + 1 + 1, 0, none⟩)] 91)) w9 ∧ ∃ pc q, Wv ({ S := fun y => y < w3.heap.size + 1, B := w3.heap.size + 1 + 1, p := w3.heap.size + 1, m := m, tv := .slice (some ⟨bt, ot, none⟩) m.types.length tc, hv := .slice ha m.hosts.length hc, gv := .slice ga m.globals.length gc, fv := .slice (some ⟨bf, of_, none⟩) m.funs.length fc, dv := .slice da m.datas.length dc, xv := .slice ea m.exps.length ec, s1 := par, s2 := res, loc := par ++ loc, cv := .slice ca code.length cc, ev := .slice a1 code.length c1', lv := .slice a2 code.length c2', code := code, elses := (mapP (opsOf code)).2.1, X := Xw ((((w3.alloc (.cells #[.string par, .string res] 48)).alloc (.cells #[.slice (some ⟨bt, ot, none⟩) m.types.length tc, .slice ha m.hosts.length hc, .slice ga m.globals.length gc, .int .i64 m.first, .int .i64 m.most, .slice (some ⟨bf, of_, none⟩) m.funs.length fc, .slice da m.datas.length dc, .slice ea m.exps.length ec, .string par, .string res, .string (par ++ loc), .slice ca code.length cc, .slice none 0 0, .slice a1 code.length c1', .slice a2 code.length c2', .slice none 0 0, .int .i64 0, .slice (some ⟨w3.heap.size + 1 + 1 + 1, 0, none⟩) 1 1, .string ⟨#[]⟩, .bool false, .int .i64 0] 90)).alloc (.cells #[.string ⟨#[]⟩, .string res, .int .i64 (-1), .int .u8 0, .string ⟨#[]⟩] 93)).alloc (.cells #[.pointer (some ⟨w3.heap.size + 1 + 1, 0, none⟩)] 91)).heap.size } : Wc) w9 v pc q : Prop) := by
      unfold WalkP at hP
      rw [HCT.out] at hP
      have e2 : goV (ctxV m ⟨tn, loc, code⟩ (mapP (opsOf code)).2.1) (Wc.code ({ S := fun y => y < w3.heap.size + 1, B := w3.heap.size + 1 + 1, p := w3.heap.size + 1, m := m, tv := .slice (some ⟨bt, ot, none⟩) m.types.length tc, hv := .slice ha m.hosts.length hc, gv := .slice ga m.globals.length gc, fv := .slice (some ⟨bf, of_, none⟩) m.funs.length fc, dv := .slice da m.datas.length dc, xv := .slice ea m.exps.length ec, s1 := par, s2 := res, loc := par ++ loc, cv := .slice ca code.length cc, ev := .slice a1 code.length c1', lv := .slice a2 code.length c2', code := code, elses := (mapP (opsOf code)).2.1, X := Xw ((((w3.alloc (.cells #[.string par, .string res] 48)).alloc (.cells #[.slice (some ⟨bt, ot, none⟩) m.types.length tc, .slice ha m.hosts.length hc, .slice ga m.globals.length gc, .int .i64 m.first, .int .i64 m.most, .slice (some ⟨bf, of_, none⟩) m.funs.length fc, .slice da m.datas.length dc, .slice ea m.exps.length ec, .string par, .string res, .string (par ++ loc), .slice ca code.length cc, .slice none 0 0, .slice a1 code.length c1', .slice a2 code.length c2', .slice none 0 0, .int .i64 0, .slice (some ⟨w3.heap.size + 1 + 1 + 1, 0, none⟩) 1 1, .string ⟨#[]⟩, .bool false, .int .i64 0] 90)).alloc (.cells #[.string ⟨#[]⟩, .string res, .int .i64 (-1), .int .u8 0, .string ⟨#[]⟩] 93)).alloc (.cells #[.pointer (some ⟨w3.heap.size + 1 + 1, 0, none⟩)] 91)).heap.size } : Wc)) 0 (startV res) = go := hgo
      rw [e2] at hP
      cases go with
      | error z => exact hP
      | ok v => exact hP
    clear hP HWK HCT
    cases go with
    | error z =>
      obtain ⟨rfl, hk⟩ := hP'
      have hne := goV_ne _ _ _ _ hgo
      obtain ⟨ze, zp⟩ := z
      simp only at hne
      have hz2 : (ze != 0) = true := by simpa using hne
      have HT9 := Lib.hid ((hk.block _ (row_lt HTW.out) (by omega)).trans HTW.out)
      have HB9 : Hid (Below w.heap.size w w9) := Lib.hid (HBW.out.trans (hk.below HBW.out.size fun b hb => by omega))
      have HFV : Hid (funV m n = (tbZ, ze, ((zp : Nat) : Int))) := Lib.hid (funV_no (z := (ze, zp)) HFD.out hme (by rw [HSG.out]; exact hgo))
      have t0 := row_free HT9.out 0; have t1 := row_free HT9.out 1; have t2 := row_free HT9.out 2; have t3 := row_free HT9.out 3; have t4 := row_free HT9.out 4
      have k0 := row_cell HT9.out 0 rfl; have k1 := row_cell HT9.out 1 rfl; have k2 := row_cell HT9.out 2 rfl; have k3 := row_cell HT9.out 3 rfl; have k4 := row_cell HT9.out 4 rfl
      simp only [List.getElem_toArray, List.getElem_cons_zero, List.getElem_cons_succ] at k0 k1 k2 k3 k4
      clear hk hgo
      go_wp2
      exact bodyPost_ret (fun_results (w.heap.size + 1) #[.slice none 0 0, .slice none 0 0, .slice none 0 0, .slice none 0 0, .int .i64 0] _ _ (set5_row HT9.out _ _ _ _ _) rfl rfl rfl rfl) rfl ⟨[.slice none 0 0, .slice none 0 0, .slice none 0 0, .slice none 0 0, .int .i64 0], by rw [HFV.out]; rfl, by rw [HFV.out]; exact RTab.zero _ _, ((((HB9.out.setCell (p := ⟨w.heap.size + 1, 0, none⟩) (by simp) _).setCell (p := ⟨w.heap.size + 1, 1, none⟩) (by simp) _).setCell (p := ⟨w.heap.size + 1, 2, none⟩) (by simp) _).setCell (p := ⟨w.heap.size + 1, 3, none⟩) (by simp) _).setCell (p := ⟨w.heap.size + 1, 4, none⟩) (by simp) _⟩
    | ok v =>
      obtain ⟨rfl, hk, pc9, q9, hv⟩ := hP'
      have HT9 := Lib.hid ((hk.block _ (row_lt HTW.out) (by omega)).trans HTW.out)
      have HB9 : Hid (Below w.heap.size w w9) := Lib.hid (HBW.out.trans (hk.below HBW.out.size fun b hb => by omega))
      have HFV : Hid (funV m n = (⟨v.shapes, (mapP (opsOf code)).1, (mapP (opsOf code)).2.1, v.floors, v.high⟩, 0, 0)) := Lib.hid (funV_ok HFD.out hme (by rw [HSG.out]; exact hgo))
      have hlens := goV_len (code := code) (HGD.out.ok.szc (c := ctxV m ⟨tn, loc, code⟩ (mapP (opsOf code)).2.1) rfl) code 0 (startV res) v rfl (by omega) (VL.start hz9 hme) rfl rfl hgo
      obtain ⟨hl1, hl2⟩ := hlens
      have hcl := HFC.out.1
      have o1 : w9.ownsRow (w3.heap.size + 1 + 1) 9 1 q9.sv v.shapes.length (v.shapes.map .string) := hv.fam.own (shE q9 v) (by simp [Wq.ents])
      have o2 : w9.ownsRow (w3.heap.size + 1 + 1) 3 1 q9.fv v.floors.length (v.floors.map (Value.int .i64)) := hv.fam.own (flE q9 v) (by simp [Wq.ents])
      have o3 := own_keeps HR1.out hk fun b hb => by have := (World.ownsRow.lt HR3.out.r1 b hb).2; omega
      have o4 := own_keeps HR2.out hk fun b hb => by have := (World.ownsRow.lt HR3.out.r2 b hb).2; omega
      have y12 := hv.cell 12 (u := q9.sv) rfl
      have y13 := hv.cell 13 (u := .slice a1 code.length c1') rfl
      have y14 := hv.cell 14 (u := .slice a2 code.length c2') rfl
      have y15 := hv.cell 15 (u := q9.fv) rfl
      have y16 := hv.cell 16 (u := .int .i64 v.high) rfl
      simp only at y12 y13 y14 y15 y16
      obtain ⟨sa, sc, hsv, -⟩ := own_slice o1
      obtain ⟨fa', fc', hfv, -⟩ := own_slice o2
      rw [hsv] at y12 o1
      rw [hfv] at y15 o2
      have HO := Lib.hid (And.intro o1 (And.intro o2 (And.intro o3 o4)))
      have t0 := row_free HT9.out 0; have t1 := row_free HT9.out 1; have t2 := row_free HT9.out 2; have t3 := row_free HT9.out 3; have t4 := row_free HT9.out 4
      have k0 := row_cell HT9.out 0 rfl; have k1 := row_cell HT9.out 1 rfl; have k2 := row_cell HT9.out 2 rfl; have k3 := row_cell HT9.out 3 rfl; have k4 := row_cell HT9.out 4 rfl
      simp only [List.getElem_toArray, List.getElem_cons_zero, List.getElem_cons_succ] at k0 k1 k2 k3 k4
      have hll2 := hll; have hle2 := hle
      have HL := Lib.hid (And.intro hl1 (And.intro hl2 (And.intro hle2 hll2)))
      clear hk hgo o1 o2 o3 o4 hsv hfv hv hl1 hl2 hle2 hll2
      go_wp2
      have hk5 : Keeps (fun b => b ≠ w.heap.size + 1) w9 _ := ((((((Keeps.refl _ w9).setCell (a := ⟨w.heap.size + 1, 0, none⟩) (by simp) (.slice sa v.shapes.length sc)).setCell (a := ⟨w.heap.size + 1, 1, none⟩) (by simp) (.slice a1 code.length c1')).setCell (a := ⟨w.heap.size + 1, 2, none⟩) (by simp) (.slice a2 code.length c2')).setCell (a := ⟨w.heap.size + 1, 3, none⟩) (by simp) (.slice fa' v.floors.length fc')).setCell (a := ⟨w.heap.size + 1, 4, none⟩) (by simp) (.int .i64 v.high))
      refine bodyPost_ret (fun_results (w.heap.size + 1) #[.slice sa v.shapes.length sc, .slice a1 code.length c1', .slice a2 code.length c2', .slice fa' v.floors.length fc', .int .i64 v.high] _ _ (set5_row HT9.out _ _ _ _ _) rfl rfl rfl rfl) rfl ⟨[.slice sa v.shapes.length sc, .slice a1 code.length c1', .slice a2 code.length c2', .slice fa' v.floors.length fc', .int .i64 v.high], by rw [HFV.out]; rfl, ?_, ((((HB9.out.setCell (p := ⟨w.heap.size + 1, 0, none⟩) (by simp) _).setCell (p := ⟨w.heap.size + 1, 1, none⟩) (by simp) _).setCell (p := ⟨w.heap.size + 1, 2, none⟩) (by simp) _).setCell (p := ⟨w.heap.size + 1, 3, none⟩) (by simp) _).setCell (p := ⟨w.heap.size + 1, 4, none⟩) (by simp) _⟩
      rw [HFV.out]
      obtain ⟨o1, o2, o3, o4⟩ := HO.out
      obtain ⟨e1, e2, e3, e4⟩ := HL.out
      have p1 := RdV.of_own o1 (by rw [List.length_map]) (by omega)
      have p2 := RdI.of_own (k := .i64) (l := v.floors) o2 (by omega)
      have p3 := RdI.of_own (k := .i64) o3 (by omega)
      have p4 := RdI.of_own (k := .i64) o4 (by omega)
      rw [e3] at p3
      rw [e4] at p4
      have bb : ∀ {B T sz k : Nat} {l : Value} {xs : List Value}, w9.ownsRow B T sz l k xs → w.heap.size + 1 < B → ∀ b, l.ownBlock = some b → w.heap.size + 1 < b := fun h hB b hb => by have := (World.ownsRow.lt h b hb).1; omega
      have hr0 := hsz
      have q1 : ∀ b, (Value.slice sa v.shapes.length sc).ownBlock = some b → w.heap.size + 1 < b := bb o1 (by omega)
      have q2 : ∀ b, (Value.slice fa' v.floors.length fc').ownBlock = some b → w.heap.size + 1 < b := bb o2 (by omega)
      have q3 : ∀ b, (Value.slice a1 code.length c1').ownBlock = some b → w.heap.size + 1 < b := by rw [← e3]; exact bb o3 (by rw [World.size_alloc]; omega)
      have q4 : ∀ b, (Value.slice a2 code.length c2').ownBlock = some b → w.heap.size + 1 < b := by rw [← e4]; exact bb o4 (by rw [World.size_alloc]; omega)
      exact ⟨_, _, _, _, rfl, (p1.keeps (hk5.mono fun b _ hb => by have := q1 b hb; omega)).mono fun b _ hb => by have := q1 b hb; omega, (p3.keeps (hk5.mono fun b _ hb => by have := q3 b hb; omega)).mono fun b _ hb => by have := q3 b hb; omega, (p4.keeps (hk5.mono fun b _ hb => by have := q4 b hb; omega)).mono fun b _ hb => by have := q4 b hb; omega, (p2.keeps (hk5.mono fun b _ hb => by have := q2 b hb; omega)).mono fun b _ hb => by have := q2 b hb; omega⟩
  · have hz1 : (me != 0) = true := by simpa using hz
    have t0 := row_free HT3.out 0; have t1 := row_free HT3.out 1; have t2 := row_free HT3.out 2; have t3 := row_free HT3.out 3; have t4 := row_free HT3.out 4
    have k0 := row_cell HT3.out 0 rfl; have k1 := row_cell HT3.out 1 rfl; have k2 := row_cell HT3.out 2 rfl; have k3 := row_cell HT3.out 3 rfl; have k4 := row_cell HT3.out 4 rfl
    simp only [List.getElem_toArray, List.getElem_cons_zero, List.getElem_cons_succ] at k0 k1 k2 k3 k4
    have HFV := Lib.hid (funV_err HFD.out hme hmp hz)
    clear x5 y2 fr0 fr1 fr2 c0 c1 c2
    go_wp2
    refine bodyPost_ret (fun_results (w.heap.size + 1) #[.slice none 0 0, .slice none 0 0, .slice none 0 0, .slice none 0 0, .int .i64 0] _ _ (set5_row HT3.out _ _ _ _ _) rfl rfl rfl rfl) rfl ⟨[.slice none 0 0, .slice none 0 0, .slice none 0 0, .slice none 0 0, .int .i64 0], by rw [HFV.out]; rfl, by rw [HFV.out]; exact RTab.zero _ _, ?_⟩
    exact ((((HB3.out.setCell (p := ⟨w.heap.size + 1, 0, none⟩) (by simp) _).setCell (p := ⟨w.heap.size + 1, 1, none⟩) (by simp) _).setCell (p := ⟨w.heap.size + 1, 2, none⟩) (by simp) _).setCell (p := ⟨w.heap.size + 1, 3, none⟩) (by simp) _).setCell (p := ⟨w.heap.size + 1, 4, none⟩) (by simp) _
end Go.Proofs.YtfhkjahjenpbgaaDoor
namespace Go.Proofs.YtfhkjahjenpbgaaDoor
open Go Go.RowKit

theorem RTab.mono {S T : Nat → Prop} {w : World} {cs : List Value} {t : TbD} (h : RTab S w cs t) (hS : ∀ b, b < w.heap.size → S b → T b) : RTab T w cs t := by
  obtain ⟨sv, ev, lv, fv, e, h1, h2, h3, h4⟩ := h
  exact ⟨sv, ev, lv, fv, e, h1.mono hS, h2.mono hS, h3.mono hS, h4.mono hS⟩
theorem RTab.keeps {S : Nat → Prop} {w w' : World} {cs : List Value} {t : TbD} (h : RTab S w cs t) (hk : Keeps S w w') : RTab S w' cs t := by
  obtain ⟨sv, ev, lv, fv, e, h1, h2, h3, h4⟩ := h
  exact ⟨sv, ev, lv, fv, e, h1.keeps hk, h2.keeps hk, h3.keeps hk, h4.keeps hk⟩
end Go.Proofs.YtfhkjahjenpbgaaDoor
namespace Go.Proofs.YtfhkjahjenpbgaaDoor
open Go Go.RowKit
set_option linter.unusedSimpArgs false

theorem Tryd.infoTabM : (Tryd.prog.info? 78).map (fun i => (i.zero, i.size, i.bytes)) = some (some (.agg #[.slice none 0 0, .slice none 0 0, .slice none 0 0, .slice none 0 0, .int .i64 0]), 5, 104) := by kernel_rfl
/-- A list of tables of its own. -/
structure OwnT (B : Nat) (w : World) (v : Value) (ps : List (List Value × TbD)) : Prop where
  row : w.ownsRow B 78 5 v ps.length (ps.flatMap (·.1))
  ls : ∀ p ∈ ps, p.1.length = 5 ∧ RTab (fun b => B ≤ b ∧ v.ownBlock ≠ some b) w p.1 p.2
theorem OwnT.nil (B : Nat) (w : World) : OwnT B w (.slice none 0 0) [] := ⟨World.ownsRow_nil _ _ _ _, fun p h => by cases h⟩
theorem OwnT.on {B : Nat} {w w' : World} {v : Value} {ps : List (List Value × TbD)} (h : OwnT B w v ps) (hb : Below w.heap.size w w') : OwnT B w' v ps :=
  ⟨own_below h.row hb, fun p hp => ⟨(h.ls p hp).1, (h.ls p hp).2.keeps (Keeps.all _ hb)⟩⟩
theorem OwnT.app {B n : Nat} {w w' : World} {v v' : Value} {ps qs : List (List Value × TbD)} (h : OwnT B w v ps) (ho : w'.ownsRow B 78 5 v' (ps.length + qs.length) (ps.flatMap (·.1) ++ qs.flatMap (·.1))) (hk : Kept w w' v.ownBlock n)
    (hf : ∀ g, v'.ownBlock = some g → v.ownBlock = some g ∨ w.heap.size ≤ g) (hq : ∀ p ∈ qs, p.1.length = 5 ∧ RTab (fun b => B ≤ b ∧ v.ownBlock ≠ some b) w p.1 p.2) : OwnT B w' v' (ps ++ qs) := by
  refine ⟨by rw [List.length_append, List.flatMap_append]; exact ho, fun p hp => ?_⟩
  have hr : p.1.length = 5 ∧ RTab (fun b => B ≤ b ∧ v.ownBlock ≠ some b) w p.1 p.2 := by
    rcases List.mem_append.1 hp with h1 | h1
    · exact h.ls p h1
    · exact hq p h1
  refine ⟨hr.1, ?_⟩
  have hk1 : Keeps (fun b => B ≤ b ∧ v.ownBlock ≠ some b) w w' := (Keeps.refl _ w).grown hk.grown fun k hk' _ h' => h'.2 hk'
  have h1 := RTab.mono (T := fun b => (B ≤ b ∧ v.ownBlock ≠ some b) ∧ b < w.heap.size) hr.2 fun b hb h => ⟨h, hb⟩
  have h2 := h1.keeps (hk1.mono fun b _ hb => hb.1)
  refine h2.mono fun b _ hb => ⟨hb.1.1, fun e => ?_⟩
  rcases hf b e with h3 | h3
  · exact hb.1.2 h3
  · have := hb.2; omega
abbrev RdTabs (w : World) (v : Value) (l : List TbD) : Prop := RdL 5 (fun w cs t => RTab (· < w.heap.size) w cs t) (fun b => v.ownBlock = some b) w v l
theorem OwnT.rd {B : Nat} {w : World} {v : Value} {ps : List (List Value × TbD)} (h : OwnT B w v ps) (hl : ps.length ≤ 140737488355328) : RdTabs w v (ps.map Prod.snd) := by
  refine RdL.of_map (f := Prod.snd) ?_
  exact rd_own (α := List Value × TbD) (enc := (·.1)) (R := fun w cs p => RTab (· < w.heap.size) w cs p.2) h.row rfl rfl (fun p hp => (h.ls p hp).1) hl fun p hp => (h.ls p hp).2.mono fun b hb _ => hb
theorem allV_step {m : ModD} {f k : Nat} {acc : List TbD} (h : (funV m k).2.1 = 0) : allV m (f + 1) k acc = allV m f (k + 1) (acc ++ [(funV m k).1]) := by rw [allV, if_neg (by simp [h])]
theorem allV_bad {m : ModD} {f k : Nat} {acc : List TbD} (h : (funV m k).2.1 ≠ 0) : allV m (f + 1) k acc = .error ((funV m k).2.1, (k : Nat), (funV m k).2.2) := by rw [allV, if_pos h]
theorem results_tmp4 {fn : Func} {t u v x : Tmp} (h : fn.results = #[.tmp t, .tmp u, .tmp v, .tmp x]) (tmps : Array Value) (P : Program) (w : World) :
    (results fn tmps).run P w = .ok (.tuple #[tmps.getD t undef, tmps.getD u undef, tmps.getD v undef, tmps.getD x undef]) w := by
  simp [results, h]
/-- What validate.Module answers. -/
def ModP (w : World) (m : ModD) (r : Ending) (w' : World) : Prop :=
  ∃ lv, r = .returned (.tuple #[lv, .int .i64 (valM m).2.1, .int .i64 (valM m).2.2.1, .int .i64 (valM m).2.2.2]) ∧ RdTabs w' lv (valM m).1 ∧ Below w.heap.size w w'
theorem rdt_nil (w : World) : RdTabs w (.slice none 0 0) [] := RdL.nil _ _ _ _
set_option maxRecDepth 100000 in
set_option maxHeartbeats 3200000 in
theorem val_Module (w : World) (S : Nat → Prop) (hS : ∀ b, S b → b < w.heap.size) (m : ModD) (cs : List Value) (hm : RMod S w cs m) (sm : SmM m) (wf : WfM m) (htb : Tb w) :
    Calls Tryd.prog 15 #[.agg cs.toArray] w (ModP w m) := by
  obtain ⟨i0, hi, hz0, hz1, hz2⟩ := info_parts Tryd.infoTabM
  have hm0 := hm
  obtain ⟨tv, hv, gv, fv, dv, ev, rfl, r1, r2, r3, r4, r5, r6⟩ := hm
  obtain ⟨ta, tc, rfl, tl⟩ := r1.len
  obtain ⟨ha, hc, rfl, hl⟩ := r2.len
  obtain ⟨ga, gc, rfl, gl⟩ := r3.len
  obtain ⟨fa, fc, rfl, fl⟩ := r4.len
  obtain ⟨da, dc, rfl, dl⟩ := r5.len
  obtain ⟨ea, ec, rfl, el⟩ := r6.len
  have hba := below_alloc w (.cells #[.slice ta m.types.length tc, .slice ha m.hosts.length hc, .slice ga m.globals.length gc, .int .i64 m.first, .int .i64 m.most, .slice fa m.funs.length fc, .slice da m.datas.length dc, .slice ea m.exps.length ec] 29)
  have hmb := heap_alloc_new w (.cells #[.slice ta m.types.length tc, .slice ha m.hosts.length hc, .slice ga m.globals.length gc, .int .i64 m.first, .int .i64 m.most, .slice fa m.funs.length fc, .slice da m.datas.length dc, .slice ea m.exps.length ec] 29)
  have rm := hm0.keeps (Keeps.all S hba)
  have HCH := Lib.hid (mod_Check (w.alloc (.cells #[.slice ta m.types.length tc, .slice ha m.hosts.length hc, .slice ga m.globals.length gc, .int .i64 m.first, .int .i64 m.most, .slice fa m.funs.length fc, .slice da m.datas.length dc, .slice ea m.exps.length ec] 29)) S (fun b hb => by have := hS b hb; have := hba.size; omega) m _ rm sm wf (htb.bel hba))
  have HMB := Lib.hid hmb; have HB := Lib.hid hba; have HRM := Lib.hid rm
  have HS := Lib.hid hS; have HT := Lib.hid htb; have HWF := Lib.hid wf
  have g0 := row_cell hmb 0 rfl; have g1 := row_cell hmb 1 rfl; have g2 := row_cell hmb 2 rfl; have g3 := row_cell hmb 3 rfl; have g4 := row_cell hmb 4 rfl; have g5 := row_cell hmb 5 rfl; have g6 := row_cell hmb 6 rfl; have g7 := row_cell hmb 7 rfl
  simp only [List.getElem_toArray, List.getElem_cons_zero, List.getElem_cons_succ] at g0 g1 g2 g3 g4 g5 g6 g7
  clear hm0 r1 r2 r3 r4 r5 r6 hba hmb rm hS htb sm wf
  go_enter Tryd.func15, Tryd.ntmps15
  go_wp2_with fail
  refine HCH.out.mono ?_
  rintro e w3 ⟨rfl, hb3⟩
  have HM3 := Lib.hid ((hb3.block _ (row_lt HMB.out)).trans HMB.out)
  have HB3 := Lib.hid (below_next HB.out hb3)
  have HRM3 := Lib.hid (HRM.out.keeps (Keeps.all S hb3))
  obtain ⟨me, hme⟩ : ∃ e, (encM m).2 = e := ⟨_, rfl⟩
  rw [hme]
  clear g0 g1 g2 g3 g4 g5 g6 g7 HMB HB HRM HCH hb3
  by_cases hz : me = 0
  · have hzb : (me != 0) = false := by simp [hz]
    subst hz
    have g5 := row_cell HM3.out 5 rfl
    simp only [List.getElem_toArray, List.getElem_cons_zero, List.getElem_cons_succ] at g5
    have hg := gd_of hme HWF.out
    have HG := Lib.hid hg
    have hfn := hg.ln
    clear hg
    go_wp2_with fail
    go_loopw [7, 20] (fun lv i wr => ∃ (k : Nat) (ps : List (List Value × TbD)), k ≤ m.funs.length ∧ ps.length ≤ k ∧ i = .int .i64 k ∧ Hid (OwnT w3.heap.size wr lv ps) ∧ Hid (Below w3.heap.size w3 wr) ∧ Hid (allV m m.funs.length 0 [] = allV m (m.funs.length - k) k (ps.map Prod.snd))) (fun _ i _ => m.funs.length - (intOf i).toNat)
    case atStart => exact ⟨0, [], by omega, by simp, rfl, Lib.hid (OwnT.nil _ _), Lib.hid (Below.refl _ _), Lib.hid rfl⟩
    case round =>
      clear g5
      obtain ⟨k, ps, hk, hpl, rfl, HO, HBW, HA⟩ := hrel
      have HBR := Lib.hid (below_next HB3.out HBW.out)
      by_cases hlt : k < m.funs.length
      · have HMR := Lib.hid ((HBW.out.block _ (row_lt HM3.out)).trans HM3.out)
        have g0 := row_cell HMR.out 0 rfl; have g1 := row_cell HMR.out 1 rfl; have g2 := row_cell HMR.out 2 rfl; have g3 := row_cell HMR.out 3 rfl; have g4 := row_cell HMR.out 4 rfl; have g5 := row_cell HMR.out 5 rfl; have g6 := row_cell HMR.out 6 rfl; have g7 := row_cell HMR.out 7 rfl
        simp only [List.getElem_toArray, List.getElem_cons_zero, List.getElem_cons_succ] at g0 g1 g2 g3 g4 g5 g6 g7
        have HFN := Lib.hid (val_function wr S (fun b hb => by have := HS.out b hb; have := HBR.out.size; omega) m _ (HRM3.out.keeps (Keeps.all S HBW.out)) HG.out (HT.out.bel HBR.out) k hlt)
        obtain ⟨oa, oc, hov, -⟩ := own_slice HO.out.row
        subst hov
        obtain ⟨⟨tb, fe, fp⟩, hfv⟩ : ∃ x, funV m k = x := ⟨_, rfl⟩
        have HFV := Lib.hid hfv
        rw [hfv] at HFN
        clear hfv
        go_wp2_with fail
        refine HFN.out.mono ?_
        rintro r w4 ⟨cs4, rfl, hrt, hb4⟩
        have HRT := Lib.hid hrt
        obtain ⟨sv, ev4, lv, fv4, hcs, q1, q2, q3, q4⟩ := hrt
        obtain ⟨sa, sc, hsv, -⟩ := q1.lenc
        rw [List.length_map] at hsv
        subst hsv
        obtain ⟨ea4, ec4, rfl, -⟩ := q2.lenc
        obtain ⟨la, lc, rfl, -⟩ := q3.lenc
        obtain ⟨fa4, fc4, rfl, -⟩ := q4.lenc
        simp only at hcs
        subst hcs
        simp only at HRT
        have hsz := HBW.out.size
        clear q1 q2 q3 q4 g0 g1 g2 g3 g4 g5 g6 g7 HFN HMR
        have r0 := heap_alloc_new w4 (.cells #[.slice none 0 0, .slice none 0 0, .slice none 0 0, .slice none 0 0, .int .i64 0] 78)
        have fr0 := row_free r0 0; have fr1 := row_free r0 1; have fr2 := row_free r0 2; have fr3 := row_free r0 3; have fr4 := row_free r0 4
        clear r0
        simp only
        by_cases hfe : fe = 0
        · have hfb : (fe != 0) = false := by simp [hfe]
          have hrn := heap_alloc_new w4 (.cells #[.slice sa tb.shapes.length sc, .slice ea4 tb.ends.length ec4, .slice la tb.elses.length lc, .slice fa4 tb.floors.length fc4, .int .i64 tb.high] 78)
          have y0 := row_cell hrn 0 rfl; have y1 := row_cell hrn 1 rfl; have y2 := row_cell hrn 2 rfl; have y3 := row_cell hrn 3 rfl; have y4 := row_cell hrn 4 rfl
          simp only [List.getElem_toArray, List.getElem_cons_zero, List.getElem_cons_succ] at y0 y1 y2 y3 y4
          have hbn := below_alloc w4 (.cells #[.slice sa tb.shapes.length sc, .slice ea4 tb.ends.length ec4, .slice la tb.elses.length lc, .slice fa4 tb.floors.length fc4, .int .i64 tb.high] 78)
          have hbm := below_alloc (w4.alloc (.cells #[.slice sa tb.shapes.length sc, .slice ea4 tb.ends.length ec4, .slice la tb.elses.length lc, .slice fa4 tb.floors.length fc4, .int .i64 tb.high] 78)) (.cells #[.slice sa tb.shapes.length sc, .slice ea4 tb.ends.length ec4, .slice la tb.elses.length lc, .slice fa4 tb.floors.length fc4, .int .i64 tb.high] 78)
          have HO6 := Lib.hid (((HO.out.on hb4).on hbn).on hbm)
          have HW6 := Lib.hid (below_next HBW.out (below_next hb4 (below_next hbn hbm)))
          have HBS : Hid (w3.heap.size ≤ ((w4.alloc (.cells #[.slice sa tb.shapes.length sc, .slice ea4 tb.ends.length ec4, .slice la tb.elses.length lc, .slice fa4 tb.floors.length fc4, .int .i64 tb.high] 78)).alloc (.cells #[.slice sa tb.shapes.length sc, .slice ea4 tb.ends.length ec4, .slice la tb.elses.length lc, .slice fa4 tb.floors.length fc4, .int .i64 tb.high] 78)).heap.size) := Lib.hid (by have := HW6.out.size; exact this)
          have HCN : Hid (∀ j u, ([.slice sa tb.shapes.length sc, .slice ea4 tb.ends.length ec4, .slice la tb.elses.length lc, .slice fa4 tb.floors.length fc4, .int .i64 tb.high] : List Value)[j]? = some u → ((w4.alloc (.cells #[.slice sa tb.shapes.length sc, .slice ea4 tb.ends.length ec4, .slice la tb.elses.length lc, .slice fa4 tb.floors.length fc4, .int .i64 tb.high] 78)).alloc (.cells #[.slice sa tb.shapes.length sc, .slice ea4 tb.ends.length ec4, .slice la tb.elses.length lc, .slice fa4 tb.floors.length fc4, .int .i64 tb.high] 78)).cell? ((⟨w4.heap.size + 1, 0, none⟩ : Addr).add j) = some u) := Lib.hid (by
            have h9 := World.news_of_block (heap_alloc_new (w4.alloc (.cells #[.slice sa tb.shapes.length sc, .slice ea4 tb.ends.length ec4, .slice la tb.elses.length lc, .slice fa4 tb.floors.length fc4, .int .i64 tb.high] 78)) (.cells #[.slice sa tb.shapes.length sc, .slice ea4 tb.ends.length ec4, .slice la tb.elses.length lc, .slice fa4 tb.floors.length fc4, .int .i64 tb.high] 78))
            rw [World.size_alloc] at h9
            exact h9)
          have HR6 : Hid (∀ p ∈ [(([.slice sa tb.shapes.length sc, .slice ea4 tb.ends.length ec4, .slice la tb.elses.length lc, .slice fa4 tb.floors.length fc4, .int .i64 tb.high] : List Value), tb)], p.1.length = 5 ∧ RTab (fun b => w3.heap.size ≤ b ∧ (Value.slice oa ps.length oc).ownBlock ≠ some b) ((w4.alloc (.cells #[.slice sa tb.shapes.length sc, .slice ea4 tb.ends.length ec4, .slice la tb.elses.length lc, .slice fa4 tb.floors.length fc4, .int .i64 tb.high] 78)).alloc (.cells #[.slice sa tb.shapes.length sc, .slice ea4 tb.ends.length ec4, .slice la tb.elses.length lc, .slice fa4 tb.floors.length fc4, .int .i64 tb.high] 78)) p.1 p.2) := Lib.hid (by
            intro p hp
            obtain rfl : p = _ := List.mem_singleton.1 hp
            refine ⟨rfl, ?_⟩
            refine RTab.mono ((HRT.out.keeps (Keeps.all _ hbn)).keeps (Keeps.all _ hbm)) fun b _ hb => ⟨by omega, fun e => ?_⟩
            have h2 := (HO.out.row.lt b e).2
            omega)
          clear hrn hbn hbm hb4
          go_wp2_with (at_builtin; go_loud (refine wpList_append_kept _ rfl _ _ 69 rfl w3.heap.size 78 i0 (.agg #[.slice none 0 0, .slice none 0 0, .slice none 0 0, .slice none 0 0, .int .i64 0]) 5 104 Tryd.underlying69 hi hz0 hz1 hz2 rfl (by decide) (.slice oa ps.length oc) ps.length (ps.flatMap (·.1)) rfl HO6.out.row ⟨w4.heap.size + 1, 0, none⟩ 1 1 [.slice sa tb.shapes.length sc, .slice ea4 tb.ends.length ec4, .slice la tb.elses.length lc, .slice fa4 tb.floors.length fc4, .int .i64 tb.high] rfl rfl HCN.out (by simp [Value.oneCell']) (by unfold maxLen; omega) (by omega) HBS.out ?_))
          intro v' w7 ho hk7 hf
          have HN : Hid (OwnT w3.heap.size w7 v' (ps ++ [(([.slice sa tb.shapes.length sc, .slice ea4 tb.ends.length ec4, .slice la tb.elses.length lc, .slice fa4 tb.floors.length fc4, .int .i64 tb.high] : List Value), tb)])) := Lib.hid (HO6.out.app (by simpa using ho) hk7 (fun g hg => by have := hf g hg; rw [World.size_alloc, World.size_alloc]; exact this) HR6.out)
          have HWN := Lib.hid (HW6.out.grown hk7.grown HBS.out fun j hj => (HO6.out.row.lt j hj).1)
          have HAN : Hid (allV m m.funs.length 0 [] = allV m (m.funs.length - (k + 1)) (k + 1) ((ps ++ [(([.slice sa tb.shapes.length sc, .slice ea4 tb.ends.length ec4, .slice la tb.elses.length lc, .slice fa4 tb.floors.length fc4, .int .i64 tb.high] : List Value), tb)]).map Prod.snd)) := Lib.hid (by
            rw [HA.out, show m.funs.length - k = (m.funs.length - (k + 1)) + 1 by omega, allV_step (by rw [HFV.out]; exact hfe), HFV.out, List.map_append]; rfl)
          clear ho hk7 hf HO6 HR6 HW6 HBS HCN
          go_wp2
          go_roundw
          case rel => exact ⟨k + 1, _, by omega, by simp; omega, by go_num, HN, HWN, HAN⟩
          case measure => simp [intOf]; omega
        · have hfb : (fe != 0) = true := by simpa using hfe
          have HVM : Hid (valM m = ([], fe, ((k : Nat) : Int), fp)) := Lib.hid (by
            unfold valM
            rw [if_neg (by rw [hme]; simp), HA.out, show m.funs.length - k = (m.funs.length - (k + 1)) + 1 by omega, allV_bad (by rw [HFV.out]; exact hfe), HFV.out])
          have hbz := below_alloc w4 (.cells #[.slice sa tb.shapes.length sc, .slice ea4 tb.ends.length ec4, .slice la tb.elses.length lc, .slice fa4 tb.floors.length fc4, .int .i64 tb.high] 78)
          have HBZ := Lib.hid (below_next HBR.out (below_next hb4 hbz))
          go_wp2
          refine bodyPost_ret (results_tmp4 rfl _ _ _) rfl ?_
          exact ⟨_, by rw [HVM.out]; rfl, by rw [HVM.out]; exact rdt_nil _, HBZ.out⟩
      · obtain rfl : k = m.funs.length := by omega
        have HVM : Hid (valM m = (ps.map Prod.snd, 0, 0, 0)) := Lib.hid (by
          unfold valM
          rw [if_neg (by rw [hme]; simp), HA.out, Nat.sub_self]; rfl)
        go_wp2
        refine bodyPost_ret (results_tmp4 rfl _ _ _) rfl ?_
        exact ⟨_, by rw [HVM.out]; rfl, by rw [HVM.out]; exact HO.out.rd (by omega), HBR.out⟩
  · have hzb : (me != 0) = true := by simpa using hz
    have HVM : Hid (valM m = ([], me, -1, 0)) := Lib.hid (by unfold valM; rw [hme, if_pos hz])
    go_wp2
    refine bodyPost_ret (results_tmp4 rfl _ _ _) rfl ?_
    exact ⟨_, by rw [HVM.out]; rfl, by rw [HVM.out]; exact rdt_nil _, HB3.out⟩
end Go.Proofs.YtfhkjahjenpbgaaDoor
