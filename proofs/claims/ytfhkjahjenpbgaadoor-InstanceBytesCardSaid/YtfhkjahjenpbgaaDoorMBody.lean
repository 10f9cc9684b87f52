/- module's writer: how body stands; its errors, plain. module's writer: body. -/
import Derived.Test.YtfhkjahjenpbgaaDoorMHead0
import Derived.Test.YtfhkjahjenpbgaaDoorMSmall
import Derived.Test.YtfhkjahjenpbgaaDoorMTwice
import Derived.Test.YtfhkjahjenpbgaaDoorMInstr4
import Derived.Test.YtfhkjahjenpbgaaDoorHead5
namespace Go.Proofs.YtfhkjahjenpbgaaDoor
open Go Go.RowKit

/-- As 'wm_put', where nothing is drawn. -/
theorem wm_put2 {base : Nat} {w w2 : World} {p g cap n : Nat} {v : Value} {xs ys : List Int} {mp : Option Addr} {al : Int} (h : Wm base w p v xs mp al) (hn : n = xs.length + ys.length)
    (hown2 : w2.ownsRow base 5 1 (.slice (some ⟨g, 0, none⟩) n cap) n (xs.map (Value.int .u8) ++ ys.map (Value.int .u8)))
    (hgrow2 : w.grownBy w2 v.ownBlock) (hat : v.ownBlock = some g ∨ w.heap.size ≤ g) :
    Wm base (w2.setCell ⟨p, 2, none⟩ (.slice (some ⟨g, 0, none⟩) n cap)) p (.slice (some ⟨g, 0, none⟩) n cap) (xs ++ ys) mp al ∧
      WrTo p v w (.slice (some ⟨g, 0, none⟩) n cap) (w2.setCell ⟨p, 2, none⟩ (.slice (some ⟨g, 0, none⟩) n cap)) := by
  subst hn
  have hlt := row_lt h.row
  have hrow2 := grown_block hgrow2 h.row h.apart
  have hgp : g ≠ p := by
    rintro rfl
    rcases hat with h1 | h1
    · exact h.apart h1
    · omega
  refine ⟨⟨by simpa using row_setCell hrow2 2 _, ?_, by simpa [Value.ownBlock] using hgp⟩, ?_, ?_⟩
  · have := own_keeps (S := fun b => b ≠ p) hown2 ((Keeps.refl _ w2).setCell (a := ⟨p, 2, none⟩) (by simp) (.slice (some ⟨g, 0, none⟩) (xs.length + ys.length) cap)) (by simp [Value.ownBlock, hgp])
    simpa using this
  · exact ((Keeps.refl _ w).grown hgrow2 (fun k hk _ h => h.2 hk)).setCell (a := ⟨p, 2, none⟩) (fun _ h => h.1 rfl) _
  · intro b hb
    simp only [Value.ownBlock, Option.some.injEq] at hb
    subst hb
    exact hat
section
variable {base : Nat} {w : World} {p : Nat} {v0 : Value} {S : Nat → Prop} {cs : List Value} {m : ModD} {al : Int} {mb sb k : Nat} {tv : Value} {wx wy : World} {v v' : Value} {xs ys : List Int}
theorem Hs.below (h : Hs base w p v0 S cs m al mb sb k tv wx v xs) : Below base w wx :=
  h.wt.keep.below h.bw fun b hb => ⟨by have := h.pb; omega, fun e => by have := h.v0b b e; omega⟩
theorem Hs.tb {wb : World} (h : Hs base w p v0 S cs m al mb sb k tv wx v xs) (hb : Below wb.heap.size wb w) (e : wb.heap.size = base) (ht : Tb wb) : Tb wx := ht.bel (hb.trans (by rw [e]; exact h.below))
/-- The count of instructions has risen. -/
theorem Hs.code (h : Hs base w p v0 S cs m al mb sb k tv wx v xs) (al' : Int) : Hs base w p v0 S cs m al' mb sb k tv (wx.setCell ⟨p, 1, none⟩ (.int .i64 al')) v xs := by
  have hk := (Keeps.refl (fun b => b ≠ p) wx).setCell (a := ⟨p, 1, none⟩) (by simp) (.int .i64 al')
  have n1 : mb ≠ p := row_ne h.mbox h.wm.row (by decide)
  have n2 : sb ≠ p := row_ne h.seen h.wm.row (by decide)
  refine ⟨⟨by simpa using row_setCell h.wm.row 1 (.int .i64 al'), own_keeps h.wm.own hk fun b hb e => h.wm.apart (by rw [← e]; exact hb), h.wm.apart⟩, h.wt.trans ⟨hk.mono fun _ _ h => h.1, fun _ h => .inl h⟩,
    (hk.block _ (row_lt h.mbox) n1).trans h.mbox, (hk.block _ (row_lt h.seen) n2).trans h.seen, h.ms, own_keeps h.own hk fun b hb e => own_ne h.own h.wm.row (by decide) (by rw [← e]; exact hb), h.rd.keeps (hk.mono fun b _ hS => ?_), h.sS, h.pb, h.bw, h.mbb, h.nmb, h.v0b⟩
  have := h.sS b hS
  have := h.pb
  omega
theorem Hs.codeK {g T : Nat} {c : Array Value} {fr : Nat × Nat} (h : Hs base w p v0 S cs m al mb sb k tv wx v xs) (al' : Value) (hr : wx.heap[g]? = some (.cells c T fr)) (h1 : T ≠ 101) : (wx.setCell ⟨p, 1, none⟩ al').heap[g]? = some (.cells c T fr) :=
  (((Keeps.refl (fun b => b ≠ p) wx).setCell (a := ⟨p, 1, none⟩) (by simp) al').block _ (row_lt hr) (row_ne hr h.wm.row h1)).trans hr
theorem Hs.codeP (h : Hs base w p v0 S cs m al mb sb k tv wx v xs) (al' : Value) : Keeps (fun b => b ≠ p ∧ v0.ownBlock ≠ some b) w (wx.setCell ⟨p, 1, none⟩ al') :=
  h.wt.keep.setCell (a := ⟨p, 1, none⟩) (fun _ h => h.1 rfl) al'
/-- The module lies in a box of body's own. -/
theorem Hs.rebox (h : Hs base w p v0 S cs m al mb sb k tv wx v xs) (cc : Array Value) (hcc : cc = cs.toArray) : Hs base w p v0 S cs m al wx.heap.size sb k tv (wx.alloc (.cells cc 29)) v xs := by
  subst hcc
  have h' := h.on (below_alloc wx (.cells cs.toArray 29))
  have := row_lt h.seen
  have hsz := h.wt.keep.size
  have hb := h.hb
  exact ⟨h'.wm, h'.wt, heap_alloc_new _ _, h'.seen, by omega, h'.own, h'.rd, h.sS, h.pb, h.bw, ⟨by omega, h.mbb.2⟩, ⟨hsz, h.nmb.2⟩, h.v0b⟩
theorem Hs.kS (h : Hs base w p v0 S cs m al mb sb k tv wx v xs) (h2 : WrTo p v wx v' wy) : Keeps S wx wy := h2.keep.mono fun b _ hS => by
  have := h.sS b hS
  have := h.pb
  exact ⟨by omega, fun e => by have := (World.ownsRow.lt h.wm.own b e).1; omega⟩
theorem Hs.kC (h : Hs base w p v0 S cs m al mb sb k tv wx v xs) (u : Value) : Keeps S wx (wx.setCell ⟨p, 1, none⟩ u) := (Keeps.refl S wx).setCell (a := ⟨p, 1, none⟩) (fun _ hS => by have := h.sS p hS; have := h.pb; omega) u
theorem Hs.sigsA (h : Hs base w p v0 S cs m al mb sb m.types.length tv wx v xs) (hl : m.types.length ≤ 1000) : RdSigs (fun b => tv.ownBlock = some b) wx tv m.types := by
  have := h.sigs (Nat.le_refl _) hl
  rwa [List.take_of_length_le (Nat.le_refl _)] at this
theorem fu_at {a : Option Addr} {n c : Nat} {l : List FunD} (h : RdFuns S w (.slice a n c) l) {k : Nat} (hk : k < l.length) :
    ∃ b off va vc, a = some ⟨b, off, none⟩ ∧ w.cell? ⟨b, off + k * 3, none⟩ = some (.int .i64 l[k].t) ∧ w.cell? ⟨b, off + k * 3 + 1, none⟩ = some (.string l[k].locals) ∧ w.cell? ⟨b, off + k * 3 + 2, none⟩ = some (.slice va l[k].code.length vc) ∧
      CdS S w (.slice va l[k].code.length vc) l[k].code := by
  obtain ⟨a', c', e, _, _, h3⟩ := h
  simp only [Value.slice.injEq] at e
  obtain ⟨rfl, _, rfl⟩ := e
  obtain ⟨b, off, cs, e1, e2, e3, e4, v, e5, e6⟩ := h3 k hk
  subst e5
  obtain ⟨ba, bc, rfl, _⟩ := e6.len
  exact ⟨b, off, ba, bc, e1, e4 0 (by omega), e4 1 (by omega), e4 2 (by omega), e6⟩
theorem RMod.first {a b c d e f g h : Value} (hm : RMod S w [a, b, c, d, e, f, g, h] m) : d = .int .i64 m.first := by
  obtain ⟨tv, hv, gv, fv, dv, ev, e1, _⟩ := hm
  simp only [List.cons.injEq, and_true] at e1
  exact e1.2.2.2.1
/-- What a good head says. -/
theorem head_good (h : headE m = 0) : m.types.length ≤ 64 ∧ (∀ x ∈ m.types, x.1.size ≤ 8) ∧ 0 ≤ m.first ∧ m.first ≤ 64 := by
  unfold headE at h
  simp only [thenE_0] at h
  obtain ⟨h1, _, _, h4, _⟩ := h
  obtain ⟨h5, h6⟩ := errMany_0.1 h1
  refine ⟨h5, fun x hx => ?_, ?_⟩
  · obtain ⟨a, ha⟩ := okL_mem h6 x hx
    unfold errS at ha
    simp only [thenE_0] at ha
    exact (errT_0.1 ha.1).1
  · unfold errFirst at h4
    split at h4
    · exact absurd h4 (by decide)
    · omega
theorem body_fu {z : Int} (hz : errMany 128 (errF m.types) m.funs = z) (hne : z ≠ 0) : bodyE m = z := by
  unfold bodyE; rw [thenE_l _ (by rw [hz]; exact hne), hz]
theorem body_fk (h1 : ¬ 128 < m.funs.length) (hk : k < m.funs.length) (h0 : errL (errF m.types) [] (m.funs.take k) = 0) {z : Int} (hz : errF m.types (m.funs.take k) m.funs[k] = z) (hne : z ≠ 0) : bodyE m = z :=
  body_fu (by rw [errMany_bad h1 hk h0 (by rw [hz]; exact hne), hz]) hne
theorem body_da (h0 : errMany 128 (errF m.types) m.funs = 0) {z : Int} (hz : errMany 64 (errD (m.first * 4096).toNat) m.datas = z) (hne : z ≠ 0) : bodyE m = z := by
  unfold bodyE; rw [thenE_r _ h0, thenE_l _ (by rw [hz]; exact hne), hz]
theorem body_ex (h0 : errMany 128 (errF m.types) m.funs = 0) (h1 : errMany 64 (errD (m.first * 4096).toNat) m.datas = 0) : bodyE m = errMany 64 (errE m.funs.length) m.exps := by
  unfold bodyE; rw [thenE_r _ h0, thenE_r _ h1]
theorem RdL.take {α : Type} {n : Nat} {R : World → List Value → α → Prop} {a : Option Addr} {c N : Nat} {l : List α} (h : RdL n R S w (.slice a N c) l) {j : Nat} (hj : j ≤ l.length) : RdL n R S w (.slice a j c) (l.take j) := by
  obtain ⟨a', c', e, h1, h2, h3⟩ := h
  simp only [Value.slice.injEq] at e
  obtain ⟨rfl, _, rfl⟩ := e
  have e : (l.take j).length = j := by rw [List.length_take]; omega
  refine ⟨a, c, by rw [e], by omega, by omega, fun i hi => ?_⟩
  obtain ⟨b, off, cs, q1, q2, q3, q4, q5⟩ := h3 i (by omega)
  exact ⟨b, off, cs, q1, q2, q3, q4, by rw [List.getElem_take]; exact q5⟩
theorem RdL.cap {α : Type} {n : Nat} {R : World → List Value → α → Prop} {a : Option Addr} {c N : Nat} {l : List α} (h : RdL n R S w (.slice a N c) l) : l.length ≤ c ∧ N = l.length := by
  obtain ⟨a', c', e, h1, h2, h3⟩ := h
  simp only [Value.slice.injEq] at e
  omega
theorem dat_ok {room : Nat} {j : Nat} {l : List DatD} (h0 : errL (errD room) [] (l.take j) = 0) : ∀ d ∈ l.take j, 0 ≤ d.at_ ∧ d.at_ ≤ room := fun d hd => by
  obtain ⟨a, ha⟩ := okL_mem ((errL_0 _ _).1 h0) d hd
  have := errD_end ha
  omega
theorem errD_st {room : Nat} {acc : List DatD} {x : DatD} : errD room acc x = if errSt room acc x.at_ = 0 then (if (room : Int) - x.at_ < x.b.length then 13 else if x.b.length = 0 then 17 else 0) else errSt room acc x.at_ := by
  unfold errD errSt
  split
  · rfl
  · split
    · rfl
    · rfl
end
end Go.Proofs.YtfhkjahjenpbgaaDoor
namespace Go.Proofs.YtfhkjahjenpbgaaDoor
open Go Go.RowKit

/-- Where the ends of body stand. -/
def BodyEnds (base : Nat) (w : World) (p : Nat) (v0 : Value) (S : Nat → Prop) (cs : List Value) (m : ModD) (sb : Nat) (tv : Value) (xs0 : List Int) (r : Ending) (w' : World) : Prop :=
  (bodyE m = 0 ∧ r = .returned (.tuple #[]) ∧ ∃ mb al v', Hs base w p v0 S cs m al mb sb m.types.length tv w' v' (xs0 ++ bodyB m)) ∨
  (bodyE m ≠ 0 ∧ r = .panicked (thrown (bodyE m) 0) ∧ Keeps (fun b => b ≠ p ∧ v0.ownBlock ≠ some b) w w')
theorem errC_if (al n : Nat) (z : Int) : (if 2048 < n then (20 : Int) else if 16384 < al + n then 20 else z) = if errC al n = 0 then z else 20 := by
  unfold errC
  split
  · rfl
  · split
    · rfl
    · rfl
set_option maxRecDepth 100000 in
set_option maxHeartbeats 3200000 in
theorem wm_body (wb : World) (base : Nat) (hwb : wb.heap.size = base) (w : World) (p : Nat) (v0 : Value) (xs0 : List Int) (S : Nat → Prop) (m : ModD) (cs : List Value) (mb0 sb : Nat) (tvs vs : Value) (w0 : World)
    (h : Hs base w p v0 S cs m 0 mb0 sb m.types.length tvs w0 vs xs0) (hbb : Below wb.heap.size wb w) (ht : Tb wb) (hh : headE m = 0) (hx0 : xs0.length ≤ 10000) (sm : SmM m) (wf : WfM m) :
    Calls Tryd.prog 29 #[.pointer (some ⟨p, 0, none⟩), .agg cs.toArray] w0 (BodyEnds base w p v0 S cs m sb tvs xs0) := by
  obtain ⟨i0, hi, hz0, hz1, hz2⟩ := info_parts Tryd.infoU8
  obtain ⟨tv, hv, gv, fv, dv, ev, rfl, r1, r2, r3, r4, r5, r6⟩ := h.rd
  obtain ⟨ta, tc, rfl, tl⟩ := r1.len
  obtain ⟨fa, fc, rfl, fl⟩ := r4.len
  obtain ⟨da, dc, rfl, dl⟩ := r5.len
  obtain ⟨ea, ec, rfl, el⟩ := r6.len
  obtain ⟨g1, g2, g3', g4⟩ := head_good hh
  have HSM := Lib.hid sm; have HWF := Lib.hid wf; have HG2 := Lib.hid g2
  have HTB := Lib.hid (And.intro hwb (And.intro hbb ht))
  have HH0 := Lib.hid (h.rebox _ rfl)
  clear sm wf h r1 r2 r3 r4 r5 r6 g2 hh hwb hbb ht
  have c5 := HH0.out.mc (i := 5) rfl
  go_enter Tryd.func29, Tryd.ntmps29
  go_wp2_with fail
  generalize w0.alloc (.cells _ 29) = w1 at *
  generalize w0.heap.size = mb at *
  refine (wm_countM base _ p vs xs0 _ 0 HH0.out.wm HH0.out.hb (by omega) m.funs.length 128 128 rfl (by omega)).mono ?_
  rintro e w3 (⟨h1, rfl, v1, k1, k2⟩ | ⟨h1, rfl, rfl⟩)
  rotate_left
  · have HE : Hid (bodyE m = 20) := Lib.hid (body_fu (errMany_20 h1) (by decide))
    exact ⟨rfl, .inr ⟨by rw [HE.out]; decide, by rw [HE.out], HH0.out.wt.keep⟩⟩
  have HH1 : Hid (Hs base w p v0 S _ m ((allOf (m.funs.take 0) : Nat) : Int) mb sb m.types.length tvs w3 v1 (xs0 ++ uv m.funs.length)) := Lib.hid (HH0.out.put k1 k2)
  have HX1 : Hid (xs0 ++ uv m.funs.length = xs0 ++ (uv m.funs.length ++ (m.funs.take 0).flatMap encF)) := Lib.hid (by simp)
  have hx1 : (xs0 ++ uv m.funs.length).length ≤ 10010 := by have := uv_len10 (n := m.funs.length) (by omega); rw [List.length_append]; omega
  clear k1 k2 HH0
  generalize xs0 ++ uv m.funs.length = xs1 at *
  have c5 := HH1.out.mc (i := 5) rfl
  go_wp2_with fail
  have HN1 := Lib.hid h1
  go_loopw [22] (fun i wr => ∃ (k : Nat) (v : Value) (xs : List Int), k ≤ m.funs.length ∧ i = .int .i64 k ∧ Hid (Hs base w p v0 S _ m ((allOf (m.funs.take k) : Nat) : Int) mb sb m.types.length tvs wr v xs) ∧ Hid (xs = xs0 ++ (uv m.funs.length ++ (m.funs.take k).flatMap encF)) ∧ xs.length ≤ 10010 + 100 * k + 200 * allOf (m.funs.take k) ∧ Hid (errL (errF m.types) [] (m.funs.take k) = 0) ∧ allOf (m.funs.take k) ≤ 16384) (fun i _ => m.funs.length - (intOf i).toNat)
  case atStart => exact ⟨0, _, _, by omega, rfl, HH1, HX1, by simp [allOf]; omega, rfl, by simp [allOf]⟩
  case round =>
    clear HH1 HX1 hx1 c5
    obtain ⟨k, v, xs, hk, rfl, HH, HX, hx, HE0, hall⟩ := hrel
    by_cases hlt : k < m.funs.length
    · obtain ⟨al, hal⟩ : ∃ al, allOf (m.funs.take k) = al := ⟨_, rfl⟩
      have HFK : Hid (errF m.types (m.funs.take k) m.funs[k] = thenE (errI m.types.length m.funs[k].t) (thenE (errT (roomT m.types m.funs[k].t) m.funs[k].locals) (if errC al m.funs[k].code.length = 0 then errL (fun _ => checkI) [] m.funs[k].code else 20))) := Lib.hid (by rw [errF, errC_if, hal])
      have HAL : Hid (allOf (m.funs.take (k + 1)) = al + m.funs[k].code.length) := Lib.hid (by rw [allOf_take hlt, hal])
      rw [hal] at HH hx hall
      clear hal
      obtain ⟨_, _, _, rr1, _⟩ := HH.out.rd.parts
      obtain ⟨b, off, va, vc, rfl, d0, d1, d2, d3⟩ := fu_at rr1 hlt
      have hsl := HSM.out.funs m.funs[k] (List.getElem_mem _)
      have hst := HSM.out.fts m.funs[k] (List.getElem_mem _)
      have hwc := HWF.out.code m.funs[k] (List.getElem_mem _)
      obtain ⟨x, hxk⟩ : ∃ x, m.funs[k] = x := ⟨_, rfl⟩
      rw [hxk] at d0 d1 d2 d3 hsl hst hwc HFK HAL
      have HXK := Lib.hid hxk
      clear hxk rr1
      obtain ⟨t, lo, code⟩ := x
      simp only at d0 d1 d2 d3 hsl hst hwc HFK HAL
      have HWC := Lib.hid hwc
      have hcl : code.length ≤ 140737488355328 := by obtain ⟨_, _, _, _, h, _⟩ := d3; exact h
      have hb3 := below_alloc wr (.cells #[.int .i64 t, .string lo, .slice va code.length vc] 56)
      have hr3 := heap_alloc_new wr (.cells #[.int .i64 t, .string lo, .slice va code.length vc] 56)
      have HH3 := Lib.hid (HH.out.on hb3)
      have HR3 := Lib.hid hr3
      have HD3 := Lib.hid (CdS.keeps d3 (Keeps.all S hb3) fun _ h => h)
      have y0 := row_cell hr3 0 rfl; have y1 := row_cell hr3 1 rfl; have y2 := row_cell hr3 2 rfl
      simp only [List.getElem_toArray, List.getElem_cons_zero, List.getElem_cons_succ] at y0 y1 y2
      have c0 := HH3.out.mc (i := 0) rfl
      unfold i64P at hst
      clear hb3 hr3 HH d3 hwc
      go_wp2_with fail
      generalize wr.alloc (.cells #[.int .i64 t, .string lo, .slice va code.length vc] 56) = w3 at *
      generalize wr.heap.size = g3 at *
      refine (wm_index base _ p v xs _ _ HH3.out.wm HH3.out.hb (by omega) t m.types.length (by omega)).mono ?_
      rintro e w4 (⟨e1, rfl, v4, k1, k2⟩ | ⟨e1, rfl, rfl⟩)
      rotate_left
      · have HE : Hid (bodyE m = 30) := Lib.hid (body_fk (by omega) hlt HE0.out (by rw [HXK.out, HFK.out, thenE_l _ (by rw [errI, if_neg e1]; decide), errI, if_neg e1]) (by decide))
        exact ⟨rfl, .inr ⟨by rw [HE.out]; decide, by rw [HE.out], HH3.out.wt.keep⟩⟩
      have HE1 : Hid (errI m.types.length t = 0) := Lib.hid (by rw [errI, if_pos e1])
      have HH4 := Lib.hid (HH3.out.put k1 k2)
      have HR4 := Lib.hid (HH3.out.kept k2 HR3.out (by decide) (by decide))
      have hul := uv_len10 (n := t.toNat) (by omega)
      have hx4 : (xs ++ uv t.toNat).length ≤ 10010 + 100 * k + 200 * al + 10 := by rw [List.length_append]; omega
      have HX4 : Hid (xs ++ uv t.toNat = xs0 ++ (uv m.funs.length ++ ((m.funs.take k).flatMap encF ++ encN t))) := Lib.hid (by rw [HX.out]; simp [encN])
      have HD4 := Lib.hid (CdS.keeps HD3.out (HH3.out.kS k2) fun _ h => h)
      clear k1 k2 HH3 HR3 HX hx hul y0 y1 y2 c0 d0 d1 d2 HD3
      generalize xs ++ uv t.toNat = xs4 at *
      obtain ⟨T, rfl⟩ := Int.eq_ofNat_of_zero_le e1.1
      have hT : T < m.types.length := by omega
      have y0 := row_cell HR4.out 0 rfl; have y1 := row_cell HR4.out 1 rfl
      simp only [List.getElem_toArray, List.getElem_cons_zero, List.getElem_cons_succ] at y0 y1
      go_wp2_with fail
      go_still_tail 11, (by kernel_rfl)
      still_call (mod_room _ p sb _ _ tvs m.types T hT (HH4.out.on (drew_bel w4)).rl rfl ((HH4.out.on (drew_bel w4)).sigsA (by omega)) (by have := HG2.out m.types[T] (List.getElem_mem _); omega))
      refine wpStill_nil ?_
      have hrm := roomT_le m.types (T : Int)
      obtain ⟨R, hR⟩ : ∃ R, roomT m.types (T : Int) = R := ⟨_, rfl⟩
      rw [hR] at hrm
      simp only [hR]
      have HR := Lib.hid hR
      clear hR
      go_wp2_with fail
      refine (mod_letters _ _ lo R R 0 rfl (by omega) hsl).mono ?_
      rintro e w5 (⟨e2, rfl, hb5⟩ | ⟨e2, rfl, hb5⟩)
      rotate_left
      · have HE : Hid (bodyE m = errT5 R lo) := Lib.hid (body_fk (by omega) hlt HE0.out (by rw [HXK.out, HFK.out, thenE_r _ HE1.out, HR.out, ← errT5_eq, thenE_l _ e2]) e2)
        exact ⟨rfl, .inr ⟨by rw [HE.out]; exact e2, by rw [HE.out], (HH4.out.on (below_next (drew_bel _) hb5)).wt.keep⟩⟩
      have hlo := errT_le e2
      have hb45 := below_next (drew_bel w4) hb5
      have HH5 := Lib.hid (HH4.out.on hb45)
      have HR5 := Lib.hid ((hb45.block _ (row_lt HR4.out)).trans HR4.out)
      have HD5 := Lib.hid (CdS.keeps HD4.out (Keeps.all S hb45) fun _ h => h)
      have E2 := Lib.hid e2
      clear hb5 hb45 HH4 HR4 HD4 e2 y0 y1
      have y1 := row_cell HR5.out 1 rfl
      simp only [List.getElem_toArray, List.getElem_cons_zero, List.getElem_cons_succ] at y1
      go_wp2_with fail
      refine (wm_text base _ p v4 xs4 _ _ HH5.out.wm HH5.out.hb (by omega) lo (by omega)).mono ?_
      rintro e w6 ⟨rfl, v6, k1, k2⟩
      have HH6 := Lib.hid (HH5.out.put k1 k2)
      have HR6 := Lib.hid (HH5.out.kept k2 HR5.out (by decide) (by decide))
      have HD6 := Lib.hid (CdS.keeps HD5.out (HH5.out.kS k2) fun _ h => h)
      have hxl := encT_len (s := lo) (by omega)
      have hx6 : (xs4 ++ encT lo).length ≤ 10010 + 100 * k + 200 * al + 84 := by rw [List.length_append]; omega
      have HX6 : Hid (xs4 ++ encT lo = xs0 ++ (uv m.funs.length ++ ((m.funs.take k).flatMap encF ++ (encN (T : Int) ++ encT lo)))) := Lib.hid (by rw [HX4.out]; simp)
      clear k1 k2 HH5 HR5 HD5 y1 hxl hx4 HX4
      generalize xs4 ++ encT lo = xs6 at *
      have y2 := row_cell HR6.out 2 rfl
      have p1 := row_cell HH6.out.wm.row 1 rfl; have pf := row_free HH6.out.wm.row 1
      simp only [List.getElem_toArray, List.getElem_cons_zero, List.getElem_cons_succ] at y2 p1
      go_wp2_with fail
      go_still_tail 6, (by kernel_rfl)
      go_wp2_with fail
      refine (mod_code w6.drew p al code.length 0 p1 pf (by omega) (by omega)).mono ?_
      rintro e w7 (⟨e3, rfl, rfl⟩ | ⟨e3, rfl, u, e4⟩)
      rotate_left
      · have HE : Hid (bodyE m = 20) := Lib.hid (body_fk (by omega) hlt HE0.out (by rw [HXK.out, HFK.out, thenE_r _ HE1.out, HR.out, ← errT5_eq, thenE_r _ E2.out, if_neg (by rw [e3]; decide)]) (by decide))
        refine ⟨rfl, .inr ⟨by rw [HE.out]; decide, by rw [HE.out], ?_⟩⟩
        rcases e4 with rfl | rfl
        · exact (HH6.out.on (drew_bel w6)).wt.keep
        · exact (HH6.out.on (drew_bel w6)).codeP u
      have hcl2 : code.length ≤ 2048 ∧ al + code.length ≤ 16384 := by
        unfold errC at e3
        split at e3; · exact absurd e3 (by decide)
        split at e3; · exact absurd e3 (by decide)
        omega
      have E3 := Lib.hid e3
      have HH7 := Lib.hid ((HH6.out.on (drew_bel w6)).code ((al + code.length : Nat) : Int))
      have HR7 := Lib.hid ((HH6.out.on (drew_bel w6)).codeK (.int .i64 ((al + code.length : Nat) : Int)) (((drew_bel w6).block _ (row_lt HR6.out)).trans HR6.out) (by decide))
      have HD7 := Lib.hid (CdS.keeps HD6.out ((Keeps.all S (drew_bel w6)).trans ((HH6.out.on (drew_bel w6)).kC (.int .i64 ((al + code.length : Nat) : Int)))) fun _ h => h)
      clear e3 HH6 HR6 HD6 y2 p1 pf
      generalize w6.drew.setCell ⟨p, 1, none⟩ (.int .i64 ((al + code.length : Nat) : Int)) = w7 at *
      have y2 := row_cell HR7.out 2 rfl
      simp only [List.getElem_toArray, List.getElem_cons_zero, List.getElem_cons_succ] at y2
      go_wp2_with fail
      refine (wm_number base _ p v6 xs6 _ _ HH7.out.wm HH7.out.hb (by omega) code.length (by omega)).mono ?_
      rintro e w8 ⟨rfl, v8, k1, k2⟩
      have HH8 := Lib.hid (HH7.out.put k1 k2)
      have HR8 := Lib.hid (HH7.out.kept k2 HR7.out (by decide) (by decide))
      have HD8 := Lib.hid (CdS.keeps HD7.out (HH7.out.kS k2) fun _ h => h)
      have hxl := uv_len10 (n := code.length) (by omega)
      have hx8 : (xs6 ++ uv code.length).length ≤ 10010 + 100 * k + 200 * al + 94 := by rw [List.length_append]; omega
      have HX8 : Hid (xs6 ++ uv code.length = xs0 ++ (uv m.funs.length ++ ((m.funs.take k).flatMap encF ++ (encN (T : Int) ++ (encT lo ++ (uv code.length ++ (code.take 0).flatMap encI)))))) := Lib.hid (by rw [HX6.out]; simp)
      clear k1 k2 HH7 HR7 HD7 y2 hxl hx6 HX6
      generalize xs6 ++ uv code.length = xs8 at *
      have y2 := row_cell HR8.out 2 rfl
      simp only [List.getElem_toArray, List.getElem_cons_zero, List.getElem_cons_succ] at y2
      go_wp2_with fail
      go_loopw [64] (fun i wr => ∃ (j : Nat) (v : Value) (xs : List Int), j ≤ code.length ∧ i = .int .i64 j ∧ Hid (Hs base w p v0 S _ m ((al + code.length : Nat) : Int) mb sb m.types.length tvs wr v xs) ∧ Hid (CdS S wr (.slice va code.length vc) code) ∧ Hid (xs = xs0 ++ (uv m.funs.length ++ ((m.funs.take k).flatMap encF ++ (encN (T : Int) ++ (encT lo ++ (uv code.length ++ (code.take j).flatMap encI)))))) ∧ xs.length ≤ 10010 + 100 * k + 200 * al + 94 + 200 * j ∧ Hid (errL (fun _ => checkI) [] (code.take j) = 0)) (fun i _ => code.length - (intOf i).toNat)
      case atStart => exact ⟨0, _, _, by omega, rfl, HH8, HD8, HX8, by omega, rfl⟩
      case round =>
        clear HH8 HD8 HX8 hx8 y2 HR8
        obtain ⟨j, v, xs, hj, rfl, HH, HD, HX, hx, HEI⟩ := hrel
        by_cases hlj : j < code.length
        · obtain ⟨b2, off2, vl, rfl, d0, d1, d2, d3⟩ := Cd.at_ HD.out hlj
          have wfi := HWC.out code[j] (List.getElem_mem _)
          obtain ⟨la, lc, rfl, _⟩ := d3.len
          obtain ⟨x, hxj⟩ : ∃ x, code[j] = x := ⟨_, rfl⟩
          rw [hxj] at d0 d1 d2 d3 wfi
          have HXJ := Lib.hid hxj
          clear hxj
          obtain ⟨op, ia, il⟩ := x
          simp only at d0 d1 d2 d3
          have hb9 := below_alloc wr (.cells #[.int .u8 op, .int .i64 ia, .slice la il.length lc] 68)
          have hr9 := heap_alloc_new wr (.cells #[.int .u8 op, .int .i64 ia, .slice la il.length lc] 68)
          have HH9 := Lib.hid (HH.out.on hb9)
          have HD9 := Lib.hid (CdS.keeps HD.out (Keeps.all S hb9) fun _ h => h)
          have HI9 := Lib.hid (d3.keeps (Keeps.all S hb9))
          have HWI := Lib.hid wfi
          have y0 := row_cell hr9 0 rfl; have y1 := row_cell hr9 1 rfl; have y2 := row_cell hr9 2 rfl
          simp only [List.getElem_toArray, List.getElem_cons_zero, List.getElem_cons_succ] at y0 y1 y2
          have hel := encI_len wfi
          clear hb9 hr9 HH HD d3 wfi
          go_wp2_with fail
          generalize wr.alloc (.cells #[.int .u8 op, .int .i64 ia, .slice la il.length lc] 68) = w9 at *
          generalize wr.heap.size = g9 at *
          refine (instr_Encode w9 S ⟨op, ia, il⟩ _ HWI.out HI9.out (HH9.out.tb HTB.out.2.1 HTB.out.1 HTB.out.2.2)).mono ?_
          rintro e w10 ⟨v10, rfl, hb10, ho10, hn10⟩
          have HH10 := Lib.hid (HH9.out.on hb10)
          have HD10 := Lib.hid (CdS.keeps HD9.out (Keeps.all S hb10) fun _ h => h)
          clear hb10 HH9 HD9 HI9 y0 y1 y2 d0 d1 d2
          by_cases hck : checkI ⟨op, ia, il⟩ = 0
          · have hpos : 0 < (encI ⟨op, ia, il⟩).length := by rw [encI, if_pos hck]; simp
            obtain ⟨g10, cap10, rfl, _, _⟩ := ho10.form hpos
            have HE' : Hid (errL (fun _ => checkI) [] (code.take (j + 1)) = 0) := Lib.hid (errL_good hlj HEI.out (by rw [HXJ.out]; exact hck))
            have HX' : Hid (xs ++ encI ⟨op, ia, il⟩ = xs0 ++ (uv m.funs.length ++ ((m.funs.take k).flatMap encF ++ (encN (T : Int) ++ (encT lo ++ (uv code.length ++ (code.take (j + 1)).flatMap encI)))))) := Lib.hid (by rw [HX.out, flat_snoc hlj, HXJ.out]; simp)
            rw [hck]
            have HOE := Lib.hid ho10
            clear ho10 hn10 hck HX HXJ HEI
            generalize encI ⟨op, ia, il⟩ = ys at *
            have hx' : (xs ++ ys).length ≤ 10010 + 100 * k + 200 * al + 94 + 200 * (j + 1) := by rw [List.length_append]; omega
            have p2 := row_cell HH10.out.wm.row 2 rfl; have pf := row_free HH10.out.wm.row 2
            simp only [List.getElem_toArray, List.getElem_cons_zero, List.getElem_cons_succ] at p2
            go_wp2_with (first
              | (go_at_call 30; refine (mod_ask _ _ _ _).mono ?_; rintro r w11 ⟨rfl, rfl⟩)
              | (at_builtin; refine wpList_append_kept _ rfl _ _ 41 rfl base 5 i0 (.int .u8 0) 1 1 Tryd.underlying41 hi hz0 hz1 hz2 rfl (by decide) v xs.length (xs.map (Value.int .u8)) rfl HH10.out.wm.own ⟨g10, 0, none⟩ ys.length cap10 (ys.map (Value.int .u8)) rfl (by simp) (HOE.out.cells rfl) (by intro u hu; simp at hu; obtain ⟨x, _, rfl⟩ := hu; rfl) (by unfold maxLen; omega) (by omega) HH10.out.hb ?_))
            intro v12 w12 ho12 hk12 hg12
            obtain ⟨g12, c12, rfl, _, _⟩ := ho12.form (by omega)
            have P := wm_put2 HH10.out.wm rfl ho12 hk12.grown (hg12 g12 rfl)
            have HP := Lib.hid (HH10.out.put P.1 P.2)
            have HDP := Lib.hid (CdS.keeps HD10.out (HH10.out.kS P.2) fun _ h => h)
            have hr12 := grown_block hk12.grown HH10.out.wm.row HH10.out.wm.apart
            have q2 := row_cell hr12 2 rfl; have qf := row_free hr12 2
            simp only [List.getElem_toArray, List.getElem_cons_zero, List.getElem_cons_succ] at q2
            clear P ho12 hk12 hg12 hr12 HH10 HD10 HOE p2 pf
            go_wp2_with fail
            generalize xs ++ ys = xs12 at *
            go_roundw
            case rel => exact ⟨j + 1, _, _, by omega, by go_num, HP, HDP, HX', by omega, HE'⟩
            case measure => simp [intOf]; omega
          · have HE : Hid (bodyE m = checkI ⟨op, ia, il⟩) := Lib.hid (body_fk (by omega) hlt HE0.out (by rw [HXK.out, HFK.out, thenE_r _ HE1.out, HR.out, ← errT5_eq, thenE_r _ E2.out, if_pos E3.out, errL_bad hlj HEI.out (by rw [HXJ.out]; exact hck), HXJ.out]) hck)
            have hvn := hn10 hck
            subst hvn
            clear ho10 hn10 HXJ
            generalize checkI ⟨op, ia, il⟩ = z at *
            have hz0 : (z == 0) = false := by simpa using hck
            go_wp2_with (go_at_call 30; refine (mod_ask _ _ _ _).mono ?_; rintro r w11 ⟨rfl, rfl⟩)
            exact ⟨rfl, .inr ⟨by rw [HE.out]; exact hck, by rw [HE.out], HH10.out.wt.keep⟩⟩
        · obtain rfl : j = code.length := by omega
          have HE' : Hid (errL (errF m.types) [] (m.funs.take (k + 1)) = 0) := Lib.hid (errL_good hlt HE0.out (by rw [HXK.out, HFK.out, thenE_r _ HE1.out, HR.out, ← errT5_eq, thenE_r _ E2.out, if_pos E3.out]; have := HEI.out; rwa [List.take_of_length_le (Nat.le_refl _)] at this))
          have HX' : Hid (xs = xs0 ++ (uv m.funs.length ++ (m.funs.take (k + 1)).flatMap encF)) := Lib.hid (by rw [HX.out, flat_snoc hlt, HXK.out, List.take_of_length_le (Nat.le_refl _)]; simp [encF])
          have HH' : Hid (Hs base w p v0 S _ m ((allOf (m.funs.take (k + 1)) : Nat) : Int) mb sb m.types.length tvs wr v xs) := Lib.hid (by have := HH.out; rw [← HAL.out] at this; exact this)
          have hxk : xs.length ≤ 10010 + 100 * (k + 1) + 200 * allOf (m.funs.take (k + 1)) := by rw [HAL.out]; omega
          have hak : allOf (m.funs.take (k + 1)) ≤ 16384 := by rw [HAL.out]; omega
          clear HH HX hx HD HEI HE0 HXK HFK HE1 HR E2 E3 HAL
          go_wp2_with fail
          go_roundw
          case rel => exact ⟨k + 1, _, _, by omega, by go_num, HH', HX', hxk, HE', hak⟩
          case measure => simp [intOf]; omega
    · obtain rfl : k = m.funs.length := by omega
      have HFU := Lib.hid (errMany_ok (most := 128) (e := errF m.types) (l := m.funs) (by omega) HE0.out)
      have HX1 : Hid (xs = xs0 ++ encMany encF m.funs) := Lib.hid (by rw [HX.out, List.take_of_length_le (Nat.le_refl _)]; rfl)
      have hx1 : xs.length ≤ 3400000 := by omega
      obtain ⟨al, hal⟩ : ∃ al, ((allOf (m.funs.take m.funs.length) : Nat) : Int) = al := ⟨_, rfl⟩
      rw [hal] at HH
      clear HE0 HX hx hk hall hal
      have c6 := HH.out.mc (i := 6) rfl
      go_wp2_with fail
      refine (wm_countM base _ p v xs _ al HH.out.wm HH.out.hb (by omega) m.datas.length 64 64 rfl (by omega)).mono ?_
      rintro e w3 (⟨h2, rfl, v1, k1, k2⟩ | ⟨h2, rfl, rfl⟩)
      rotate_left
      · have HE : Hid (bodyE m = 20) := Lib.hid (body_da HFU.out (errMany_20 h2) (by decide))
        exact ⟨rfl, .inr ⟨by rw [HE.out]; decide, by rw [HE.out], HH.out.wt.keep⟩⟩
      have HH1 := Lib.hid (HH.out.put k1 k2)
      have HX2 : Hid (xs ++ uv m.datas.length = xs0 ++ (encMany encF m.funs ++ (uv m.datas.length ++ (m.datas.take 0).flatMap encD))) := Lib.hid (by rw [HX1.out]; simp)
      have hx2 : (xs ++ uv m.datas.length).length ≤ 3400010 := by have := uv_len10 (n := m.datas.length) (by omega); rw [List.length_append]; omega
      clear k1 k2 HH HX1 hx1 c6
      generalize xs ++ uv m.datas.length = xs2 at *
      have c6 := HH1.out.mc (i := 6) rfl
      obtain ⟨R, hR⟩ : ∃ R, (m.first * 4096).toNat = R := ⟨_, rfl⟩
      have hRf : ((m.first.toNat : Nat) : Int) * 4096 = R := by omega
      have hRm : m.first * 4096 = R := by omega
      have hRl : R ≤ 262144 := by omega
      have HR := Lib.hid hR; have HRF := Lib.hid hRf; have HRM := Lib.hid hRm
      clear hR hRf hRm
      go_wp2_with fail
      go_loopw [96] (fun i wr => ∃ (k : Nat) (v : Value) (xs : List Int), k ≤ m.datas.length ∧ i = .int .i64 k ∧ Hid (Hs base w p v0 S _ m al mb sb m.types.length tvs wr v xs) ∧ Hid (xs = xs0 ++ (encMany encF m.funs ++ (uv m.datas.length ++ (m.datas.take k).flatMap encD))) ∧ xs.length ≤ 3400010 + 300000 * k ∧ Hid (errL (errD R) [] (m.datas.take k) = 0)) (fun i _ => m.datas.length - (intOf i).toNat)
      case atStart => exact ⟨0, _, _, by omega, rfl, HH1, HX2, by omega, rfl⟩
      case round =>
        clear HH1 HX2 hx2 c6
        obtain ⟨k, v, xs, hk, rfl, HH, HX, hx, HE0⟩ := hrel
        by_cases hlt : k < m.datas.length
        · obtain ⟨_, _, _, _, rr1, _⟩ := HH.out.rd.parts
          have hcap := rr1.cap.1
          obtain ⟨b, off, ba, bc, rfl, d0, d1, d2⟩ := da_at rr1 hlt
          have hRT := Lib.hid (rr1.take hk)
          have hat := HSM.out.ats m.datas[k] (List.getElem_mem _)
          have hby := HWF.out.datas m.datas[k] (List.getElem_mem _)
          obtain ⟨x, hxk⟩ : ∃ x, m.datas[k] = x := ⟨_, rfl⟩
          rw [hxk] at d0 d1 d2 hat hby
          have HXK := Lib.hid hxk
          clear hxk rr1
          obtain ⟨at_, bs⟩ := x
          simp only at d0 d1 d2 hat hby
          unfold i64P at hat
          have hbl : bs.length ≤ 140737488355328 := by obtain ⟨_, _, _, _, h, _⟩ := d2; exact h
          have HBY := Lib.hid hby
          have hb3 := below_alloc wr (.cells #[.int .i64 at_, .slice ba bs.length bc] 43)
          have hr3 := heap_alloc_new wr (.cells #[.int .i64 at_, .slice ba bs.length bc] 43)
          have HH3 := Lib.hid (HH.out.on hb3)
          have HR3 := Lib.hid hr3
          have HD3 := Lib.hid (d2.keeps (Keeps.all S hb3))
          have HT3 := Lib.hid (RdL.map hRT.out (Keeps.all S hb3) (fun _ h => h) (fun _ _ h => h.keeps (Keeps.all S hb3)))
          have y0 := row_cell hr3 0 rfl; have y1 := row_cell hr3 1 rfl
          simp only [List.getElem_toArray, List.getElem_cons_zero, List.getElem_cons_succ] at y0 y1
          have c6 := HH3.out.mc (i := 6) rfl
          have c3 := HH3.out.mc (i := 3) rfl
          clear hb3 hr3 HH d2 hby hRT
          go_wp2_with fail
          generalize wr.alloc (.cells #[.int .i64 at_, .slice ba bs.length bc] 43) = w3 at *
          generalize wr.heap.size = g3 at *
          have hk0 : (0 : Int) ≤ k := by omega
          have hkc : (k : Int) ≤ dc := by omega
          go_still_tail 9, (by kernel_rfl)
          go_wp2_with fail
          refine (mod_starts w3.drew p sb _ S m.first.toNat R (by omega) HRF.out (HH3.out.on (drew_bel w3)).rl (by show some (Value.int .i64 m.first) = _; rw [Int.toNat_of_nonneg g3']) at_ _ (m.datas.take k) (RdL.map HT3.out (Keeps.all S (drew_bel w3)) (fun _ h => h) (fun _ _ h => h.keeps (Keeps.all S (drew_bel w3)))) (by rw [List.length_take]; omega) (by have := behindD_le hk HE0.out; omega) (fun d hd => by have := dat_ok HE0.out d hd; omega) 0).mono ?_
          rintro e w4 (⟨e1, rfl, hb4⟩ | ⟨e1, rfl, hb4⟩)
          rotate_left
          · have HE : Hid (bodyE m = errSt R (m.datas.take k) at_) := Lib.hid (body_da HFU.out (by rw [HR.out, errMany_bad (by omega) hlt HE0.out (by rw [HXK.out, errD_st, if_neg e1]; exact e1), HXK.out, errD_st, if_neg e1]) e1)
            exact ⟨rfl, .inr ⟨by rw [HE.out]; exact e1, by rw [HE.out], (HH3.out.on (below_next (drew_bel w3) hb4)).wt.keep⟩⟩
          have hr1 : 0 ≤ at_ ∧ at_ ≤ R := by
            unfold errSt at e1
            split at e1
            · exact absurd e1 (by decide)
            · omega
          have hb34 := below_next (drew_bel w3) hb4
          have HH4 := Lib.hid (HH3.out.on hb34)
          have HR4 := Lib.hid ((hb34.block _ (row_lt HR3.out)).trans HR3.out)
          have HD4 := Lib.hid (HD3.out.keeps (Keeps.all S hb34))
          have E1 := Lib.hid e1
          clear hb4 hb34 HH3 HR3 HD3 HT3 e1 y0 y1 c6 c3 d0 d1
          have y0 := row_cell HR4.out 0 rfl
          simp only [List.getElem_toArray, List.getElem_cons_zero] at y0
          go_wp2_with fail
          refine (wm_numberI base _ p v xs _ _ HH4.out.wm HH4.out.hb (by omega) at_ hr1.1 (by omega)).mono ?_
          rintro e w5 ⟨rfl, v5, k1, k2⟩
          have HH5 := Lib.hid (HH4.out.put k1 k2)
          have HR5 := Lib.hid (HH4.out.kept k2 HR4.out (by decide) (by decide))
          have HD5 := Lib.hid (HD4.out.keeps (HH4.out.kS k2))
          have hul := encN_len hr1.1 (by omega)
          have hx5 : (xs ++ encN at_).length ≤ 3400010 + 300000 * k + 10 := by rw [List.length_append]; omega
          have HX5 : Hid (xs ++ encN at_ = xs0 ++ (encMany encF m.funs ++ (uv m.datas.length ++ ((m.datas.take k).flatMap encD ++ encN at_)))) := Lib.hid (by rw [HX.out]; simp)
          clear k1 k2 HH4 HR4 HD4 y0 hul hx HX
          generalize xs ++ encN at_ = xs5 at *
          have y0 := row_cell HR5.out 0 rfl; have y1 := row_cell HR5.out 1 rfl
          simp only [List.getElem_toArray, List.getElem_cons_zero, List.getElem_cons_succ] at y0 y1
          have c3 := HH5.out.mc (i := 3) rfl
          have hRM := HRM.out
          obtain ⟨L, hL⟩ : ∃ L, bs.length = L := ⟨_, rfl⟩
          rw [hL] at y1 hbl
          by_cases h13 : (R : Int) - at_ < L
          · have HE : Hid (bodyE m = 13) := Lib.hid (body_da HFU.out (by rw [HR.out, errMany_bad (by omega) hlt HE0.out (by rw [HXK.out, errD_st, if_pos E1.out, if_pos (by rw [hL]; exact h13)]; decide), HXK.out, errD_st, if_pos E1.out, if_pos (by rw [hL]; exact h13)]) (by decide))
            have hd : decide ((L : Int) ≤ m.first * 4096 - at_) = false := decide_eq_false (by omega)
            clear hRM
            go_wp2_with (go_at_call 30; refine (mod_ask _ _ _ _).mono ?_; rintro r w11 ⟨rfl, rfl⟩)
            exact ⟨rfl, .inr ⟨by rw [HE.out]; decide, by rw [HE.out], HH5.out.wt.keep⟩⟩
          · have hd : decide ((L : Int) ≤ m.first * 4096 - at_) = true := decide_eq_true (by omega)
            by_cases h17 : L = 0
            · have HE : Hid (bodyE m = 17) := Lib.hid (body_da HFU.out (by rw [HR.out, errMany_bad (by omega) hlt HE0.out (by rw [HXK.out, errD_st, if_pos E1.out, if_neg (by rw [hL]; exact h13), if_pos (by rw [hL]; exact h17)]; decide), HXK.out, errD_st, if_pos E1.out, if_neg (by rw [hL]; exact h13), if_pos (by rw [hL]; exact h17)]) (by decide))
              have hdA : 0 ≤ m.first * 4096 - at_ := by omega
              have hdB : at_ ≤ m.first * 4096 := by omega
              clear hRM hd h13
              subst h17
              go_wp2_with (go_at_call 30; refine (mod_ask _ _ _ _).mono ?_; rintro r w11 ⟨rfl, rfl⟩)
              all_goals exact ⟨rfl, .inr ⟨by rw [HE.out]; decide, by rw [HE.out], HH5.out.wt.keep⟩⟩
            · have hd2 : decide ((0 : Int) < L) = true := decide_eq_true (by omega)
              have hL0 : 0 < L := by omega
              have HE' : Hid (errL (errD R) [] (m.datas.take (k + 1)) = 0) := Lib.hid (errL_good hlt HE0.out (by rw [HXK.out, errD_st, if_pos E1.out, if_neg (by rw [hL]; exact h13), if_neg (by rw [hL]; exact h17)]))
              have hLR : L ≤ 262144 := by omega
              have hcv : (convert 41 9 (.slice ba L bc)).run Tryd.prog w5 = .ok (.string (tx bs)) w5 := by
                obtain ⟨a', c', e', _, _, h3⟩ := HD5.out
                rw [hL] at e'
                simp only [Value.slice.injEq] at e'
                obtain ⟨rfl, _, _⟩ := e'
                obtain ⟨bb, oo, rfl, _, _⟩ := h3 0 (by omega)
                refine run_convert_bytes_arg (P := Tryd.prog) w5 41 5 Tryd.underlying41 Tryd.underlying5 bb oo L bc bs hL (fun i hi => ?_) 9 Tryd.underlying9
                obtain ⟨b', o', e1, _, e3⟩ := h3 i (by omega)
                simp only [Option.some.injEq, Addr.mk.injEq, and_true] at e1
                obtain ⟨rfl, rfl⟩ := e1
                rw [e3, List.getD_eq_getElem?_getD, List.getElem?_eq_getElem (by omega)]; rfl
              have hsz : (tx bs).size = L := by rw [tx_size, hL]
              have HTE : Hid (encT (tx bs) = uv bs.length ++ bs) := Lib.hid (by rw [encT, tx_size, bys_tx HBY.out])
              have HSZ := Lib.hid hsz
              have hsz' : (tx bs).size ≤ 262144 := by omega
              have hxl := encT_len (s := tx bs) (by omega)
              have HX' : Hid (xs5 ++ encT (tx bs) = xs0 ++ (encMany encF m.funs ++ (uv m.datas.length ++ (m.datas.take (k + 1)).flatMap encD))) := Lib.hid (by rw [HX5.out, flat_snoc hlt, HXK.out, HTE.out]; simp [encD])
              have hx' : (xs5 ++ encT (tx bs)).length ≤ 3400010 + 300000 * (k + 1) := by rw [List.length_append]; omega
              have HL := Lib.hid hL
              clear hRM hsz HTE HXK HX5 hL
              generalize tx bs = sx at *
              go_wp2_with (go_at_call 30; refine (mod_ask _ _ _ _).mono ?_; rintro r w11 ⟨rfl, rfl⟩)
              refine (wm_text base _ p v5 xs5 _ _ HH5.out.wm HH5.out.hb (by omega) sx (by omega)).mono ?_
              rintro e w6 ⟨rfl, v6, k1, k2⟩
              have HH6 := Lib.hid (HH5.out.put k1 k2)
              clear k1 k2 HH5 HR5 HD5 y0 y1 c3 hxl hcv
              generalize xs5 ++ encT sx = xs6 at *
              go_wp2_with fail
              go_roundw
              case rel => exact ⟨k + 1, _, _, by omega, by go_num, HH6, HX', by omega, HE'⟩
              case measure => simp [intOf]; omega
        · obtain rfl : k = m.datas.length := by omega
          have HDA := Lib.hid (errMany_ok (most := 64) (e := errD R) (l := m.datas) (by omega) HE0.out)
          have HBE : Hid (bodyE m = errMany 64 (errE m.funs.length) m.exps) := Lib.hid (body_ex HFU.out (by rw [HR.out]; exact HDA.out))
          have HX1 : Hid (xs = xs0 ++ (encMany encF m.funs ++ encMany encD m.datas)) := Lib.hid (by rw [HX.out, List.take_of_length_le (Nat.le_refl _)]; rfl)
          have hx1 : xs.length ≤ 30000000 := by omega
          clear HE0 HX hx hk HDA HFU
          have c7 := HH.out.mc (i := 7) rfl
          go_wp2_with fail
          refine (wm_countM base _ p v xs _ al HH.out.wm HH.out.hb (by omega) m.exps.length 64 64 rfl (by omega)).mono ?_
          rintro e w3 (⟨h3, rfl, v1, k1, k2⟩ | ⟨h3, rfl, rfl⟩)
          rotate_left
          · have HE : Hid (bodyE m = 20) := Lib.hid (by rw [HBE.out, errMany_20 h3])
            exact ⟨rfl, .inr ⟨by rw [HE.out]; decide, by rw [HE.out], HH.out.wt.keep⟩⟩
          have HH1 := Lib.hid (HH.out.put k1 k2)
          have HX2 : Hid (xs ++ uv m.exps.length = xs0 ++ (encMany encF m.funs ++ (encMany encD m.datas ++ (uv m.exps.length ++ (m.exps.take 0).flatMap encE)))) := Lib.hid (by rw [HX1.out]; simp)
          have hx2 : (xs ++ uv m.exps.length).length ≤ 30000010 := by have := uv_len10 (n := m.exps.length) (by omega); rw [List.length_append]; omega
          clear k1 k2 HH HX1 hx1 c7
          generalize xs ++ uv m.exps.length = xs2 at *
          have c7 := HH1.out.mc (i := 7) rfl
          go_wp2_with fail
          go_loopw [145] (fun i wr => ∃ (k : Nat) (v : Value) (xs : List Int), k ≤ m.exps.length ∧ i = .int .i64 k ∧ Hid (Hs base w p v0 S _ m al mb sb m.types.length tvs wr v xs) ∧ Hid (xs = xs0 ++ (encMany encF m.funs ++ (encMany encD m.datas ++ (uv m.exps.length ++ (m.exps.take k).flatMap encE)))) ∧ xs.length ≤ 30000010 + 100 * k ∧ Hid (errL (errE m.funs.length) [] (m.exps.take k) = 0)) (fun i _ => m.exps.length - (intOf i).toNat)
          case atStart => exact ⟨0, _, _, by omega, rfl, HH1, HX2, by omega, rfl⟩
          case round =>
            clear HH1 HX2 hx2 c7
            obtain ⟨k, v, xs, hk, rfl, HH, HX, hx, HE0⟩ := hrel
            by_cases hlt : k < m.exps.length
            · obtain ⟨_, _, _, _, _, rr1⟩ := HH.out.rd.parts
              have hcap := rr1.cap.1
              obtain ⟨b, off, rfl, d0, d1⟩ := ex_at rr1 hlt
              have hRT := Lib.hid (rr1.take hk)
              have hfx := HSM.out.exf m.exps[k] (List.getElem_mem _)
              obtain ⟨x, hxk⟩ : ∃ x, m.exps[k] = x := ⟨_, rfl⟩
              rw [hxk] at d0 d1 hfx
              have HXK := Lib.hid hxk
              clear hxk rr1
              obtain ⟨nm, fx⟩ := x
              simp only at d0 d1 hfx
              unfold i64P at hfx
              have hb3 := below_alloc wr (.cells #[.string nm, .int .i64 fx] 59)
              have hr3 := heap_alloc_new wr (.cells #[.string nm, .int .i64 fx] 59)
              have HH3 := Lib.hid (HH.out.on hb3)
              have HR3 := Lib.hid hr3
              have HT3 := Lib.hid (RdL.map hRT.out (Keeps.all S hb3) (fun _ h => h) (R' := RExp) (fun _ _ h => h))
              have y0 := row_cell hr3 0 rfl; have y1 := row_cell hr3 1 rfl
              simp only [List.getElem_toArray, List.getElem_cons_zero, List.getElem_cons_succ] at y0 y1
              have c7 := HH3.out.mc (i := 7) rfl
              clear hb3 hr3 HH hRT
              go_wp2_with fail
              generalize wr.alloc (.cells #[.string nm, .int .i64 fx] 59) = w3 at *
              generalize wr.heap.size = g3 at *
              have hk0 : (0 : Int) ≤ k := by omega
              have hkc : (k : Int) ≤ ec := by omega
              go_still_tail 6, (by kernel_rfl)
              go_wp2_with fail
              refine (mod_named w3.drew S nm _ (m.exps.take k) (RdL.map HT3.out (Keeps.all S (drew_bel w3)) (fun _ h => h) (R' := RExp) (fun _ _ h => h)) 0).mono ?_
              rintro e w4 (⟨e1, rfl, hb4⟩ | ⟨e1, rfl, hb4⟩)
              rotate_left
              · have HE : Hid (bodyE m = errName (m.exps.take k) nm) := Lib.hid (by rw [HBE.out, errMany_bad (by omega) hlt HE0.out (by rw [HXK.out, errE, thenE_l _ e1]; exact e1), HXK.out, errE, thenE_l _ e1])
                exact ⟨rfl, .inr ⟨by rw [HE.out]; exact e1, by rw [HE.out], (HH3.out.on (below_next (drew_bel w3) hb4)).wt.keep⟩⟩
              have hnm := errName_32 e1
              have hb34 := below_next (drew_bel w3) hb4
              have HH4 := Lib.hid (HH3.out.on hb34)
              have HR4 := Lib.hid ((hb34.block _ (row_lt HR3.out)).trans HR3.out)
              have E1 := Lib.hid e1
              clear hb4 hb34 HH3 HR3 HT3 e1 y0 y1 c7 d0 d1
              have y0 := row_cell HR4.out 0 rfl
              simp only [List.getElem_toArray, List.getElem_cons_zero] at y0
              go_wp2_with fail
              refine (wm_text base _ p v xs _ _ HH4.out.wm HH4.out.hb (by omega) nm (by omega)).mono ?_
              rintro e w5 ⟨rfl, v5, k1, k2⟩
              have HH5 := Lib.hid (HH4.out.put k1 k2)
              have HR5 := Lib.hid (HH4.out.kept k2 HR4.out (by decide) (by decide))
              have hxl := encT_len (s := nm) (by omega)
              have hx5 : (xs ++ encT nm).length ≤ 30000010 + 100 * k + 42 := by rw [List.length_append]; omega
              have HX5 : Hid (xs ++ encT nm = xs0 ++ (encMany encF m.funs ++ (encMany encD m.datas ++ (uv m.exps.length ++ ((m.exps.take k).flatMap encE ++ encT nm))))) := Lib.hid (by rw [HX.out]; simp)
              clear k1 k2 HH4 HR4 y0 hxl hx HX
              generalize xs ++ encT nm = xs5 at *
              have y1 := row_cell HR5.out 1 rfl
              simp only [List.getElem_toArray, List.getElem_cons_zero, List.getElem_cons_succ] at y1
              have c5 := HH5.out.mc (i := 5) rfl
              go_wp2_with fail
              refine (wm_index base _ p v5 xs5 _ _ HH5.out.wm HH5.out.hb (by omega) fx m.funs.length (by omega)).mono ?_
              rintro e w6 (⟨e2, rfl, v6, k1, k2⟩ | ⟨e2, rfl, rfl⟩)
              rotate_left
              · have HE : Hid (bodyE m = 30) := Lib.hid (by rw [HBE.out, errMany_bad (by omega) hlt HE0.out (by rw [HXK.out, errE, thenE_r _ E1.out, errI, if_neg e2]; decide), HXK.out, errE, thenE_r _ E1.out, errI, if_neg e2])
                exact ⟨rfl, .inr ⟨by rw [HE.out]; decide, by rw [HE.out], HH5.out.wt.keep⟩⟩
              have HE' : Hid (errL (errE m.funs.length) [] (m.exps.take (k + 1)) = 0) := Lib.hid (errL_good hlt HE0.out (by rw [HXK.out, errE, thenE_r _ E1.out, errI, if_pos e2]))
              have HH6 := Lib.hid (HH5.out.put k1 k2)
              have hul := uv_len10 (n := fx.toNat) (by omega)
              have hx6 : (xs5 ++ uv fx.toNat).length ≤ 30000010 + 100 * (k + 1) := by rw [List.length_append]; omega
              have HX6 : Hid (xs5 ++ uv fx.toNat = xs0 ++ (encMany encF m.funs ++ (encMany encD m.datas ++ (uv m.exps.length ++ (m.exps.take (k + 1)).flatMap encE)))) := Lib.hid (by rw [HX5.out, flat_snoc hlt, HXK.out]; simp [encE, encN])
              clear k1 k2 HH5 HR5 y1 c5 hul hx5 HX5 e2
              generalize xs5 ++ uv fx.toNat = xs6 at *
              go_wp2_with fail
              go_roundw
              case rel => exact ⟨k + 1, _, _, by omega, by go_num, HH6, HX6, by omega, HE'⟩
              case measure => simp [intOf]; omega
            · obtain rfl : k = m.exps.length := by omega
              have HE : Hid (bodyE m = 0) := Lib.hid (by rw [HBE.out]; exact errMany_ok (most := 64) (e := errE m.funs.length) (l := m.exps) (by omega) HE0.out)
              have HX1 : Hid (xs = xs0 ++ bodyB m) := Lib.hid (by rw [HX.out, List.take_of_length_le (Nat.le_refl _)]; rfl)
              go_wp2_with fail
              exact bodyPost_end (results_none rfl _ _ _) rfl (.inl ⟨HE.out, rfl, mb, al, v, by rw [← HX1.out]; exact HH.out⟩)
end Go.Proofs.YtfhkjahjenpbgaaDoor
