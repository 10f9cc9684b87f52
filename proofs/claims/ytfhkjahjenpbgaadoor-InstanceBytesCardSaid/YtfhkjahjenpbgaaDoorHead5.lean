/- module's writer: head. -/
import Derived.Test.YtfhkjahjenpbgaaDoorMHead0
import Derived.Test.YtfhkjahjenpbgaaDoorMTwice
namespace Go.Proofs.YtfhkjahjenpbgaaDoor
open Go Go.RowKit

/-- A module's texts are no longer than memory is; its numbers are numbers. -/
structure SmM (m : ModD) : Prop where
  types : ∀ x ∈ m.types, x.1.size ≤ 140737488355328 ∧ x.2.size ≤ 140737488355328
  funs : ∀ f ∈ m.funs, f.locals.size ≤ 140737488355328
  exps : ∀ e ∈ m.exps, e.name.size ≤ 140737488355328
  hosts : ∀ n ∈ m.hosts, i64P n
  fts : ∀ f ∈ m.funs, i64P f.t
  ats : ∀ d ∈ m.datas, i64P d.at_
  exf : ∀ e ∈ m.exps, i64P e.f
  first : i64P m.first
  most : i64P m.most
  glet : ∀ g ∈ m.globals, g.letter < 256
/-- Where the ends of head stand. -/
def HeadEnds (base : Nat) (w : World) (p : Nat) (v0 : Value) (S : Nat → Prop) (cs : List Value) (m : ModD) (al : Int) (xs0 : List Int) (r : Ending) (w' : World) : Prop :=
  (headE m = 0 ∧ r = .returned (.tuple #[]) ∧ ∃ mb sb tv v', Hs base w p v0 S cs m al mb sb m.types.length tv w' v' (xs0 ++ headB m) ∧ (xs0 ++ headB m).length ≤ 10000) ∨
  (headE m ≠ 0 ∧ r = .panicked (thrown (headE m) 0) ∧ Keeps (fun b => b ≠ p ∧ v0.ownBlock ≠ some b) w w')
set_option maxRecDepth 100000 in
set_option maxHeartbeats 3200000 in
theorem wm_head (base : Nat) (w : World) (p gb : Nat) (mp : Option Addr) (al : Int) (h : W0 w p gb mp al) (hb : base ≤ w.heap.size) (hp : base ≤ p ∧ base ≤ gb)
    (S : Nat → Prop) (hS : ∀ b, S b → b < base) (m : ModD) (cs : List Value) (hm : RMod S w cs m) (sm : SmM m) (wf : WfM m) (v0 : Value) (hv0 : Hid (v0 = mgV gb)) (xs0 : List Int) (hxs0 : Hid (xs0 = magicM)) :
    Calls Tryd.prog 28 #[.pointer (some ⟨p, 0, none⟩), .agg cs.toArray] w (HeadEnds base w p v0 S cs m al xs0) := by
  obtain ⟨i0, hi, hz0, hz1, hz2⟩ := info_parts Tryd.infoSig
  obtain ⟨j0, hj, hy0, hy1, hy2⟩ := info_parts Tryd.infoU8
  have HPB := Lib.hid hp
  clear hp
  have hm0 := hm
  obtain ⟨tv, hv, gv, fv, dv, ev, rfl, r1, r2, r3, r4, r5, r6⟩ := hm
  obtain ⟨ta, tc, rfl, tl⟩ := r1.len
  obtain ⟨ha, hc, rfl, hl⟩ := r2.len
  obtain ⟨ga, gc, rfl, gl⟩ := r3.len
  have HM := Lib.hid hm0; have HSM := Lib.hid sm; have HWF := Lib.hid wf; have HW := Lib.hid h; have HS := Lib.hid hS
  have q0 := row_cell h.row 0 rfl
  simp only [List.getElem_toArray, List.getElem_cons_zero] at q0
  have f0 := row_free h.row 0
  have hlt := row_lt h.row
  clear hm0 sm wf h hS r1 r2 r3 r4 r5 r6
  go_enter Tryd.func28, Tryd.ntmps28
  go_wp2_with fail
  have HH0 := Lib.hid (Hp.start HW.out hb HPB.out HS.out HM.out _ rfl)
  generalize (((w.setCell ⟨p, 0, none⟩ (.pointer (some ⟨w.heap.size + 1, 0, none⟩))).alloc (.cells _ 29)).alloc (.cells _ 29)) = w2 at *
  have HWS := Lib.hid hb
  clear q0 f0 hlt hb HW
  generalize w.heap.size + 1 = sb at *
  generalize w.heap.size = mb at *
  refine (wm_count0 base _ p gb _ al HH0.out.w0 HH0.out.hb m.types.length 64 64 rfl (by omega)).mono ?_
  rintro e w3 (⟨h1, rfl, v1, k1, k2⟩ | ⟨h1, rfl, rfl⟩)
  rotate_left
  · have HE : Hid (headE m = 20) := Lib.hid (by unfold headE; rw [errMany_20 h1]; rfl)
    exact ⟨rfl, .inr ⟨by rw [HE.out]; decide, by rw [HE.out], by rw [hv0.out]; exact HH0.out.keep⟩⟩
  have HH1 : Hid (Hs base w p v0 S _ m al mb sb 0 (.slice none 0 0) w3 v1 (xs0 ++ uv m.types.length)) := Lib.hid (by rw [hv0.out, hxs0.out]; exact HH0.out.put k1 k2)
  have HX1 : Hid (xs0 ++ uv m.types.length = xs0 ++ (uv m.types.length ++ (m.types.take 0).flatMap encS)) := Lib.hid (by simp)
  have hx1 : (xs0 ++ uv m.types.length).length ≤ 1010 := by have := uv_len10 (n := m.types.length) (by omega); rw [List.length_append, hxs0.out]; simp [magicM]; omega
  clear k1 k2 HH0
  generalize xs0 ++ uv m.types.length = xs1 at *
  have c0 := HH1.out.mc (i := 0) rfl
  go_wp2_with fail
  have HNT := Lib.hid h1
  go_loopw [28] (fun i wr => ∃ (k : Nat) (tv v : Value) (xs : List Int), k ≤ m.types.length ∧ i = .int .i64 k ∧ Hid (Hs base w p v0 S _ m al mb sb k tv wr v xs) ∧ Hid (xs = xs0 ++ (uv m.types.length ++ (m.types.take k).flatMap encS)) ∧ xs.length ≤ 1010 + 36 * k ∧ Hid (errL errS [] (m.types.take k) = 0)) (fun i _ => m.types.length - (intOf i).toNat)
  case atStart => exact ⟨0, _, _, _, by omega, rfl, HH1, HX1, by omega, rfl⟩
  case round =>
    clear HH1 HX1 hx1 c0
    obtain ⟨k, tv, v, xs, hk, rfl, HH, HX, hx, HE0⟩ := hrel
    by_cases hlt : k < m.types.length
    · obtain ⟨rr1, _⟩ := HH.out.rd.parts
      obtain ⟨b, off, rfl, d1, d2⟩ := sg_at rr1 hlt
      have hsz := HSM.out.types m.types[k] (List.getElem_mem _)
      obtain ⟨x, hxk⟩ : ∃ x, m.types[k] = x := ⟨_, rfl⟩
      rw [hxk] at d1 d2 hsz
      have HXK := Lib.hid hxk
      clear hxk rr1
      obtain ⟨xa, xb⟩ := x
      simp only at d1 d2 hsz
      have hb3 := below_alloc wr (.cells #[.string xa, .string xb] 48)
      have hr3 := heap_alloc_new wr (.cells #[.string xa, .string xb] 48)
      have HH3 := Lib.hid (HH.out.on hb3)
      have HR3 := Lib.hid hr3
      have y0 := row_cell hr3 0 rfl; have y1 := row_cell hr3 1 rfl
      simp only [List.getElem_toArray, List.getElem_cons_zero, List.getElem_cons_succ] at y0 y1
      clear hb3 hr3 HH
      go_wp2_with fail
      generalize wr.alloc (.cells #[.string xa, .string xb] 48) = w3 at *
      generalize wr.heap.size = g3 at *
      go_still_tail 5, (by kernel_rfl)
      go_wp2_with fail
      refine (mod_letters _ _ xa 8 8 0 rfl (by omega) hsz.1).mono ?_
      rintro e w4 (⟨e1, rfl, hb4⟩ | ⟨e1, rfl, hb4⟩)
      rotate_left
      · have HE : Hid (headE m = errT5 8 xa) := Lib.hid (head_ty h1 hlt HE0.out (by rw [HXK.out, errS, ← errT5_eq, thenE_l _ e1]) e1)
        exact ⟨rfl, .inr ⟨by rw [HE.out]; exact e1, by rw [HE.out], (HH3.out.on (below_next (drew_bel _) hb4)).wt.keep⟩⟩
      have hxa := errT_le e1
      have HH4 := Lib.hid (HH3.out.on (below_next (drew_bel _) hb4))
      have HR4 := Lib.hid (((below_next (drew_bel w3) hb4).block _ (row_lt HR3.out)).trans HR3.out)
      have E1 := Lib.hid e1
      clear hb4 HH3 HR3 y0 y1 d1 d2 e1
      have y0 := row_cell HR4.out 0 rfl
      simp only [List.getElem_toArray, List.getElem_cons_zero] at y0
      go_wp2_with fail
      refine (wm_text base _ p v xs _ al HH4.out.wm HH4.out.hb (by omega) xa (by omega)).mono ?_
      rintro e w5 ⟨rfl, v5, k1, k2⟩
      have HH5 := Lib.hid (HH4.out.put k1 k2)
      have HR5 := Lib.hid (HH4.out.kept k2 HR4.out (by decide) (by decide))
      have hxl := encT_len (s := xa) (by omega)
      have hx5 : (xs ++ encT xa).length ≤ 1010 + 36 * k + 18 := by rw [List.length_append]; omega
      clear k1 k2 HH4 HR4 y0 hxl
      have y1 := row_cell HR5.out 1 rfl
      simp only [List.getElem_toArray, List.getElem_cons_zero, List.getElem_cons_succ] at y1
      go_wp2_with fail
      go_still_tail 5, (by kernel_rfl)
      go_wp2_with fail
      refine (mod_letters _ _ xb 8 8 0 rfl (by omega) hsz.2).mono ?_
      rintro e w6 (⟨e1, rfl, hb6⟩ | ⟨e1, rfl, hb6⟩)
      rotate_left
      · have HE : Hid (headE m = errT5 8 xb) := Lib.hid (head_ty h1 hlt HE0.out (by rw [HXK.out, errS, ← errT5_eq, thenE_r _ E1.out, ← errT5_eq, thenE_l _ e1]) e1)
        exact ⟨rfl, .inr ⟨by rw [HE.out]; exact e1, by rw [HE.out], (HH5.out.on (below_next (drew_bel _) hb6)).wt.keep⟩⟩
      have hxb := errT_le e1
      have HH6 := Lib.hid (HH5.out.on (below_next (drew_bel _) hb6))
      have HR6 := Lib.hid (((below_next (drew_bel w5) hb6).block _ (row_lt HR5.out)).trans HR5.out)
      have E2 := Lib.hid e1
      clear hb6 HH5 HR5 y1 e1
      have y1 := row_cell HR6.out 1 rfl
      simp only [List.getElem_toArray, List.getElem_cons_succ, List.getElem_cons_zero] at y1
      go_wp2_with fail
      refine (wm_text base _ p v5 (xs ++ encT xa) _ al HH6.out.wm HH6.out.hb (by omega) xb (by omega)).mono ?_
      rintro e w7 ⟨rfl, v7, k1, k2⟩
      have HH7 := Lib.hid (HH6.out.put k1 k2)
      have HR7 := Lib.hid (HH6.out.kept k2 HR6.out (by decide) (by decide))
      have hxl := encT_len (s := xb) (by omega)
      have hx7 : (xs ++ encT xa ++ encT xb).length ≤ 1010 + 36 * (k + 1) := by rw [List.length_append]; omega
      have HX7 : Hid (xs ++ encT xa ++ encT xb = xs0 ++ (uv m.types.length ++ (m.types.take (k + 1)).flatMap encS)) := Lib.hid (by rw [HX.out, flat_snoc hlt, HXK.out]; simp [encS])
      clear k1 k2 HH6 HR6 y1 hxl hx hx5 HX
      generalize xs ++ encT xa ++ encT xb = xs7 at *
      have y0 := row_cell HR7.out 0 rfl; have y1 := row_cell HR7.out 1 rfl
      simp only [List.getElem_toArray, List.getElem_cons_zero, List.getElem_cons_succ] at y0 y1
      obtain ⟨ta', tc', rfl, _⟩ := own_slice HH7.out.own
      obtain ⟨s0, sf⟩ := HH7.out.sc
      have HH8 := Lib.hid (HH7.out.on (below_alloc w7 (.cells #[.string xa, .string xb] 48)))
      go_wp2_with (at_builtin; refine wpList_append_own _ rfl _ _ 22 rfl w.heap.size 48 i0 (.agg #[.string ⟨#[]⟩, .string ⟨#[]⟩]) 2 32 Tryd.underlying22 hi hz0 hz1 hz2 rfl (by decide) _ _ _ rfl HH8.out.own ⟨w7.heap.size, 0, none⟩ 1 1 [.string xa, .string xb] rfl rfl (news2 _ _ _ _) (by simp [Value.oneCell']) (by unfold maxLen; omega) (by omega) (by have := HH7.out.wt.keep.size; rw [World.size_alloc]; omega) ?_)
      intro tv' w9 ho9 hg9 _
      obtain ⟨a9, c9, rfl, _⟩ := own_slice ho9
      have hs9 := grown_block hg9 HH8.out.seen (own_ne HH8.out.own HH8.out.seen (by decide))
      have t0 := row_cell hs9 0 rfl; have tf := row_free hs9 0
      simp only [List.getElem_toArray, List.getElem_cons_zero] at t0
      have HH9 := Lib.hid (HH8.out.grow hlt HXK.out rfl ho9 hg9)
      clear ho9 hg9 hs9 HH8 HH7 HR7 y0 y1 s0 sf
      go_wp2_with fail
      generalize w9.setCell ⟨sb, 0, none⟩ (.slice a9 (k + 1) c9) = w10 at *
      refine (mod_twice _ p sb _ _ _ (m.types.take (k + 1)) k (by rw [List.length_take]; omega) HH9.out.rl rfl (HH9.out.sigs (by omega) (by omega)) 0).mono ?_
      rintro e w11 (⟨e3, rfl, hb11⟩ | ⟨e3, rfl, hb11⟩)
      rotate_left
      · have HE : Hid (headE m = 16) := Lib.hid (head_ty h1 hlt HE0.out (by rw [HXK.out, errS, ← errT5_eq, thenE_r _ E1.out, ← errT5_eq, thenE_r _ E2.out, tw_yes hlt HXK.out e3]; rfl) (by decide))
        exact ⟨rfl, .inr ⟨by rw [HE.out]; decide, by rw [HE.out], (HH9.out.on hb11).wt.keep⟩⟩
      have HE3 : Hid (errL errS [] (m.types.take (k + 1)) = 0) := Lib.hid (errL_good hlt HE0.out (by rw [HXK.out, errS, ← errT5_eq, thenE_r _ E1.out, ← errT5_eq, thenE_r _ E2.out, tw_no hlt HXK.out e3]; rfl))
      have HH11 := Lib.hid (HH9.out.on hb11)
      clear e3 hb11 HH9 HE0 E1 E2 t0 tf
      go_wp2_with fail
      go_roundw
      case rel => exact ⟨k + 1, _, _, _, by omega, by go_num, HH11, HX7, by omega, HE3⟩
      case measure => simp [intOf]; omega
    · obtain rfl : k = m.types.length := by omega
      have HT := Lib.hid (errMany_ok (most := 64) (e := errS) (l := m.types) (by omega) HE0.out)
      have HX1 : Hid (xs = xs0 ++ encMany encS m.types) := Lib.hid (by rw [HX.out, List.take_of_length_le (Nat.le_refl _)]; rfl)
      have hx1 : xs.length ≤ 4000 := by omega
      clear HE0 HX hx hk
      have c1 := HH.out.mc (i := 1) rfl
      go_wp2_with fail
      refine (wm_countM base _ p v xs _ al HH.out.wm HH.out.hb (by omega) m.hosts.length 32 32 rfl (by omega)).mono ?_
      rintro e w3 (⟨h2, rfl, v1, k1, k2⟩ | ⟨h2, rfl, rfl⟩)
      rotate_left
      · have HE : Hid (headE m = 20) := Lib.hid (head_ho HT.out (errMany_20 h2) (by decide))
        exact ⟨rfl, .inr ⟨by rw [HE.out]; decide, by rw [HE.out], HH.out.wt.keep⟩⟩
      have HH1 := Lib.hid (HH.out.put k1 k2)
      have HX2 : Hid (xs ++ uv m.hosts.length = xs0 ++ (encMany encS m.types ++ (uv m.hosts.length ++ (m.hosts.take 0).flatMap encN))) := Lib.hid (by rw [HX1.out]; simp)
      have hx2 : (xs ++ uv m.hosts.length).length ≤ 4010 := by have := uv_len10 (n := m.hosts.length) (by omega); rw [List.length_append]; omega
      clear k1 k2 HH HX1 hx1 c1
      generalize xs ++ uv m.hosts.length = xs2 at *
      have c1 := HH1.out.mc (i := 1) rfl
      go_wp2_with fail
      go_loopw [71] (fun i wr => ∃ (k : Nat) (v : Value) (xs : List Int), k ≤ m.hosts.length ∧ i = .int .i64 k ∧ Hid (Hs base w p v0 S _ m al mb sb m.types.length tv wr v xs) ∧ Hid (xs = xs0 ++ (encMany encS m.types ++ (uv m.hosts.length ++ (m.hosts.take k).flatMap encN))) ∧ xs.length ≤ 4010 + 10 * k ∧ Hid (errL (fun _ => errI m.types.length) [] (m.hosts.take k) = 0)) (fun i _ => m.hosts.length - (intOf i).toNat)
      case atStart => exact ⟨0, _, _, by omega, rfl, HH1, HX2, by omega, rfl⟩
      case round =>
        clear HH1 HX2 hx2 c1
        obtain ⟨k, v, xs, hk, rfl, HH, HX, hx, HE0⟩ := hrel
        by_cases hlt : k < m.hosts.length
        · obtain ⟨_, rr1, _⟩ := HH.out.rd.parts
          obtain ⟨b, off, d1⟩ : ∃ b off, ha = some ⟨b, off, none⟩ ∧ wr.cell? ⟨b, off + k, none⟩ = some (.int .i64 m.hosts[k]) := by
            obtain ⟨a', c', e, _, _, h3⟩ := rr1
            simp only [Value.slice.injEq] at e
            obtain ⟨rfl, _, _⟩ := e
            obtain ⟨b, off, e1, _, e3⟩ := h3 k hlt
            exact ⟨b, off, e1, e3⟩
          obtain ⟨rfl, d1⟩ := d1
          have hsz := HSM.out.hosts m.hosts[k] (List.getElem_mem _)
          obtain ⟨x, hxk⟩ : ∃ x, m.hosts[k] = x := ⟨_, rfl⟩
          rw [hxk] at d1 hsz
          have HXK := Lib.hid hxk
          have c0 := HH.out.mc (i := 0) rfl
          unfold i64P at hsz
          clear hxk rr1
          go_wp2_with fail
          refine (wm_index base _ p v xs _ al HH.out.wm HH.out.hb (by omega) x m.types.length (by omega)).mono ?_
          rintro e w4 (⟨e1, rfl, v4, k1, k2⟩ | ⟨e1, rfl, rfl⟩)
          rotate_left
          · have HE : Hid (headE m = 30) := Lib.hid (head_ho HT.out (by rw [errMany_bad (by omega) hlt HE0.out (by rw [HXK.out, errI, if_neg e1]; decide), HXK.out, errI, if_neg e1]) (by decide))
            exact ⟨rfl, .inr ⟨by rw [HE.out]; decide, by rw [HE.out], HH.out.wt.keep⟩⟩
          have HE4 : Hid (errL (fun _ => errI m.types.length) [] (m.hosts.take (k + 1)) = 0) := Lib.hid (errL_good hlt HE0.out (by rw [HXK.out, errI, if_pos e1]))
          have HH4 := Lib.hid (HH.out.put k1 k2)
          have hul := uv_len10 (n := x.toNat) (by omega)
          have hx4 : (xs ++ uv x.toNat).length ≤ 4010 + 10 * (k + 1) := by rw [List.length_append]; omega
          have HX4 : Hid (xs ++ uv x.toNat = xs0 ++ (encMany encS m.types ++ (uv m.hosts.length ++ (m.hosts.take (k + 1)).flatMap encN))) := Lib.hid (by rw [HX.out, flat_snoc hlt, HXK.out]; simp [encN])
          clear k1 k2 HH HX hx e1 HE0 c0 d1 hul
          generalize xs ++ uv x.toNat = xs4 at *
          go_wp2_with fail
          go_roundw
          case rel => exact ⟨k + 1, _, _, by omega, by go_num, HH4, HX4, by omega, HE4⟩
          case measure => simp [intOf]; omega
        · obtain rfl : k = m.hosts.length := by omega
          have HHO := Lib.hid (errMany_ok (most := 32) (e := fun _ => errI m.types.length) (l := m.hosts) (by omega) HE0.out)
          have HX1 : Hid (xs = xs0 ++ (encMany encS m.types ++ encMany encN m.hosts)) := Lib.hid (by rw [HX.out, List.take_of_length_le (Nat.le_refl _)]; rfl)
          have hx1 : xs.length ≤ 5000 := by omega
          clear HE0 HX hx hk
          have c2 := HH.out.mc (i := 2) rfl
          go_wp2_with fail
          refine (wm_countM base _ p v xs _ al HH.out.wm HH.out.hb (by omega) m.globals.length 64 64 rfl (by omega)).mono ?_
          rintro e w3 (⟨h3, rfl, v1, k1, k2⟩ | ⟨h3, rfl, rfl⟩)
          rotate_left
          · have HE : Hid (headE m = 20) := Lib.hid (head_gl HT.out HHO.out (errMany_20 h3) (by decide))
            exact ⟨rfl, .inr ⟨by rw [HE.out]; decide, by rw [HE.out], HH.out.wt.keep⟩⟩
          have HH1 := Lib.hid (HH.out.put k1 k2)
          have HX2 : Hid (xs ++ uv m.globals.length = xs0 ++ (encMany encS m.types ++ (encMany encN m.hosts ++ (uv m.globals.length ++ (m.globals.take 0).flatMap encG)))) := Lib.hid (by rw [HX1.out]; simp)
          have hx2 : (xs ++ uv m.globals.length).length ≤ 5010 := by have := uv_len10 (n := m.globals.length) (by omega); rw [List.length_append]; omega
          clear k1 k2 HH HX1 hx1 c2
          generalize xs ++ uv m.globals.length = xs2 at *
          have c2 := HH1.out.mc (i := 2) rfl
          go_wp2_with fail
          go_loopw [90] (fun i wr => ∃ (k : Nat) (v : Value) (xs : List Int), k ≤ m.globals.length ∧ i = .int .i64 k ∧ Hid (Hs base w p v0 S _ m al mb sb m.types.length tv wr v xs) ∧ Hid (xs = xs0 ++ (encMany encS m.types ++ (encMany encN m.hosts ++ (uv m.globals.length ++ (m.globals.take k).flatMap encG)))) ∧ xs.length ≤ 5010 + 12 * k ∧ Hid (errL (fun _ => errG) [] (m.globals.take k) = 0)) (fun i _ => m.globals.length - (intOf i).toNat)
          case atStart => exact ⟨0, _, _, by omega, rfl, HH1, HX2, by omega, rfl⟩
          case round =>
            clear HH1 HX2 hx2 c2
            obtain ⟨k, v, xs, hk, rfl, HH, HX, hx, HE0⟩ := hrel
            by_cases hlt : k < m.globals.length
            · obtain ⟨_, _, rr1, _⟩ := HH.out.rd.parts
              obtain ⟨b, off, rfl, d0, d1, d2⟩ := gl_at rr1 hlt
              have hsz := HWF.out.globals m.globals[k] (List.getElem_mem _)
              obtain ⟨x, hxk⟩ : ∃ x, m.globals[k] = x := ⟨_, rfl⟩
              rw [hxk] at d0 d1 d2 hsz
              have HXK := Lib.hid hxk
              clear hxk rr1
              obtain ⟨c, mu, gv⟩ := x
              simp only at d0 d1 d2 hsz
              have hb3 := below_alloc wr (.cells #[.int .u8 c, .bool mu, .int .u64 gv] 66)
              have hr3 := heap_alloc_new wr (.cells #[.int .u8 c, .bool mu, .int .u64 gv] 66)
              have HH3 := Lib.hid (HH.out.on hb3)
              have HR3 := Lib.hid hr3
              have y0 := row_cell hr3 0 rfl; have y1 := row_cell hr3 1 rfl; have y2 := row_cell hr3 2 rfl
              simp only [List.getElem_toArray, List.getElem_cons_zero, List.getElem_cons_succ] at y0 y1 y2
              clear hb3 hr3 HH
              go_wp2_with fail
              generalize wr.alloc (.cells #[.int .u8 c, .bool mu, .int .u64 gv] 66) = w3 at *
              generalize wr.heap.size = g3 at *
              refine (types_Letter _ c).mono ?_
              rintro r w4 ⟨rfl, rfl⟩
              cases hil : (c == 119 || c == 108) with
              | false =>
                have HE : Hid (headE m = 15) := Lib.hid (head_gl HT.out HHO.out (by rw [errMany_bad (by omega) hlt HE0.out (by rw [HXK.out, errG_c, if_pos hil]; decide), HXK.out, errG_c, if_pos hil]) (by decide))
                go_wp2_with (go_at_call 30; refine (mod_ask _ _ _ _).mono ?_; rintro r w1 ⟨rfl, rfl⟩)
                exact ⟨rfl, .inr ⟨by rw [HE.out]; decide, by rw [HE.out], HH3.out.wt.keep⟩⟩
              | true =>
                have HIL := Lib.hid hil
                have hc : c = 119 ∨ c = 108 := by simp at hil; omega
                clear hil
                go_wp2_with (go_at_call 30; refine (mod_ask _ _ _ _).mono ?_; rintro r w1 ⟨rfl, rfl⟩)
                refine (mod_value _ c gv mu 0).mono ?_
                rintro r w5 ⟨hr5, hb5⟩
                cases hfi : (c == 108 || (c == 119 && decide (gv < 4294967296))) with
                | false =>
                  have HE : Hid (headE m = 17) := Lib.hid (head_gl HT.out HHO.out (by rw [errMany_bad (by omega) hlt HE0.out (by rw [HXK.out, errG_c, if_neg (by rw [HIL.out]; decide), if_pos hfi]; decide), HXK.out, errG_c, if_neg (by rw [HIL.out]; decide), if_pos hfi]) (by decide))
                  rw [hfi] at hr5
                  subst hr5
                  exact ⟨rfl, .inr ⟨by rw [HE.out]; decide, by rw [HE.out], (HH3.out.on hb5).wt.keep⟩⟩
                | true =>
                  have HE4 : Hid (errL (fun _ => errG) [] (m.globals.take (k + 1)) = 0) := Lib.hid (errL_good hlt HE0.out (by rw [HXK.out, errG_c, if_neg (by rw [HIL.out]; decide), if_neg (by rw [hfi]; decide)]))
                  rw [hfi] at hr5
                  subst hr5
                  have HH5 := Lib.hid (HH3.out.on hb5)
                  have HR5 := Lib.hid ((hb5.block _ (row_lt HR3.out)).trans HR3.out)
                  have HFIT : Hid (c = 119 → gv < 4294967296) := Lib.hid (by rintro rfl; simpa using hfi)
                  clear hb5 HH3 HR3 HE0 HIL d0 d1 d2 y0 y1 y2 hfi
                  have y0 := row_cell HR5.out 0 rfl; have y1 := row_cell HR5.out 1 rfl; have y2 := row_cell HR5.out 2 rfl
                  simp only [List.getElem_toArray, List.getElem_cons_zero, List.getElem_cons_succ] at y0 y1 y2
                  rcases hc with rfl | rfl <;> cases mu
                  · go_wp2_with fail
                    go_quiet (fail)
                    go_wp2_with fail
                    obtain ⟨sv, hsv⟩ : ∃ sv, wrap64 (wrap32 (gv : Int)) = sv := ⟨_, rfl⟩
                    rw [hsv]
                    have HSV : Hid (sv = signedD ⟨119, false, gv⟩) := Lib.hid (by rw [← hsv]; exact sv_w (HFIT.out (by first | trivial | rfl)))
                    clear hsv
                    have HH6 := Lib.hid (HH5.out.on (drewN_below w5 nq))
                    have HR6 := Lib.hid (((drewN_below w5 nq).block _ (row_lt HR5.out)).trans HR5.out)
                    clear HH5 HR5 y0 y1 y2
                    generalize w5.drewN nq = w6 at *
                    have HRW := Lib.hid HH6.out.wm.row; have HO := Lib.hid HH6.out.wm.own; have HA := Lib.hid HH6.out.wm.apart
                    have hlt6 := row_lt HRW.out
                    have hb6 := HH6.out.hb
                    have x2 := row_cell HRW.out 2 rfl; have xf := row_free HRW.out 2
                    have y0 := row_cell HR6.out 0 rfl
                    simp only [List.getElem_toArray, List.getElem_cons_zero, List.getElem_cons_succ] at x2 y0
                    have hbel : Below w6.drew.heap.size w6.drew (w6.drew.alloc (.cells #[.int .u8 119, .int .u8 0] 5)) := below_alloc _ _
                    have HOA := Lib.hid (own_below HO.out (below_step (Below.refl _ w6).drew (Nat.le_refl _) hbel))
                    have HRA := Lib.hid ((hbel.block p hlt6).trans HRW.out)
                    have HBE := Lib.hid hbel
                    clear hbel
                    go_cut [] (fun wx => ∃ v7, Hid (Hs base w p v0 S _ m al mb sb m.types.length tv wx v7 (xs ++ [119, 0])))
                    case first =>
                      go_region_law (refine step_append_lies _ (by rfl) _ _ 41 (by rfl) base 5 j0 _ 1 1 Tryd.underlying41 hj hy0 hy1 hy2 rfl (by omega) v xs.length (xs.map (Value.int .u8)) (by rfl) HOA.out ⟨w6.heap.size, 0, none⟩ 2 2 [.int .u8 119, .int .u8 0] (by rfl) (by rfl) (news2 w6.drew _ _ _) (by simp [Value.oneCell']) (by omega) (by unfold maxLen; omega) (by omega) (by show base ≤ (w6.alloc _).heap.size; rw [World.size_alloc]; omega) (w6.heap.size + 1) (by show (w6.alloc _).heap.size = _; rw [World.size_alloc]) ?_; intro g cap w7 hown7 hgrow7 hat7 hlt7; have hrow7 := grown_block hgrow7 HRA.out HA.out; have c2 := row_cell hrow7 2 rfl; have f2 := row_free hrow7 2)
                      all_goals
                        have P := wm_put (xs := xs) (ys := [119, 0]) hlt6 HA.out HBE.out hrow7 hown7 hgrow7 (by rcases hat7 with h | h; exact .inl h; exact .inr (h.trans (World.size_alloc ..).symm))
                        have HP := Lib.hid (HH6.out.put P.1 P.2)
                        clear P hown7 hgrow7 hat7 hrow7
                        go_wp2_with fail
                        go_meet
                        exact ⟨_, HP.out⟩
                    case rest =>
                      obtain ⟨v7, HH7⟩ := hcut
                      clear HH6 HR6 HRW HO HA HOA HRA HBE x2 xf y0 hlt6 hb6
                      have HSI : Hid (i64P sv) := Lib.hid (by rw [HSV.out]; exact svi_w (HFIT.out (by first | trivial | rfl)))
                      have HX7 : Hid (xs ++ [119, 0] ++ uv (zig sv) = xs0 ++ (encMany encS m.types ++ (encMany encN m.hosts ++ (uv m.globals.length ++ (m.globals.take (k + 1)).flatMap encG)))) := Lib.hid (by rw [HX.out, flat_snoc hlt, HXK.out, HSV.out]; simp [encG])
                      have hul := uv_len10 (zig_le HSI.out)
                      have hup := uv_pos (zig sv)
                      have hx7 : (xs ++ [119, 0]).length ≤ 5010 + 12 * k + 2 := by rw [List.length_append]; simp; omega
                      have hx8 : (xs ++ [119, 0] ++ uv (zig sv)).length ≤ 5010 + 12 * (k + 1) := by rw [List.length_append]; omega
                      clear HX hx HSV HXK hsz
                      generalize xs ++ [119, 0] = xs7 at *
                      have HSVC := Lib.hid (fun wx => wire_Svar wx sv HSI.out)
                      have HRW := Lib.hid HH7.out.wm.row; have HO := Lib.hid HH7.out.wm.own; have HA := Lib.hid HH7.out.wm.apart
                      have hlt7 := row_lt HRW.out
                      have hb7 := HH7.out.hb
                      have x2 := row_cell HRW.out 2 rfl; have xf := row_free HRW.out 2
                      simp only [List.getElem_toArray, List.getElem_cons_zero, List.getElem_cons_succ] at x2
                      go_wp2_with fail
                      go_region_law (first
                        | (refine step_append_lies _ (by rfl) _ _ 41 (by rfl) base 5 j0 _ 1 1 Tryd.underlying41 hj hy0 hy1 hy2 rfl (by omega) v7 xs7.length (xs7.map (Value.int .u8)) (by rfl) hown0 ⟨g1, 0, none⟩ (uv (zig sv)).length cap1 ((uv (zig sv)).map (Value.int .u8)) (by rfl) (by simp) (hown1.cells rfl) (by intro u hu; simp at hu; obtain ⟨x, _, rfl⟩ := hu; rfl) (by omega) (by unfold maxLen; omega) (by omega) (Nat.le_trans hb7 hbel.size) w1.heap.size rfl ?_; intro g cap w2 hown2 hgrow2 hat hlt2; have hrow2 := grown_block hgrow2 hrow1 HA.out; have c2 := row_cell hrow2 2 rfl; have f2 := row_free hrow2 2)
                        | (go_simp; go_at_call 42; (with_reducible refine (HSVC.out _).mono ?_); rintro e w1 ⟨v', rfl, hown1, hbel⟩; obtain ⟨g1, cap1, rfl, _, _⟩ := hown1.form hup; have hown0 := own_below HO.out (below_step (Below.refl _ wc).drew (Nat.le_refl _) hbel); have hrow1 := (hbel.block p hlt7).trans HRW.out; have c1 := row_cell hrow1 2 rfl))
                      all_goals
                        have P := wm_put hlt7 HA.out hbel hrow2 hown2 hgrow2 hat
                        have HP := Lib.hid (HH7.out.put P.1 P.2)
                        clear P hown2 hgrow2 hat hrow2
                        generalize xs7 ++ uv (zig sv) = xs8 at *
                      all_goals go_wp2_with fail
                      all_goals go_roundw
                      all_goals first | exact ⟨k + 1, _, _, by omega, by go_num, HP, HX7, by omega, HE4⟩ | (simp [intOf]; omega)
                  · go_wp2_with fail
                    go_quiet (fail)
                    go_wp2_with fail
                    obtain ⟨sv, hsv⟩ : ∃ sv, wrap64 (wrap32 (gv : Int)) = sv := ⟨_, rfl⟩
                    rw [hsv]
                    have HSV : Hid (sv = signedD ⟨119, true, gv⟩) := Lib.hid (by rw [← hsv]; exact sv_w (HFIT.out (by first | trivial | rfl)))
                    clear hsv
                    have HH6 := Lib.hid (HH5.out.on (drewN_below w5 nq))
                    have HR6 := Lib.hid (((drewN_below w5 nq).block _ (row_lt HR5.out)).trans HR5.out)
                    clear HH5 HR5 y0 y1 y2
                    generalize w5.drewN nq = w6 at *
                    have HRW := Lib.hid HH6.out.wm.row; have HO := Lib.hid HH6.out.wm.own; have HA := Lib.hid HH6.out.wm.apart
                    have hlt6 := row_lt HRW.out
                    have hb6 := HH6.out.hb
                    have x2 := row_cell HRW.out 2 rfl; have xf := row_free HRW.out 2
                    have y0 := row_cell HR6.out 0 rfl
                    simp only [List.getElem_toArray, List.getElem_cons_zero, List.getElem_cons_succ] at x2 y0
                    have hbel : Below w6.drew.heap.size w6.drew (w6.drew.alloc (.cells #[.int .u8 119, .int .u8 1] 5)) := below_alloc _ _
                    have HOA := Lib.hid (own_below HO.out (below_step (Below.refl _ w6).drew (Nat.le_refl _) hbel))
                    have HRA := Lib.hid ((hbel.block p hlt6).trans HRW.out)
                    have HBE := Lib.hid hbel
                    clear hbel
                    go_cut [] (fun wx => ∃ v7, Hid (Hs base w p v0 S _ m al mb sb m.types.length tv wx v7 (xs ++ [119, 1])))
                    case first =>
                      go_region_law (refine step_append_lies _ (by rfl) _ _ 41 (by rfl) base 5 j0 _ 1 1 Tryd.underlying41 hj hy0 hy1 hy2 rfl (by omega) v xs.length (xs.map (Value.int .u8)) (by rfl) HOA.out ⟨w6.heap.size, 0, none⟩ 2 2 [.int .u8 119, .int .u8 1] (by rfl) (by rfl) (news2 w6.drew _ _ _) (by simp [Value.oneCell']) (by omega) (by unfold maxLen; omega) (by omega) (by show base ≤ (w6.alloc _).heap.size; rw [World.size_alloc]; omega) (w6.heap.size + 1) (by show (w6.alloc _).heap.size = _; rw [World.size_alloc]) ?_; intro g cap w7 hown7 hgrow7 hat7 hlt7; have hrow7 := grown_block hgrow7 HRA.out HA.out; have c2 := row_cell hrow7 2 rfl; have f2 := row_free hrow7 2)
                      all_goals
                        have P := wm_put (xs := xs) (ys := [119, 1]) hlt6 HA.out HBE.out hrow7 hown7 hgrow7 (by rcases hat7 with h | h; exact .inl h; exact .inr (h.trans (World.size_alloc ..).symm))
                        have HP := Lib.hid (HH6.out.put P.1 P.2)
                        clear P hown7 hgrow7 hat7 hrow7
                        go_wp2_with fail
                        go_meet
                        exact ⟨_, HP.out⟩
                    case rest =>
                      obtain ⟨v7, HH7⟩ := hcut
                      clear HH6 HR6 HRW HO HA HOA HRA HBE x2 xf y0 hlt6 hb6
                      have HSI : Hid (i64P sv) := Lib.hid (by rw [HSV.out]; exact svi_w (HFIT.out (by first | trivial | rfl)))
                      have HX7 : Hid (xs ++ [119, 1] ++ uv (zig sv) = xs0 ++ (encMany encS m.types ++ (encMany encN m.hosts ++ (uv m.globals.length ++ (m.globals.take (k + 1)).flatMap encG)))) := Lib.hid (by rw [HX.out, flat_snoc hlt, HXK.out, HSV.out]; simp [encG])
                      have hul := uv_len10 (zig_le HSI.out)
                      have hup := uv_pos (zig sv)
                      have hx7 : (xs ++ [119, 1]).length ≤ 5010 + 12 * k + 2 := by rw [List.length_append]; simp; omega
                      have hx8 : (xs ++ [119, 1] ++ uv (zig sv)).length ≤ 5010 + 12 * (k + 1) := by rw [List.length_append]; omega
                      clear HX hx HSV HXK hsz
                      generalize xs ++ [119, 1] = xs7 at *
                      have HSVC := Lib.hid (fun wx => wire_Svar wx sv HSI.out)
                      have HRW := Lib.hid HH7.out.wm.row; have HO := Lib.hid HH7.out.wm.own; have HA := Lib.hid HH7.out.wm.apart
                      have hlt7 := row_lt HRW.out
                      have hb7 := HH7.out.hb
                      have x2 := row_cell HRW.out 2 rfl; have xf := row_free HRW.out 2
                      simp only [List.getElem_toArray, List.getElem_cons_zero, List.getElem_cons_succ] at x2
                      go_wp2_with fail
                      go_region_law (first
                        | (refine step_append_lies _ (by rfl) _ _ 41 (by rfl) base 5 j0 _ 1 1 Tryd.underlying41 hj hy0 hy1 hy2 rfl (by omega) v7 xs7.length (xs7.map (Value.int .u8)) (by rfl) hown0 ⟨g1, 0, none⟩ (uv (zig sv)).length cap1 ((uv (zig sv)).map (Value.int .u8)) (by rfl) (by simp) (hown1.cells rfl) (by intro u hu; simp at hu; obtain ⟨x, _, rfl⟩ := hu; rfl) (by omega) (by unfold maxLen; omega) (by omega) (Nat.le_trans hb7 hbel.size) w1.heap.size rfl ?_; intro g cap w2 hown2 hgrow2 hat hlt2; have hrow2 := grown_block hgrow2 hrow1 HA.out; have c2 := row_cell hrow2 2 rfl; have f2 := row_free hrow2 2)
                        | (go_simp; go_at_call 42; (with_reducible refine (HSVC.out _).mono ?_); rintro e w1 ⟨v', rfl, hown1, hbel⟩; obtain ⟨g1, cap1, rfl, _, _⟩ := hown1.form hup; have hown0 := own_below HO.out (below_step (Below.refl _ wc).drew (Nat.le_refl _) hbel); have hrow1 := (hbel.block p hlt7).trans HRW.out; have c1 := row_cell hrow1 2 rfl))
                      all_goals
                        have P := wm_put hlt7 HA.out hbel hrow2 hown2 hgrow2 hat
                        have HP := Lib.hid (HH7.out.put P.1 P.2)
                        clear P hown2 hgrow2 hat hrow2
                        generalize xs7 ++ uv (zig sv) = xs8 at *
                      all_goals go_wp2_with fail
                      all_goals go_roundw
                      all_goals first | exact ⟨k + 1, _, _, by omega, by go_num, HP, HX7, by omega, HE4⟩ | (simp [intOf]; omega)
                  · go_wp2_with fail
                    go_quiet (fail)
                    go_wp2_with fail
                    obtain ⟨sv, hsv⟩ : ∃ sv, wrap64 (gv : Int) = sv := ⟨_, rfl⟩
                    rw [hsv]
                    have HSV : Hid (sv = signedD ⟨108, false, gv⟩) := Lib.hid (by rw [← hsv]; exact sv_l hsz)
                    clear hsv
                    have HH6 := Lib.hid (HH5.out.on (drewN_below w5 nq))
                    have HR6 := Lib.hid (((drewN_below w5 nq).block _ (row_lt HR5.out)).trans HR5.out)
                    clear HH5 HR5 y0 y1 y2
                    generalize w5.drewN nq = w6 at *
                    have HRW := Lib.hid HH6.out.wm.row; have HO := Lib.hid HH6.out.wm.own; have HA := Lib.hid HH6.out.wm.apart
                    have hlt6 := row_lt HRW.out
                    have hb6 := HH6.out.hb
                    have x2 := row_cell HRW.out 2 rfl; have xf := row_free HRW.out 2
                    have y0 := row_cell HR6.out 0 rfl
                    simp only [List.getElem_toArray, List.getElem_cons_zero, List.getElem_cons_succ] at x2 y0
                    have hbel : Below w6.drew.heap.size w6.drew (w6.drew.alloc (.cells #[.int .u8 108, .int .u8 0] 5)) := below_alloc _ _
                    have HOA := Lib.hid (own_below HO.out (below_step (Below.refl _ w6).drew (Nat.le_refl _) hbel))
                    have HRA := Lib.hid ((hbel.block p hlt6).trans HRW.out)
                    have HBE := Lib.hid hbel
                    clear hbel
                    go_cut [] (fun wx => ∃ v7, Hid (Hs base w p v0 S _ m al mb sb m.types.length tv wx v7 (xs ++ [108, 0])))
                    case first =>
                      go_region_law (refine step_append_lies _ (by rfl) _ _ 41 (by rfl) base 5 j0 _ 1 1 Tryd.underlying41 hj hy0 hy1 hy2 rfl (by omega) v xs.length (xs.map (Value.int .u8)) (by rfl) HOA.out ⟨w6.heap.size, 0, none⟩ 2 2 [.int .u8 108, .int .u8 0] (by rfl) (by rfl) (news2 w6.drew _ _ _) (by simp [Value.oneCell']) (by omega) (by unfold maxLen; omega) (by omega) (by show base ≤ (w6.alloc _).heap.size; rw [World.size_alloc]; omega) (w6.heap.size + 1) (by show (w6.alloc _).heap.size = _; rw [World.size_alloc]) ?_; intro g cap w7 hown7 hgrow7 hat7 hlt7; have hrow7 := grown_block hgrow7 HRA.out HA.out; have c2 := row_cell hrow7 2 rfl; have f2 := row_free hrow7 2)
                      all_goals
                        have P := wm_put (xs := xs) (ys := [108, 0]) hlt6 HA.out HBE.out hrow7 hown7 hgrow7 (by rcases hat7 with h | h; exact .inl h; exact .inr (h.trans (World.size_alloc ..).symm))
                        have HP := Lib.hid (HH6.out.put P.1 P.2)
                        clear P hown7 hgrow7 hat7 hrow7
                        go_wp2_with fail
                        go_meet
                        exact ⟨_, HP.out⟩
                    case rest =>
                      obtain ⟨v7, HH7⟩ := hcut
                      clear HH6 HR6 HRW HO HA HOA HRA HBE x2 xf y0 hlt6 hb6
                      have HSI : Hid (i64P sv) := Lib.hid (by rw [HSV.out]; exact svi_l hsz)
                      have HX7 : Hid (xs ++ [108, 0] ++ uv (zig sv) = xs0 ++ (encMany encS m.types ++ (encMany encN m.hosts ++ (uv m.globals.length ++ (m.globals.take (k + 1)).flatMap encG)))) := Lib.hid (by rw [HX.out, flat_snoc hlt, HXK.out, HSV.out]; simp [encG])
                      have hul := uv_len10 (zig_le HSI.out)
                      have hup := uv_pos (zig sv)
                      have hx7 : (xs ++ [108, 0]).length ≤ 5010 + 12 * k + 2 := by rw [List.length_append]; simp; omega
                      have hx8 : (xs ++ [108, 0] ++ uv (zig sv)).length ≤ 5010 + 12 * (k + 1) := by rw [List.length_append]; omega
                      clear HX hx HSV HXK hsz
                      generalize xs ++ [108, 0] = xs7 at *
                      have HSVC := Lib.hid (fun wx => wire_Svar wx sv HSI.out)
                      have HRW := Lib.hid HH7.out.wm.row; have HO := Lib.hid HH7.out.wm.own; have HA := Lib.hid HH7.out.wm.apart
                      have hlt7 := row_lt HRW.out
                      have hb7 := HH7.out.hb
                      have x2 := row_cell HRW.out 2 rfl; have xf := row_free HRW.out 2
                      simp only [List.getElem_toArray, List.getElem_cons_zero, List.getElem_cons_succ] at x2
                      go_wp2_with fail
                      go_region_law (first
                        | (refine step_append_lies _ (by rfl) _ _ 41 (by rfl) base 5 j0 _ 1 1 Tryd.underlying41 hj hy0 hy1 hy2 rfl (by omega) v7 xs7.length (xs7.map (Value.int .u8)) (by rfl) hown0 ⟨g1, 0, none⟩ (uv (zig sv)).length cap1 ((uv (zig sv)).map (Value.int .u8)) (by rfl) (by simp) (hown1.cells rfl) (by intro u hu; simp at hu; obtain ⟨x, _, rfl⟩ := hu; rfl) (by omega) (by unfold maxLen; omega) (by omega) (Nat.le_trans hb7 hbel.size) w1.heap.size rfl ?_; intro g cap w2 hown2 hgrow2 hat hlt2; have hrow2 := grown_block hgrow2 hrow1 HA.out; have c2 := row_cell hrow2 2 rfl; have f2 := row_free hrow2 2)
                        | (go_simp; go_at_call 42; (with_reducible refine (HSVC.out _).mono ?_); rintro e w1 ⟨v', rfl, hown1, hbel⟩; obtain ⟨g1, cap1, rfl, _, _⟩ := hown1.form hup; have hown0 := own_below HO.out (below_step (Below.refl _ wc).drew (Nat.le_refl _) hbel); have hrow1 := (hbel.block p hlt7).trans HRW.out; have c1 := row_cell hrow1 2 rfl))
                      all_goals
                        have P := wm_put hlt7 HA.out hbel hrow2 hown2 hgrow2 hat
                        have HP := Lib.hid (HH7.out.put P.1 P.2)
                        clear P hown2 hgrow2 hat hrow2
                        generalize xs7 ++ uv (zig sv) = xs8 at *
                      all_goals go_wp2_with fail
                      all_goals go_roundw
                      all_goals first | exact ⟨k + 1, _, _, by omega, by go_num, HP, HX7, by omega, HE4⟩ | (simp [intOf]; omega)
                  · go_wp2_with fail
                    go_quiet (fail)
                    go_wp2_with fail
                    obtain ⟨sv, hsv⟩ : ∃ sv, wrap64 (gv : Int) = sv := ⟨_, rfl⟩
                    rw [hsv]
                    have HSV : Hid (sv = signedD ⟨108, true, gv⟩) := Lib.hid (by rw [← hsv]; exact sv_l hsz)
                    clear hsv
                    have HH6 := Lib.hid (HH5.out.on (drewN_below w5 nq))
                    have HR6 := Lib.hid (((drewN_below w5 nq).block _ (row_lt HR5.out)).trans HR5.out)
                    clear HH5 HR5 y0 y1 y2
                    generalize w5.drewN nq = w6 at *
                    have HRW := Lib.hid HH6.out.wm.row; have HO := Lib.hid HH6.out.wm.own; have HA := Lib.hid HH6.out.wm.apart
                    have hlt6 := row_lt HRW.out
                    have hb6 := HH6.out.hb
                    have x2 := row_cell HRW.out 2 rfl; have xf := row_free HRW.out 2
                    have y0 := row_cell HR6.out 0 rfl
                    simp only [List.getElem_toArray, List.getElem_cons_zero, List.getElem_cons_succ] at x2 y0
                    have hbel : Below w6.drew.heap.size w6.drew (w6.drew.alloc (.cells #[.int .u8 108, .int .u8 1] 5)) := below_alloc _ _
                    have HOA := Lib.hid (own_below HO.out (below_step (Below.refl _ w6).drew (Nat.le_refl _) hbel))
                    have HRA := Lib.hid ((hbel.block p hlt6).trans HRW.out)
                    have HBE := Lib.hid hbel
                    clear hbel
                    go_cut [] (fun wx => ∃ v7, Hid (Hs base w p v0 S _ m al mb sb m.types.length tv wx v7 (xs ++ [108, 1])))
                    case first =>
                      go_region_law (refine step_append_lies _ (by rfl) _ _ 41 (by rfl) base 5 j0 _ 1 1 Tryd.underlying41 hj hy0 hy1 hy2 rfl (by omega) v xs.length (xs.map (Value.int .u8)) (by rfl) HOA.out ⟨w6.heap.size, 0, none⟩ 2 2 [.int .u8 108, .int .u8 1] (by rfl) (by rfl) (news2 w6.drew _ _ _) (by simp [Value.oneCell']) (by omega) (by unfold maxLen; omega) (by omega) (by show base ≤ (w6.alloc _).heap.size; rw [World.size_alloc]; omega) (w6.heap.size + 1) (by show (w6.alloc _).heap.size = _; rw [World.size_alloc]) ?_; intro g cap w7 hown7 hgrow7 hat7 hlt7; have hrow7 := grown_block hgrow7 HRA.out HA.out; have c2 := row_cell hrow7 2 rfl; have f2 := row_free hrow7 2)
                      all_goals
                        have P := wm_put (xs := xs) (ys := [108, 1]) hlt6 HA.out HBE.out hrow7 hown7 hgrow7 (by rcases hat7 with h | h; exact .inl h; exact .inr (h.trans (World.size_alloc ..).symm))
                        have HP := Lib.hid (HH6.out.put P.1 P.2)
                        clear P hown7 hgrow7 hat7 hrow7
                        go_wp2_with fail
                        go_meet
                        exact ⟨_, HP.out⟩
                    case rest =>
                      obtain ⟨v7, HH7⟩ := hcut
                      clear HH6 HR6 HRW HO HA HOA HRA HBE x2 xf y0 hlt6 hb6
                      have HSI : Hid (i64P sv) := Lib.hid (by rw [HSV.out]; exact svi_l hsz)
                      have HX7 : Hid (xs ++ [108, 1] ++ uv (zig sv) = xs0 ++ (encMany encS m.types ++ (encMany encN m.hosts ++ (uv m.globals.length ++ (m.globals.take (k + 1)).flatMap encG)))) := Lib.hid (by rw [HX.out, flat_snoc hlt, HXK.out, HSV.out]; simp [encG])
                      have hul := uv_len10 (zig_le HSI.out)
                      have hup := uv_pos (zig sv)
                      have hx7 : (xs ++ [108, 1]).length ≤ 5010 + 12 * k + 2 := by rw [List.length_append]; simp; omega
                      have hx8 : (xs ++ [108, 1] ++ uv (zig sv)).length ≤ 5010 + 12 * (k + 1) := by rw [List.length_append]; omega
                      clear HX hx HSV HXK hsz
                      generalize xs ++ [108, 1] = xs7 at *
                      have HSVC := Lib.hid (fun wx => wire_Svar wx sv HSI.out)
                      have HRW := Lib.hid HH7.out.wm.row; have HO := Lib.hid HH7.out.wm.own; have HA := Lib.hid HH7.out.wm.apart
                      have hlt7 := row_lt HRW.out
                      have hb7 := HH7.out.hb
                      have x2 := row_cell HRW.out 2 rfl; have xf := row_free HRW.out 2
                      simp only [List.getElem_toArray, List.getElem_cons_zero, List.getElem_cons_succ] at x2
                      go_wp2_with fail
                      go_region_law (first
                        | (refine step_append_lies _ (by rfl) _ _ 41 (by rfl) base 5 j0 _ 1 1 Tryd.underlying41 hj hy0 hy1 hy2 rfl (by omega) v7 xs7.length (xs7.map (Value.int .u8)) (by rfl) hown0 ⟨g1, 0, none⟩ (uv (zig sv)).length cap1 ((uv (zig sv)).map (Value.int .u8)) (by rfl) (by simp) (hown1.cells rfl) (by intro u hu; simp at hu; obtain ⟨x, _, rfl⟩ := hu; rfl) (by omega) (by unfold maxLen; omega) (by omega) (Nat.le_trans hb7 hbel.size) w1.heap.size rfl ?_; intro g cap w2 hown2 hgrow2 hat hlt2; have hrow2 := grown_block hgrow2 hrow1 HA.out; have c2 := row_cell hrow2 2 rfl; have f2 := row_free hrow2 2)
                        | (go_simp; go_at_call 42; (with_reducible refine (HSVC.out _).mono ?_); rintro e w1 ⟨v', rfl, hown1, hbel⟩; obtain ⟨g1, cap1, rfl, _, _⟩ := hown1.form hup; have hown0 := own_below HO.out (below_step (Below.refl _ wc).drew (Nat.le_refl _) hbel); have hrow1 := (hbel.block p hlt7).trans HRW.out; have c1 := row_cell hrow1 2 rfl))
                      all_goals
                        have P := wm_put hlt7 HA.out hbel hrow2 hown2 hgrow2 hat
                        have HP := Lib.hid (HH7.out.put P.1 P.2)
                        clear P hown2 hgrow2 hat hrow2
                        generalize xs7 ++ uv (zig sv) = xs8 at *
                      all_goals go_wp2_with fail
                      all_goals go_roundw
                      all_goals first | exact ⟨k + 1, _, _, by omega, by go_num, HP, HX7, by omega, HE4⟩ | (simp [intOf]; omega)
            · obtain rfl : k = m.globals.length := by omega
              have HGL := Lib.hid (errMany_ok (most := 64) (e := fun _ => errG) (l := m.globals) (by omega) HE0.out)
              have HX1 : Hid (xs = xs0 ++ (encMany encS m.types ++ (encMany encN m.hosts ++ encMany encG m.globals))) := Lib.hid (by rw [HX.out, List.take_of_length_le (Nat.le_refl _)]; rfl)
              have HHE := Lib.hid (head_pg HT.out HHO.out HGL.out)
              have hx1 : xs.length ≤ 6000 := by omega
              clear HE0 HX hx hk HT HHO HGL
              have c3 := HH.out.mc (i := 3) rfl
              by_cases hF : m.first < 0 ∨ 64 < m.first
              · have HE : Hid (headE m = 17) := Lib.hid (by rw [HHE.out, errFirst, if_pos hF]; rfl)
                rcases hF with hF | hF
                · go_wp2_with (go_at_call 30; refine (mod_ask _ _ _ _).mono ?_; rintro r w1 ⟨rfl, rfl⟩)
                  exact ⟨rfl, .inr ⟨by rw [HE.out]; decide, by rw [HE.out], HH.out.wt.keep⟩⟩
                · have hd : decide (m.first ≤ 64) = false := decide_eq_false (by omega)
                  go_wp2_with (go_at_call 30; refine (mod_ask _ _ _ _).mono ?_; rintro r w1 ⟨rfl, rfl⟩)
                  exact ⟨rfl, .inr ⟨by rw [HE.out]; decide, by rw [HE.out], HH.out.wt.keep⟩⟩
              · have hF0 : 0 ≤ m.first := by omega
                have hF1 : m.first ≤ 64 := by omega
                have HF := Lib.hid hF
                clear hF
                go_wp2_with (go_at_call 30; refine (mod_ask _ _ _ _).mono ?_; rintro r w1 ⟨rfl, rfl⟩)
                refine (wm_numberI base _ p v xs _ al HH.out.wm HH.out.hb (by omega) m.first hF0 (by omega)).mono ?_
                rintro e w4 ⟨rfl, v4, k1, k2⟩
                have HH4 := Lib.hid (HH.out.put k1 k2)
                have hul := encN_len hF0 (by omega)
                have hx4 : (xs ++ encN m.first).length ≤ 6010 := by rw [List.length_append]; omega
                have HX4 : Hid (xs ++ encN m.first = xs0 ++ (encMany encS m.types ++ (encMany encN m.hosts ++ (encMany encG m.globals ++ encN m.first)))) := Lib.hid (by rw [HX1.out]; simp)
                clear k1 k2 HH HX1 hx1 hul c3
                generalize xs ++ encN m.first = xs4 at *
                have c3 := HH4.out.mc (i := 3) rfl
                have c4 := HH4.out.mc (i := 4) rfl
                by_cases hM : m.most < m.first ∨ 64 < m.most
                · have HE : Hid (headE m = 17) := Lib.hid (by rw [HHE.out, errFirst, if_neg HF.out, errMost, if_pos hM]; rfl)
                  rcases hM with hM | hM
                  · go_wp2_with (go_at_call 30; refine (mod_ask _ _ _ _).mono ?_; rintro r w1 ⟨rfl, rfl⟩)
                    exact ⟨rfl, .inr ⟨by rw [HE.out]; decide, by rw [HE.out], HH4.out.wt.keep⟩⟩
                  · have hd : decide (m.most ≤ 64) = false := decide_eq_false (by omega)
                    have hd2 : decide (m.first ≤ m.most) = true := decide_eq_true (by omega)
                    go_wp2_with (go_at_call 30; refine (mod_ask _ _ _ _).mono ?_; rintro r w1 ⟨rfl, rfl⟩)
                    exact ⟨rfl, .inr ⟨by rw [HE.out]; decide, by rw [HE.out], HH4.out.wt.keep⟩⟩
                · have hM0 : m.first ≤ m.most := by omega
                  have hM1 : m.most ≤ 64 := by omega
                  have HE : Hid (headE m = 0) := Lib.hid (by rw [HHE.out, errFirst, if_neg HF.out, errMost, if_neg hM]; rfl)
                  clear hM
                  go_wp2_with (go_at_call 30; refine (mod_ask _ _ _ _).mono ?_; rintro r w1 ⟨rfl, rfl⟩)
                  refine (wm_numberI base _ p v4 xs4 _ al HH4.out.wm HH4.out.hb (by omega) m.most (by omega) (by omega)).mono ?_
                  rintro e w5 ⟨rfl, v5, k1, k2⟩
                  have HH5 := Lib.hid (HH4.out.put k1 k2)
                  have hul := encN_len (n := m.most) (by omega) (by omega)
                  have hx5 : (xs4 ++ encN m.most).length ≤ 10000 := by rw [List.length_append]; omega
                  have HX5 : Hid (xs4 ++ encN m.most = xs0 ++ headB m) := Lib.hid (by rw [HX4.out, headB]; simp)
                  clear k1 k2
                  go_wp2_with fail
                  exact bodyPost_end (results_none rfl _ _ _) rfl (.inl ⟨HE.out, rfl, mb, sb, tv, v5, by rw [← HX5.out]; exact HH5.out, by rw [← HX5.out]; exact hx5⟩)
end Go.Proofs.YtfhkjahjenpbgaaDoor
