/- flagonlaw22.SnapBack, walked. -/
import Derived.Test.YthlkckpadjjbdaaUnlike
namespace Go.Proofs.Ythlkckpadjjbdaa
open Go Go.RowKit

theorem RdI.take {k : IntKind} {S : Nat → Prop} {w : World} {a : Option Addr} {n c : Nat} {l : List Int} (h : RdI k S w (.slice a n c) l) (m : Nat) (hm : m ≤ l.length) : RdI k S w (.slice a m c) (l.take m) := by
  obtain ⟨a', c', e, h1, h2, h3⟩ := h
  simp only [Value.slice.injEq] at e
  obtain ⟨rfl, rfl, rfl⟩ := e
  have hl : (l.take m).length = m := by simp; omega
  refine ⟨a, c, by rw [hl], by omega, by omega, fun j hj => ?_⟩
  obtain ⟨b, o, ea, hs, hc⟩ := h3 j (by omega)
  exact ⟨b, o, ea, hs, by rw [hc]; simp⟩

theorem RdI.lenc {k S w v l} (h : RdI k S w v l) : ∃ a cap, v = .slice a l.length cap ∧ l.length ≤ cap := by
  obtain ⟨a, cap, e, h1, _⟩ := h; exact ⟨a, cap, e, h1⟩

set_option maxRecDepth 100000 in
set_option maxHeartbeats 3200000 in
theorem law_back (w : World) (S1 S2) (cs : List Value) (s : StateD) (v : Value) (b : List Int) (hs : RState S1 w cs s) (ws : WfState s) (hr : RdI .u8 S2 w v b) (hb : Bytes b) :
    Calls Try.prog 3 #[.agg cs.toArray, v] w fun e w' => e = .returned (.bool true) ∧ Below w.heap.size w w' := by
  obtain ⟨fa, fc, ga, gc, pa, pc, ra, rc, rfl⟩ := hs.open
  obtain ⟨va, vc, rfl, hbl⟩ := hr.len
  have HBX := Lib.hid (StB.mk' hs)
  have HW := Lib.hid ws
  have HR0 := Lib.hid (hr.any.bel (below_alloc w (.cells #[.slice fa s.frames.length fc, .slice ga s.globals.length gc, .slice pa s.pages.length pc, .int .i64 s.replies, .int .i8 s.ends, .slice ra s.results.length rc, .int .i8 s.trap, .int .i64 s.used] 27)))
  have HB0 := Lib.hid (below_alloc w (.cells #[.slice fa s.frames.length fc, .slice ga s.globals.length gc, .slice pa s.pages.length pc, .int .i64 s.replies, .int .i8 s.ends, .slice ra s.results.length rc, .int .i8 s.trap, .int .i64 s.used] 27))
  have Hb := Lib.hid hb
  clear hs ws hr hb
  go_enter Try.func3, Try.ntmps3
  go_wp2_with fail
  generalize w.alloc (.cells #[.slice fa s.frames.length fc, .slice ga s.globals.length gc, .slice pa s.pages.length pc, .int .i64 s.replies, .int .i8 s.ends, .slice ra s.results.length rc, .int .i8 s.trap, .int .i64 s.used] 27) = w1 at *
  refine (law_works _).mono ?_
  rintro e w2 ⟨rfl, hb2⟩
  have HS2 := Lib.hid (HBX.out.bel hb2); have HR2 := Lib.hid (HR0.out.bel hb2); have HB2 := Lib.hid (below_next HB0.out hb2)
  clear HBX HB0 HR0 hb2
  have a0 := HS2.out.cell 0 rfl; have a1 := HS2.out.cell 1 rfl; have a2 := HS2.out.cell 2 rfl; have a3 := HS2.out.cell 3 rfl; have a4 := HS2.out.cell 4 rfl; have a5 := HS2.out.cell 5 rfl; have a6 := HS2.out.cell 6 rfl; have a7 := HS2.out.cell 7 rfl
  go_wp2_with fail
  refine (sizeState _ _ _ s HS2.out.rd).mono ?_
  rintro e w3 ⟨rfl, hb3⟩
  have HS3 := Lib.hid (HS2.out.bel hb3); have HR3 := Lib.hid (HR2.out.bel hb3); have HB3 := Lib.hid (below_next HB2.out hb3)
  clear hb3 HS2 HR2 HB2 a0 a1 a2 a3 a4 a5 a6 a7
  generalize szState s = z1
  by_cases hz1 : 1048576 < z1
  · go_wp2
    go_ret
    exact ⟨rfl, HB3.out⟩
  by_cases hz2 : 1048576 < b.length
  · go_wp2
    go_ret
    exact ⟨rfl, HB3.out⟩
  have a0 := HS3.out.cell 0 rfl; have a1 := HS3.out.cell 1 rfl; have a2 := HS3.out.cell 2 rfl; have a3 := HS3.out.cell 3 rfl; have a4 := HS3.out.cell 4 rfl; have a5 := HS3.out.cell 5 rfl; have a6 := HS3.out.cell 6 rfl; have a7 := HS3.out.cell 7 rfl
  go_wp2_with fail
  refine (snap_Write _ _ _ s HS3.out.rd HW.out).mono ?_
  rintro e w4 ⟨v4, c4, rfl, hb4, hy4, hn4⟩
  have HY4 := Lib.hid hy4; have HN4 := Lib.hid hn4
  have HS4 := Lib.hid (HS3.out.bel hb4); have HR4 := Lib.hid (HR3.out.bel hb4); have HB4 := Lib.hid (below_next HB3.out hb4)
  clear hb4 hy4 hn4 HS3 HR3 HB3 a0 a1 a2 a3 a4 a5 a6 a7
  by_cases h4 : okState s = true
  · obtain ⟨rfl, ho4⟩ := HY4.out h4
    obtain ⟨hl0, hl4⟩ := encState_len h4 HW.out
    have hro := (RdI.of_own ho4 (by omega)).any
    obtain ⟨oa, oc, rfl, hoc⟩ := hro.lenc
    have HO4 := Lib.hid hro
    have HK := Lib.hid (And.intro (encState_bytes h4 HW.out) (And.intro (read_back h4 HW.out) (read_cut h4 HW.out)))
    clear HY4 HN4 ho4 hro
    go_wp2_with fail
    refine (snap_Read _ _ _ (encState s) HK.out.1 HO4.out).mono ?_
    rintro e w5 ⟨cs5, he, hS5, hb5⟩
    rw [HK.out.2.1] at he hS5
    dsimp only at he hS5
    obtain ⟨fa5, fc5, ga5, gc5, pa5, pc5, ra5, rc5, rfl⟩ := hS5.open
    subst he
    have hb5' := hb5.alloc hb5.size (.cells #[.slice fa5 s.frames.length fc5, .slice ga5 s.globals.length gc5, .slice pa5 s.pages.length pc5, .int .i64 s.replies, .int .i8 s.ends, .slice ra5 s.results.length rc5, .int .i8 s.trap, .int .i64 s.used] 27)
    have HB5 := Lib.hid (below_next HB4.out hb5'); have HR5 := Lib.hid (HR4.out.bel hb5'); have HS5 := Lib.hid (HS4.out.bel hb5'); have HO5 := Lib.hid (HO4.out.bel hb5'); have HX5 := Lib.hid (StB.mk' hS5)
    clear HB4 HR4 HS4 HO4 hS5 hb5 hb5'
    have a0 := HS5.out.cell 0 rfl; have a1 := HS5.out.cell 1 rfl; have a2 := HS5.out.cell 2 rfl; have a3 := HS5.out.cell 3 rfl; have a4 := HS5.out.cell 4 rfl; have a5 := HS5.out.cell 5 rfl; have a6 := HS5.out.cell 6 rfl; have a7 := HS5.out.cell 7 rfl
    have b0 := HX5.out.cell 0 rfl; have b1 := HX5.out.cell 1 rfl; have b2 := HX5.out.cell 2 rfl; have b3 := HX5.out.cell 3 rfl; have b4 := HX5.out.cell 4 rfl; have b5 := HX5.out.cell 5 rfl; have b6 := HX5.out.cell 6 rfl; have b7 := HX5.out.cell 7 rfl
    go_wp2_with fail
    refine (eqState _ _ _ _ _ s s HX5.out.rd HS5.out.rd).mono ?_
    rintro e w6 ⟨he, hb6⟩
    rw [decide_eq_true rfl] at he
    subst he
    have HB6 := Lib.hid (below_next HB5.out hb6); have HR6 := Lib.hid (HR5.out.bel hb6); have HO6 := Lib.hid (HO5.out.bel hb6)
    clear HB5 HR5 HO5 HS5 HX5 hb6 a0 a1 a2 a3 a4 a5 a6 a7 b0 b1 b2 b3 b4 b5 b6 b7
    have HT6 := Lib.hid (HO6.out.take ((encState s).length - 1) (by omega))
    generalize hzl : (encState s).length = zl at *
    have HZL := Lib.hid hzl
    clear hzl
    have hwr : IntKind.i64.wrap ((zl : Int) - 1) = ((zl - 1 : Nat) : Int) := by rw [IntWalk.i64_in _ (by omega)]; omega
    go_wp2_with fail
    refine (copyBytes _ _ _ ((encState s).take (zl - 1)) HT6.out).mono ?_
    rintro e w7 ⟨v7, rfl, ho7, hb7⟩
    have HB7 := Lib.hid (below_next HB6.out hb7); have HR7 := Lib.hid (HR6.out.bel hb7)
    have HO7 := Lib.hid (RdI.of_own ho7 (by have := HZL.out; simp; omega)).any
    clear HB6 HR6 HO6 HT6 hb7 ho7
    go_wp2_with fail
    refine (snap_Read _ _ _ ((encState s).take (zl - 1)) (fun x hx => HK.out.1 x (List.mem_of_mem_take hx)) HO7.out).mono ?_
    rintro e w8 ⟨cs8, he, hS8, hb8⟩
    have hne := HK.out.2.2
    generalize (rread ((encState s).take (zl - 1))).1 = y8 at *
    generalize (rread ((encState s).take (zl - 1))).2.1 = e8 at *
    generalize (rread ((encState s).take (zl - 1))).2.2 = p8 at *
    obtain ⟨fa8, fc8, ga8, gc8, pa8, pc8, ra8, rc8, rfl⟩ := hS8.open
    subst he
    have hb8' := hb8.alloc hb8.size (.cells #[.slice fa8 y8.frames.length fc8, .slice ga8 y8.globals.length gc8, .slice pa8 y8.pages.length pc8, .int .i64 y8.replies, .int .i8 y8.ends, .slice ra8 y8.results.length rc8, .int .i8 y8.trap, .int .i64 y8.used] 27)
    have HB := Lib.hid (below_next HB7.out hb8'); have HR := Lib.hid (HR7.out.bel hb8')
    have hne' : (e8 == 0) = false := by simpa using hne
    have hb := Hb.out
    clear HB7 HR7 HO7 HK HZL hS8 hb8 hb8' hne Hb HW hwr hoc hl0 hl4
    go_wp2_with fail
    refine (snap_Read _ _ _ b hb HR.out).mono ?_
    rintro e u1 ⟨cs1, he, hX, hb1⟩
    by_cases h0 : (rread b).2.1 = 0
    · obtain ⟨x1, x2, x3⟩ := rread_inv hb h0
      rw [h0] at he
      generalize (rread b).1 = x at *
      generalize (rread b).2.2 = p2 at *
      obtain ⟨fa2, fc2, ga2, gc2, pa2, pc2, ra2, rc2, rfl⟩ := hX.open
      subst he
      have hb1' := hb1.alloc hb1.size (.cells #[.slice fa2 x.frames.length fc2, .slice ga2 x.globals.length gc2, .slice pa2 x.pages.length pc2, .int .i64 x.replies, .int .i8 x.ends, .slice ra2 x.results.length rc2, .int .i8 x.trap, .int .i64 x.used] 27)
      have HB1 := Lib.hid (below_next HB.out hb1'); have HR1 := Lib.hid (HR.out.bel hb1'); have HX1 := Lib.hid (StB.mk' hX)
      have HP := Lib.hid (And.intro x1 (And.intro x2 x3))
      clear hX hb1 hb1' x1 x2 x3 h0 HB HR
      have c0 := HX1.out.cell 0 rfl; have c1 := HX1.out.cell 1 rfl; have c2 := HX1.out.cell 2 rfl; have c3 := HX1.out.cell 3 rfl; have c4 := HX1.out.cell 4 rfl; have c5 := HX1.out.cell 5 rfl; have c6 := HX1.out.cell 6 rfl; have c7 := HX1.out.cell 7 rfl
      go_wp2_with fail
      refine (snap_Write _ _ _ x HX1.out.rd HP.out.2.1).mono ?_
      rintro e u2 ⟨v2, c2, rfl, hb2, hy2, -⟩
      obtain ⟨rfl, ho2⟩ := hy2 HP.out.1
      have HB2 := Lib.hid (below_next HB1.out hb2); have HR2 := Lib.hid (HR1.out.bel hb2)
      have HO2 := Lib.hid (RdI.of_own ho2 (by have := (encState_len HP.out.1 HP.out.2.1).2; omega)).any
      clear hb2 hy2 ho2 HB1 HR1 HX1 c0 c1 c2 c3 c4 c5 c6 c7
      go_wp2_with fail
      refine (eqBytes _ _ _ _ _ _ _ HO2.out HR2.out).mono ?_
      rintro e u3 ⟨he, n3, rfl⟩
      rw [HP.out.2.2, decide_eq_true rfl] at he
      subst he
      have HB3 := Lib.hid (below_next HB2.out (drewN_below _ n3))
      clear HB2 HR2 HO2
      go_wp2
      go_ret
      exact ⟨rfl, HB3.out⟩
    · have hbad := rread_bad h0
      rw [hbad] at hX
      generalize (rread b).2.1 = e2 at *
      generalize (rread b).2.2 = p2 at *
      generalize (rread b).1 = x at *
      obtain ⟨fa2, fc2, ga2, gc2, pa2, pc2, ra2, rc2, rfl⟩ := hX.open
      subst he
      have hb1' := hb1.alloc hb1.size (.cells #[.slice fa2 emptyS.frames.length fc2, .slice ga2 emptyS.globals.length gc2, .slice pa2 emptyS.pages.length pc2, .int .i64 emptyS.replies, .int .i8 emptyS.ends, .slice ra2 emptyS.results.length rc2, .int .i8 emptyS.trap, .int .i64 emptyS.used] 27)
      have HB1 := Lib.hid (below_next HB.out hb1'); have HX1 := Lib.hid (StB.mk' hX)
      clear hX hb1 hb1' hbad HB HR
      have c0 := HX1.out.cell 0 rfl; have c1 := HX1.out.cell 1 rfl; have c2 := HX1.out.cell 2 rfl; have c3 := HX1.out.cell 3 rfl; have c4 := HX1.out.cell 4 rfl; have c5 := HX1.out.cell 5 rfl; have c6 := HX1.out.cell 6 rfl; have c7 := HX1.out.cell 7 rfl
      have h0' : (e2 == 0) = false := by simpa using h0
      have h0'' : (e2 != 0) = true := by simpa using h0
      clear h0
      go_wp2_with fail
      refine (eqState _ _ (fun _ => True) _ _ emptyS emptyS HX1.out.rd (REmpty _ _)).mono ?_
      rintro e u2 ⟨he, hb2⟩
      rw [decide_eq_true rfl] at he
      subst he
      have HB2 := Lib.hid (below_next HB1.out hb2)
      clear hb2 HB1 HX1 c0 c1 c2 c3 c4 c5 c6 c7
      go_wp2
      go_ret
      exact ⟨rfl, HB2.out⟩
  · obtain ⟨rfl, rfl⟩ := HN4.out (by simpa using h4)
    clear HY4 HN4 h4 HS4 HW
    have hb := Hb.out
    have HR := HR4; have HB := HB4
    clear HR4 HB4 Hb
    go_wp2_with fail
    refine (snap_Read _ _ _ b hb HR.out).mono ?_
    rintro e u1 ⟨cs1, he, hX, hb1⟩
    by_cases h0 : (rread b).2.1 = 0
    · obtain ⟨x1, x2, x3⟩ := rread_inv hb h0
      rw [h0] at he
      generalize (rread b).1 = x at *
      generalize (rread b).2.2 = p2 at *
      obtain ⟨fa2, fc2, ga2, gc2, pa2, pc2, ra2, rc2, rfl⟩ := hX.open
      subst he
      have hb1' := hb1.alloc hb1.size (.cells #[.slice fa2 x.frames.length fc2, .slice ga2 x.globals.length gc2, .slice pa2 x.pages.length pc2, .int .i64 x.replies, .int .i8 x.ends, .slice ra2 x.results.length rc2, .int .i8 x.trap, .int .i64 x.used] 27)
      have HB1 := Lib.hid (below_next HB.out hb1'); have HR1 := Lib.hid (HR.out.bel hb1'); have HX1 := Lib.hid (StB.mk' hX)
      have HP := Lib.hid (And.intro x1 (And.intro x2 x3))
      clear hX hb1 hb1' x1 x2 x3 h0 HB HR
      have c0 := HX1.out.cell 0 rfl; have c1 := HX1.out.cell 1 rfl; have c2 := HX1.out.cell 2 rfl; have c3 := HX1.out.cell 3 rfl; have c4 := HX1.out.cell 4 rfl; have c5 := HX1.out.cell 5 rfl; have c6 := HX1.out.cell 6 rfl; have c7 := HX1.out.cell 7 rfl
      go_wp2_with fail
      refine (snap_Write _ _ _ x HX1.out.rd HP.out.2.1).mono ?_
      rintro e u2 ⟨v2, c2, rfl, hb2, hy2, -⟩
      obtain ⟨rfl, ho2⟩ := hy2 HP.out.1
      have HB2 := Lib.hid (below_next HB1.out hb2); have HR2 := Lib.hid (HR1.out.bel hb2)
      have HO2 := Lib.hid (RdI.of_own ho2 (by have := (encState_len HP.out.1 HP.out.2.1).2; omega)).any
      clear hb2 hy2 ho2 HB1 HR1 HX1 c0 c1 c2 c3 c4 c5 c6 c7
      go_wp2_with fail
      refine (eqBytes _ _ _ _ _ _ _ HO2.out HR2.out).mono ?_
      rintro e u3 ⟨he, n3, rfl⟩
      rw [HP.out.2.2, decide_eq_true rfl] at he
      subst he
      have HB3 := Lib.hid (below_next HB2.out (drewN_below _ n3))
      clear HB2 HR2 HO2
      go_wp2
      go_ret
      exact ⟨rfl, HB3.out⟩
    · have hbad := rread_bad h0
      rw [hbad] at hX
      generalize (rread b).2.1 = e2 at *
      generalize (rread b).2.2 = p2 at *
      generalize (rread b).1 = x at *
      obtain ⟨fa2, fc2, ga2, gc2, pa2, pc2, ra2, rc2, rfl⟩ := hX.open
      subst he
      have hb1' := hb1.alloc hb1.size (.cells #[.slice fa2 emptyS.frames.length fc2, .slice ga2 emptyS.globals.length gc2, .slice pa2 emptyS.pages.length pc2, .int .i64 emptyS.replies, .int .i8 emptyS.ends, .slice ra2 emptyS.results.length rc2, .int .i8 emptyS.trap, .int .i64 emptyS.used] 27)
      have HB1 := Lib.hid (below_next HB.out hb1'); have HX1 := Lib.hid (StB.mk' hX)
      clear hX hb1 hb1' hbad HB HR
      have c0 := HX1.out.cell 0 rfl; have c1 := HX1.out.cell 1 rfl; have c2 := HX1.out.cell 2 rfl; have c3 := HX1.out.cell 3 rfl; have c4 := HX1.out.cell 4 rfl; have c5 := HX1.out.cell 5 rfl; have c6 := HX1.out.cell 6 rfl; have c7 := HX1.out.cell 7 rfl
      have h0' : (e2 == 0) = false := by simpa using h0
      have h0'' : (e2 != 0) = true := by simpa using h0
      clear h0
      go_wp2_with fail
      refine (eqState _ _ (fun _ => True) _ _ emptyS emptyS HX1.out.rd (REmpty _ _)).mono ?_
      rintro e u2 ⟨he, hb2⟩
      rw [decide_eq_true rfl] at he
      subst he
      have HB2 := Lib.hid (below_next HB1.out hb2)
      clear hb2 HB1 HX1 c0 c1 c2 c3 c4 c5 c6 c7
      go_wp2
      go_ret
      exact ⟨rfl, HB2.out⟩
end Go.Proofs.Ythlkckpadjjbdaa
