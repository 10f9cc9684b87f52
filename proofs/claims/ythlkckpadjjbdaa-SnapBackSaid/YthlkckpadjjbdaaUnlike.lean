/- flagonlaw22.SnapUnlike, walked. -/
import Derived.Test.YthlkckpadjjbdaaLaw22
namespace Go.Proofs.Ythlkckpadjjbdaa
open Go Go.RowKit

theorem enc_inj {s t : StateD} (hs : okState s = true) (ws : WfState s) (ht : okState t = true) (wt : WfState t) : decide (encState s = encState t) = decide (s = t) := by
  rw [decide_eq_decide]
  constructor
  · intro h
    have h1 := read_back hs ws
    rw [h, read_back ht wt] at h1
    exact (congrArg Prod.fst h1).symm
  · rintro rfl; rfl
/-- Two boxes just laid, as states in blocks. -/
theorem boxes_st {w : World} {S1 S2 : Nat → Prop} {cs ds : List Value} {s t : StateD} (hs : RState S1 w cs s) (ht : RState S2 w ds t) :
    StB (· < ((w.alloc (.cells cs.toArray 27)).alloc (.cells ds.toArray 27)).heap.size) ((w.alloc (.cells cs.toArray 27)).alloc (.cells ds.toArray 27)) w.heap.size cs s ∧
    StB (· < ((w.alloc (.cells cs.toArray 27)).alloc (.cells ds.toArray 27)).heap.size) ((w.alloc (.cells cs.toArray 27)).alloc (.cells ds.toArray 27)) (w.heap.size + 1) ds t := by
  have h1 := (StB.mk' hs).bel (below_alloc _ (.cells ds.toArray 27))
  have h2 := StB.mk' (ht.keeps ((Keeps.refl S2 w).alloc (.cells cs.toArray 27)))
  rw [World.size_alloc w] at h2
  exact ⟨h1, h2⟩

theorem StB.cells {S : Nat → Prop} {w w' : World} {g : Nat} {c0 c1 c2 c3 c4 c5 c6 c7 : Value} {s : StateD} (h : StB S w g [c0, c1, c2, c3, c4, c5, c6, c7] s) (hb : Hid (Below w.heap.size w w')) :
    w'.cell? ⟨g, 0, none⟩ = some c0 ∧ w'.cell? ⟨g, 1, none⟩ = some c1 ∧ w'.cell? ⟨g, 2, none⟩ = some c2 ∧ w'.cell? ⟨g, 3, none⟩ = some c3 ∧ w'.cell? ⟨g, 4, none⟩ = some c4 ∧ w'.cell? ⟨g, 5, none⟩ = some c5 ∧ w'.cell? ⟨g, 6, none⟩ = some c6 ∧ w'.cell? ⟨g, 7, none⟩ = some c7 :=
  ⟨cell_below hb.out (h.cell 0 rfl), cell_below hb.out (h.cell 1 rfl), cell_below hb.out (h.cell 2 rfl), cell_below hb.out (h.cell 3 rfl), cell_below hb.out (h.cell 4 rfl), cell_below hb.out (h.cell 5 rfl), cell_below hb.out (h.cell 6 rfl), cell_below hb.out (h.cell 7 rfl)⟩
theorem hid_drewN {w w' : World} (h : Hid (Below w.heap.size w w')) (n : Nat) : Hid (Below w.heap.size w (w'.drewN n)) := Lib.hid (below_next h.out (drewN_below _ _))
theorem hid_drew {w w' : World} (h : Hid (Below w.heap.size w w')) : Hid (Below w.heap.size w w'.drew) := Lib.hid (below_next h.out (drewN_below _ 1))
theorem hid_next {w w' w'' : World} (h : Hid (Below w.heap.size w w')) (k : Hid (Below w'.heap.size w' w'')) : Hid (Below w.heap.size w w'') := Lib.hid (below_next h.out k.out)
theorem keepU {S T : Nat → Prop} {w w' : World} {g k : Nat} {c0 c1 c2 c3 c4 c5 c6 c7 d0 d1 d2 d3 d4 d5 d6 d7 : Value} {s t : StateD} (h : StB S w g [c0, c1, c2, c3, c4, c5, c6, c7] s) (h' : StB T w k [d0, d1, d2, d3, d4, d5, d6, d7] t) (hb : Hid (Below w.heap.size w w')) :
    (w'.cell? ⟨g, 0, none⟩ = some c0 ∧ w'.cell? ⟨g, 1, none⟩ = some c1 ∧ w'.cell? ⟨g, 2, none⟩ = some c2 ∧ w'.cell? ⟨g, 3, none⟩ = some c3 ∧ w'.cell? ⟨g, 4, none⟩ = some c4 ∧ w'.cell? ⟨g, 5, none⟩ = some c5 ∧ w'.cell? ⟨g, 6, none⟩ = some c6 ∧ w'.cell? ⟨g, 7, none⟩ = some c7) ∧
    (w'.cell? ⟨k, 0, none⟩ = some d0 ∧ w'.cell? ⟨k, 1, none⟩ = some d1 ∧ w'.cell? ⟨k, 2, none⟩ = some d2 ∧ w'.cell? ⟨k, 3, none⟩ = some d3 ∧ w'.cell? ⟨k, 4, none⟩ = some d4 ∧ w'.cell? ⟨k, 5, none⟩ = some d5 ∧ w'.cell? ⟨k, 6, none⟩ = some d6 ∧ w'.cell? ⟨k, 7, none⟩ = some d7) ∧ Hid (Below w.heap.size w w') :=
  ⟨h.cells hb, h'.cells hb, hb⟩
theorem heldOf {A B C : Prop} (h : A ∧ B ∧ C) : C := h.2.2
theorem hid_refl (w : World) : Hid (Below w.heap.size w w) := Lib.hid (Below.refl _ _)

set_option maxRecDepth 100000 in
set_option maxHeartbeats 1600000 in
theorem law_unlike (w : World) (S1 S2) (cs ds : List Value) (s t : StateD) (hs : RState S1 w cs s) (ht : RState S2 w ds t) (ws : WfState s) (wt : WfState t) :
    Calls Try.prog 4 #[.agg cs.toArray, .agg ds.toArray] w fun e w' => e = .returned (.bool true) ∧ Below w.heap.size w w' := by
  obtain ⟨fa, fc, ga, gc, pa, pc, ra, rc, rfl⟩ := hs.open
  obtain ⟨fa', fc', ga', gc', pa', pc', ra', rc', rfl⟩ := ht.open
  have HBX := Lib.hid (boxes_st hs ht)
  have HW := Lib.hid (And.intro ws wt)
  have HB0 := Lib.hid (below_alloc2 w (.cells #[.slice fa s.frames.length fc, .slice ga s.globals.length gc, .slice pa s.pages.length pc, .int .i64 s.replies, .int .i8 s.ends, .slice ra s.results.length rc, .int .i8 s.trap, .int .i64 s.used] 27) (.cells #[.slice fa' t.frames.length fc', .slice ga' t.globals.length gc', .slice pa' t.pages.length pc', .int .i64 t.replies, .int .i8 t.ends, .slice ra' t.results.length rc', .int .i8 t.trap, .int .i64 t.used] 27))
  clear hs ht ws wt
  go_enter Try.func4, Try.ntmps4
  go_wp2_with fail
  generalize (w.alloc (.cells #[.slice fa s.frames.length fc, .slice ga s.globals.length gc, .slice pa s.pages.length pc, .int .i64 s.replies, .int .i8 s.ends, .slice ra s.results.length rc, .int .i8 s.trap, .int .i64 s.used] 27)).alloc (.cells #[.slice fa' t.frames.length fc', .slice ga' t.globals.length gc', .slice pa' t.pages.length pc', .int .i64 t.replies, .int .i8 t.ends, .slice ra' t.results.length rc', .int .i8 t.trap, .int .i64 t.used] 27) = w1 at *
  refine (law_works _).mono ?_
  rintro e w2 ⟨rfl, hb2⟩
  have HS2 := Lib.hid (HBX.out.1.bel hb2); have HT2 := Lib.hid (HBX.out.2.bel hb2)
  have HB2 := Lib.hid (below_next HB0.out hb2)
  clear HBX HB0 hb2
  have a0 := HS2.out.cell 0 rfl; have a1 := HS2.out.cell 1 rfl; have a2 := HS2.out.cell 2 rfl; have a3 := HS2.out.cell 3 rfl; have a4 := HS2.out.cell 4 rfl; have a5 := HS2.out.cell 5 rfl; have a6 := HS2.out.cell 6 rfl; have a7 := HS2.out.cell 7 rfl
  go_wp2_with fail
  refine (sizeState _ _ _ s HS2.out.rd).mono ?_
  rintro e w3 ⟨rfl, hb3⟩
  have HS3 := Lib.hid (HS2.out.bel hb3); have HT3 := Lib.hid (HT2.out.bel hb3); have HB3 := Lib.hid (below_next HB2.out hb3)
  clear hb3 HS2 HT2 HB2 a0 a1 a2 a3 a4 a5 a6 a7
  generalize szState s = z1
  by_cases hz1 : 1048576 < z1
  · go_wp2
    go_ret
    exact ⟨rfl, HB3.out⟩
  have b0 := HT3.out.cell 0 rfl; have b1 := HT3.out.cell 1 rfl; have b2 := HT3.out.cell 2 rfl; have b3 := HT3.out.cell 3 rfl; have b4 := HT3.out.cell 4 rfl; have b5 := HT3.out.cell 5 rfl; have b6 := HT3.out.cell 6 rfl; have b7 := HT3.out.cell 7 rfl
  go_wp2_with fail
  refine (sizeState _ _ _ t HT3.out.rd).mono ?_
  rintro e w4 ⟨rfl, hb4⟩
  have HS4 := Lib.hid (HS3.out.bel hb4); have HT4 := Lib.hid (HT3.out.bel hb4); have HB4 := Lib.hid (below_next HB3.out hb4)
  clear hb4 HS3 HT3 HB3 b0 b1 b2 b3 b4 b5 b6 b7
  generalize szState t = z2
  by_cases hz2 : 1048576 < z2
  · go_wp2
    go_ret
    exact ⟨rfl, HB4.out⟩
  have a0 := HS4.out.cell 0 rfl; have a1 := HS4.out.cell 1 rfl; have a2 := HS4.out.cell 2 rfl; have a3 := HS4.out.cell 3 rfl; have a4 := HS4.out.cell 4 rfl; have a5 := HS4.out.cell 5 rfl; have a6 := HS4.out.cell 6 rfl; have a7 := HS4.out.cell 7 rfl
  go_wp2_with fail
  refine (snap_Write _ _ _ s HS4.out.rd HW.out.1).mono ?_
  rintro e w5 ⟨v5, c5, rfl, hb5, hy5, hn5⟩
  have HY5 := Lib.hid hy5; have HN5 := Lib.hid hn5
  have HS5 := Lib.hid (HS4.out.bel hb5); have HT5 := Lib.hid (HT4.out.bel hb5); have HB5 := Lib.hid (below_next HB4.out hb5)
  clear hb5 hy5 hn5 HS4 HT4 HB4 a0 a1 a2 a3 a4 a5 a6 a7
  have b0 := HT5.out.cell 0 rfl; have b1 := HT5.out.cell 1 rfl; have b2 := HT5.out.cell 2 rfl; have b3 := HT5.out.cell 3 rfl; have b4 := HT5.out.cell 4 rfl; have b5 := HT5.out.cell 5 rfl; have b6 := HT5.out.cell 6 rfl; have b7 := HT5.out.cell 7 rfl
  go_wp2_with fail
  refine (snap_Write _ _ _ t HT5.out.rd HW.out.2).mono ?_
  rintro e w6 ⟨v6, c6, rfl, hb6, hy6, hn6⟩
  have HY6 := Lib.hid hy6; have HN6 := Lib.hid hn6
  have HS6 := Lib.hid (HS5.out.bel hb6); have HT6 := Lib.hid (HT5.out.bel hb6); have HB6 := Lib.hid (below_next HB5.out hb6)
  have HO5 : Hid (okState s = true → RdI .u8 (· < w6.heap.size) w6 v5 (encState s)) := fun h =>
    (RdI.of_own (HY5.out h).2 (by have := (encState_len h HW.out.1).2; omega)).any.bel hb6
  have HO6 : Hid (okState t = true → RdI .u8 (· < w6.heap.size) w6 v6 (encState t)) := fun h =>
    (RdI.of_own (HY6.out h).2 (by have := (encState_len h HW.out.2).2; omega)).any
  clear hb6 hy6 hn6 HS5 HT5 HB5 b0 b1 b2 b3 b4 b5 b6 b7
  by_cases h5 : okState s = true
  · obtain ⟨rfl, -⟩ := HY5.out h5
    have ho5 := HO5.out h5
    clear HY5 HN5 HO5
    by_cases h6 : okState t = true
    · obtain ⟨rfl, -⟩ := HY6.out h6
      have HE := Lib.hid (And.intro ho5 (HO6.out h6))
      have HQ := Lib.hid (enc_inj h5 HW.out.1 h6 HW.out.2)
      clear HY6 HN6 HO6 ho5 h5 h6
      go_wp2_with fail
      have hb6 := hid_refl w6
      go_region_held3 (fun w' => (w'.cell? ⟨w.heap.size, 0, none⟩ = some (Value.slice fa s.frames.length fc) ∧ w'.cell? ⟨w.heap.size, 1, none⟩ = some (Value.slice ga s.globals.length gc) ∧ w'.cell? ⟨w.heap.size, 2, none⟩ = some (Value.slice pa s.pages.length pc) ∧ w'.cell? ⟨w.heap.size, 3, none⟩ = some (Value.int .i64 s.replies) ∧ w'.cell? ⟨w.heap.size, 4, none⟩ = some (Value.int .i8 s.ends) ∧ w'.cell? ⟨w.heap.size, 5, none⟩ = some (Value.slice ra s.results.length rc) ∧ w'.cell? ⟨w.heap.size, 6, none⟩ = some (Value.int .i8 s.trap) ∧ w'.cell? ⟨w.heap.size, 7, none⟩ = some (Value.int .i64 s.used)) ∧ (w'.cell? ⟨w.heap.size + 1, 0, none⟩ = some (Value.slice fa' t.frames.length fc') ∧ w'.cell? ⟨w.heap.size + 1, 1, none⟩ = some (Value.slice ga' t.globals.length gc') ∧ w'.cell? ⟨w.heap.size + 1, 2, none⟩ = some (Value.slice pa' t.pages.length pc') ∧ w'.cell? ⟨w.heap.size + 1, 3, none⟩ = some (Value.int .i64 t.replies) ∧ w'.cell? ⟨w.heap.size + 1, 4, none⟩ = some (Value.int .i8 t.ends) ∧ w'.cell? ⟨w.heap.size + 1, 5, none⟩ = some (Value.slice ra' t.results.length rc') ∧ w'.cell? ⟨w.heap.size + 1, 6, none⟩ = some (Value.int .i8 t.trap) ∧ w'.cell? ⟨w.heap.size + 1, 7, none⟩ = some (Value.int .i64 t.used)) ∧ Hid (Below w6.heap.size w6 w'))
        ((refine keepU HS6.out HT6.out ?_; first | exact hid_drew hb6 | exact hid_drewN hb6 _ | assumption))
        (first | (go_at_call 11; (have hh : Hid (Below w6.heap.size w6 w6.drew) := hid_drew hb6); refine (eqBytes _ _ _ v5 v6 (encState s) (encState t) (HE.out.1.keeps (Keeps.all _ hh.out)) (HE.out.2.keeps (Keeps.all _ hh.out))).mono ?_; rintro e w' ⟨rfl, n, rfl⟩; clear hh) | (go_at_call 9; refine (eqState _ _ _ _ _ s t (HS6.out.rd.keeps (Keeps.all _ (Hid.out (hid_drewN hb6 _)))) (HT6.out.rd.keeps (Keeps.all _ (Hid.out (hid_drewN hb6 _))))).mono ?_; rintro e w' ⟨rfl, hb⟩; have hb := hid_next (hid_drewN hb6 _) (Lib.hid hb)))
      rename_i _ hh
      have HB7 := Lib.hid (below_next HB6.out (heldOf hh).out)
      clear hh
      go_wp2
      go_ret
      exact ⟨ret_bool (by rw [HQ.out]; simp), HB7.out⟩
    · obtain ⟨rfl, rfl⟩ := HN6.out (by simpa using h6)
      clear HY6 HN6 HO6 ho5 h5 h6 HS6 HT6
      go_wp2
      go_ret
      exact ⟨rfl, HB6.out⟩
  · obtain ⟨rfl, rfl⟩ := HN5.out (by simpa using h5)
    clear HY5 HN5 HO5 h5 HS6 HT6
    by_cases h6 : okState t = true
    · obtain ⟨rfl, -⟩ := HY6.out h6
      clear HY6 HN6 HO6 h6
      go_wp2
      go_ret
      exact ⟨rfl, HB6.out⟩
    · obtain ⟨rfl, rfl⟩ := HN6.out (by simpa using h6)
      clear HY6 HN6 HO6 h6
      go_wp2
      go_ret
      exact ⟨rfl, HB6.out⟩
end Go.Proofs.Ythlkckpadjjbdaa
