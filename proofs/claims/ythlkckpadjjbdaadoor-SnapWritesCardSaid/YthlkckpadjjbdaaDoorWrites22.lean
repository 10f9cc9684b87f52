/- flagonlaw22.SnapWrites, walked. -/
import Derived.Test.YthlkckpadjjbdaaDoorLaw22
import Derived.Test.YthlkckpadjjbdaaDoorWrite22
import Derived.Test.YthlkckpadjjbdaaDoorWideSt
import Derived.Test.YthlkckpadjjbdaaDoorTwin
namespace Go.Proofs.YthlkckpadjjbdaaDoor
open Go Go.RowKit

def outW (s : StateD) : List Int := if okState s then encState s else []
def codeW (s : StateD) : Int := if okState s then 0 else 44
theorem outW_len {s : StateD} (wf : WfState s) : (outW s).length ≤ 1048576 := by
  unfold outW
  split
  · rename_i h
    have := (encState_len h wf).2
    omega
  · simp
theorem snap_WriteQ (w : World) (S) (cs : List Value) (s : StateD) (h : RState S w cs s) (hwf : WfState s) :
    Calls Tryd.prog 8 #[.agg cs.toArray] w fun e w' => ∃ v', e = .returned (.tuple #[v', .int .i64 (codeW s)]) ∧ Below w.heap.size w w' ∧ w'.ownsRow w.heap.size 5 1 v' (outW s).length ((outW s).map (Value.int .u8)) :=
  (snap_Write w S cs s h hwf).mono fun e w' ⟨v', c, he, hb, h1, h2⟩ => by
    unfold outW codeW
    cases ho : okState s with
    | true => obtain ⟨rfl, h3⟩ := h1 ho; exact ⟨v', he, hb, h3⟩
    | false => obtain ⟨rfl, rfl⟩ := h2 ho; exact ⟨_, he, hb, World.ownsRow_nil _ _ _ _⟩
theorem ref22_WriteQ (w : World) (S) (cs : List Value) (s : StateD) (h : RState S w cs s) (hwf : WfState s) :
    Calls Tryd.prog 9 #[.agg cs.toArray] w fun e w' => ∃ v', e = .returned (.tuple #[v', .int .i64 (codeW s)]) ∧ Below w.heap.size w w' ∧ w'.ownsRow w.heap.size 5 1 v' (outW s).length ((outW s).map (Value.int .u8)) :=
  (ref22_Write w S cs s h hwf).mono fun e w' ⟨v', c, he, hb, h1, h2⟩ => by
    unfold outW codeW
    cases ho : okState s with
    | true => obtain ⟨rfl, h3⟩ := h1 ho; exact ⟨v', he, hb, h3⟩
    | false => obtain ⟨rfl, rfl⟩ := h2 ho; exact ⟨_, he, hb, World.ownsRow_nil _ _ _ _⟩
theorem tp_lt {w : World} (h : Tp w) : 0 < w.heap.size := by
  unfold Tp Lib.TabIs World.var? at h
  obtain ⟨g, hg, h1⟩ := Option.bind_eq_some_iff.1 h
  obtain rfl : g = 0 := Option.some.inj (hg.symm.trans (by kernel_rfl))
  split at h1
  · rename_i cs T fr hr
    exact row_lt hr
  · simp at h1
theorem tp_low {B : Nat} {w w' : World} (h : Tp w) (hb : Below B w w') (hB : 0 < B) : Tp w' := by
  unfold Tp Lib.TabIs World.var? at *
  obtain ⟨g, hg, h1⟩ := Option.bind_eq_some_iff.1 h
  refine Option.bind_eq_some_iff.2 ⟨g, hg, ?_⟩
  obtain rfl : g = 0 := Option.some.inj (hg.symm.trans (by kernel_rfl))
  split at h1
  · rename_i cs T fr hr
    rw [hb.block _ hB, hr]
    exact h1
  · simp at h1
/-- What was there before anything was written: all of it below B. -/
structure Fs (B : Nat) (w : World) (s : StateD) (cs : List Value) (gx gk g0 g1 g2 g3 : Nat) : Prop where
  rx : w.heap[gx]? = some (.cells cs.toArray 27 (0, 0))
  rd : RState (· < B) w cs s
  rk : w.heap[gk]? = some (.cells #[.slice (some ⟨g0, 0, none⟩) s.frames.length (s.frames.length + 64), .slice (some ⟨g1, 0, none⟩) s.globals.length (s.globals.length + 64), .slice (some ⟨g2, 0, none⟩) s.pages.length (s.pages.length + 64), .int .i64 s.replies, .int .i8 s.ends, .slice (some ⟨g3, 0, none⟩) s.results.length (s.results.length + 64), .int .i8 s.trap, .int .i64 s.used] 27 (0, 0))
  wl : WState (· < B) w g0 g1 g2 g3 s
  lx : gx < B
  lk : gk < B
theorem Fs.on {B gx gk g0 g1 g2 g3 : Nat} {w w' : World} {s : StateD} {cs : List Value} (h : Fs B w s cs gx gk g0 g1 g2 g3) (hb : Below B w w') : Fs B w' s cs gx gk g0 g1 g2 g3 :=
  ⟨(hb.block _ h.lx).trans h.rx, h.rd.keeps (Keeps.of_below hb), (hb.block _ h.lk).trans h.rk, h.wl.keeps (Keeps.of_below hb) fun _ h => h, h.lx, h.lk⟩
theorem Fs.up {B B' gx gk g0 g1 g2 g3 : Nat} {w : World} {s : StateD} {cs : List Value} (h : Fs B w s cs gx gk g0 g1 g2 g3) (hB : B ≤ B') : Fs B' w s cs gx gk g0 g1 g2 g3 :=
  ⟨h.rx, h.rd.mono fun _ _ hb => Nat.lt_of_lt_of_le hb hB, h.rk, h.wl.mono fun _ hb => Nat.lt_of_lt_of_le hb hB, Nat.lt_of_lt_of_le h.lx hB, Nat.lt_of_lt_of_le h.lk hB⟩
theorem Fs.kc {B gx gk g0 g1 g2 g3 : Nat} {w : World} {s : StateD} {cs : List Value} (h : Fs B w s cs gx gk g0 g1 g2 g3) :
    w.cell? ⟨gk, 0, none⟩ = some (.slice (some ⟨g0, 0, none⟩) s.frames.length (s.frames.length + 64)) ∧ w.cell? ⟨gk, 1, none⟩ = some (.slice (some ⟨g1, 0, none⟩) s.globals.length (s.globals.length + 64)) ∧ w.cell? ⟨gk, 2, none⟩ = some (.slice (some ⟨g2, 0, none⟩) s.pages.length (s.pages.length + 64)) ∧ w.cell? ⟨gk, 3, none⟩ = some (.int .i64 s.replies) ∧ w.cell? ⟨gk, 4, none⟩ = some (.int .i8 s.ends) ∧ w.cell? ⟨gk, 5, none⟩ = some (.slice (some ⟨g3, 0, none⟩) s.results.length (s.results.length + 64)) ∧ w.cell? ⟨gk, 6, none⟩ = some (.int .i8 s.trap) ∧ w.cell? ⟨gk, 7, none⟩ = some (.int .i64 s.used) :=
  ⟨row_cell h.rk 0 rfl, row_cell h.rk 1 rfl, row_cell h.rk 2 rfl, row_cell h.rk 3 rfl, row_cell h.rk 4 rfl, row_cell h.rk 5 rfl, row_cell h.rk 6 rfl, row_cell h.rk 7 rfl⟩
theorem Fs.xc {B gx gk g0 g1 g2 g3 : Nat} {w : World} {s : StateD} {c0 c1 c2 c3 c4 c5 c6 c7 : Value} (h : Fs B w s [c0, c1, c2, c3, c4, c5, c6, c7] gx gk g0 g1 g2 g3) :
    w.cell? ⟨gx, 0, none⟩ = some (c0) ∧ w.cell? ⟨gx, 1, none⟩ = some (c1) ∧ w.cell? ⟨gx, 2, none⟩ = some (c2) ∧ w.cell? ⟨gx, 3, none⟩ = some (c3) ∧ w.cell? ⟨gx, 4, none⟩ = some (c4) ∧ w.cell? ⟨gx, 5, none⟩ = some (c5) ∧ w.cell? ⟨gx, 6, none⟩ = some (c6) ∧ w.cell? ⟨gx, 7, none⟩ = some (c7) :=
  ⟨row_cell h.rx 0 rfl, row_cell h.rx 1 rfl, row_cell h.rx 2 rfl, row_cell h.rx 3 rfl, row_cell h.rx 4 rfl, row_cell h.rx 5 rfl, row_cell h.rx 6 rfl, row_cell h.rx 7 rfl⟩
set_option maxRecDepth 100000 in
set_option maxHeartbeats 6400000 in
theorem law_writes22 (w : World) (cs : List Value) (s : StateD) (hs : RState (· < w.heap.size) w cs s) (ws : WfState s) (ht : Tp w) :
    Calls Tryd.prog 3 #[.agg cs.toArray] w fun e w' => e = .returned (.bool true) ∧ Below w.heap.size w w' := by
  obtain ⟨fa, fc, ga, gc, pa, pc, ra, rc, rfl⟩ := hs.open
  have HBX := Lib.hid (StB.mk' hs)
  have HWF := Lib.hid ws
  have HB0 := Lib.hid (below_alloc w (.cells #[.slice fa s.frames.length fc, .slice ga s.globals.length gc, .slice pa s.pages.length pc, .int .i64 s.replies, .int .i8 s.ends, .slice ra s.results.length rc, .int .i8 s.trap, .int .i64 s.used] 27))
  have HT0 := Lib.hid (ht.bel HB0.out)
  have HLEN := Lib.hid (outW_len ws)
  clear hs ws ht
  go_enter Tryd.func3, Tryd.ntmps3
  go_wp2_with fail
  generalize w.alloc (.cells #[.slice fa s.frames.length fc, .slice ga s.globals.length gc, .slice pa s.pages.length pc, .int .i64 s.replies, .int .i8 s.ends, .slice ra s.results.length rc, .int .i8 s.trap, .int .i64 s.used] 27) = w1 at *
  refine (law_works _).mono ?_
  rintro e w2 ⟨rfl, hb2⟩
  have HS2 := Lib.hid (HBX.out.bel hb2)
  have HB2 := Lib.hid (below_next HB0.out hb2)
  have HT2 := Lib.hid (HT0.out.bel hb2)
  clear HBX HB0 hb2 HT0
  have a0 := HS2.out.cell 0 rfl; have a1 := HS2.out.cell 1 rfl; have a2 := HS2.out.cell 2 rfl; have a3 := HS2.out.cell 3 rfl; have a4 := HS2.out.cell 4 rfl; have a5 := HS2.out.cell 5 rfl; have a6 := HS2.out.cell 6 rfl; have a7 := HS2.out.cell 7 rfl
  go_wp2_with fail
  refine (sizeState _ _ _ s HS2.out.rd).mono ?_
  rintro e w3 ⟨rfl, hb3⟩
  have HS3 := Lib.hid (HS2.out.bel hb3); have HB3 := Lib.hid (below_next HB2.out hb3); have HT3 := Lib.hid (HT2.out.bel hb3)
  clear hb3 HS2 HB2 HT2 a0 a1 a2 a3 a4 a5 a6 a7
  have HOK : Hid (szState s ≤ 1048576 → StOk s) := Lib.hid stOk_of
  generalize szState s = z1 at *
  by_cases hz1 : 1048576 < z1
  · go_wp2
    go_ret
    exact ⟨rfl, HB3.out⟩
  have HO := Lib.hid (HOK.out (by omega))
  clear HOK
  have a0 := HS3.out.cell 0 rfl; have a1 := HS3.out.cell 1 rfl; have a2 := HS3.out.cell 2 rfl; have a3 := HS3.out.cell 3 rfl; have a4 := HS3.out.cell 4 rfl; have a5 := HS3.out.cell 5 rfl; have a6 := HS3.out.cell 6 rfl; have a7 := HS3.out.cell 7 rfl
  go_wp2_with fail
  refine (wideState w3 _ s HS3.out.rd HO.out HT3.out).mono ?_
  rintro e w4 ⟨g0, g1, g2, g3, rfl, hw4, hb4⟩
  have hb5 := below_alloc w4 (.cells #[.slice (some ⟨g0, 0, none⟩) s.frames.length (s.frames.length + 64), .slice (some ⟨g1, 0, none⟩) s.globals.length (s.globals.length + 64), .slice (some ⟨g2, 0, none⟩) s.pages.length (s.pages.length + 64), .int .i64 s.replies, .int .i8 s.ends, .slice (some ⟨g3, 0, none⟩) s.results.length (s.results.length + 64), .int .i8 s.trap, .int .i64 s.used] 27)
  have hr5 := heap_alloc_new w4 (.cells #[.slice (some ⟨g0, 0, none⟩) s.frames.length (s.frames.length + 64), .slice (some ⟨g1, 0, none⟩) s.globals.length (s.globals.length + 64), .slice (some ⟨g2, 0, none⟩) s.pages.length (s.pages.length + 64), .int .i64 s.replies, .int .i8 s.ends, .slice (some ⟨g3, 0, none⟩) s.results.length (s.results.length + 64), .int .i8 s.trap, .int .i64 s.used] 27)
  have HB5 := Lib.hid (below_next HB3.out (hb4.trans (hb5.mono hb4.size)))
  have HT5 := Lib.hid ((HT3.out.bel hb4).bel hb5)
  have HF5 : Hid (Fs (w4.alloc (.cells #[.slice (some ⟨g0, 0, none⟩) s.frames.length (s.frames.length + 64), .slice (some ⟨g1, 0, none⟩) s.globals.length (s.globals.length + 64), .slice (some ⟨g2, 0, none⟩) s.pages.length (s.pages.length + 64), .int .i64 s.replies, .int .i8 s.ends, .slice (some ⟨g3, 0, none⟩) s.results.length (s.results.length + 64), .int .i8 s.trap, .int .i64 s.used] 27)).heap.size (w4.alloc (.cells #[.slice (some ⟨g0, 0, none⟩) s.frames.length (s.frames.length + 64), .slice (some ⟨g1, 0, none⟩) s.globals.length (s.globals.length + 64), .slice (some ⟨g2, 0, none⟩) s.pages.length (s.pages.length + 64), .int .i64 s.replies, .int .i8 s.ends, .slice (some ⟨g3, 0, none⟩) s.results.length (s.results.length + 64), .int .i8 s.trap, .int .i64 s.used] 27)) s [.slice fa s.frames.length fc, .slice ga s.globals.length gc, .slice pa s.pages.length pc, .int .i64 s.replies, .int .i8 s.ends, .slice ra s.results.length rc, .int .i8 s.trap, .int .i64 s.used] w.heap.size w4.heap.size g0 g1 g2 g3) := Lib.hid (by
    have hs5 := (HS3.out.bel hb4).bel hb5
    exact ⟨hs5.row, hs5.rd, hr5, (hw4.bel hb5).live, hs5.at_, by rw [World.size_alloc]; omega⟩)
  clear hw4 hb4 hb5 hr5 HB3 HT3 HS3 a0 a1 a2 a3 a4 a5 a6 a7
  go_wp2_with fail
  generalize w4.alloc (.cells #[.slice (some ⟨g0, 0, none⟩) s.frames.length (s.frames.length + 64), .slice (some ⟨g1, 0, none⟩) s.globals.length (s.globals.length + 64), .slice (some ⟨g2, 0, none⟩) s.pages.length (s.pages.length + 64), .int .i64 s.replies, .int .i8 s.ends, .slice (some ⟨g3, 0, none⟩) s.results.length (s.results.length + 64), .int .i8 s.trap, .int .i64 s.used] 27) = w5 at *
  generalize w4.heap.size = gk at *
  obtain ⟨gx, hgx⟩ : ∃ gx, w.heap.size = gx := ⟨_, rfl⟩
  have HGX := Lib.hid hgx
  rw [hgx] at HF5 ⊢
  clear hgx
  obtain ⟨y0, y1, y2, y3, y4, y5, y6, y7⟩ := HF5.out.kc
  go_wp2_with fail
  refine (snap_WriteQ _ _ _ s (HF5.out.wl.rd HO.out) HWF.out).mono ?_
  rintro e w6 ⟨va, rfl, hb6, hva⟩
  have HB6 := Lib.hid (below_next HB5.out hb6)
  have HT6 := Lib.hid (HT5.out.bel hb6)
  have HF6 := Lib.hid (HF5.out.on hb6)
  have HVA := Lib.hid hva
  have HS6 := Lib.hid hb6.size
  have HS5 := Lib.hid HB5.out.size
  have HTP := Lib.hid (tp_lt HT5.out)
  obtain ⟨aa, ca, rfl, _⟩ := own_slice hva
  clear hb6 hva HB5 HT5 HF5 y0 y1 y2 y3 y4 y5 y6 y7
  obtain ⟨y0, y1, y2, y3, y4, y5, y6, y7⟩ := HF6.out.kc
  go_wp2_with fail
  clear y0 y1 y2 y3 y4 y5 y6 y7
  refine (snap_WriteQ _ _ _ s (HF6.out.wl.rd HO.out) HWF.out).mono ?_
  rintro e w7 ⟨vb, rfl, hb7, hvb⟩
  have HB7 := Lib.hid (below_next HB6.out hb7)
  have HT7 := Lib.hid (HT6.out.bel hb7)
  have HF7 := Lib.hid (HF6.out.on (hb7.mono HS6.out))
  have HW7 : Hid (Twin w5.heap.size w7.heap.size w7 (.slice aa (outW s).length ca) vb (outW s)) := Lib.hid ⟨own_below HVA.out hb7, own_base hvb HS6.out, fun g hg => Nat.lt_of_lt_of_le (HVA.out.lt g hg).2 hb7.size, fun g hg => (hvb.lt g hg).2, fun g h1 h2 => by
    have := (HVA.out.lt g h1).2; have := (hvb.lt g h2).1; omega, by have := HLEN.out; omega⟩
  have HS7 := Lib.hid (Nat.le_trans HS6.out hb7.size)
  obtain ⟨ab, cb, rfl, _⟩ := own_slice hvb
  clear hb7 hvb HB6 HT6 HF6 HVA HS6
  obtain ⟨x0, x1, x2, x3, x4, x5, x6, x7⟩ := HF7.out.xc
  go_wp2_with fail
  clear x0 x1 x2 x3 x4 x5 x6 x7
  refine (ref22_WriteQ _ _ _ s HF7.out.rd HWF.out).mono ?_
  rintro e w8 ⟨vc, rfl, hb8, hvc⟩
  have HB8 := Lib.hid (below_next HB7.out hb8)
  have HT8 := Lib.hid (HT7.out.bel hb8)
  have HF8 := Lib.hid (HF7.out.on (hb8.mono HS7.out))
  have HW8 := Lib.hid ((HW7.out.on hb8).up hb8.size)
  have HC8 := Lib.hid (RdI.of_own hvc (by have := HLEN.out; omega)).any
  have HS8 := Lib.hid (Nat.le_trans HS7.out hb8.size)
  obtain ⟨ac, cc, rfl, _⟩ := own_slice hvc
  clear hb8 hvc HB7 HT7 HF7 HW7 HS7
  generalize codeW s = cw at *
  have hb9 := below_alloc w8 (.cells #[.slice none 0 0, .slice none 0 0, .slice none 0 0, .slice none 0 0, .slice none 0 0, .slice none 0 0, .slice none 0 0, .slice none 0 0, .slice none 0 0, .slice none 0 0, .slice none 0 0, .slice none 0 0, .slice none 0 0, .slice none 0 0, .slice none 0 0, .slice none 0 0, .slice none 0 0] 53)
  have hbg : Bg w8.heap.size (w8.alloc (.cells #[.slice none 0 0, .slice none 0 0, .slice none 0 0, .slice none 0 0, .slice none 0 0, .slice none 0 0, .slice none 0 0, .slice none 0 0, .slice none 0 0, .slice none 0 0, .slice none 0 0, .slice none 0 0, .slice none 0 0, .slice none 0 0, .slice none 0 0, .slice none 0 0, .slice none 0 0] 53)) w8.heap.size (.slice none 0 0) [] := ⟨heap_alloc_new _ _, World.ownsRow_nil _ _ _ _, by simp [Value.ownBlock], Nat.le_refl _⟩
  have HB9 := Lib.hid (below_next HB8.out hb9); have HT9 := Lib.hid (HT8.out.bel hb9); have HF9 := Lib.hid (HF8.out.on (hb9.mono HS8.out)); have HW9 := Lib.hid (HW8.out.on hb9); have HC9 := Lib.hid (HC8.out.keeps (Keeps.of_below hb9)); have HG9 := Lib.hid hbg
  have HL8 := Lib.hid HB8.out.size
  have HTL := Lib.hid (tp_lt HT8.out)
  clear hb9 hbg HB8 HT8 HF8 HW8 HC8
  go_wp2_with fail
  generalize w8.alloc (.cells #[.slice none 0 0, .slice none 0 0, .slice none 0 0, .slice none 0 0, .slice none 0 0, .slice none 0 0, .slice none 0 0, .slice none 0 0, .slice none 0 0, .slice none 0 0, .slice none 0 0, .slice none 0 0, .slice none 0 0, .slice none 0 0, .slice none 0 0, .slice none 0 0, .slice none 0 0] 53) = w9 at *
  generalize w8.heap.size = gb at *
  refine (add_bytes _ _ _ _ (.slice aa (outW s).length ca) [] HG9.out (by simp) ⟨_, _, _, rfl⟩).mono ?_
  rintro e w10 ⟨rfl, hv10, hg10, hb10⟩
  have HG10 := Lib.hid hg10
  have HB10 := Lib.hid (HB9.out.trans (hb10.mono HL8.out)); have HF10 := Lib.hid (HF9.out.on (hb10.mono HS8.out)); have HW10 := Lib.hid (HW9.out.on hb10); have HC10 := Lib.hid (HC9.out.keeps (Keeps.of_below hb10)); have HT10 := Lib.hid (tp_low HT9.out hb10 HTL.out)
  clear hg10 hb10 HG9 HB9 HF9 HW9 HC9 HT9
  go_wp2_with fail
  refine (add_bytes _ _ _ _ (.slice ab (outW s).length cb) _ HG10.out (by simp) ⟨_, _, _, rfl⟩).mono ?_
  rintro e w11 ⟨rfl, hv11, hg11, hb11⟩
  have HG11 : Hid (Bg gb w11 gb hv11 [.slice aa (outW s).length ca, .slice ab (outW s).length cb]) := Lib.hid (by simpa using hg11)
  have HB11 := Lib.hid (HB10.out.trans (hb11.mono HL8.out)); have HF11 := Lib.hid (HF10.out.on (hb11.mono HS8.out)); have HW11 := Lib.hid (HW10.out.on hb11); have HC11 := Lib.hid (HC10.out.keeps (Keeps.of_below hb11)); have HT11 := Lib.hid (tp_low HT10.out hb11 HTL.out)
  clear hg11 hb11 HG10 HB10 HF10 HW10 HC10 HT10
  have HRA := Lib.hid (RdI.of_own HW11.out.a (by have := HLEN.out; omega)).any
  have HRB := Lib.hid (RdI.of_own HW11.out.b (by have := HLEN.out; omega)).any
  go_wp2_with fail
  refine (eqBytes _ _ _ _ _ _ _ HRA.out HC11.out).mono ?_
  rintro e w' ⟨he, n, rfl⟩
  rw [decide_eq_true rfl] at he
  subst he
  have hq1 := drewN_below w11 n
  go_wp2_with fail
  refine (eqBytes _ _ _ _ _ _ _ (HRB.out.keeps (Keeps.of_below hq1)) (HC11.out.any.keeps (Keeps.of_below hq1))).mono ?_
  rintro e w' ⟨he, m, rfl⟩
  rw [decide_eq_true rfl] at he
  subst he
  obtain ⟨w12, hw12⟩ : ∃ w12, (w11.drewN n).drewN m = w12 := ⟨_, rfl⟩
  have hq : Below w11.heap.size w11 w12 := by rw [← hw12]; exact below_next hq1 (drewN_below _ m)
  rw [hw12] at ⊢
  have hz10 := HG11.out.hB
  have hs10 := row_lt HG11.out.row
  have HB12 := Lib.hid (below_next HB11.out hq)
  have HF12 := Lib.hid (HF11.out.on (hq.mono (by have := HS8.out; omega)))
  have HW12 := Lib.hid (HW11.out.on (hq.mono (by omega)))
  have HG12 := Lib.hid (HG11.out.on hq)
  have HT12 := Lib.hid (HT11.out.bel hq)
  have HS12 : Hid (w5.heap.size ≤ w12.heap.size) := Lib.hid (by have := HS8.out; have := hq.size; omega)
  clear hz10 hs10 HB11 HF11 HW11 HG11 HC11 HT11 hq hq1 hw12 HRA HRB
  go_wp2_with fail
  obtain ⟨r1, r2, r3⟩ := HW12.out.rows
  refine (bag_apart _ w5.heap.size gb gb hv11 _ [outW s, outW s] HG12.out (by simp) rfl HS8.out r1 r2 r3).mono ?_
  rintro e w13 ⟨rfl, hk⟩
  have hb13 : Below w5.heap.size w12 w13 := hk.below HS12.out fun b hb k v h1 h2 => by
    match k, h1 with
    | 0, h1 => obtain rfl := Option.some.inj h1; have := (HW12.out.a.lt b h2).1; omega
    | 1, h1 => obtain rfl := Option.some.inj h1; have := (HW12.out.b.lt b h2).1; omega
    | k + 2, h1 => simp at h1
  have HF13 := Lib.hid (HF12.out.on hb13)
  have HB13 := Lib.hid (HB12.out.trans (hb13.mono HS5.out))
  have HT13 := Lib.hid (tp_low HT12.out hb13 HTP.out)
  have HS13 := Lib.hid (Nat.le_trans HS12.out hb13.size)
  obtain ⟨x0, x1, x2, x3, x4, x5, x6, x7⟩ := HF13.out.xc
  obtain ⟨y0, y1, y2, y3, y4, y5, y6, y7⟩ := HF13.out.kc
  clear hk hb13 r1 r2 r3 HF12 HB12 HW12 HG12 HT12
  go_wp2_with fail
  refine (eqState _ _ _ _ _ s s (HF13.out.wl.rd HO.out) HF13.out.rd).mono ?_
  rintro e w14 ⟨he, hb14⟩
  rw [decide_eq_true rfl] at he
  subst he
  have HF14 := Lib.hid (HF13.out.on (hb14.mono HS13.out))
  have HB14 := Lib.hid (below_next HB13.out hb14)
  have HT14 := Lib.hid (HT13.out.bel hb14)
  clear hb14 HF13 HB13 HT13 x0 x1 x2 x3 x4 x5 x6 x7 y0 y1 y2 y3 y4 y5 y6 y7
  obtain ⟨y0, y1, y2, y3, y4, y5, y6, y7⟩ := HF14.out.kc
  go_wp2_with fail
  refine (spareState _ _ g0 g1 g2 g3 s HF14.out.wl HO.out HT14.out).mono ?_
  rintro e w15 ⟨rfl, hb15⟩
  have HB15 := Lib.hid (below_next HB14.out hb15)
  clear hb15 y0 y1 y2 y3 y4 y5 y6 y7
  go_wp2
  go_ret
  exact ⟨rfl, HB15.out⟩
end Go.Proofs.YthlkckpadjjbdaaDoor
