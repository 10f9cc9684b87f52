/- flagonlaw22.works: a known state is written and read. -/
import Derived.Test.YthlkckpadjjbdaaDoorLib2
import Derived.Test.YthlkckpadjjbdaaDoorRead2
import Derived.Test.YthlkckpadjjbdaaDoorMCodec
import Derived.Test.YthlkckpadjjbdaaDoorOpenS
import Derived.Test.YthlkckpadjjbdaaDoorSizes
import Derived.Test.YthlkckpadjjbdaaDoorCopy
import Derived.Lib.SlBytesConst
namespace Go.Proofs.YthlkckpadjjbdaaDoor
open Go Go.RowKit

def wantS : List Int := [70, 83, 78, 80, 1, 2, 0, 2, 0, 1, 5, 0, 0, 0, 0]
def stateW : StateD := ⟨[], [], [], 0, 2, [5], 0, 2⟩
theorem stateW_ok : okState stateW = true := by decide
theorem stateW_wf : WfState stateW := by
  refine ⟨by simp [I64, stateW], by simp [I64, stateW], by simp [stateW], by simp [stateW], by intro x hx; simp [stateW] at hx; omega, by intro x hx; simp [stateW] at hx, by intro x hx; simp [stateW] at hx, by intro x hx; simp [stateW] at hx⟩
theorem stateW_enc : encState stateW = wantS := by
  simp only [encState, encHead, stateW, encVals, encPages, nz]
  simp [uv_lo, wantS]
theorem wantS_read : rread wantS = (stateW, 0, 0) := by rw [← stateW_enc]; exact read_back stateW_ok stateW_wf
theorem wantS_more : rread (wantS ++ [0]) = (emptyS, 19, 15) := by
  have := rread_fwd (b := wantS ++ [0]) (rest := [0]) stateW_ok stateW_wf (by rw [stateW_enc]) (by simp [wantS])
  rw [if_neg (by simp), stateW_enc] at this
  exact this

/-- A state's cells, open enough to be stored. -/
theorem RState.open {S : Nat → Prop} {w : World} {cs : List Value} {s : StateD} (h : RState S w cs s) :
    ∃ fa fc ga gc pa pc ra rc, cs = [.slice fa s.frames.length fc, .slice ga s.globals.length gc, .slice pa s.pages.length pc, .int .i64 s.replies, .int .i8 s.ends, .slice ra s.results.length rc, .int .i8 s.trap, .int .i64 s.used] := by
  obtain ⟨fv, gv, pv, rv, rfl, hf, hg, hp, hr⟩ := h
  obtain ⟨fa, fc, rfl, _⟩ := hf.len
  obtain ⟨ga, gc, rfl, _⟩ := hg.len
  obtain ⟨pa, pc, rfl, _⟩ := hp.len
  obtain ⟨ra, rc, rfl, _⟩ := hr.len
  exact ⟨fa, fc, ga, gc, pa, pc, ra, rc, rfl⟩

def wkW (w : World) : World := ((w.alloc (Obj.cells #[Value.int .u8 70, Value.int .u8 83, Value.int .u8 78, Value.int .u8 80, Value.int .u8 1, Value.int .u8 2, Value.int .u8 0, Value.int .u8 2, Value.int .u8 0, Value.int .u8 1, Value.int .u8 5, Value.int .u8 0, Value.int .u8 0, Value.int .u8 0, Value.int .u8 0] 5 (15, 16))).alloc
          (Obj.cells #[Value.int .u64 5] 63)).alloc
      (Obj.cells #[Value.slice none 0 0, Value.slice none 0 0, Value.slice none 0 0, Value.int .i64 0, Value.int .i8 2, Value.slice (some ⟨w.heap.size + 1, 0, none⟩) 1 1, Value.int .i8 0, Value.int .i64 2] 27)
theorem wkW_facts (w : World) : (wkW w).heap.size = w.heap.size + 3 ∧ Below w.heap.size w (wkW w) ∧ RdI .u8 (· = w.heap.size) (wkW w) (.slice (some ⟨w.heap.size, 0, none⟩) 15 15) wantS ∧
    RState (· = w.heap.size + 1) (wkW w) [Value.slice none 0 0, Value.slice none 0 0, Value.slice none 0 0, Value.int .i64 0, Value.int .i8 2, Value.slice (some ⟨w.heap.size + 1, 0, none⟩) 1 1, Value.int .i8 0, Value.int .i64 2] stateW ∧
    (wkW w).heap[w.heap.size + 2]? = some (Obj.cells #[Value.slice none 0 0, Value.slice none 0 0, Value.slice none 0 0, Value.int .i64 0, Value.int .i8 2, Value.slice (some ⟨w.heap.size + 1, 0, none⟩) 1 1, Value.int .i8 0, Value.int .i64 2] 27) := by
  refine ⟨by simp [wkW], below_alloc3 _ _ _ _, ?_, ?_, ?_⟩
  · have := rdI_block (k := .u8) (w := wkW w) (g := w.heap.size) (l := wantS) (T := 5) (fr := (15, 16)) (by
      unfold wkW
      rw [Below.heap_alloc _ _ _ (by simp only [World.size_alloc]; omega), Below.heap_alloc _ _ _ (by simp only [World.size_alloc]; omega), heap_alloc_new]; rfl) (by simp [wantS]) 15 (by simp [wantS])
    exact this
  · refine ⟨_, _, _, _, rfl, RdL.nil _ _ _ _, RdI.nil _ _ _, RdL.nil _ _ _ _, ?_⟩
    have := rdI_block (k := .u64) (w := wkW w) (g := w.heap.size + 1) (l := [5]) (T := 63) (fr := (0, 0)) (by
      unfold wkW
      rw [Below.heap_alloc _ _ _ (by simp only [World.size_alloc]; omega)]
      have e : (w.alloc (Obj.cells #[Value.int .u8 70, Value.int .u8 83, Value.int .u8 78, Value.int .u8 80, Value.int .u8 1, Value.int .u8 2, Value.int .u8 0, Value.int .u8 2, Value.int .u8 0, Value.int .u8 1, Value.int .u8 5, Value.int .u8 0, Value.int .u8 0, Value.int .u8 0, Value.int .u8 0] 5 (15, 16))).heap.size = w.heap.size + 1 := World.size_alloc ..
      rw [← e, heap_alloc_new]; rfl) (by simp) 1 (by simp)
    exact this
  · unfold wkW
    have e : ((w.alloc (Obj.cells #[Value.int .u8 70, Value.int .u8 83, Value.int .u8 78, Value.int .u8 80, Value.int .u8 1, Value.int .u8 2, Value.int .u8 0, Value.int .u8 2, Value.int .u8 0, Value.int .u8 1, Value.int .u8 5, Value.int .u8 0, Value.int .u8 0, Value.int .u8 0, Value.int .u8 0] 5 (15, 16))).alloc (Obj.cells #[Value.int .u64 5] 63)).heap.size = w.heap.size + 2 := by simp only [World.size_alloc]
    rw [← e, heap_alloc_new]

theorem RState.bel {w w' : World} {cs : List Value} {s : StateD} (h : RState (· < w.heap.size) w cs s) (hb : Below w.heap.size w w') : RState (· < w'.heap.size) w' cs s :=
  (h.keeps (Keeps.all _ hb)).mono fun _ hb' _ => hb'
/-- A state in a block of its own. -/
structure StB (S : Nat → Prop) (w : World) (g : Nat) (cs : List Value) (s : StateD) : Prop where
  row : w.heap[g]? = some (.cells cs.toArray 27 (0, 0))
  at_ : S g
  rd : RState S w cs s
theorem StB.keeps {S : Nat → Prop} {w w' : World} {g : Nat} {cs : List Value} {s : StateD} (h : StB S w g cs s) (hk : Keeps S w w') : StB S w' g cs s :=
  ⟨(hk.block g (row_lt h.row) h.at_).trans h.row, h.at_, h.rd.keeps hk⟩
theorem StB.bel {w w' : World} {g : Nat} {cs : List Value} {s : StateD} (h : StB (· < w.heap.size) w g cs s) (hb : Below w.heap.size w w') : StB (· < w'.heap.size) w' g cs s :=
  ⟨(hb.block g (row_lt h.row)).trans h.row, by have := h.at_; have := hb.size; omega, h.rd.bel hb⟩
theorem StB.mk' {w : World} {cs : List Value} {s : StateD} {S : Nat → Prop} (h : RState S w cs s) : StB (· < (w.alloc (.cells cs.toArray 27)).heap.size) (w.alloc (.cells cs.toArray 27)) w.heap.size cs s :=
  ⟨heap_alloc_new _ _, by rw [World.size_alloc]; omega, (h.mono (T := (· < w.heap.size)) fun _ hb _ => hb).bel (below_alloc _ _)⟩
theorem StB.cell {S : Nat → Prop} {w : World} {g : Nat} {cs : List Value} {s : StateD} (h : StB S w g cs s) (i : Nat) {u : Value} (hu : cs[i]? = some u) : w.cell? ⟨g, i, none⟩ = some u := row_cell h.row i (by simpa using hu)

set_option maxRecDepth 100000 in
set_option maxHeartbeats 800000 in
theorem law_works (w : World) :
    Calls Tryd.prog 5 #[] w fun e w' => e = .returned (.bool true) ∧ Below w.heap.size w w' := by
  obtain ⟨i0, hi, hz0, hz1, hz2⟩ := info_parts Tryd.infoU8
  have kc := Lib.run_convert_bytes_const (P := Tryd.prog) w 31 5 #[.int .u8 70, .int .u8 83, .int .u8 78, .int .u8 80, .int .u8 1, .int .u8 2, .int .u8 0, .int .u8 2, .int .u8 0, .int .u8 1, .int .u8 5, .int .u8 0, .int .u8 0, .int .u8 0, .int .u8 0] 15 15 Tryd.underlying31 Tryd.underlying5
  go_enter Tryd.func5, Tryd.ntmps5
  go_wp2_with fail
  clear kc
  change Calls _ _ _ (wkW w) _
  obtain ⟨hz, hbel, hRB, hRS, hrow⟩ := wkW_facts w
  generalize wkW w = W at *
  refine (snap_Write _ (· = w.heap.size + 1) _ stateW hRS stateW_wf).mono ?_
  rintro e w4 ⟨v4, c4, rfl, hb4, hok4, -⟩
  obtain ⟨rfl, ho4⟩ := hok4 stateW_ok
  rw [stateW_enc] at ho4
  have HB4 := Lib.hid (below_next hbel hb4)
  have HW4 := Lib.hid (hRB.any.bel hb4)
  have HS4 := Lib.hid ((StB.mk (S := (· < W.heap.size)) hrow (by omega) (hRS.mono fun _ hb _ => hb)).bel hb4)
  have HO4 := Lib.hid (RdI.of_own ho4 (by simp [wantS])).any
  clear hRB hRS hrow hbel hz hb4 hok4 ho4
  go_wp2_with fail
  refine (snap_Read _ _ _ wantS (by intro x hx; simp [wantS] at hx; omega) HW4.out).mono ?_
  rintro e w5 ⟨cs5, he, hS5, hb5⟩
  rw [wantS_read] at he hS5
  dsimp only at he hS5
  obtain ⟨fa, fc, ga, gc, pa, pc, ra, rc, rfl⟩ := hS5.open
  subst he
  have hb5' := hb5.alloc hb5.size (.cells #[.slice fa stateW.frames.length fc, .slice ga stateW.globals.length gc, .slice pa stateW.pages.length pc, .int .i64 stateW.replies, .int .i8 stateW.ends, .slice ra stateW.results.length rc, .int .i8 stateW.trap, .int .i64 stateW.used] 27)
  have HB5 := Lib.hid (below_next HB4.out hb5')
  have HW5 := Lib.hid (HW4.out.bel hb5'); have HS5 := Lib.hid (HS4.out.bel hb5'); have HO5 := Lib.hid (HO4.out.bel hb5')
  have HX5 := Lib.hid (StB.mk' hS5)
  clear HB4 HW4 HS4 HO4 hS5 hb5 hb5'
  go_wp2_with fail
  refine (copyBytes _ _ _ wantS HW5.out).mono ?_
  rintro e w6 ⟨v6, rfl, ho6, hb6⟩
  have hk6 := Keeps.all (· < (w5.alloc (.cells #[.slice fa stateW.frames.length fc, .slice ga stateW.globals.length gc, .slice pa stateW.pages.length pc, .int .i64 stateW.replies, .int .i8 stateW.ends, .slice ra stateW.results.length rc, .int .i8 stateW.trap, .int .i64 stateW.used] 27)).heap.size) hb6
  have hsz6 := hb6.size
  have HB6 := Lib.hid (below_next HB5.out hb6)
  have HW6 := Lib.hid (HW5.out.keeps hk6); have HS6 := Lib.hid (HS5.out.keeps hk6); have HO6 := Lib.hid (HO5.out.keeps hk6); have HX6 := Lib.hid (HX5.out.keeps hk6)
  have HM6 := Lib.hid ho6
  have hwB := HB5.out.size
  clear HB5 HW5 HS5 HO5 HX5 hb6 ho6 hk6
  generalize (w5.alloc (.cells #[.slice fa stateW.frames.length fc, .slice ga stateW.globals.length gc, .slice pa stateW.pages.length pc, .int .i64 stateW.replies, .int .i8 stateW.ends, .slice ra stateW.results.length rc, .int .i8 stateW.trap, .int .i64 stateW.used] 27)).heap.size = B6 at *
  go_wp2_with (at_builtin; refine wpList_append_own _ rfl _ _ 31 rfl B6 5 i0 (.int .u8 0) 1 1 Tryd.underlying31 hi hz0 hz1 hz2 rfl (by decide) v6 15 (wantS.map (Value.int .u8)) rfl (HM6.out.alloc _) ⟨w6.heap.size, 0, none⟩ 1 1 [.int .u8 0] rfl rfl (cell_one_new _ _ _) (by simp [Value.oneCell']) ?c3 ?c4 ?c5 ?_)
  case c3 => unfold maxLen; omega
  case c4 => omega
  case c5 => simp; omega
  intro v7 w7 hown7 hgrow7 _
  have hk7 : Keeps (· < B6) w6 w7 := ((Keeps.refl _ _).alloc _).grown hgrow7 fun k hk _ hlt => by have := (HM6.out.lt k hk).1; omega
  have hb7 : Below w.heap.size w w7 := (HB6.out.alloc HB6.out.size _).grown hgrow7 (by have := HB6.out.size; simp; omega) fun k hk => by have := (HM6.out.lt k hk).1; omega
  have HW7 := Lib.hid (HW6.out.keeps hk7).any; have HO7 := Lib.hid (HO6.out.keeps hk7).any
  have hs7 := HS6.out.keeps hk7; have hx7 := HX6.out.keeps hk7
  have HS7 := Lib.hid (StB.mk (S := (· < w7.heap.size)) hs7.row (row_lt hs7.row) (hs7.rd.mono fun _ hb _ => hb)); have HX7 := Lib.hid (StB.mk (S := (· < w7.heap.size)) hx7.row (row_lt hx7.row) (hx7.rd.mono fun _ hb _ => hb))
  have hm7 : RdI .u8 (fun b => v7.ownBlock = some b) w7 v7 (wantS ++ [0]) := RdI.of_own (by simpa [wantS] using hown7) (by simp [wantS])
  have HM7 := Lib.hid hm7
  have HB7 := Lib.hid hb7
  clear hk7 hb7 hs7 hx7 hm7 HB6 HW6 HS6 HO6 HX6 HM6 hown7 hgrow7 hsz6 hwB
  go_wp2_with fail
  refine (snap_Read _ _ _ (wantS ++ [0]) (by intro x hx; simp [wantS] at hx; omega) HM7.out).mono ?_
  rintro e w8 ⟨cs8, he, hS8, hb8⟩
  rw [wantS_more] at he hS8
  dsimp only at he hS8
  obtain ⟨fa', fc', ga', gc', pa', pc', ra', rc', rfl⟩ := hS8.open
  subst he
  have hb8' := hb8.alloc hb8.size (.cells #[.slice fa' emptyS.frames.length fc', .slice ga' emptyS.globals.length gc', .slice pa' emptyS.pages.length pc', .int .i64 emptyS.replies, .int .i8 emptyS.ends, .slice ra' emptyS.results.length rc', .int .i8 emptyS.trap, .int .i64 emptyS.used] 27)
  have HB8 := Lib.hid (below_next HB7.out hb8')
  have HW8 := Lib.hid (HW7.out.bel hb8'); have HS8 := Lib.hid (HS7.out.bel hb8'); have HO8 := Lib.hid (HO7.out.bel hb8'); have HX8 := Lib.hid (HX7.out.bel hb8')
  clear HB7 HW7 HS7 HO7 HX7 hS8 hb8 hb8'
  go_wp2_with fail
  generalize w8.alloc (.cells #[.slice fa' emptyS.frames.length fc', .slice ga' emptyS.globals.length gc', .slice pa' emptyS.pages.length pc', .int .i64 emptyS.replies, .int .i8 emptyS.ends, .slice ra' emptyS.results.length rc', .int .i8 emptyS.trap, .int .i64 emptyS.used] 27) = w9 at *
  refine (eqBytes _ _ _ _ _ _ _ HO8.out HW8.out).mono ?_
  rintro e w10 ⟨he, n, rfl⟩
  rw [decide_eq_true rfl] at he
  subst he
  have hkn := Keeps.of_drewN (S := (· < w9.heap.size)) (w := w9) n
  have HS9 := Lib.hid (HS8.out.keeps hkn); have HX9 := Lib.hid (HX8.out.keeps hkn)
  have HB9 := Lib.hid (below_next HB8.out (drewN_below w9 n))
  have a0 := HS9.out.cell 0 rfl; have a1 := HS9.out.cell 1 rfl; have a2 := HS9.out.cell 2 rfl; have a3 := HS9.out.cell 3 rfl; have a4 := HS9.out.cell 4 rfl; have a5 := HS9.out.cell 5 rfl; have a6 := HS9.out.cell 6 rfl; have a7 := HS9.out.cell 7 rfl
  have x0 := HX9.out.cell 0 rfl; have x1 := HX9.out.cell 1 rfl; have x2 := HX9.out.cell 2 rfl; have x3 := HX9.out.cell 3 rfl; have x4 := HX9.out.cell 4 rfl; have x5 := HX9.out.cell 5 rfl; have x6 := HX9.out.cell 6 rfl; have x7 := HX9.out.cell 7 rfl
  clear HS8 HX8 HB8 HO8 HW8 hkn
  go_wp2_with fail
  refine (eqState _ _ _ _ _ stateW stateW HX9.out.rd HS9.out.rd).mono ?_
  rintro e w11 ⟨he, hb11⟩
  rw [decide_eq_true rfl] at he
  subst he
  have HB11 := Lib.hid (below_next HB9.out hb11)
  clear hb11 HB9 HS9 HX9 a0 a1 a2 a3 a4 a5 a6 a7 x0 x1 x2 x3 x4 x5 x6 x7
  go_wp2
  go_ret
  exact ⟨rfl, HB11.out⟩
end Go.Proofs.YthlkckpadjjbdaaDoor
