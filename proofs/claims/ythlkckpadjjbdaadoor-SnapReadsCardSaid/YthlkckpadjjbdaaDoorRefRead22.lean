/- flagonref22.Read. -/
import Derived.Test.YthlkckpadjjbdaaDoorRefSim22
namespace Go.Proofs.YthlkckpadjjbdaaDoor
open Go Go.RowKit
set_option linter.unusedVariables false
section
variable {T : Nat → Prop} {w : World} {f g p r e rs t u : Value} {s : StateD}
theorem RState.put_ends (h : RState T w [f, g, p, r, e, rs, t, u] s) (n : Int) : RState T w [f, g, p, r, .int .i8 n, rs, t, u] { s with ends := n } := by
  obtain ⟨fv, gv, pv, rv, e, h1, h2, h3, h4⟩ := h
  simp only [List.cons.injEq, and_true] at e
  obtain ⟨rfl, rfl, rfl, rfl, rfl, rfl, rfl, rfl⟩ := e
  exact ⟨_, _, _, _, rfl, h1, h2, h3, h4⟩
theorem RState.put_trap (h : RState T w [f, g, p, r, e, rs, t, u] s) (n : Int) : RState T w [f, g, p, r, e, rs, .int .i8 n, u] { s with trap := n } := by
  obtain ⟨fv, gv, pv, rv, e, h1, h2, h3, h4⟩ := h
  simp only [List.cons.injEq, and_true] at e
  obtain ⟨rfl, rfl, rfl, rfl, rfl, rfl, rfl, rfl⟩ := e
  exact ⟨_, _, _, _, rfl, h1, h2, h3, h4⟩
end
namespace R22
theorem qvalsGo_len (b : List Int) : ∀ (n : Nat) (r : RS) (acc : List Int), (qvalsGo b n r acc).1.length ≤ acc.length + n
  | 0, r, acc => by simp [qvalsGo]
  | n + 1, r, acc => by
    rw [qvalsGo]
    split
    · simp
    · have := qvalsGo_len b n (rnum b r 18446744073709551615 17).2 (acc ++ [((rnum b r 18446744073709551615 17).1 : Int)])
      simp only [List.length_append, List.length_cons, List.length_nil] at this
      omega
theorem qvals_len (b : List Int) (r : RS) (m : Nat) : (qvals b r m).1.length ≤ m := by
  have h1 := qvalsGo_len b (rnum b r m 20).1 (rnum b r m 20).2 []
  have h2 := rnum_le b r m 20
  unfold qvals
  simp only [List.length_nil] at h1
  omega
theorem read_results {a : Act} {w : World} (g : Nat) (cs : Array Value) (u3 u4 : Value) (hrow : w.heap[g]? = some (.cells cs 27 (0, 0))) (hsz : cs.size = 8) (h2 : a.tmps.getD 2 undef = .pointer (some ⟨g, 0, none⟩)) (h3 : a.tmps.getD 3 undef = u3) (h4 : a.tmps.getD 4 undef = u4) :
    (results Tryd.f17 a.tmps).run Tryd.prog w = .ok (.tuple #[.agg cs, u3, u4]) w := by
  have hl := run_loadVar_row (P := Tryd.prog) w g 27 27 cs (0, 0) _ hrow Tryd.underlying27 rfl (by rw [hsz]; kernel_rfl)
  have h2' : a.tmps[2]?.getD undef = .pointer (some ⟨g, 0, none⟩) := by simpa using h2
  have h3' : a.tmps[3]?.getD undef = u3 := by simpa using h3
  have h4' : a.tmps[4]?.getD undef = u4 := by simpa using h4
  simp [results, Tryd.results17, asAddr, h2', h3', h4', hl]

/-- The reader, the state that it fills, the result's own block. -/
structure RB (S : Nat → Prop) (w : World) (p : Nat) (v : Value) (b : List Int) (t6 : Nat) (cs : Array Value) (r : RS) (wx : World) : Prop where
  rr : Rr S wx p v b r
  row6 : wx.heap[t6]? = some (.cells cs 27 (0, 0))
  row2 : wx.heap[w.heap.size]? = some (.cells #[.slice none 0 0, .slice none 0 0, .slice none 0 0, .int .i64 0, .int .i8 0, .slice none 0 0, .int .i8 0, .int .i64 0] 27 (0, 0))
  bel : Below w.heap.size w wx
  p6 : p < t6
  p2 : w.heap.size < p
  hS : ∀ x, S x → x < w.heap.size
section
variable {S : Nat → Prop} {w : World} {p : Nat} {v : Value} {b : List Int} {t6 : Nat} {cs : Array Value} {r : RS} {wx : World}
theorem RB.step {w' : World} {r' : RS} (h : RB S w p v b t6 cs r wx) (hr : Rr S w' p v b r') (hk : Keeps (fun x => x ≠ p ∧ x ≤ t6) wx w') : RB S w p v b t6 cs r' w' := by
  have h1 := h.p6; have h2 := h.p2
  refine ⟨hr, (hk.block t6 (row_lt h.row6) ⟨by omega, by omega⟩).trans h.row6, (hk.block _ (row_lt h.row2) ⟨by omega, by omega⟩).trans h.row2, h.bel.trans (hk.below h.bel.size fun x hx => ⟨by omega, by omega⟩), h1, h2, h.hS⟩
theorem RB.lt (h : RB S w p v b t6 cs r wx) : t6 < wx.heap.size := row_lt h.row6
theorem RB.set (h : RB S w p v b t6 cs r wx) (i : Nat) (u : Value) : RB S w p v b t6 (cs.setIfInBounds i u) r (wx.setCell ⟨t6, i, none⟩ u) := by
  have h1 := h.p6; have h2 := h.p2
  have hk : Keeps (fun x => x ≠ t6) wx (wx.setCell ⟨t6, i, none⟩ u) := (Keeps.refl _ wx).setCell (a := ⟨t6, i, none⟩) (by simp) _
  exact ⟨h.rr.keeps hk (by omega) fun x hx => by have := h.hS x hx; omega, row_setCell h.row6 i u, (hk.block _ (row_lt h.row2) (by omega)).trans h.row2, h.bel.trans (hk.below h.bel.size fun x hx => by omega), h1, h2, h.hS⟩
theorem rb_number (h : RB S w p v b t6 cs r wx) (hb : ∀ x ∈ b, 0 ≤ x ∧ x ≤ 255) (most : Nat) (M : Int) (hM : (most : Int) = M) (great : Int) (hg : great ≠ 0) :
    Calls Tryd.prog 61 #[.pointer (some ⟨p, 0, none⟩), .int .u64 M, .int .i64 great] wx fun en w' => en = .returned (.int .u64 ((rnum b r most great).1 : Nat)) ∧ RB S w p v b t6 cs (rnum b r most great).2 w' ∧ Keeps (fun x => x ≠ p) wx w' := by
  refine (rd_number S wx p v b r h.rr hb most M hM great hg).mono ?_
  rintro en w' ⟨rfl, h1, h2⟩
  exact ⟨rfl, h.step h1 (h2.mono fun _ _ h => h.1), h2⟩
theorem rb_values (h : RB S w p v b t6 cs r wx) (hb : ∀ x ∈ b, 0 ≤ x ∧ x ≤ 255) (most : Nat) (M : Int) (hM : (most : Int) = M) (hmost : most ≤ 1000000) :
    Calls Tryd.prog 62 #[.pointer (some ⟨p, 0, none⟩), .int .u64 M] wx fun en w' => ∃ a c, en = .returned (.slice a (qvals b r most).1.length c) ∧ RdI .u64 (fun x => wx.heap.size ≤ x) w' (.slice a (qvals b r most).1.length c) (qvals b r most).1 ∧
      RB S w p v b t6 cs (qvals b r most).2 w' ∧ Keeps (fun x => x ≠ p) wx w' := by
  have hsz := h.bel.size
  refine (rd_values S wx p v b r h.rr hb (fun x hx => by have := h.hS x hx; omega) most M hM hmost).mono ?_
  rintro en w' ⟨v', rfl, h1, h2, h3⟩
  obtain ⟨a, c, rfl, _⟩ := own_slice h1
  refine ⟨a, c, rfl, (RdI.of_own h1 ?_).mono fun x _ hx => (h1.lt x hx).1, h.step h2 (h3.mono fun _ _ h => h.1), h3⟩
  have := qvals_len b r most; omega
theorem rb_octet (h : RB S w p v b t6 cs r wx) (hb : ∀ x ∈ b, 0 ≤ x ∧ x ≤ 255) (least most : Int) :
    Calls Tryd.prog 60 #[.pointer (some ⟨p, 0, none⟩), .int .u8 least, .int .u8 most] wx fun en w' => en = .returned (.int .i8 (qoct b r least most).1) ∧ RB S w p v b t6 cs (qoct b r least most).2 w' ∧ Keeps (fun x => x ≠ p) wx w' := by
  refine (rd_octet S wx p v b r h.rr hb least most).mono ?_
  rintro en w' ⟨rfl, h1, h2⟩
  exact ⟨rfl, h.step h1 (h2.mono fun _ _ h => h.1), h2⟩
theorem rb_pages (h : RB S w p v b t6 cs r wx) (hb : ∀ x ∈ b, 0 ≤ x ∧ x ≤ 255) :
    Calls Tryd.prog 63 #[.pointer (some ⟨p, 0, none⟩)] wx fun en w' => ∃ a c ps r', en = .returned (.slice a ps.length c) ∧ RdLL .u8 (fun x => wx.heap.size ≤ x) w' (.slice a ps.length c) ps ∧
      RB S w p v b t6 cs r' w' ∧ Ag (ps, r') (rpages b r) ∧ Keeps (fun x => x ≠ p ∧ x < wx.heap.size) wx w' := by
  have hsz := h.bel.size
  have h6 := h.lt
  refine (rd_pages S wx p v b r h.rr hb (fun x hx => by have := h.hS x hx; omega)).mono ?_
  rintro en w' ⟨v', ps, r', rfl, ⟨gs, hg, hgl⟩, h2, ha, h3⟩
  have hR := hg.read (by omega)
  obtain ⟨a, c, rfl, hx⟩ := hR.len
  exact ⟨a, c, ps, r', rfl, hR, h.step h2 (h3.mono fun x _ hx => ⟨hx.1, by omega⟩), ha, h3⟩
end
theorem RB.far {S : Nat → Prop} {w : World} {p : Nat} {v : Value} {b : List Int} {t6 : Nat} {cs : Array Value} {r : RS} {wx w' : World} (h : RB S w p v b t6 cs r wx) (hk : Keeps (fun x => x ≤ t6) wx w') : RB S w p v b t6 cs r w' := by
  have h1 := h.p6; have h2 := h.p2
  exact h.step (h.rr.keeps hk (by omega) fun x hx => by have := h.hS x hx; omega) (hk.mono fun x _ hx => hx.2)

set_option maxRecDepth 100000 in
set_option maxHeartbeats 1600000 in
theorem ref22_Read_long (w : World) (S) (v : Value) (b : List Int) (h : RdI .u8 S w v b) (hl : 524288 < b.length) :
    Calls Tryd.prog 17 #[v] w fun en w' => ∃ cs, en = .returned (.tuple #[.agg cs.toArray, .int .i64 (rread b).2.1, .int .i64 (rread b).2.2]) ∧ RState (fun x => w.heap.size ≤ x) w' cs (rread b).1 ∧ Below w.heap.size w w' := by
  obtain ⟨a, c, rfl, hc, hm, _⟩ := h
  have E : Hid (rread b = (emptyS, 13, 0)) := by show _ = _; rw [rread, if_pos hl]
  go_enter Tryd.func17, Tryd.ntmps17
  go_wp2
  refine bodyPost_ret (read_results w.heap.size #[.slice none 0 0, .slice none 0 0, .slice none 0 0, .int .i64 0, .int .i8 0, .slice none 0 0, .int .i8 0, .int .i64 0] (.int .i64 13) (.int .i64 0) (heap_alloc_new _ _) rfl rfl rfl rfl) rfl ?_
  rw [E.out]
  exact ⟨_, rfl, REmpty _ _, below_alloc _ _⟩

set_option maxRecDepth 100000 in
set_option maxHeartbeats 1600000 in
theorem ref22_Read_magic (w : World) (S) (v : Value) (b : List Int) (hb : ∀ x ∈ b, 0 ≤ x ∧ x ≤ 255) (h : RdI .u8 S w v b) (hl : ¬ 524288 < b.length) (hm : b.length < 5 ∨ b.take 5 ≠ magic5) :
    Calls Tryd.prog 17 #[v] w fun en w' => ∃ cs, en = .returned (.tuple #[.agg cs.toArray, .int .i64 (rread b).2.1, .int .i64 (rread b).2.2]) ∧ RState (fun x => w.heap.size ≤ x) w' cs (rread b).1 ∧ Below w.heap.size w w' := by
  obtain ⟨a, c, rfl, hc, _, hr⟩ := h
  have E : Hid (rread b = (emptyS, 14, 0)) := by show _ = _; rw [rread, if_neg hl, if_pos hm]
  have hl' : b.length ≤ 524288 := by omega
  by_cases h5 : b.length < 5
  · clear hm hl
    go_enter Tryd.func17, Tryd.ntmps17
    go_wp2
    refine bodyPost_ret (read_results w.heap.size #[.slice none 0 0, .slice none 0 0, .slice none 0 0, .int .i64 0, .int .i8 0, .slice none 0 0, .int .i8 0, .int .i64 0] (.int .i64 14) (.int .i64 0) (heap_alloc_new _ _) rfl rfl rfl rfl) rfl ?_
    rw [E.out]
    exact ⟨_, rfl, REmpty _ _, below_alloc _ _⟩
  · obtain ⟨bb, off, rfl, _, hzz⟩ := hr 0 (by omega)
    clear hzz
    have hcv := run_convert_bytes_arg (P := Tryd.prog) (w.alloc (Obj.cells #[.slice none 0 0, .slice none 0 0, .slice none 0 0, .int .i64 0, .int .i8 0, .slice none 0 0, .int .i8 0, .int .i64 0] 27)) 31 5 Tryd.underlying31 Tryd.underlying5 bb off 5 c (b.take 5) (by rw [List.length_take]; omega) (read5 hr (by omega) _) 9 Tryd.underlying9
    have hne : b.take 5 ≠ magic5 := by rcases hm with h | h; exact absurd h h5; exact h
    have hs : (strOfNums (b.take 5)).toList ≠ [70, 83, 78, 80, 1] := fun e => hne (magic_of (by rw [List.length_take]; omega) (fun x hx => hb x (List.mem_of_mem_take hx)) e)
    have h5' : 5 ≤ b.length := by omega
    have h5c : 5 ≤ c := by omega
    generalize strOfNums (b.take 5) = str at *
    have hs1 : (str.toList == [70, 83, 78, 80, 1]) = false := by simpa using hs
    have hs2 : (str.toList != [70, 83, 78, 80, 1]) = true := by simpa using hs
    clear hm hl hne hs h5 hr hb
    go_enter Tryd.func17, Tryd.ntmps17
    go_wp2
    all_goals refine bodyPost_ret (read_results w.heap.size #[.slice none 0 0, .slice none 0 0, .slice none 0 0, .int .i64 0, .int .i8 0, .slice none 0 0, .int .i8 0, .int .i64 0] (.int .i64 14) (.int .i64 0) (heap_alloc_new _ _) rfl rfl rfl rfl) rfl ?_
    all_goals rw [E.out]
    all_goals exact ⟨_, rfl, REmpty _ _, below_alloc _ _⟩
set_option maxRecDepth 100000 in
set_option maxHeartbeats 6400000 in
theorem ref22_Read_main (w : World) (S) (v : Value) (b : List Int) (hb : ∀ x ∈ b, 0 ≤ x ∧ x ≤ 255) (h : RdI .u8 S w v b) (hl : ¬ 524288 < b.length) (hm : ¬ (b.length < 5 ∨ b.take 5 ≠ magic5)) :
    Calls Tryd.prog 17 #[v] w fun en w' => ∃ cs, en = .returned (.tuple #[.agg cs.toArray, .int .i64 (rread b).2.1, .int .i64 (rread b).2.2]) ∧ RState (fun x => w.heap.size ≤ x) w' cs (rread b).1 ∧ Below w.heap.size w w' := by
  obtain ⟨i1, hi1, hy0, hy1, hy2⟩ := info_parts Tryd.infoFrame
  have hS : RdI .u8 (fun x => x < w.heap.size) w v b := h.mono fun x hx _ => hx
  have HRD := Lib.hid hS; clear hS
  obtain ⟨a, c, rfl, hc, _, hr⟩ := h
  have h5' : 5 ≤ b.length := by omega
  have hm5 : b.take 5 = magic5 := Decidable.byContradiction fun e => hm (.inr e)
  have HLM := Lib.hid (And.intro hl hm)
  have hl' : b.length ≤ 524288 := by omega
  obtain ⟨bb, off, rfl, _, hzz⟩ := hr 0 (by omega)
  clear hzz
  have hcv := run_convert_bytes_arg (P := Tryd.prog) (w.alloc (Obj.cells #[.slice none 0 0, .slice none 0 0, .slice none 0 0, .int .i64 0, .int .i8 0, .slice none 0 0, .int .i8 0, .int .i64 0] 27)) 31 5 Tryd.underlying31 Tryd.underlying5 bb off 5 c (b.take 5) (by rw [List.length_take]; omega) (read5 hr (by omega) _) 9 Tryd.underlying9
  have hs : (strOfNums (b.take 5)).toList = [70, 83, 78, 80, 1] := by rw [hm5]; exact of_magic
  have h5c : 5 ≤ c := by omega
  generalize strOfNums (b.take 5) = str at *
  have hs1 : (str.toList == [70, 83, 78, 80, 1]) = true := by simpa using hs
  have hs2 : (str.toList != [70, 83, 78, 80, 1]) = false := by simpa using hs
  have HB := Lib.hid hb
  clear hm hl hs hr hb hm5
  have HSZ : Hid ((((w.alloc (Obj.cells #[.slice none 0 0, .slice none 0 0, .slice none 0 0, .int .i64 0, .int .i8 0, .slice none 0 0, .int .i8 0, .int .i64 0] 27)).alloc (Obj.cells #[.slice (some ⟨bb, off, none⟩) b.length c, .int .i64 5, .int .i64 0, .int .i64 0] 94))).heap.size = w.heap.size + 2) := Lib.hid (by rw [World.size_alloc, World.size_alloc])
  have HRB0 : Hid (RB (fun x => x < w.heap.size) w (w.heap.size + 1) (.slice (some ⟨bb, off, none⟩) b.length c) b (w.heap.size + 2) #[.slice none 0 0, .slice none 0 0, .slice none 0 0, .int .i64 0, .int .i8 0, .slice none 0 0, .int .i8 0, .int .i64 0] ⟨5, 0, 0⟩ (((w.alloc (Obj.cells #[.slice none 0 0, .slice none 0 0, .slice none 0 0, .int .i64 0, .int .i8 0, .slice none 0 0, .int .i8 0, .int .i64 0] 27)).alloc (Obj.cells #[.slice (some ⟨bb, off, none⟩) b.length c, .int .i64 5, .int .i64 0, .int .i64 0] 94)).alloc (Obj.cells #[.slice none 0 0, .slice none 0 0, .slice none 0 0, .int .i64 0, .int .i8 0, .slice none 0 0, .int .i8 0, .int .i64 0] 27))) := by
    have r2 : (((w.alloc (Obj.cells #[.slice none 0 0, .slice none 0 0, .slice none 0 0, .int .i64 0, .int .i8 0, .slice none 0 0, .int .i8 0, .int .i64 0] 27)).alloc (Obj.cells #[.slice (some ⟨bb, off, none⟩) b.length c, .int .i64 5, .int .i64 0, .int .i64 0] 94))).heap[w.heap.size]? = some (.cells #[.slice none 0 0, .slice none 0 0, .slice none 0 0, .int .i64 0, .int .i8 0, .slice none 0 0, .int .i8 0, .int .i64 0] 27 (0, 0)) := by rw [Below.heap_alloc _ _ _ (by rw [World.size_alloc]; omega)]; exact heap_alloc_new _ _
    have r1 : (((w.alloc (Obj.cells #[.slice none 0 0, .slice none 0 0, .slice none 0 0, .int .i64 0, .int .i8 0, .slice none 0 0, .int .i8 0, .int .i64 0] 27)).alloc (Obj.cells #[.slice (some ⟨bb, off, none⟩) b.length c, .int .i64 5, .int .i64 0, .int .i64 0] 94))).heap[w.heap.size + 1]? = some (.cells #[.slice (some ⟨bb, off, none⟩) b.length c, .int .i64 5, .int .i64 0, .int .i64 0] 94 (0, 0)) := by
      have hp1 : w.heap.size + 1 = (w.alloc (Obj.cells #[.slice none 0 0, .slice none 0 0, .slice none 0 0, .int .i64 0, .int .i8 0, .slice none 0 0, .int .i8 0, .int .i64 0] 27)).heap.size := by rw [World.size_alloc]
      rw [hp1]; exact heap_alloc_new _ _
    refine ⟨⟨?_, HRD.out.keeps ((((Keeps.refl _ w).alloc _).alloc _).alloc _), fun x hx => by have : x < w.heap.size := hx; omega, h5'⟩, ?_, ?_, below_alloc3 w _ _ _, by omega, by omega, fun x hx => hx⟩
    · rw [Below.heap_alloc _ _ _ (by rw [HSZ.out]; omega)]; exact r1
    · rw [← HSZ.out]; exact heap_alloc_new _ _
    · rw [Below.heap_alloc _ _ _ (by rw [HSZ.out]; omega)]; exact r2
  go_enter Tryd.func17, Tryd.ntmps17
  go_wp2_with fail
  obtain ⟨wa2, hW2⟩ : ∃ wa2, ((w.alloc (Obj.cells #[.slice none 0 0, .slice none 0 0, .slice none 0 0, .int .i64 0, .int .i8 0, .slice none 0 0, .int .i8 0, .int .i64 0] 27)).alloc (Obj.cells #[.slice (some ⟨bb, off, none⟩) b.length c, .int .i64 5, .int .i64 0, .int .i64 0] 94)).alloc (Obj.cells #[.slice none 0 0, .slice none 0 0, .slice none 0 0, .int .i64 0, .int .i8 0, .slice none 0 0, .int .i8 0, .int .i64 0] 27) = wa2 := ⟨_, rfl⟩
  rw [hW2] at HRB0 ⊢
  obtain ⟨t6, ht6⟩ : ∃ t6, w.heap.size + 2 = t6 := ⟨_, rfl⟩
  rw [ht6] at HRB0 ⊢
  clear hW2 HSZ
  have HST : Hid (RState (fun x => t6 < x) wa2 [.slice none 0 0, .slice none 0 0, .slice none 0 0, .int .i64 0, .int .i8 0, .slice none 0 0, .int .i8 0, .int .i64 0] ⟨[], [], [], 0, 0, [], 0, 0⟩) := ⟨_, _, _, _, rfl, RdL.nil _ _ _ _, RdI.nil _ _ _, RdL.nil _ _ _ _, RdI.nil _ _ _⟩
  have HRB := HRB0; clear HRB0 ht6
  (with_reducible refine (rb_octet HRB.out HB.out 1 3).mono ?_)
  rintro e w1 ⟨rfl, hrb, hk⟩
  obtain ⟨x1, r1, h1⟩ : ∃ x1 r1, qoct b ⟨5, 0, 0⟩ 1 3 = (x1, r1) := ⟨_, _, rfl⟩
  rw [h1] at hrb ⊢
  have HSTn := Lib.hid (HST.out.stepP hk (by have := HRB.out.p6; omega)); clear HST hk
  have H1 := Lib.hid h1; have HRBn := Lib.hid hrb; clear h1 hrb HRB
  have yf := row_free HRBn.out.row6 4; have yc := row_cell HRBn.out.row6 4 rfl
  go_wp2_with fail
  have HRB : Hid (RB (fun x => x < w.heap.size) w (w.heap.size + 1) (.slice (some ⟨bb, off, none⟩) b.length c) b t6 #[.slice none 0 0, .slice none 0 0, .slice none 0 0, .int .i64 0, .int .i8 x1, .slice none 0 0, .int .i8 0, .int .i64 0] r1 (w1.setCell ⟨t6, 4, none⟩ (.int .i8 x1))) := HRBn.out.set 4 _
  have HST : Hid (RState (fun x => t6 < x) (w1.setCell ⟨t6, 4, none⟩ (.int .i8 x1)) [.slice none 0 0, .slice none 0 0, .slice none 0 0, .int .i64 0, .int .i8 x1, .slice none 0 0, .int .i8 0, .int .i64 0] ⟨[], [], [], 0, x1, [], 0, 0⟩) := (HSTn.out.set6 4 _).put_ends _
  clear yf yc HRBn HSTn
  generalize w1.setCell ⟨t6, 4, none⟩ (.int .i8 x1) = w1s at *
  (with_reducible refine (rb_octet HRB.out HB.out 0 6).mono ?_)
  rintro e w2 ⟨rfl, hrb, hk⟩
  obtain ⟨x2, r2, h2⟩ : ∃ x2 r2, qoct b r1 0 6 = (x2, r2) := ⟨_, _, rfl⟩
  rw [h2] at hrb ⊢
  have HSTn := Lib.hid (HST.out.stepP hk (by have := HRB.out.p6; omega)); clear HST hk
  have H2 := Lib.hid h2; have HRBn := Lib.hid hrb; clear h2 hrb HRB
  have yf := row_free HRBn.out.row6 6; have yc := row_cell HRBn.out.row6 6 rfl
  go_wp2_with fail
  have HRB : Hid (RB (fun x => x < w.heap.size) w (w.heap.size + 1) (.slice (some ⟨bb, off, none⟩) b.length c) b t6 #[.slice none 0 0, .slice none 0 0, .slice none 0 0, .int .i64 0, .int .i8 x1, .slice none 0 0, .int .i8 x2, .int .i64 0] r2 (w2.setCell ⟨t6, 6, none⟩ (.int .i8 x2))) := HRBn.out.set 6 _
  have HST : Hid (RState (fun x => t6 < x) (w2.setCell ⟨t6, 6, none⟩ (.int .i8 x2)) [.slice none 0 0, .slice none 0 0, .slice none 0 0, .int .i64 0, .int .i8 x1, .slice none 0 0, .int .i8 x2, .int .i64 0] ⟨[], [], [], 0, x1, [], x2, 0⟩) := (HSTn.out.set6 6 _).put_trap _
  clear yf yc HRBn HSTn
  generalize w2.setCell ⟨t6, 6, none⟩ (.int .i8 x2) = w2s at *
  (with_reducible refine (rb_number HRB.out HB.out 4611686018427387904 4611686018427387904 (by omega) 17 (by omega)).mono ?_)
  rintro e w3 ⟨rfl, hrb, hk⟩
  obtain ⟨n3, r3, h3⟩ : ∃ n3 r3, rnum b r2 4611686018427387904 17 = (n3, r3) := ⟨_, _, rfl⟩
  have hn3 : n3 ≤ 4611686018427387904 := by have := rnum_le b r2 4611686018427387904 17; rw [h3] at this; exact this
  rw [h3] at hrb ⊢
  have HSTn := Lib.hid (HST.out.stepP hk (by have := HRB.out.p6; omega)); clear HST hk
  have H3 := Lib.hid h3; have HRBn := Lib.hid hrb; clear h3 hrb HRB
  have hw : IntKind.i64.wrap (n3 : Int) = n3 := IntWalk.i64_in _ ⟨by omega, by omega⟩
  have yf := row_free HRBn.out.row6 7; have yc := row_cell HRBn.out.row6 7 rfl
  go_wp2_with fail
  have HRB : Hid (RB (fun x => x < w.heap.size) w (w.heap.size + 1) (.slice (some ⟨bb, off, none⟩) b.length c) b t6 #[.slice none 0 0, .slice none 0 0, .slice none 0 0, .int .i64 0, .int .i8 x1, .slice none 0 0, .int .i8 x2, .int .i64 n3] r3 (w3.setCell ⟨t6, 7, none⟩ (.int .i64 n3))) := HRBn.out.set 7 _
  have HST : Hid (RState (fun x => t6 < x) (w3.setCell ⟨t6, 7, none⟩ (.int .i64 n3)) [.slice none 0 0, .slice none 0 0, .slice none 0 0, .int .i64 0, .int .i8 x1, .slice none 0 0, .int .i8 x2, .int .i64 n3] ⟨[], [], [], 0, x1, [], x2, n3⟩) := (HSTn.out.set6 7 _).put_used _
  clear yf yc HRBn HSTn
  generalize w3.setCell ⟨t6, 7, none⟩ (.int .i64 n3) = w3s at *
  clear hw
  (with_reducible refine (rb_number HRB.out HB.out 9223372036854775807 9223372036854775807 (by omega) 17 (by omega)).mono ?_)
  rintro e w4 ⟨rfl, hrb, hk⟩
  obtain ⟨n4, r4, h4⟩ : ∃ n4 r4, rnum b r3 9223372036854775807 17 = (n4, r4) := ⟨_, _, rfl⟩
  have hn4 : n4 ≤ 9223372036854775807 := by have := rnum_le b r3 9223372036854775807 17; rw [h4] at this; exact this
  rw [h4] at hrb ⊢
  have HSTn := Lib.hid (HST.out.stepP hk (by have := HRB.out.p6; omega)); clear HST hk
  have H4 := Lib.hid h4; have HRBn := Lib.hid hrb; clear h4 hrb HRB
  have hw : IntKind.i64.wrap (n4 : Int) = n4 := IntWalk.i64_in _ ⟨by omega, by omega⟩
  have yf := row_free HRBn.out.row6 3; have yc := row_cell HRBn.out.row6 3 rfl
  go_wp2_with fail
  have HRB : Hid (RB (fun x => x < w.heap.size) w (w.heap.size + 1) (.slice (some ⟨bb, off, none⟩) b.length c) b t6 #[.slice none 0 0, .slice none 0 0, .slice none 0 0, .int .i64 n4, .int .i8 x1, .slice none 0 0, .int .i8 x2, .int .i64 n3] r4 (w4.setCell ⟨t6, 3, none⟩ (.int .i64 n4))) := HRBn.out.set 3 _
  have HST : Hid (RState (fun x => t6 < x) (w4.setCell ⟨t6, 3, none⟩ (.int .i64 n4)) [.slice none 0 0, .slice none 0 0, .slice none 0 0, .int .i64 n4, .int .i8 x1, .slice none 0 0, .int .i8 x2, .int .i64 n3] ⟨[], [], [], n4, x1, [], x2, n3⟩) := (HSTn.out.set6 3 _).put_rep _
  clear yf yc HRBn HSTn
  generalize w4.setCell ⟨t6, 3, none⟩ (.int .i64 n4) = w4s at *
  clear hw
  (with_reducible refine (rb_values HRB.out HB.out 8 8 (by omega) (by omega)).mono ?_)
  rintro e w5 ⟨a5, c5, rfl, hl, hrb, hk⟩
  obtain ⟨l5, r5, h5⟩ : ∃ l5 r5, qvals b r4 8 = (l5, r5) := ⟨_, _, rfl⟩
  rw [h5] at hrb hl ⊢
  have HSTn := Lib.hid (HST.out.stepP hk (by have := HRB.out.p6; omega)); clear HST hk
  have HL5 := Lib.hid (hl.mono (T := fun x => t6 < x) fun x _ hx => by have := HRB.out.lt; omega); clear hl
  have H5 := Lib.hid h5; have HRBn := Lib.hid hrb; clear h5 hrb HRB
  have yf := row_free HRBn.out.row6 5; have yc := row_cell HRBn.out.row6 5 rfl
  go_wp2_with fail
  have HRB : Hid (RB (fun x => x < w.heap.size) w (w.heap.size + 1) (.slice (some ⟨bb, off, none⟩) b.length c) b t6 #[.slice none 0 0, .slice none 0 0, .slice none 0 0, .int .i64 n4, .int .i8 x1, .slice a5 l5.length c5, .int .i8 x2, .int .i64 n3] r5 (w5.setCell ⟨t6, 5, none⟩ (.slice a5 l5.length c5))) := HRBn.out.set 5 _
  have HST : Hid (RState (fun x => t6 < x) (w5.setCell ⟨t6, 5, none⟩ (.slice a5 l5.length c5)) [.slice none 0 0, .slice none 0 0, .slice none 0 0, .int .i64 n4, .int .i8 x1, .slice a5 l5.length c5, .int .i8 x2, .int .i64 n3] ⟨[], [], [], n4, x1, l5, x2, n3⟩) := (HSTn.out.set6 5 _).put_res (HL5.out.set6 5 _)
  clear yf yc HRBn HSTn
  generalize w5.setCell ⟨t6, 5, none⟩ (.slice a5 l5.length c5) = w5s at *
  clear HL5
  (with_reducible refine (rb_values HRB.out HB.out 64 64 (by omega) (by omega)).mono ?_)
  rintro e w6 ⟨a6, c6, rfl, hl, hrb, hk⟩
  obtain ⟨l6, r6, h6⟩ : ∃ l6 r6, qvals b r5 64 = (l6, r6) := ⟨_, _, rfl⟩
  rw [h6] at hrb hl ⊢
  have HSTn := Lib.hid (HST.out.stepP hk (by have := HRB.out.p6; omega)); clear HST hk
  have HL6 := Lib.hid (hl.mono (T := fun x => t6 < x) fun x _ hx => by have := HRB.out.lt; omega); clear hl
  have H6 := Lib.hid h6; have HRBn := Lib.hid hrb; clear h6 hrb HRB
  have yf := row_free HRBn.out.row6 1; have yc := row_cell HRBn.out.row6 1 rfl
  go_wp2_with fail
  have HRB : Hid (RB (fun x => x < w.heap.size) w (w.heap.size + 1) (.slice (some ⟨bb, off, none⟩) b.length c) b t6 #[.slice none 0 0, .slice a6 l6.length c6, .slice none 0 0, .int .i64 n4, .int .i8 x1, .slice a5 l5.length c5, .int .i8 x2, .int .i64 n3] r6 (w6.setCell ⟨t6, 1, none⟩ (.slice a6 l6.length c6))) := HRBn.out.set 1 _
  have HST : Hid (RState (fun x => t6 < x) (w6.setCell ⟨t6, 1, none⟩ (.slice a6 l6.length c6)) [.slice none 0 0, .slice a6 l6.length c6, .slice none 0 0, .int .i64 n4, .int .i8 x1, .slice a5 l5.length c5, .int .i8 x2, .int .i64 n3] ⟨[], l6, [], n4, x1, l5, x2, n3⟩) := (HSTn.out.set6 1 _).put_gl (HL6.out.set6 1 _)
  clear yf yc HRBn HSTn
  generalize w6.setCell ⟨t6, 1, none⟩ (.slice a6 l6.length c6) = w6s at *
  clear HL6
  (with_reducible refine (rb_pages HRB.out HB.out).mono ?_)
  rintro e w7 ⟨a7, c7, l7, r7, rfl, hl, hrb, h7, hk⟩
  have HSTn := Lib.hid (HST.out.stepPg hk (by have := HRB.out.p6; omega)); clear HST hk
  have HL7 : Hid (RdLL .u8 (fun x => t6 < x) w7 (.slice a7 l7.length c7) l7) := hl.widen fun x _ hx => by have := HRB.out.lt; omega
  clear hl
  have H7 := Lib.hid h7; have HRBn := Lib.hid hrb; clear h7 hrb HRB
  have yf := row_free HRBn.out.row6 2; have yc := row_cell HRBn.out.row6 2 rfl
  go_wp2_with fail
  have HRB : Hid (RB (fun x => x < w.heap.size) w (w.heap.size + 1) (.slice (some ⟨bb, off, none⟩) b.length c) b t6 #[.slice none 0 0, .slice a6 l6.length c6, .slice a7 l7.length c7, .int .i64 n4, .int .i8 x1, .slice a5 l5.length c5, .int .i8 x2, .int .i64 n3] r7 (w7.setCell ⟨t6, 2, none⟩ (.slice a7 l7.length c7))) := HRBn.out.set 2 _
  have HST : Hid (RState (fun x => t6 < x) (w7.setCell ⟨t6, 2, none⟩ (.slice a7 l7.length c7)) [.slice none 0 0, .slice a6 l6.length c6, .slice a7 l7.length c7, .int .i64 n4, .int .i8 x1, .slice a5 l5.length c5, .int .i8 x2, .int .i64 n3] ⟨[], l6, l7, n4, x1, l5, x2, n3⟩) := (HSTn.out.set6 2 _).put_pg (HL7.out.set6 2 _)
  clear yf yc HRBn HSTn
  generalize w7.setCell ⟨t6, 2, none⟩ (.slice a7 l7.length c7) = w7s at *
  clear HL7
  (with_reducible refine (rb_number HRB.out HB.out 64 64 (by omega) 20 (by omega)).mono ?_)
  rintro e w8 ⟨rfl, hrb, hk⟩
  obtain ⟨n8, r8, h8⟩ : ∃ n8 r8, rnum b r7 64 20 = (n8, r8) := ⟨_, _, rfl⟩
  have hn8 : n8 ≤ 64 := by have := rnum_le b r7 64 20; rw [h8] at this; exact this
  rw [h8] at hrb ⊢
  have HSTn := Lib.hid (HST.out.stepP hk (by have := HRB.out.p6; omega)); clear HST hk
  have H8 := Lib.hid h8; have HRBn := Lib.hid hrb; clear h8 hrb HRB
  go_wp2

  have hB6 := HRBn.out.lt
  have HK8 := HRBn.out
  have HST := Lib.hid (HSTn.out.mono (T := fun x => t6 < x ∧ x < w8.heap.size) fun x hx h => ⟨h, hx⟩); clear HSTn
  clear HK8
  have HE0 : Hid (∀ r, Sq r8 r → FrRel (rframesGo b n8 r []) b (n8 - 0) r8 []) := Lib.hid fun r hr => FrRel.start hr
  go_loopw [8] (fun i wr => ∃ (j : Nat) (xs : List Fq) (fa : Option Addr) (fc : Nat) (rj : RS), j ≤ n8 ∧ i = .int .u64 j ∧ xs.length = j ∧ w8.heap.size ≤ wr.heap.size ∧
      Hid (RB (fun x => x < w.heap.size) w (w.heap.size + 1) (.slice (some ⟨bb, off, none⟩) b.length c) b t6 #[.slice fa xs.length fc, .slice a6 l6.length c6, .slice a7 l7.length c7, .int .i64 n4, .int .i8 x1, .slice a5 l5.length c5, .int .i8 x2, .int .i64 n3] rj wr) ∧ Hid (RState (fun x => t6 < x ∧ x < w8.heap.size) wr [.slice none 0 0, .slice a6 l6.length c6, .slice a7 l7.length c7, .int .i64 n4, .int .i8 x1, .slice a5 l5.length c5, .int .i8 x2, .int .i64 n3] ⟨[], l6, l7, n4, x1, l5, x2, n3⟩) ∧ Hid (FrOwn w8.heap.size wr (.slice fa xs.length fc) xs) ∧ Hid (∀ r, Sq r8 r → FrRel (rframesGo b n8 r []) b (n8 - j) rj (xs.map (·.1)))) (fun i _ => n8 - (intOf i).toNat)
  case atStart => exact ⟨0, [], none, 0, r8, by omega, rfl, rfl, Nat.le_refl _, HRBn, HST, FrOwn.nil _ _, HE0⟩
  case round =>
    clear HST HRBn HE0
    obtain ⟨j, xs, fa, fc, rj, hj, rfl, hxl, hBw, HRB, HST, HFR, HE⟩ := hrel
    subst hxl
    have d2 := row_cell HRB.out.rr.row 2 rfl
    simp only [List.getElem_toArray, List.getElem_cons_zero, List.getElem_cons_succ] at d2
    by_cases hgo : xs.length < n8 ∧ rj.e = 0
    · obtain ⟨hlt, hje0⟩ := hgo
      obtain ⟨nA, rA, hA⟩ : ∃ nA rA, rnum b rj 127 17 = (nA, rA) := ⟨_, _, rfl⟩
      obtain ⟨nB, rB, hB⟩ : ∃ nB rB, rnum b rA 2047 17 = (nB, rB) := ⟨_, _, rfl⟩
      obtain ⟨lC, rC, hC⟩ : ∃ lC rC, qvals b rB 64 = (lC, rC) := ⟨_, _, rfl⟩
      obtain ⟨lD, rD, hD⟩ : ∃ lD rD, qvals b rC 256 = (lD, rD) := ⟨_, _, rfl⟩
      have HE2 : Hid (∀ r, Sq r8 r → FrRel (rframesGo b n8 r []) b (n8 - (xs.length + 1)) rD (xs.map (·.1) ++ [⟨nA, nB, lC, lD⟩])) := Lib.hid fun r hr => by
        rcases HE.out r hr with h | h
        · have st := FrRel.step (X := rframesGo b n8 r []) (b := b) (m := n8 - (xs.length + 1)) (q := rj) (acc := xs.map (·.1)) (qD := rD) (lC := lC) (lD := lD) (qC := rC) (h.2.trans (by rw [show n8 - xs.length = (n8 - (xs.length + 1)) + 1 by omega])) (by rw [hA]; simp only; rw [hB]; exact hC) hD
          simp only [hA, hB] at st
          exact st
        · exact absurd hje0 h.1
      have he0 : (rj.e == 0) = true := by simp [hje0]
      have hnA : nA ≤ 127 := by have := rnum_le b rj 127 17; rw [hA] at this; exact this
      have hnB : nB ≤ 2047 := by have := rnum_le b rA 2047 17; rw [hB] at this; exact this
      have hwA : IntKind.i64.wrap (nA : Int) = nA := IntWalk.i64_in _ ⟨by omega, by omega⟩
      have hwB : IntKind.i64.wrap (nB : Int) = nB := IntWalk.i64_in _ ⟨by omega, by omega⟩
      have HA := Lib.hid hA; have HBe := Lib.hid hB; have HC := Lib.hid hC; have HD := Lib.hid hD
      clear hA hB hC hD HE hje0
      have hp6 := HRB.out.p6
      have hg7 := HRB.out.lt
      have HW7 : Hid ((wr.alloc (Obj.cells #[.int .i64 0, .int .i64 0, .slice none 0 0, .slice none 0 0] 66)).heap[wr.heap.size]? = some (.cells #[.int .i64 0, .int .i64 0, .slice none 0 0, .slice none 0 0] 66 (0, 0))) := heap_alloc_new _ _
      have HRBC := Lib.hid (HRB.out.far (((Keeps.refl _ wr)).alloc (Obj.cells #[.int .i64 0, .int .i64 0, .slice none 0 0, .slice none 0 0] 66)))
      have HK7 : Hid (Keeps (fun x => x ≠ w.heap.size + 1 ∧ x < wr.heap.size) wr (wr.alloc (Obj.cells #[.int .i64 0, .int .i64 0, .slice none 0 0, .slice none 0 0] 66))) := ((Keeps.refl _ wr)).alloc _
      have HU0 : Hid (∀ g, (Value.slice fa xs.length fc).ownBlock = some g → g < wr.heap.size) := Lib.hid fun g e => (HFR.out.own.lt g e).2
      have HFR2 := HFR; have HST2 := HST
      clear HRB HFR HST
      go_wp2_with fail
      clear d2
      generalize ht7 : wr.heap.size = t7 at *
      generalize wr.alloc (Obj.cells #[.int .i64 0, .int .i64 0, .slice none 0 0, .slice none 0 0] 66) = wC00 at *
      (with_reducible refine (rb_number HRBC.out HB.out 127 127 (by omega) 17 (by omega)).mono ?_)
      rintro e wA ⟨rfl, hrb, hk⟩
      rw [HA.out] at hrb ⊢
      have HK7' := Lib.hid (HK7.out.trans (hk.mono fun x _ hx => hx.1))
      have HW7' := Lib.hid ((hk.block t7 (row_lt HW7.out) (by omega)).trans HW7.out)
      have HRBD := Lib.hid hrb
      clear hrb HRBC HK7 HW7 hk
      have yf := row_free HW7'.out 0; have yc := row_cell HW7'.out 0 rfl
      go_wp2_with fail
      have HRBC := Lib.hid (HRBD.out.far ((Keeps.refl (fun x => x ≤ t6) wA).setCell (a := ⟨t7, 0, none⟩) (by simp; omega) (.int .i64 nA)))
      have HK7 := Lib.hid (HK7'.out.trans ((Keeps.refl (fun x => x ≠ w.heap.size + 1 ∧ x < t7) wA).setCell (a := ⟨t7, 0, none⟩) (by simp) (.int .i64 nA)))
      have HW7 : Hid ((wA.setCell ⟨t7, 0, none⟩ (.int .i64 nA)).heap[t7]? = some (.cells #[.int .i64 nA, .int .i64 0, .slice none 0 0, .slice none 0 0] 66 (0, 0))) := row_setCell HW7'.out 0 _
      clear yf yc HRBD HK7' HW7'
      generalize wA.setCell ⟨t7, 0, none⟩ (.int .i64 nA) = wAs at *
      (with_reducible refine (rb_number HRBC.out HB.out 2047 2047 (by omega) 17 (by omega)).mono ?_)
      rintro e wB ⟨rfl, hrb, hk⟩
      rw [HBe.out] at hrb ⊢
      have HK7' := Lib.hid (HK7.out.trans (hk.mono fun x _ hx => hx.1))
      have HW7' := Lib.hid ((hk.block t7 (row_lt HW7.out) (by omega)).trans HW7.out)
      have HRBD := Lib.hid hrb
      clear hrb HRBC HK7 HW7 hk
      have yf := row_free HW7'.out 1; have yc := row_cell HW7'.out 1 rfl
      go_wp2_with fail
      have HRBC := Lib.hid (HRBD.out.far ((Keeps.refl (fun x => x ≤ t6) wB).setCell (a := ⟨t7, 1, none⟩) (by simp; omega) (.int .i64 nB)))
      have HK7 := Lib.hid (HK7'.out.trans ((Keeps.refl (fun x => x ≠ w.heap.size + 1 ∧ x < t7) wB).setCell (a := ⟨t7, 1, none⟩) (by simp) (.int .i64 nB)))
      have HW7 : Hid ((wB.setCell ⟨t7, 1, none⟩ (.int .i64 nB)).heap[t7]? = some (.cells #[.int .i64 nA, .int .i64 nB, .slice none 0 0, .slice none 0 0] 66 (0, 0))) := row_setCell HW7'.out 1 _
      clear yf yc HRBD HK7' HW7'
      generalize wB.setCell ⟨t7, 1, none⟩ (.int .i64 nB) = wC0 at *
      (with_reducible refine (rb_values HRBC.out HB.out 64 64 (by omega) (by omega)).mono ?_)
      rintro e wC ⟨aC, cC, rfl, hl, hrb, hk⟩
      rw [HC.out] at hrb hl ⊢
      have HLC := Lib.hid (hl.mono (T := fun x => t7 < x) fun x _ hx => by have := row_lt HW7.out; omega)
      have HK7' := Lib.hid (HK7.out.trans (hk.mono fun x _ hx => hx.1))
      have HW7' := Lib.hid ((hk.block t7 (row_lt HW7.out) (by omega)).trans HW7.out)
      have HRBD := Lib.hid hrb
      clear hl hrb HRBC HK7 HW7 hk
      have yf := row_free HW7'.out 2; have yc := row_cell HW7'.out 2 rfl
      go_wp2_with fail
      have HRBC := Lib.hid (HRBD.out.far ((Keeps.refl (fun x => x ≤ t6) wC).setCell (a := ⟨t7, 2, none⟩) (by simp; omega) (.slice aC lC.length cC)))
      have HK7 := Lib.hid (HK7'.out.trans ((Keeps.refl (fun x => x ≠ w.heap.size + 1 ∧ x < t7) wC).setCell (a := ⟨t7, 2, none⟩) (by simp) (.slice aC lC.length cC)))
      have HW7 : Hid ((wC.setCell ⟨t7, 2, none⟩ (.slice aC lC.length cC)).heap[t7]? = some (.cells #[.int .i64 nA, .int .i64 nB, .slice aC lC.length cC, .slice none 0 0] 66 (0, 0))) := row_setCell HW7'.out 2 _
      have HLC' := Lib.hid (HLC.out.set6 2 (.slice aC lC.length cC)); clear HLC; have HLC := HLC'; clear HLC'
      clear yf yc HRBD HK7' HW7'
      generalize wC.setCell ⟨t7, 2, none⟩ (.slice aC lC.length cC) = wCs at *
      (with_reducible refine (rb_values HRBC.out HB.out 256 256 (by omega) (by omega)).mono ?_)
      rintro e wD ⟨aD, cD, rfl, hl, hrb, hk⟩
      rw [HD.out] at hrb hl ⊢
      have HLD := Lib.hid (hl.mono (T := fun x => t7 < x) fun x _ hx => by have := row_lt HW7.out; omega)
      have HK7' := Lib.hid (HK7.out.trans (hk.mono fun x _ hx => hx.1))
      have HW7' := Lib.hid ((hk.block t7 (row_lt HW7.out) (by omega)).trans HW7.out)
      have HRBD := Lib.hid hrb
      have HLC' := Lib.hid (HLC.out.keeps (hk.mono fun x _ hx => by omega)); clear HLC; have HLC := HLC'; clear HLC'
      clear hl hrb HRBC HK7 HW7 hk
      have HRBC := Lib.hid (HRBD.out.far ((Keeps.refl (fun x => x ≤ t6) wD).setCell (a := ⟨t7, 3, none⟩) (by simp; omega) (.slice aD lD.length cD)))
      have HK7 := Lib.hid (HK7'.out.trans ((Keeps.refl (fun x => x ≠ w.heap.size + 1 ∧ x < t7) wD).setCell (a := ⟨t7, 3, none⟩) (by simp) (.slice aD lD.length cD)))
      have HLC' := Lib.hid (HLC.out.set6 3 (.slice aD lD.length cD)); have HLD' := Lib.hid (HLD.out.set6 3 (.slice aD lD.length cD))
      have HFR3 := Lib.hid (HFR2.out.keeps HK7.out fun x h1 h2 => ⟨by omega, by omega⟩)
      have HST3 := Lib.hid (HST2.out.keeps (HK7.out.mono fun x h1 h2 => ⟨by omega, by omega⟩))
      have hszD := HK7.out.size
      have hltD : t7 < (wD.setCell ⟨t7, 3, none⟩ (.slice aD lD.length cD)).heap.size := by rw [World.size_setCell]; exact row_lt HW7'.out
      have hsetD : (wD.setCell ⟨t7, 3, none⟩ (.slice aD lD.length cD)).heap.size = wD.heap.size := World.size_setCell _ _ _
      have hu7 : (Value.slice fa xs.length fc).ownBlock ≠ some t7 ∧ ∀ x, t7 < x → (Value.slice fa xs.length fc).ownBlock ≠ some x := ⟨fun e => by have := HU0.out _ e; omega, fun x hx e => by have := HU0.out _ e; omega⟩
      have HU7 := Lib.hid hu7; clear hu7
      have HRW : Hid (frq ((⟨nA, nB, lC, lD⟩ : FrameD), .slice aC lC.length cC, .slice aD lD.length cD) = [.int .i64 nA, .int .i64 nB, .slice aC lC.length cC, .slice aD lD.length cD]) := rfl
      clear HLC HLD HK7' HFR2 HST2
      have yf := row_free HW7'.out 3
      have z6 := row_cell HRBD.out.row6 0 rfl; have z6f := row_free HRBD.out.row6 0
      have y0 := row_cell HW7'.out 0 rfl; have y1 := row_cell HW7'.out 1 rfl; have y2 := row_cell HW7'.out 2 rfl; have y3 := row_cell HW7'.out 3 rfl
      have hn67 : t6 ≠ t7 := by omega
      have hn76 : t7 ≠ t6 := by omega
      have hxs64 : xs.length < 64 := by omega
      simp only [List.getElem_toArray, List.getElem_cons_zero, List.getElem_cons_succ] at z6 y0 y1 y2 y3
      go_wp2_with (at_builtin; refine stopped ?_)
      unfold Stopped
      refine wpList_append_lies _ rfl _ _ 22 rfl w8.heap.size 66 i1 _ 4 64 Tryd.underlying22 hi1 hy0 hy1 hy2 rfl (by decide) _ xs.length (frqs xs) rfl (own_keeps HFR3.out.own ((Keeps.refl (fun _ => True) _).alloc _) (fun _ _ => trivial)) _ 1 1 [.int .i64 nA, .int .i64 nB, .slice aC lC.length cC, .slice aD lD.length cD] rfl rfl (by rw [← hsetD]; exact news4 _ _ _ _ _ _) (by simp [Value.oneCell']) (by omega) (by unfold maxLen; omega) (by omega) (by rw [World.size_alloc]; omega) _ rfl ?_
      intro g cap wE hown2 hgrow2 hat hlt2
      have HP := Lib.hid (HFR3.out.add (f := ⟨nA, nB, lC, lD⟩) (HLC'.out.mono fun x _ hx => ⟨by omega, HU7.out.2 x hx⟩) (HLD'.out.mono fun x _ hx => ⟨by omega, HU7.out.2 x hx⟩) hown2 hgrow2 hat)
      have HRBE := Lib.hid (HRBC.out.far (((Keeps.refl (fun x => x ≤ t6) _).alloc _).grown hgrow2 fun k hk _ h => by have := (HFR3.out.own.lt k hk).1; omega))
      have HSTE := Lib.hid (HST3.out.keeps (((Keeps.refl (fun x => t6 < x ∧ x < w8.heap.size) _).alloc _).grown hgrow2 fun k hk _ h => by have := (HFR3.out.own.lt k hk).1; omega))
      have hszE : w8.heap.size ≤ wE.heap.size := by have := hgrow2.size; rw [World.size_alloc] at this; omega
      clear hown2 hgrow2 hat HFR3 HST3 HLC' HLD' HU7 HRW HRBC HRBD yf z6 z6f y0 y1 y2 y3 HK7 HW7'
      have z6 := row_cell HRBE.out.row6 0 rfl; have z6f := row_free HRBE.out.row6 0
      go_wp2
      have HRB : Hid (RB (fun x => x < w.heap.size) w (w.heap.size + 1) (.slice (some ⟨bb, off, none⟩) b.length c) b t6 #[.slice (some ⟨g, 0, none⟩) (xs.length + 1) cap, .slice a6 l6.length c6, .slice a7 l7.length c7, .int .i64 n4, .int .i8 x1, .slice a5 l5.length c5, .int .i8 x2, .int .i64 n3] rD (wE.setCell ⟨t6, 0, none⟩ (.slice (some ⟨g, 0, none⟩) (xs.length + 1) cap))) := HRBE.out.set 0 _
      have HST := Lib.hid (HSTE.out.keeps ((Keeps.refl (fun x => t6 < x ∧ x < w8.heap.size) _).setCell (a := ⟨t6, 0, none⟩) (by simp) (.slice (some ⟨g, 0, none⟩) (xs.length + 1) cap)))
      have HFR := Lib.hid (HP.out.keeps ((Keeps.refl (fun x => t6 < x) _).setCell (a := ⟨t6, 0, none⟩) (by simp) (.slice (some ⟨g, 0, none⟩) (xs.length + 1) cap)) fun x h1 h2 => by omega)
      clear HRBE HSTE HP z6 z6f
      have hlen : (xs ++ [((⟨nA, nB, lC, lD⟩ : FrameD), Value.slice aC lC.length cC, Value.slice aD lD.length cD)]).length = xs.length + 1 := by simp
      have HLEN := Lib.hid hlen; clear hlen
      go_roundw
      case rel => exact ⟨xs.length + 1, _, some ⟨g, 0, none⟩, cap, rD, by omega, by go_num, HLEN.out, by rw [World.size_setCell]; exact hszE, by rw [HLEN.out]; exact HRB, HST, by rw [HLEN.out]; exact HFR, by rw [List.map_append]; exact HE2⟩
      case measure => simp [intOf]; omega
    · have ER : Hid (rread b = if (rlast b rj).e ≠ 0 then (emptyS, (rlast b rj).e, (rlast b rj).bad) else (⟨xs.map (·.1), l6, l7, n4, x1, l5, x2, n3⟩, 0, 0)) := Lib.hid (by
        refine read_same HLM.out.1 HLM.out.2 H1.out H2.out H3.out H4.out H5.out H6.out H7.out H8.out fun r hr => ?_
        have hls := last_same (b := b) (X := rframesGo b n8 r []) (q := rj) (acc := xs.map (·.1)) (by
          rcases HE.out r hr with h | h
          · have : n8 - xs.length = 0 := by
              have := h.1
              have hh : ¬ xs.length < n8 := fun q => hgo ⟨q, this⟩
              omega
            rw [this] at h
            exact .inl (.inl h)
          · exact .inr h)
        exact ⟨hls.1, fun h => ⟨(hls.2 h).1, by rw [(hls.2 h).2.1]; exact (hls.2 h).2.2⟩⟩)
      have hend : (xs.length < n8 ∧ (rj.e == 0) = false) ∨ xs.length = n8 := by
        by_cases h : xs.length < n8
        · left; exact ⟨h, by simp; exact fun q => hgo ⟨h, q⟩⟩
        · right; omega
      clear HE H1 H2 H3 H4 H5 H6 H7 H8 hgo d2
      have HXL : Hid (xs.length ≤ 64) := Lib.hid (by omega)
      rcases hend with ⟨hlt, hje0⟩ | rfl
      · skip
        have hp6 := HRB.out.p6
        have hrowp := HRB.out.rr.row
        have z1 := row_cell hrowp 1 rfl; have z2 := row_cell hrowp 2 rfl
        simp only [List.getElem_toArray, List.getElem_cons_zero, List.getElem_cons_succ] at z1 z2
        clear hrowp
        have hje : ¬ rj.e = 0 := by simpa using hje0
        have E : rlast b rj = rj := by rw [rlast, if_neg (fun h => hje h.1)]
        rw [E] at ER
        have HJE := Lib.hid hje
        have he1 : (rj.e == 0) = false := by simp [hje]
        have he2 : (rj.e != 0) = true := by simp [hje]
        clear hje E z1 z2 HST HFR
        have hrowp := HRB.out.rr.row
        have z3 := row_cell hrowp 3 rfl; have z2 := row_cell hrowp 2 rfl
        simp only [List.getElem_toArray, List.getElem_cons_zero, List.getElem_cons_succ] at z3 z2
        clear hrowp
        have hg := HRB.out.row2
        have g0 := row_cell hg 0 rfl; have g1 := row_cell hg 1 rfl; have g2 := row_cell hg 2 rfl; have g3 := row_cell hg 3 rfl; have g4 := row_cell hg 4 rfl; have g5 := row_cell hg 5 rfl; have g6 := row_cell hg 6 rfl; have g7 := row_cell hg 7 rfl
        have f0 := row_free hg 0; have f1 := row_free hg 1; have f2 := row_free hg 2; have f3 := row_free hg 3; have f4 := row_free hg 4; have f5 := row_free hg 5; have f6 := row_free hg 6; have f7 := row_free hg 7
        simp only [List.getElem_toArray, List.getElem_cons_zero, List.getElem_cons_succ] at g0 g1 g2 g3 g4 g5 g6 g7
        clear hg
        go_wp2_with fail
        go_region
        all_goals go_wp2
        refine bodyPost_ret (read_results w.heap.size #[.slice none 0 0, .slice none 0 0, .slice none 0 0, .int .i64 0, .int .i8 0, .slice none 0 0, .int .i8 0, .int .i64 0] (.int .i64 rj.e) (.int .i64 rj.bad) (set8_rowD HRB.out.row2 _ _ _ _ _ _ _ _) rfl rfl rfl rfl) rfl ?_
        rw [ER.out, if_pos (HJE.out)]
        exact ⟨_, rfl, REmpty _ _, HRB.out.bel.trans (((set8_keeps _ w.heap.size _ _ _ _ _ _ _ _).below HRB.out.bel.size fun x hx => by omega).drew)⟩
      · skip
        have hp6 := HRB.out.p6
        have hrowp := HRB.out.rr.row
        have z1 := row_cell hrowp 1 rfl; have z2 := row_cell hrowp 2 rfl
        simp only [List.getElem_toArray, List.getElem_cons_zero, List.getElem_cons_succ] at z1 z2
        clear hrowp
        by_cases hje : rj.e = 0
        · by_cases hja : rj.at_ = b.length
          · have E : rlast b rj = rj := by rw [rlast, if_neg (fun h => h.2 hja)]
            rw [E] at ER
            have he1 : (rj.e == 0) = true := by simp [hje]
            have he2 : (rj.e != 0) = false := by simp [hje]
            have hne : ((rj.at_ : Int) != (b.length : Int)) = false := by simp [hja]
            have HJE := Lib.hid hje; have HJA := Lib.hid hja; clear hje hja E
            have HRF := Lib.hid (HFR.out.read (by have := HXL.out; omega))
            have HS9 := Lib.hid ((HST.out.mono (T := fun x => w.heap.size < x) fun x _ h => by have := HRB.out.p2; omega).put_fr (HRF.out.mono' fun x hx => by have := HRB.out.p2; have := HRB.out.p6; omega))
            have HKS := Lib.hid (Nat.le_refl 0)
            clear HST HFR HRF HKS
            have hne62 : t6 ≠ w.heap.size := by have := HRB.out.p2; omega
            have hk := HRB.out.row6
            have k0 := row_cell hk 0 rfl; have k1 := row_cell hk 1 rfl; have k2 := row_cell hk 2 rfl; have k3 := row_cell hk 3 rfl; have k4 := row_cell hk 4 rfl; have k5 := row_cell hk 5 rfl; have k6 := row_cell hk 6 rfl; have k7 := row_cell hk 7 rfl
            simp only [List.getElem_toArray, List.getElem_cons_zero, List.getElem_cons_succ] at k0 k1 k2 k3 k4 k5 k6 k7
            clear hk
            have hg := HRB.out.row2
            have g0 := row_cell hg 0 rfl; have g1 := row_cell hg 1 rfl; have g2 := row_cell hg 2 rfl; have g3 := row_cell hg 3 rfl; have g4 := row_cell hg 4 rfl; have g5 := row_cell hg 5 rfl; have g6 := row_cell hg 6 rfl; have g7 := row_cell hg 7 rfl
            have f0 := row_free hg 0; have f1 := row_free hg 1; have f2 := row_free hg 2; have f3 := row_free hg 3; have f4 := row_free hg 4; have f5 := row_free hg 5; have f6 := row_free hg 6; have f7 := row_free hg 7
            simp only [List.getElem_toArray, List.getElem_cons_zero, List.getElem_cons_succ] at g0 g1 g2 g3 g4 g5 g6 g7
            clear hg
            go_wp2
            refine bodyPost_ret (read_results w.heap.size _ (.int .i64 0) (.int .i64 0) (set8_row HRB.out.row2 _ _ _ _ _ _ _ _) rfl rfl rfl rfl) rfl ?_
            rw [ER.out, if_neg (by rw [HJE.out]; decide)]
            exact ⟨_, rfl, (HS9.out.keeps ((set8_keeps _ w.heap.size _ _ _ _ _ _ _ _).mono fun x _ hx => by omega)).mono fun x _ hx => by omega, HRB.out.bel.trans ((set8_keeps _ w.heap.size _ _ _ _ _ _ _ _).below HRB.out.bel.size fun x hx => by omega)⟩
          · have E : rlast b rj = rj.no 19 rj.at_ := by rw [rlast, if_pos ⟨hje, hja⟩]
            have hr' : (rj.no 19 rj.at_).e = 19 := by rw [RS.no, if_pos hje]
            rw [E] at ER
            have HR' := Lib.hid hr'; clear hr' E
            have he1 : (rj.e == 0) = true := by simp [hje]
            have hne : ((rj.at_ : Int) != (b.length : Int)) = true := by simp; omega
            clear hje hja
            go_wp2_with fail
            (with_reducible refine (rd_no _ _ _ _ _ _ HRB.out.rr 19 rj.at_ rj.at_ rfl).mono ?_)
            rintro e wz ⟨rfl, hrr, hk⟩
            have HRB2 := Lib.hid (HRB.out.step hrr (hk.mono fun x _ hx => hx.1))
            clear hrr hk z1 z2 HRB HST HFR
            generalize rj.no 19 rj.at_ = rz at *
            have he2 : (rz.e != 0) = true := by rw [HR'.out]; rfl
            have hrowp := HRB2.out.rr.row
            have z3 := row_cell hrowp 3 rfl; have z2 := row_cell hrowp 2 rfl
            simp only [List.getElem_toArray, List.getElem_cons_zero, List.getElem_cons_succ] at z3 z2
            clear hrowp
            have hg := HRB2.out.row2
            have g0 := row_cell hg 0 rfl; have g1 := row_cell hg 1 rfl; have g2 := row_cell hg 2 rfl; have g3 := row_cell hg 3 rfl; have g4 := row_cell hg 4 rfl; have g5 := row_cell hg 5 rfl; have g6 := row_cell hg 6 rfl; have g7 := row_cell hg 7 rfl
            have f0 := row_free hg 0; have f1 := row_free hg 1; have f2 := row_free hg 2; have f3 := row_free hg 3; have f4 := row_free hg 4; have f5 := row_free hg 5; have f6 := row_free hg 6; have f7 := row_free hg 7
            simp only [List.getElem_toArray, List.getElem_cons_zero, List.getElem_cons_succ] at g0 g1 g2 g3 g4 g5 g6 g7
            clear hg
            go_wp2_with fail
            go_region
            all_goals go_wp2
            refine bodyPost_ret (read_results w.heap.size #[.slice none 0 0, .slice none 0 0, .slice none 0 0, .int .i64 0, .int .i8 0, .slice none 0 0, .int .i8 0, .int .i64 0] (.int .i64 rz.e) (.int .i64 rz.bad) (set8_rowD HRB2.out.row2 _ _ _ _ _ _ _ _) rfl rfl rfl rfl) rfl ?_
            rw [ER.out, if_pos (by rw [HR'.out]; decide)]
            exact ⟨_, rfl, REmpty _ _, HRB2.out.bel.trans (((set8_keeps _ w.heap.size _ _ _ _ _ _ _ _).below HRB2.out.bel.size fun x hx => by omega).drew)⟩
        · have E : rlast b rj = rj := by rw [rlast, if_neg (fun h => hje h.1)]
          rw [E] at ER
          have HJE := Lib.hid hje
          have he1 : (rj.e == 0) = false := by simp [hje]
          have he2 : (rj.e != 0) = true := by simp [hje]
          clear hje E z1 z2 HST HFR
          have hrowp := HRB.out.rr.row
          have z3 := row_cell hrowp 3 rfl; have z2 := row_cell hrowp 2 rfl
          simp only [List.getElem_toArray, List.getElem_cons_zero, List.getElem_cons_succ] at z3 z2
          clear hrowp
          have hg := HRB.out.row2
          have g0 := row_cell hg 0 rfl; have g1 := row_cell hg 1 rfl; have g2 := row_cell hg 2 rfl; have g3 := row_cell hg 3 rfl; have g4 := row_cell hg 4 rfl; have g5 := row_cell hg 5 rfl; have g6 := row_cell hg 6 rfl; have g7 := row_cell hg 7 rfl
          have f0 := row_free hg 0; have f1 := row_free hg 1; have f2 := row_free hg 2; have f3 := row_free hg 3; have f4 := row_free hg 4; have f5 := row_free hg 5; have f6 := row_free hg 6; have f7 := row_free hg 7
          simp only [List.getElem_toArray, List.getElem_cons_zero, List.getElem_cons_succ] at g0 g1 g2 g3 g4 g5 g6 g7
          clear hg
          go_wp2_with fail
          go_region
          all_goals go_wp2
          refine bodyPost_ret (read_results w.heap.size #[.slice none 0 0, .slice none 0 0, .slice none 0 0, .int .i64 0, .int .i8 0, .slice none 0 0, .int .i8 0, .int .i64 0] (.int .i64 rj.e) (.int .i64 rj.bad) (set8_rowD HRB.out.row2 _ _ _ _ _ _ _ _) rfl rfl rfl rfl) rfl ?_
          rw [ER.out, if_pos (HJE.out)]
          exact ⟨_, rfl, REmpty _ _, HRB.out.bel.trans (((set8_keeps _ w.heap.size _ _ _ _ _ _ _ _).below HRB.out.bel.size fun x hx => by omega).drew)⟩

/-- 'flagonref22.Read'. -/
theorem ref22_Read (w : World) (S) (v : Value) (b : List Int) (hb : ∀ x ∈ b, 0 ≤ x ∧ x ≤ 255) (h : RdI .u8 S w v b) :
    Calls Tryd.prog 17 #[v] w fun en w' => ∃ cs, en = .returned (.tuple #[.agg cs.toArray, .int .i64 (rread b).2.1, .int .i64 (rread b).2.2]) ∧ RState (fun x => w.heap.size ≤ x) w' cs (rread b).1 ∧ Below w.heap.size w w' := by
  by_cases hl : 524288 < b.length
  · exact ref22_Read_long w S v b h hl
  · by_cases hm : b.length < 5 ∨ b.take 5 ≠ magic5
    · exact ref22_Read_magic w S v b hb h hl hm
    · exact ref22_Read_main w S v b hb h hl hm
end R22
end Go.Proofs.YthlkckpadjjbdaaDoor
