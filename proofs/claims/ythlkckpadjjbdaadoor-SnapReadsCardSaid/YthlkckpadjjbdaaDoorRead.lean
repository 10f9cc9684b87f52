/- snap.Read: bytes as a state, or the first fault and its place. -/
import Derived.Test.YthlkckpadjjbdaaDoorRPages
import Derived.Test.YthlkckpadjjbdaaDoorState
namespace Go.Proofs.YthlkckpadjjbdaaDoor
open Go Go.RowKit

def emptyS : StateD := ⟨[], [], [], 0, 0, [], 0, 0⟩
def magic5 : List Int := [70, 83, 78, 80, 1]
theorem magic_of {l : List Int} (hl : l.length = 5) (hb : ∀ x ∈ l, 0 ≤ x ∧ x ≤ 255) (e : (strOfNums l).toList = [70, 83, 78, 80, 1]) : l = magic5 := by
  match l, hl, hb with
  | [x0, x1, x2, x3, x4], _, hb =>
    have e2 : [UInt8.ofNat x0.toNat, UInt8.ofNat x1.toNat, UInt8.ofNat x2.toNat, UInt8.ofNat x3.toNat, UInt8.ofNat x4.toNat] = ([70, 83, 78, 80, 1] : List UInt8) := by
      have e3 : (strOfNums [x0, x1, x2, x3, x4]).toList = (strOfNums [70, 83, 78, 80, 1]).toList := by rw [e]; decide +kernel
      have e4 : (strOfNums [x0, x1, x2, x3, x4] == strOfNums [70, 83, 78, 80, 1]) = true := by rw [beq_toListBytes, e3]; simp
      have e5 : ((strOfNums [x0, x1, x2, x3, x4]).data == (strOfNums [70, 83, 78, 80, 1]).data) = true := e4
      have e6 := congrArg Array.toList (eq_of_beq e5)
      exact e6
    have q : ∀ (x : Int) (n : UInt8), 0 ≤ x ∧ x ≤ 255 → UInt8.ofNat x.toNat = n → x = n.toNat := by
      intro x n hx hn
      have := congrArg UInt8.toNat hn
      simp only [UInt8.toNat_ofNat', Nat.reducePow] at this
      omega
    simp only [List.cons.injEq, and_true] at e2
    obtain ⟨a0, a1, a2, a3, a4⟩ := e2
    have b0 := q _ _ (hb x0 (by simp)) a0; have b1 := q _ _ (hb x1 (by simp)) a1; have b2 := q _ _ (hb x2 (by simp)) a2; have b3 := q _ _ (hb x3 (by simp)) a3; have b4 := q _ _ (hb x4 (by simp)) a4
    rw [b0, b1, b2, b3, b4]; rfl
theorem of_magic : (strOfNums magic5).toList = [70, 83, 78, 80, 1] := by decide +kernel
theorem read5 {S : Nat → Prop} {w : World} {b : List Int} {bb off : Nat} (h : ∀ j (h : j < b.length), ∃ b' o', some (⟨bb, off, none⟩ : Addr) = some ⟨b', o', none⟩ ∧ S b' ∧ w.cell? ⟨b', o' + j, none⟩ = some (.int .u8 b[j])) (hl : 5 ≤ b.length) (o : Obj) :
    ∀ i, i < 5 → (w.alloc o).cell? ⟨bb, off + i, none⟩ = some (.int .u8 ((b.take 5).getD i 0)) := by
  intro i hi
  obtain ⟨b', o', e, _, hc⟩ := h i (by omega)
  simp only [Option.some.injEq, Addr.mk.injEq, and_true] at e
  obtain ⟨rfl, rfl⟩ := e
  have e : (b.take 5).getD i 0 = b[i] := by
    rw [List.getD_eq_getElem?_getD, List.getElem?_take, if_pos hi, List.getElem?_eq_getElem (by omega)]; rfl
  rw [e]
  exact cell_below (below_alloc w o) hc
def rframe (b : List Int) (r : RS) : FrameD × RS :=
  let a1 := rnum b r 127 17
  let a2 := rnum b a1.2 2047 17
  let a3 := rvals b a2.2 64
  let a4 := rvals b a3.2 256
  (⟨a1.1, a2.1, a3.1, a4.1⟩, a4.2)
def rframesGo (b : List Int) : Nat → RS → List FrameD → List FrameD × RS
  | 0, r, acc => (acc, r)
  | n + 1, r, acc => rframesGo b n (rframe b r).2 (acc ++ [(rframe b r).1])
def rlast (b : List Int) (r : RS) : RS := if r.e = 0 ∧ r.at_ ≠ b.length then r.no 19 r.at_ else r
/-- All but the frames; the reader behind it; how many frames. -/
def rhead (b : List Int) : StateD × RS × Nat :=
  let a1 := roct b ⟨5, 0, 0⟩ 1 3
  let a2 := roct b a1.2 0 6
  let a3 := rnum b a2.2 4611686018427387904 17
  let a4 := rnum b a3.2 9223372036854775807 17
  let a5 := rvals b a4.2 8
  let a6 := rvals b a5.2 64
  let a7 := rpages b a6.2
  let a8 := rnum b a7.2 64 20
  (⟨[], a6.1, a7.1, a4.1, a1.1, a5.1, a2.1, a3.1⟩, a8.2, a8.1)
/-- 'snap.Read'. -/
def rread (b : List Int) : StateD × Int × Nat :=
  if 524288 < b.length then (emptyS, 13, 0)
  else if b.length < 5 ∨ b.take 5 ≠ magic5 then (emptyS, 14, 0)
  else
    let h := rhead b
    let f := rframesGo b h.2.2 h.2.1 []
    let r := rlast b f.2
    if r.e ≠ 0 then (emptyS, r.e, r.bad) else ({ h.1 with frames := f.1 }, 0, 0)

theorem REmpty (S : Nat → Prop) (w : World) : RState S w [.slice none 0 0, .slice none 0 0, .slice none 0 0, .int .i64 0, .int .i8 0, .slice none 0 0, .int .i8 0, .int .i64 0] emptyS :=
  ⟨_, _, _, _, rfl, RdL.nil _ _ _ _, RdI.nil _ _ _, RdL.nil _ _ _ _, RdI.nil _ _ _⟩
theorem take5 {b : List Int} (h : 5 ≤ b.length) : b.take 5 = [b[0], b[1], b[2], b[3], b[4]] := by
  match b, h with
  | x0 :: x1 :: x2 :: x3 :: x4 :: t, _ => rfl

theorem rvalsGo_len (b : List Int) : ∀ (n : Nat) (r : RS) (acc : List Int), (rvalsGo b n r acc).1.length ≤ acc.length + n := by
  intro n
  induction n with
  | zero => intro r acc; simp [rvalsGo]
  | succ n ih =>
    intro r acc
    rw [rvalsGo]
    split
    · simp
    · have := ih (rnum b r 18446744073709551615 17).2 (acc ++ [((rnum b r 18446744073709551615 17).1 : Int)])
      rw [List.length_append] at this
      simp only [List.length_cons, List.length_nil] at this
      omega
theorem rvals_len (b : List Int) (r : RS) (m : Nat) : (rvals b r m).1.length ≤ m := by
  have h1 := rvalsGo_len b (rnum b r m 20).1 (rnum b r m 20).2 []
  have h2 := rnum_le b r m 20
  unfold rvals
  simp only [List.length_nil] at h1
  omega
theorem rpagesGo_len (b : List Int) (n : Nat) : ∀ (k : Nat) (r : RS) (bh : Nat) (ps : List (List Int)), (rpagesGo b n k r bh ps).1.length ≤ ps.length := by
  intro k
  induction k with
  | zero => intro r bh ps; simp [rpagesGo]
  | succ k ih =>
    intro r bh ps
    rw [rpagesGo]
    split
    · simp
    · split
      · simp
      · refine Nat.le_trans (ih _ _ _) ?_
        rw [List.length_set]; exact Nat.le_refl _
theorem rpages_len (b : List Int) (r : RS) : (rpages b r).1.length ≤ 64 := by
  have h1 := rpagesGo_len b (rnum b r 64 20).1 (rnum b (rnum b r 64 20).2 (rnum b r 64 20).1 20).1 (rnum b (rnum b r 64 20).2 (rnum b r 64 20).1 20).2 0 (List.replicate (rnum b r 64 20).1 zpage)
  have h2 := rnum_le b r 64 20
  unfold rpages
  rw [List.length_replicate] at h1
  omega
theorem PgOwn.read {base : Nat} {w : World} {v : Value} {gs : List Nat} {ps : List (List Int)} (h : PgOwn base w v gs ps) (hlen : gs.length ≤ 140737488355328) : RdLL .u8 (fun x => base ≤ x) w v ps := by
  rcases Nat.eq_zero_or_pos gs.length with h0 | h0
  · obtain ⟨a, c, e, ha⟩ := own_slice h.own
    have hp : ps = [] := List.eq_nil_of_length_eq_zero (by rw [← h.len]; exact h0)
    subst hp
    exact ⟨a, c, by rw [e, h0]; rfl, by simp, by simp, fun j hj => absurd hj (by simp)⟩
  · obtain ⟨g, cap, e, hg, _⟩ := h.own.form h0
    have hgl : gs.length ≤ 140737488355328 ∧ gs.length ≤ cap := by
      refine ⟨hlen, ?_⟩
      rcases h.own.2 with ⟨e', hn⟩ | ⟨g', cap', cur, e', _, _, hn, hm, _⟩
      · omega
      · rw [e] at e'
        simp only [Value.slice.injEq, true_and] at e'
        obtain ⟨_, rfl⟩ := e'
        exact hn
    refine ⟨some ⟨g, 0, none⟩, cap, by rw [e, h.len], by rw [← h.len]; exact hgl.2, by rw [← h.len]; exact hgl.1, fun j hj => ?_⟩
    have hjg : j < gs.length := by rw [h.len]; exact hj
    have hgj : gs[j]? = some gs[j] := List.getElem?_eq_getElem hjg
    have hc := h.own.cells (g := g) (by rw [e]; rfl) j (pgv gs[j]) (by rw [List.getElem?_map, hgj]; rfl)
    refine ⟨g, 0, [pgv gs[j]], rfl, hg, rfl, fun i hi => ?_, pgv gs[j], rfl, ?_⟩
    · obtain rfl : i = 0 := by omega
      unfold Addr.add at hc
      split at hc
      · rename_i e0; subst e0; simpa using hc
      · simpa using hc
    · have hr := h.row j gs[j] hgj
      have hpl := h.page ps[j] (List.getElem_mem _)
      refine ⟨some ⟨gs[j], 0, none⟩, 4096, by rw [hpl.1]; rfl, by rw [hpl.1]; omega, by rw [hpl.1]; omega, fun k hk => ⟨gs[j], 0, rfl, (h.ge _ (List.getElem_mem _)).1, ?_⟩⟩
      have hgd : ps.getD j [] = ps[j] := by simp [hj]
      rw [hgd] at hr
      rw [Nat.zero_add]
      exact row_cell hr k (by simp [hk])

theorem read_results {a : Act} {w : World} (g : Nat) (cs : Array Value) (u3 u4 : Value) (hrow : w.heap[g]? = some (.cells cs 27 (0, 0))) (hsz : cs.size = 8) (h2 : a.tmps.getD 2 undef = .pointer (some ⟨g, 0, none⟩)) (h3 : a.tmps.getD 3 undef = u3) (h4 : a.tmps.getD 4 undef = u4) :
    (results Tryd.f16 a.tmps).run Tryd.prog w = .ok (.tuple #[.agg cs, u3, u4]) w := by
  have hl := run_loadVar_row (P := Tryd.prog) w g 27 27 cs (0, 0) _ hrow Tryd.underlying27 rfl (by rw [hsz]; kernel_rfl)
  have h2' : a.tmps[2]?.getD undef = .pointer (some ⟨g, 0, none⟩) := by simpa using h2
  have h3' : a.tmps[3]?.getD undef = u3 := by simpa using h3
  have h4' : a.tmps[4]?.getD undef = u4 := by simpa using h4
  simp [results, Tryd.results16, asAddr, h2', h3', h4', hl]

/-- The reader, the state that it fills, the result's own block. -/
structure RB (S : Nat → Prop) (w : World) (p : Nat) (v : Value) (b : List Int) (t6 : Nat) (cs : Array Value) (r : RS) (wx : World) : Prop where
  rr : Rr S wx p v b r
  row6 : wx.heap[t6]? = some (.cells cs 27 (0, 0))
  row2 : wx.heap[w.heap.size]? = some (.cells #[.slice none 0 0, .slice none 0 0, .slice none 0 0, .int .i64 0, .int .i8 0, .slice none 0 0, .int .i8 0, .int .i64 0] 27 (0, 0))
  bel : Below w.heap.size w wx
  p6 : p < t6
  p2 : w.heap.size < p
  hS : ∀ x, S x → x < w.heap.size
section
variable {S : Nat → Prop} {w : World} {p : Nat} {v : Value} {b : List Int} {t6 : Nat} {cs : Array Value} {r : RS} {wx : World}
theorem RB.step {w' : World} {r' : RS} (h : RB S w p v b t6 cs r wx) (hr : Rr S w' p v b r') (hk : Keeps (fun x => x ≠ p ∧ x ≤ t6) wx w') : RB S w p v b t6 cs r' w' := by
  have h1 := h.p6; have h2 := h.p2
  refine ⟨hr, (hk.block t6 (row_lt h.row6) ⟨by omega, by omega⟩).trans h.row6, (hk.block _ (row_lt h.row2) ⟨by omega, by omega⟩).trans h.row2, h.bel.trans (hk.below h.bel.size fun x hx => ⟨by omega, by omega⟩), h1, h2, h.hS⟩
theorem RB.lt (h : RB S w p v b t6 cs r wx) : t6 < wx.heap.size := row_lt h.row6
theorem RB.set (h : RB S w p v b t6 cs r wx) (i : Nat) (u : Value) : RB S w p v b t6 (cs.setIfInBounds i u) r (wx.setCell ⟨t6, i, none⟩ u) := by
  have h1 := h.p6; have h2 := h.p2
  have hk : Keeps (fun x => x ≠ t6) wx (wx.setCell ⟨t6, i, none⟩ u) := (Keeps.refl _ wx).setCell (a := ⟨t6, i, none⟩) (by simp) _
  exact ⟨h.rr.keeps hk (by omega) fun x hx => by have := h.hS x hx; omega, row_setCell h.row6 i u, (hk.block _ (row_lt h.row2) (by omega)).trans h.row2, h.bel.trans (hk.below h.bel.size fun x hx => by omega), h1, h2, h.hS⟩
theorem rb_number (h : RB S w p v b t6 cs r wx) (hb : ∀ x ∈ b, 0 ≤ x ∧ x ≤ 255) (most : Nat) (M : Int) (hM : (most : Int) = M) (great : Int) (hg : great ≠ 0) :
    Calls Tryd.prog 56 #[.pointer (some ⟨p, 0, none⟩), .int .u64 M, .int .i64 great] wx fun en w' => en = .returned (.int .u64 ((rnum b r most great).1 : Nat)) ∧ RB S w p v b t6 cs (rnum b r most great).2 w' ∧ Keeps (fun x => x ≠ p) wx w' := by
  refine (rd_number S wx p v b r h.rr hb most M hM great hg).mono ?_
  rintro en w' ⟨rfl, h1, h2⟩
  exact ⟨rfl, h.step h1 (h2.mono fun _ _ h => h.1), h2⟩
theorem rb_values (h : RB S w p v b t6 cs r wx) (hb : ∀ x ∈ b, 0 ≤ x ∧ x ≤ 255) (most : Nat) (M : Int) (hM : (most : Int) = M) (hmost : most ≤ 1000000) :
    Calls Tryd.prog 57 #[.pointer (some ⟨p, 0, none⟩), .int .u64 M] wx fun en w' => ∃ a c, en = .returned (.slice a (rvals b r most).1.length c) ∧ RdI .u64 (fun x => wx.heap.size ≤ x) w' (.slice a (rvals b r most).1.length c) (rvals b r most).1 ∧
      RB S w p v b t6 cs (rvals b r most).2 w' ∧ Keeps (fun x => x ≠ p) wx w' := by
  have hsz := h.bel.size
  refine (rd_values S wx p v b r h.rr hb (fun x hx => by have := h.hS x hx; omega) most M hM hmost).mono ?_
  rintro en w' ⟨v', rfl, h1, h2, h3⟩
  obtain ⟨a, c, rfl, _⟩ := own_slice h1
  refine ⟨a, c, rfl, (RdI.of_own h1 ?_).mono fun x _ hx => (h1.lt x hx).1, h.step h2 (h3.mono fun _ _ h => h.1), h3⟩
  have := rvals_len b r most; omega
theorem rb_pages (h : RB S w p v b t6 cs r wx) (hb : ∀ x ∈ b, 0 ≤ x ∧ x ≤ 255) :
    Calls Tryd.prog 58 #[.pointer (some ⟨p, 0, none⟩)] wx fun en w' => ∃ a c, en = .returned (.slice a (rpages b r).1.length c) ∧ RdLL .u8 (fun x => wx.heap.size ≤ x) w' (.slice a (rpages b r).1.length c) (rpages b r).1 ∧
      RB S w p v b t6 cs (rpages b r).2 w' ∧ Keeps (fun x => x ≠ p ∧ x < wx.heap.size) wx w' := by
  have hsz := h.bel.size
  have h6 := h.lt
  refine (rd_pages S wx p v b r h.rr hb (fun x hx => by have := h.hS x hx; omega)).mono ?_
  rintro en w' ⟨v', rfl, ⟨gs, hg⟩, h2, h3⟩
  have hR := hg.read (by have := rpages_len b r; rw [hg.len]; omega)
  obtain ⟨a, c, rfl, hx⟩ := hR.len
  exact ⟨a, c, rfl, hR, h.step h2 (h3.mono fun x _ hx => ⟨hx.1, by omega⟩), h3⟩
end

set_option maxRecDepth 100000 in
set_option maxHeartbeats 1600000 in
theorem snap_Read_long (w : World) (S) (v : Value) (b : List Int) (h : RdI .u8 S w v b) (hl : 524288 < b.length) :
    Calls Tryd.prog 16 #[v] w fun en w' => ∃ cs, en = .returned (.tuple #[.agg cs.toArray, .int .i64 (rread b).2.1, .int .i64 (rread b).2.2]) ∧ RState (fun x => w.heap.size ≤ x) w' cs (rread b).1 ∧ Below w.heap.size w w' := by
  obtain ⟨a, c, rfl, hc, hm, _⟩ := h
  have E : Hid (rread b = (emptyS, 13, 0)) := by show _ = _; rw [rread, if_pos hl]
  go_enter Tryd.func16, Tryd.ntmps16
  go_wp2
  refine bodyPost_ret (read_results w.heap.size #[.slice none 0 0, .slice none 0 0, .slice none 0 0, .int .i64 0, .int .i8 0, .slice none 0 0, .int .i8 0, .int .i64 0] (.int .i64 13) (.int .i64 0) (heap_alloc_new _ _) rfl rfl rfl rfl) rfl ?_
  rw [E.out]
  exact ⟨_, rfl, REmpty _ _, below_alloc _ _⟩

set_option maxRecDepth 100000 in
set_option maxHeartbeats 1600000 in
theorem snap_Read_magic (w : World) (S) (v : Value) (b : List Int) (hb : ∀ x ∈ b, 0 ≤ x ∧ x ≤ 255) (h : RdI .u8 S w v b) (hl : ¬ 524288 < b.length) (hm : b.length < 5 ∨ b.take 5 ≠ magic5) :
    Calls Tryd.prog 16 #[v] w fun en w' => ∃ cs, en = .returned (.tuple #[.agg cs.toArray, .int .i64 (rread b).2.1, .int .i64 (rread b).2.2]) ∧ RState (fun x => w.heap.size ≤ x) w' cs (rread b).1 ∧ Below w.heap.size w w' := by
  obtain ⟨a, c, rfl, hc, _, hr⟩ := h
  have E : Hid (rread b = (emptyS, 14, 0)) := by show _ = _; rw [rread, if_neg hl, if_pos hm]
  have hl' : b.length ≤ 524288 := by omega
  by_cases h5 : b.length < 5
  · clear hm hl
    go_enter Tryd.func16, Tryd.ntmps16
    go_wp2
    refine bodyPost_ret (read_results w.heap.size #[.slice none 0 0, .slice none 0 0, .slice none 0 0, .int .i64 0, .int .i8 0, .slice none 0 0, .int .i8 0, .int .i64 0] (.int .i64 14) (.int .i64 0) (heap_alloc_new _ _) rfl rfl rfl rfl) rfl ?_
    rw [E.out]
    exact ⟨_, rfl, REmpty _ _, below_alloc _ _⟩
  · obtain ⟨bb, off, rfl, _, hzz⟩ := hr 0 (by omega)
    clear hzz
    have hcv := run_convert_bytes_arg (P := Tryd.prog) (w.alloc (Obj.cells #[.slice none 0 0, .slice none 0 0, .slice none 0 0, .int .i64 0, .int .i8 0, .slice none 0 0, .int .i8 0, .int .i64 0] 27)) 31 5 Tryd.underlying31 Tryd.underlying5 bb off 5 c (b.take 5) (by rw [List.length_take]; omega) (read5 hr (by omega) _) 9 Tryd.underlying9
    have hne : b.take 5 ≠ magic5 := by rcases hm with h | h; exact absurd h h5; exact h
    have hs : (strOfNums (b.take 5)).toList ≠ [70, 83, 78, 80, 1] := fun e => hne (magic_of (by rw [List.length_take]; omega) (fun x hx => hb x (List.mem_of_mem_take hx)) e)
    have h5' : 5 ≤ b.length := by omega
    have h5c : 5 ≤ c := by omega
    generalize strOfNums (b.take 5) = str at *
    have hs1 : (str.toList == [70, 83, 78, 80, 1]) = false := by simpa using hs
    have hs2 : (str.toList != [70, 83, 78, 80, 1]) = true := by simpa using hs
    clear hm hl hne hs h5 hr hb
    go_enter Tryd.func16, Tryd.ntmps16
    go_wp2
    all_goals refine bodyPost_ret (read_results w.heap.size #[.slice none 0 0, .slice none 0 0, .slice none 0 0, .int .i64 0, .int .i8 0, .slice none 0 0, .int .i8 0, .int .i64 0] (.int .i64 14) (.int .i64 0) (heap_alloc_new _ _) rfl rfl rfl rfl) rfl ?_
    all_goals rw [E.out]
    all_goals exact ⟨_, rfl, REmpty _ _, below_alloc _ _⟩
end Go.Proofs.YthlkckpadjjbdaaDoor
