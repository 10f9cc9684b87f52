/- flagonref00.CopyInts, CopyIns, CopyCode. -/
import Derived.Test.YtiaoonlhgjfdjaaFilled
import Derived.Test.YtiaoonlhgjfdjaaKept0
namespace Go.Proofs.Ytiaoonlhgjfdjaa
open Go Go.RowKit
set_option linter.unusedSimpArgs false

theorem Try.infoInsC : (Try.prog.info? 31).map (fun i => (i.zero, i.size, i.bytes)) = some (some (.agg #[.int .u8 0, .int .i64 0, .slice none 0 0]), 3, 40) := by kernel_rfl
set_option maxRecDepth 100000 in
set_option maxHeartbeats 800000 in
theorem copyInts (w : World) (S) (v : Value) (l : List Int) (h : RdI .i64 S w v l) (hl : l.length ≤ 1073741824) :
    Calls Try.prog 33 #[v] w fun e w' => ∃ v', e = .returned v' ∧ OwnI w.heap.size 3 w' v' l ∧ Below w.heap.size w w' := by
  obtain ⟨i0, hi, hz0, hz1, hz2⟩ := info_parts Try.infoIntF
  obtain ⟨a, cap, rfl, hc, hm, r⟩ := h
  have H := Lib.hid r; clear r
  rcases Nat.eq_zero_or_pos l.length with h0 | h0
  · obtain rfl : l = [] := List.eq_nil_of_length_eq_zero h0
    cases a with
    | none =>
      go_enter Try.func33, Try.ntmps33
      go_wp2
      go_ret
      exact ⟨_, rfl, World.ownsRow_nil _ _ _ _, Below.refl _ _⟩
    | some a =>
      go_enter Try.func33, Try.ntmps33
      go_wp2_with (at_builtin; refine wpList_append_own _ rfl _ _ 25 rfl w.heap.size 3 i0 (.int .i64 0) 1 8 Try.underlying25 hi hz0 hz1 hz2 rfl (by decide) _ _ _ rfl (World.ownsRow_nil _ _ _ _) a 0 cap [] rfl rfl (by simp) (by simp) (by unfold maxLen; omega) (by omega) (Nat.le_refl _) ?_)
      intro v' w1 hown' hgrow hnil
      go_wp2
      go_ret
      exact ⟨v', rfl, by simpa [OwnI] using hown', (Below.refl _ _).grown hgrow (Nat.le_refl _) (fun k hk => by simp [Value.ownBlock] at hk)⟩
  · obtain ⟨b, o, rfl, _, _⟩ := H.out 0 h0
    go_enter Try.func33, Try.ntmps33
    go_wp2_with (at_builtin; refine wpList_append_own _ rfl _ _ 25 rfl w.heap.size 3 i0 (.int .i64 0) 1 8 Try.underlying25 hi hz0 hz1 hz2 rfl (by decide) _ _ _ rfl (World.ownsRow_nil _ _ _ _) ⟨b, o, none⟩ l.length cap (ints l) rfl (by simp) ?c1 ?c2 ?c3 ?c4 (Nat.le_refl _) ?_)
    case c1 =>
      intro j u hu
      have hj : j < l.length := by have := (List.getElem?_eq_some_iff.1 hu).1; simpa using this
      obtain ⟨b', o', e, _, hcell⟩ := H.out j hj
      simp only [Option.some.injEq, Addr.mk.injEq, and_true] at e
      obtain ⟨rfl, rfl⟩ := e
      simp [hj] at hu
      subst hu
      unfold Addr.add
      split
      · rename_i e0; subst e0; exact hcell
      · exact hcell
    case c2 => intro u hu; simp at hu; obtain ⟨x, _, rfl⟩ := hu; rfl
    case c3 => unfold maxLen; omega
    case c4 => omega
    intro v' w1 hown' hgrow hnil
    go_wp2
    go_ret
    exact ⟨v', rfl, by simpa [OwnI] using hown', (Below.refl _ _).grown hgrow (Nat.le_refl _) (fun k hk => by simp [Value.ownBlock] at hk)⟩
theorem set3_rowC {w : World} {g : Nat} {o0 o1 o2 : Value} {T : Nat} {fr : Nat × Nat} (h : w.heap[g]? = some (.cells #[o0, o1, o2] T fr)) (v0 v1 v2 : Value) :
    (((w.setCell ⟨g, 0, none⟩ v0).setCell ⟨g, 1, none⟩ v1).setCell ⟨g, 2, none⟩ v2).heap[g]? = some (.cells #[v0, v1, v2] T fr) := by
  simpa using row_setCell (row_setCell (row_setCell h 0 v0) 1 v1) 2 v2
theorem copy_results {a : Act} {w : World} (g : Nat) (cs : Array Value) (hrow : w.heap[g]? = some (.cells cs 31 (0, 0))) (hsz : cs.size = 3) (h2 : a.tmps.getD 2 undef = .pointer (some ⟨g, 0, none⟩)) :
    (results Try.f21 a.tmps).run Try.prog w = .ok (.agg cs) w := by
  have hl := run_loadVar_row (P := Try.prog) w g 31 31 cs (0, 0) _ hrow Try.underlying31 rfl (by rw [hsz]; kernel_rfl)
  have h2' : a.tmps[2]?.getD undef = .pointer (some ⟨g, 0, none⟩) := by simpa using h2
  simp [results, Try.results21, asAddr, h2', hl]
set_option maxRecDepth 100000 in
set_option maxHeartbeats 1600000 in
theorem copyIns (w : World) (S) (op : Nat) (a : Int) (v : Value) (l : List Int) (hr : RdI .i64 S w v l) (hl : l.length ≤ 1073741824) :
    Calls Try.prog 21 #[.agg #[.int .u8 op, .int .i64 a, v]] w fun e w' => ∃ v', e = .returned (.agg #[.int .u8 op, .int .i64 a, v']) ∧ OwnI w.heap.size 3 w' v' l ∧ Below w.heap.size w w' := by
  have HL := Lib.hid hr
  obtain ⟨va, vc, rfl, hlc⟩ := hr.lenc
  clear hr
  go_enter Try.func21, Try.ntmps21
  have hb1 := below_alloc w (.cells #[.int .u8 op, .int .i64 a, .slice va l.length vc] 31)
  have hr1 := heap_alloc_new w (.cells #[.int .u8 op, .int .i64 a, .slice va l.length vc] 31)
  go_wp2_with fail
  have hsz1 : (w.alloc (.cells #[.int .u8 op, .int .i64 a, .slice va l.length vc] 31)).heap.size = w.heap.size + 1 := World.size_alloc _ _
  generalize w.alloc (.cells #[.int .u8 op, .int .i64 a, .slice va l.length vc] 31) = w1 at *
  have hb2 := below_alloc w1 (.cells #[.int .u8 0, .int .i64 0, .slice none 0 0] 31)
  have hr2 := heap_alloc_new w1 (.cells #[.int .u8 0, .int .i64 0, .slice none 0 0] 31)
  have hsz2 : (w1.alloc (.cells #[.int .u8 0, .int .i64 0, .slice none 0 0] 31)).heap.size = w1.heap.size + 1 := World.size_alloc _ _
  generalize w1.alloc (.cells #[.int .u8 0, .int .i64 0, .slice none 0 0] 31) = w2 at *
  have HL2 := Lib.hid ((HL.out.any.bel hb1).bel hb2)
  have hr12 := (hb2.block _ (row_lt hr1)).trans hr1
  rw [hsz1] at hr2
  refine (copyInts w2 _ _ l HL2.out hl).mono ?_
  rintro e w3 ⟨v', rfl, hw3, hb3⟩
  obtain ⟨a3, c3, rfl, _⟩ := own_slice hw3
  have q1 := (hb3.block _ (row_lt hr12)).trans hr12
  have q2 := (hb3.block _ (row_lt hr2)).trans hr2
  have HB3 := Lib.hid (below_next (below_next hb1 hb2) hb3)
  have hg : w2.heap.size = w.heap.size + 1 + 1 := by rw [hsz2, hsz1]
  rw [hg] at hw3
  have HW3 := Lib.hid hw3
  have HQ := Lib.hid (And.intro q1 q2)
  have x0 := row_cell q1 0 rfl; have x1 := row_cell q1 1 rfl; have x2 := row_cell q1 2 rfl; have y0 := row_cell q2 0 rfl; have y1 := row_cell q2 1 rfl; have y2 := row_cell q2 2 rfl
  have f0 := row_free q1 0; have f1 := row_free q1 1; have f2 := row_free q1 2; have k0 := row_free q2 0; have k1 := row_free q2 1; have k2 := row_free q2 2
  simp only [List.getElem_toArray, List.getElem_cons_zero, List.getElem_cons_succ] at x0 x1 x2 y0 y1 y2
  clear hb1 hr1 hsz1 hb2 hr2 hsz2 HL2 hr12 hw3 hb3 q1 q2 hg HL
  go_wp2
  have qB : ((w3.setCell ⟨w.heap.size, 2, none⟩ (.slice a3 l.length c3)).heap[w.heap.size + 1]? = some (.cells #[.int .u8 0, .int .i64 0, .slice none 0 0] 31 (0, 0))) := by
    rw [Below.heap_setCell _ _ _ _ (by simp)]; exact HQ.out.2
  refine bodyPost_ret (copy_results (w.heap.size + 1) #[.int .u8 op, .int .i64 a, .slice a3 l.length c3] (set3_rowC qB _ _ _) rfl rfl) rfl ⟨_, rfl, ?_, ?_⟩
  · exact own_base (own_keeps (S := fun b => b ≠ w.heap.size ∧ b ≠ w.heap.size + 1) HW3.out (((((Keeps.refl _ w3).setCell (a := ⟨w.heap.size, 2, none⟩) (by simp) _).setCell (a := ⟨w.heap.size + 1, 0, none⟩) (by simp) _).setCell (a := ⟨w.heap.size + 1, 1, none⟩) (by simp) _).setCell (a := ⟨w.heap.size + 1, 2, none⟩) (by simp) _) fun b hb => by have := (HW3.out.lt b hb).1; omega) (by omega)
  · exact (((HB3.out.setCell (p := ⟨w.heap.size, 2, none⟩) (Nat.le_refl _) _).setCell (p := ⟨w.heap.size + 1, 0, none⟩) (by simp) _).setCell (p := ⟨w.heap.size + 1, 1, none⟩) (by simp) _).setCell (p := ⟨w.heap.size + 1, 2, none⟩) (by simp) _
/-- Instructions as cells: each with its list. -/
def insC (ps : List (InsD × Value)) : List Value := ps.flatMap fun p => [.int .u8 p.1.op, .int .i64 p.1.a, p.2]
theorem insC_len : ∀ ps, (insC ps).length = ps.length * 3
  | [] => rfl
  | p :: ps => by
    have := insC_len ps
    show ([Value.int .u8 p.1.op, .int .i64 p.1.a, p.2] ++ insC ps).length = _
    rw [List.length_append, this, List.length_cons]; simp; omega
theorem insC_app (ps qs : List (InsD × Value)) : insC (ps ++ qs) = insC ps ++ insC qs := by simp [insC]
theorem insC_at : ∀ (ps : List (InsD × Value)) (k : Nat) (p), ps[k]? = some p → (insC ps)[k * 3]? = some (.int .u8 p.1.op) ∧ (insC ps)[k * 3 + 1]? = some (.int .i64 p.1.a) ∧ (insC ps)[k * 3 + 2]? = some p.2
  | [], k, p, h => by simp at h
  | q :: ps, 0, p, h => by simp at h; subst h; exact ⟨rfl, rfl, rfl⟩
  | q :: ps, k + 1, p, h => by
    have := insC_at ps k p (by simpa using h)
    rw [show (k + 1) * 3 = k * 3 + 1 + 1 + 1 by omega]
    exact this
theorem insC_one : ∀ (ps : List (InsD × Value)), (∀ p ∈ ps, p.2.oneCell' = true) → ∀ u ∈ insC ps, u.oneCell' = true
  | [], _, u, h => by simp [insC] at h
  | p :: ps, hp, u, h => by
    have h' : u ∈ [Value.int .u8 p.1.op, .int .i64 p.1.a, p.2] ++ insC ps := h
    rcases List.mem_append.1 h' with h1 | h1
    · simp only [List.mem_cons, List.not_mem_nil, or_false] at h1
      rcases h1 with rfl | rfl | rfl
      · rfl
      · rfl
      · exact hp p (List.mem_cons_self ..)
    · exact insC_one ps (fun q hq => hp q (List.mem_cons_of_mem _ hq)) u h1
/-- A code of its own: its row, its lists. -/
structure OwnC (B : Nat) (w : World) (v : Value) (ps : List (InsD × Value)) : Prop where
  row : w.ownsRow B 31 3 v ps.length (insC ps)
  ls : ∀ p ∈ ps, RdI .i64 (fun b => B ≤ b ∧ v.ownBlock ≠ some b) w p.2 p.1.l
theorem OwnC.one {B : Nat} {w : World} {v : Value} {ps : List (InsD × Value)} (h : OwnC B w v ps) : ∀ p ∈ ps, p.2.oneCell' = true := fun p hp => by
  obtain ⟨a, c, e, _⟩ := h.ls p hp
  rw [e]; rfl
theorem OwnC.cd {B : Nat} {w : World} {v : Value} {ps : List (InsD × Value)} (h : OwnC B w v ps) (hl : ps.length ≤ 140737488355328) : Cd w v (ps.map Prod.fst) := by
  refine CdS.any (S := fun _ => True) ?_
  rcases h.row.2 with ⟨rfl, h0⟩ | ⟨g, cap, cur, rfl, hb, hg, hn, hm, hs, ht⟩
  · have : ps = [] := List.eq_nil_of_length_eq_zero h0
    subst this
    exact RdL.nil _ _ _ _
  · refine ⟨some ⟨g, 0, none⟩, cap, by simp, by simpa using hn, by simpa using hl, fun k hk => ?_⟩
    have hk' : k < ps.length := by simpa using hk
    obtain ⟨h0, h1, h2⟩ := insC_at ps k ps[k] (List.getElem?_eq_getElem hk')
    have c0 := own_at h.row rfl h0; have c1 := own_at h.row rfl h1; have c2 := own_at h.row rfl h2
    refine ⟨g, 0, [.int .u8 ps[k].1.op, .int .i64 ps[k].1.a, ps[k].2], rfl, trivial, rfl, fun i hi => ?_, ps[k].2, by simp, ?_⟩
    · rw [Nat.zero_add]
      match i, hi with
      | 0, _ => exact c0
      | 1, _ => exact c1
      | 2, _ => exact c2
    · have := (h.ls ps[k] (List.getElem_mem _)).mono (T := fun _ => True) fun _ _ _ => trivial
      simpa using this
theorem OwnC.nil (B : Nat) (w : World) : OwnC B w (.slice none 0 0) [] := ⟨World.ownsRow_nil _ _ _ _, fun p h => by cases h⟩
theorem OwnC.on {B : Nat} {w w' : World} {v : Value} {ps : List (InsD × Value)} (h : OwnC B w v ps) (hb : Below w.heap.size w w') : OwnC B w' v ps :=
  ⟨own_below h.row hb, fun p hp => (h.ls p hp).keeps (Keeps.all _ hb)⟩
/-- One more, or some more: what an append of rows leaves. -/
theorem OwnC.app {B n : Nat} {w w' : World} {v v' : Value} {ps qs : List (InsD × Value)} (h : OwnC B w v ps) (ho : w'.ownsRow B 31 3 v' (ps.length + qs.length) (insC ps ++ insC qs)) (hk : Kept w w' v.ownBlock n)
    (hf : ∀ g, v'.ownBlock = some g → v.ownBlock = some g ∨ w.heap.size ≤ g) (hq : ∀ p ∈ qs, RdI .i64 (fun b => B ≤ b ∧ v.ownBlock ≠ some b) w p.2 p.1.l) : OwnC B w' v' (ps ++ qs) := by
  refine ⟨by rw [List.length_append, insC_app]; exact ho, fun p hp => ?_⟩
  have hr : RdI .i64 (fun b => B ≤ b ∧ v.ownBlock ≠ some b) w p.2 p.1.l := by
    rcases List.mem_append.1 hp with h1 | h1
    · exact h.ls p h1
    · exact hq p h1
  have hk1 : Keeps (fun b => B ≤ b ∧ v.ownBlock ≠ some b) w w' := (Keeps.refl _ w).grown hk.grown fun k hk' _ h' => h'.2 hk'
  have h1 := hr.lt
  have h2 := h1.keeps (hk1.mono fun b _ hb => hb.1)
  refine h2.mono fun b _ hb => ⟨hb.1.1, fun e => ?_⟩
  rcases hf b e with h3 | h3
  · exact hb.1.2 h3
  · omega
theorem OwnC.max {B : Nat} {w : World} {v : Value} {ps : List (InsD × Value)} (h : OwnC B w v ps) : ∃ a c, v = .slice a ps.length c := by
  obtain ⟨a, c, e, _⟩ := own_slice h.row
  exact ⟨a, c, e⟩
theorem cells3_new (w : World) (x y z : Value) (t : TypeId) : ∀ j u, [x, y, z][j]? = some u → (w.alloc (.cells #[x, y, z] t)).cell? ((⟨w.heap.size, 0, none⟩ : Addr).add j) = some u := by
  intro j u hu
  have e : (⟨w.heap.size, 0, none⟩ : Addr).add j = ⟨w.heap.size, j, none⟩ := by unfold Addr.add; split <;> simp_all
  rw [e, cell_of_row _ _ j _ _ _ (heap_alloc_new _ _)]
  rw [← hu]; simp
set_option maxRecDepth 100000 in
set_option maxHeartbeats 1600000 in
theorem copyCode (w : World) (v : Value) (l : List InsD) (hc : Cd w v l) (hl : l.length ≤ 1048576) (hll : ∀ j (h : j < l.length), l[j].l.length ≤ 1048576) :
    Calls Try.prog 12 #[v] w fun e w' => ∃ v' ps, e = .returned v' ∧ ps.map Prod.fst = l ∧ OwnC w.heap.size w' v' ps ∧ Below w.heap.size w w' := by
  obtain ⟨i0, hi, hz0, hz1, hz2⟩ := info_parts Try.infoInsC
  have HL := Lib.hid hc
  have HLL := Lib.hid hll
  obtain ⟨va, vc, rfl, hlc⟩ := hc.len
  clear hc hll
  go_enter Try.func12, Try.ntmps12
  go_wp2
  go_loopw [3, 4] (fun ov i wr => ∃ (k : Nat) (ps : List (InsD × Value)), k ≤ l.length ∧ ps.length ≤ k ∧ i = .int .i64 k ∧ Hid (ps.map Prod.fst = l.take k) ∧ Hid (OwnC w.heap.size wr ov ps) ∧ Hid (Below w.heap.size w wr)) (fun _ i _ => l.length - (intOf i).toNat)
  case atStart => exact ⟨0, [], by omega, by simp, rfl, Lib.hid rfl, Lib.hid (OwnC.nil _ _), Lib.hid (Below.refl _ _)⟩
  case round =>
    obtain ⟨k, ps, hk, hpl, rfl, HP, HO, HB⟩ := hrel
    by_cases hlt : k < l.length
    · obtain ⟨b, off, vl, rfl, x0, x1, x2, hrl⟩ := Cd.at_ (Cd.bel HL.out HB.out) hlt
      have HW0 := Lib.hid (copyIns wr _ l[k].op l[k].a vl l[k].l hrl (by have := HLL.out k hlt; omega))
      have HX : Hid (∃ x : InsD, l[k] = x) := Lib.hid ⟨_, rfl⟩
      have HLEN : Hid (l[k].l.length ≤ 1048576) := Lib.hid (HLL.out k hlt)
      obtain ⟨x, hx⟩ := HX.out
      have HTK : Hid (l.take (k + 1) = l.take k ++ [x]) := Lib.hid (by rw [List.take_succ_eq_append_getElem hlt, hx])
      rw [hx] at HW0 x0 x1 HLEN
      obtain ⟨op, xa, xl⟩ := x
      simp only at *
      obtain ⟨al, cl, rfl, _⟩ := hrl.lenc
      obtain ⟨oa, oc, rfl⟩ := HO.out.max
      have hsz := HB.out.size
      clear hrl hx HX
      go_wp2_with fail
      refine HW0.out.mono ?_
      rintro e w5 ⟨v5, rfl, ho5, hb5⟩
      obtain ⟨a5, c5, rfl, _⟩ := own_slice ho5
      have hb6 := below_alloc w5 (.cells #[.int .u8 op, .int .i64 xa, .slice a5 xl.length c5] 31)
      have HO6 := Lib.hid ((HO.out.on hb5).on hb6)
      have hB6 : w.heap.size ≤ (w5.alloc (.cells #[.int .u8 op, .int .i64 xa, .slice a5 xl.length c5] 31)).heap.size := by have := hb5.size; rw [World.size_alloc]; omega
      have HB6 := Lib.hid (below_next HB.out (below_next hb5 hb6))
      have HR6 : Hid (∀ p ∈ [((⟨op, xa, xl⟩ : InsD), Value.slice a5 xl.length c5)], RdI .i64 (fun b => w.heap.size ≤ b ∧ (Value.slice oa ps.length oc).ownBlock ≠ some b) (w5.alloc (.cells #[.int .u8 op, .int .i64 xa, .slice a5 xl.length c5] 31)) p.2 p.1.l) := Lib.hid (by
        intro p hp
        obtain rfl : p = _ := List.mem_singleton.1 hp
        refine ((RdI.of_own ho5 (by have := HLEN.out; omega)).keeps (Keeps.all _ hb6)).mono fun b _ hb => ?_
        have h1 := (ho5.lt b hb).1
        refine ⟨by omega, fun e => ?_⟩
        have h2 := (HO.out.row.lt b e).2
        omega)
      clear ho5 hb5 hb6 HW0
      go_wp2_with (at_builtin; refine wpList_append_kept _ rfl _ _ 22 rfl w.heap.size 31 i0 (.agg #[.int .u8 0, .int .i64 0, .slice none 0 0]) 3 40 Try.underlying22 hi hz0 hz1 hz2 rfl (by decide) _ ps.length (insC ps) rfl HO6.out.row ⟨w5.heap.size, 0, none⟩ 1 1 [.int .u8 op, .int .i64 xa, .slice a5 xl.length c5] rfl rfl (cells3_new _ _ _ _ _) (by simp [Value.oneCell']) (by unfold maxLen; omega) (by omega) hB6 ?_)
      intro v' w7 ho hk7 hf
      have HN : Hid (OwnC w.heap.size w7 v' (ps ++ [((⟨op, xa, xl⟩ : InsD), Value.slice a5 xl.length c5)])) := Lib.hid (HO6.out.app ho hk7 (fun g hg => by have := hf g hg; rw [World.size_alloc]; exact this) HR6.out)
      have HBN := Lib.hid (HB6.out.grown hk7.grown hB6 fun j hj => (HO6.out.row.lt j hj).1)
      have HPN : Hid ((ps ++ [((⟨op, xa, xl⟩ : InsD), Value.slice a5 xl.length c5)]).map Prod.fst = l.take (k + 1)) := Lib.hid (by rw [List.map_append, HP.out, HTK.out]; rfl)
      clear ho hk7 hf HO6 HR6 HB6 hB6
      go_wp2
      go_roundw
      case rel => exact ⟨k + 1, _, by omega, by simp; omega, by go_num, HPN, HN, HBN⟩
      case measure => simp [intOf]; omega
    · obtain rfl : k = l.length := by omega
      go_wp2
      go_ret
      exact ⟨_, ps, rfl, by rw [HP.out, List.take_length], HO.out, HB.out⟩
end Go.Proofs.Ytiaoonlhgjfdjaa
