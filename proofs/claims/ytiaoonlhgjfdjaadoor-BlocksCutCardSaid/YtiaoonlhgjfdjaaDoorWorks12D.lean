/- flagonref00.EqBools, flagonlaw12.tableOf, works (door). -/
import Derived.Test.YtiaoonlhgjfdjaaDoorBlkOf
import Derived.Test.YtiaoonlhgjfdjaaDoorMapR
import Derived.Test.YtiaoonlhgjfdjaaDoorEqs
import Derived.Test.YtiaoonlhgjfdjaaDoorCode2
namespace Go.Proofs.YtiaoonlhgjfdjaaDoor
open Go Go.RowKit
set_option linter.unusedSimpArgs false

theorem cd_cells {w : World} {g : Nat} {c : Array Value} {T : Nat} {fr : Nat × Nat} (l : List InsD) (n : Nat) (h : w.heap[g]? = some (.cells c T fr)) (hn : l.length ≤ n) (hl : l.length ≤ 1000000)
    (hc : ∀ j (h : j < l.length), c[j * 3]? = some (.int .u8 l[j].op) ∧ c[j * 3 + 1]? = some (.int .i64 l[j].a) ∧ c[j * 3 + 2]? = some (.slice none 0 0) ∧ l[j].l = []) :
    Cd w (.slice (some ⟨g, 0, none⟩) l.length n) l := by
  refine ⟨_, _, rfl, hn, by omega, fun j hj => ?_⟩
  obtain ⟨k0, k1, k2, k3⟩ := hc j hj
  exact ⟨g, 0, [.int .u8 l[j].op, .int .i64 l[j].a, .slice none 0 0], rfl, row_lt h, rfl, three_at (P := fun i u => w.cell? ⟨g, 0 + j * 3 + i, none⟩ = u) (row_cell h _ (by rw [Nat.zero_add]; exact k0)) (row_cell h _ (by rw [Nat.zero_add]; exact k1)) (row_cell h _ (by rw [Nat.zero_add]; exact k2)), _, rfl, by rw [k3]; exact RdI.nil _ _ _⟩
theorem eqIntsT (w : World) (S1 S2) (v1 v2 : Value) (l : List Int) (h1 : RdI .i64 S1 w v1 l) (h2 : RdI .i64 S2 w v2 l) :
    Calls Tryd.prog 28 #[v1, v2] w fun e w' => e = .returned (.bool true) ∧ ∃ n, w' = w.drewN n := by
  refine (eqInts w S1 S2 v1 v2 l l h1 h2).mono ?_
  rintro e w' ⟨rfl, h⟩
  exact ⟨by simp, h⟩
set_option maxHeartbeats 800000 in
theorem eqBools (w : World) (S1 S2 : Nat → Prop) (v1 v2 : Value) (l : List Bool) (h1 : RdBo S1 w v1 l) (h2 : RdBo S2 w v2 l) (hl : l.length ≤ 1048576) :
    Calls Tryd.prog 17 #[v1, v2] w fun e w' => e = .returned (.bool true) ∧ ∃ n, w' = w.drewN n := by
  obtain ⟨a1, c1, rfl, hc1, r1⟩ := h1
  obtain ⟨a2, c2, rfl, hc2, r2⟩ := h2
  have H1 := Lib.hid r1; have H2 := Lib.hid r2; clear r1 r2
  go_enter Tryd.func17, Tryd.ntmps17
  go_wp2
  go_loopw [5] (fun i wr => ∃ k : Nat, k ≤ l.length ∧ i = .int .i64 k ∧ ∃ n, wr = w.drewN n) (fun i _ => l.length - (intOf i).toNat)
  case atStart => exact ⟨0, by omega, rfl, 0, rfl⟩
  case round =>
    obtain ⟨k, hk, rfl, n, rfl⟩ := hrel
    by_cases hlt : k < l.length
    · obtain ⟨b1, o1, rfl, _, e1⟩ := H1.out k hlt
      obtain ⟨b2, o2, rfl, _, e2⟩ := H2.out k hlt
      generalize l[k] = x at *
      go_upto_region 6 with fail
      go_quiet (fail)
      go_wp2
      go_roundw
      case rel => exact ⟨k + 1, by omega, by go_num, _, rfl⟩
      case measure => simp [intOf]; omega
    · go_wp2
      go_ret
      exact ⟨rfl, _, rfl⟩
theorem tb_results {a : Act} {w : World} (g : Nat) (cs : Array Value) (hrow : w.heap[g]? = some (.cells cs 26 (0, 0))) (hsz : cs.size = 5) (h2 : a.tmps.getD 2 undef = .pointer (some ⟨g, 0, none⟩)) :
    (results Tryd.f9 a.tmps).run Tryd.prog w = .ok (.agg cs) w := by
  have hl := run_loadVar_row (P := Tryd.prog) w g 26 26 cs (0, 0) _ hrow Tryd.underlying26 rfl (by rw [hsz]; kernel_rfl)
  have h2' : a.tmps[2]?.getD undef = .pointer (some ⟨g, 0, none⟩) := by simpa using h2
  simp [results, Tryd.results9, asAddr, h2', hl]
theorem tb_five {w : World} {g : Nat} {x0 x1 x2 x3 x4 : Value} (h : w.heap[g]? = some (.cells #[x0, x1, x2, x3, x4] 26 (0, 0))) (y0 y1 y2 y3 y4 : Value) :
    (((((w.setCell ⟨g, 0, none⟩ y0).setCell ⟨g, 1, none⟩ y1).setCell ⟨g, 2, none⟩ y2).setCell ⟨g, 3, none⟩ y3).setCell ⟨g, 4, none⟩ y4).heap[g]? = some (.cells #[y0, y1, y2, y3, y4] 26 (0, 0)) := by
  simpa using row_setCell (row_setCell (row_setCell (row_setCell (row_setCell h 0 y0) 1 y1) 2 y2) 3 y3) 4 y4
theorem keeps_five (w : World) (g : Nat) (y0 y1 y2 y3 y4 : Value) : Keeps (fun b => b ≠ g) w (((((w.setCell ⟨g, 0, none⟩ y0).setCell ⟨g, 1, none⟩ y1).setCell ⟨g, 2, none⟩ y2).setCell ⟨g, 3, none⟩ y3).setCell ⟨g, 4, none⟩ y4) :=
  (((((Keeps.refl _ w).setCell (a := ⟨g, 0, none⟩) (by simp) y0).setCell (a := ⟨g, 1, none⟩) (by simp) y1).setCell (a := ⟨g, 2, none⟩) (by simp) y2).setCell (a := ⟨g, 3, none⟩) (by simp) y3).setCell (a := ⟨g, 4, none⟩) (by simp) y4
theorem below_five {B : Nat} {w0 w : World} (h : Below B w0 w) {g : Nat} (hg : B ≤ g) (y0 y1 y2 y3 y4 : Value) : Below B w0 (((((w.setCell ⟨g, 0, none⟩ y0).setCell ⟨g, 1, none⟩ y1).setCell ⟨g, 2, none⟩ y2).setCell ⟨g, 3, none⟩ y3).setCell ⟨g, 4, none⟩ y4) :=
  ((((h.setCell (p := ⟨g, 0, none⟩) hg y0).setCell (p := ⟨g, 1, none⟩) hg y1).setCell (p := ⟨g, 2, none⟩) hg y2).setCell (p := ⟨g, 3, none⟩) hg y3).setCell (p := ⟨g, 4, none⟩) hg y4
set_option maxRecDepth 100000 in
set_option maxHeartbeats 1600000 in
theorem law_tableOf (w : World) (v : Value) (l : List InsD) (hc : Cd w v l) (hl : l.length ≤ 1048576) :
    Calls Tryd.prog 9 #[v] w fun e w' => ∃ v1 v2, e = .returned (.agg #[.slice none 0 0, v1, v2, .slice none 0 0, .int .i64 0]) ∧ Below w.heap.size w w' ∧ OwnI w.heap.size 3 w' v1 (mapP (opsOf l)).1 ∧ OwnI w.heap.size 3 w' v2 (mapP (opsOf l)).2.1 := by
  have hb := below_alloc w (.cells #[.slice none 0 0, .slice none 0 0, .slice none 0 0, .slice none 0 0, .int .i64 0] 26)
  have hr := heap_alloc_new w (.cells #[.slice none 0 0, .slice none 0 0, .slice none 0 0, .slice none 0 0, .int .i64 0] 26)
  have HM := Lib.hid (ref09_Map _ _ l (Cd.bel hc hb) hl)
  have HB := Lib.hid hb; have HR := Lib.hid hr
  obtain ⟨va, vc, rfl, _⟩ := hc.len
  clear hc hb hr
  go_enter Tryd.func9, Tryd.ntmps9
  go_wp2_with fail
  refine HM.out.mono ?_
  clear HM
  generalize w.alloc (.cells #[.slice none 0 0, .slice none 0 0, .slice none 0 0, .slice none 0 0, .int .i64 0] 26) = w1 at *
  rintro e w2 ⟨v1, v2, v3, rfl, hA⟩
  obtain ⟨a1, c1, rfl, _⟩ := own_slice hA.rows.r1
  obtain ⟨a2, c2, rfl, _⟩ := own_slice hA.rows.r2
  have hr2 := (hA.bel.block _ (row_lt HR.out)).trans HR.out
  have f0 := row_free hr2 0; have f1 := row_free hr2 1; have f2 := row_free hr2 2; have f3 := row_free hr2 3; have f4 := row_free hr2 4
  have r0 := row_cell hr2 0 rfl; have r1 := row_cell hr2 1 rfl; have r2 := row_cell hr2 2 rfl; have r3 := row_cell hr2 3 rfl; have r4 := row_cell hr2 4 rfl
  simp only [List.getElem_toArray, List.getElem_cons_zero, List.getElem_cons_succ] at r0 r1 r2 r3 r4
  have HA := Lib.hid hA; have HR2 := Lib.hid hr2
  have HLT : Hid (∀ g, (Value.slice a1 (mapP (opsOf l)).1.length c1).ownBlock = some g → g ≠ w.heap.size) := Lib.hid fun g hg e => by have := (hA.rows.r1.lt g hg).1; have := row_lt HR.out; omega
  have HLT2 : Hid (∀ g, (Value.slice a2 (mapP (opsOf l)).2.1.length c2).ownBlock = some g → g ≠ w.heap.size) := Lib.hid fun g hg e => by have := (hA.rows.r2.lt g hg).1; have := row_lt HR.out; omega
  clear hA hr2
  go_wp2
  exact bodyPost_ret (tb_results w.heap.size _ (tb_five HR2.out _ _ _ _ _) rfl rfl) rfl ⟨_, _, rfl, below_five (below_next HB.out HA.out.bel) (Nat.le_refl _) _ _ _ _ _,
    own_base (own_keeps HA.out.rows.r1 (keeps_five _ _ _ _ _ _ _) HLT.out) HB.out.size, own_base (own_keeps HA.out.rows.r2 (keeps_five _ _ _ _ _ _ _) HLT2.out) HB.out.size⟩
/-- The code of the anchor. -/
def codeB : List InsD := [⟨3, 0, []⟩, ⟨1, 0, []⟩, ⟨6, 0, []⟩, ⟨6, 0, []⟩]
def codeBC : Array Value := #[.int .u8 3, .int .i64 0, .slice none 0 0, .int .u8 1, .int .i64 0, .slice none 0 0, .int .u8 6, .int .i64 0, .slice none 0 0, .int .u8 6, .int .i64 0, .slice none 0 0]
theorem codeB_cd {w : World} {g : Nat} {T : Nat} {fr : Nat × Nat} (h : w.heap[g]? = some (.cells codeBC T fr)) : Cd w (.slice (some ⟨g, 0, none⟩) 4 4) codeB := by
  refine cd_cells codeB 4 h (by decide) (by decide) fun j hj => ?_
  match j, hj with
  | 0, _ => exact ⟨rfl, rfl, rfl, rfl⟩
  | 1, _ => exact ⟨rfl, rfl, rfl, rfl⟩
  | 2, _ => exact ⟨rfl, rfl, rfl, rfl⟩
  | 3, _ => exact ⟨rfl, rfl, rfl, rfl⟩
theorem codeB_blk : blkP (opsOf codeB) (mapP (opsOf codeB)).1 (mapP (opsOf codeB)).2.1 = ([0, 1, 1, 3], [1, 2, 1, 1]) := by decide +kernel
theorem codeB_lead : leadersP (opsOf codeB) = [true, true, false, true] := by decide +kernel
theorem rd_four {w : World} (x y z t : Int) : RdI .i64 (· < (w.alloc (.cells #[.int .i64 x, .int .i64 y, .int .i64 z, .int .i64 t] 3)).heap.size) (w.alloc (.cells #[.int .i64 x, .int .i64 y, .int .i64 z, .int .i64 t] 3)) (.slice (some ⟨w.heap.size, 0, none⟩) 4 4) [x, y, z, t] :=
  (rdI_block (k := .i64) (l := [x, y, z, t]) (heap_alloc_new w (.cells #[.int .i64 x, .int .i64 y, .int .i64 z, .int .i64 t] 3)) (by simp) 4 (by simp)).any
theorem rdB_four {w : World} : RdBo (fun _ => True) (w.alloc (.cells #[.bool true, .bool true, .bool false, .bool true] 4)) (.slice (some ⟨w.heap.size, 0, none⟩) 4 4) [true, true, false, true] := by
  have h := heap_alloc_new w (.cells #[.bool true, .bool true, .bool false, .bool true] 4)
  refine ⟨_, 4, rfl, by decide, fun j hj => ⟨_, 0, rfl, trivial, ?_⟩⟩
  rw [Nat.zero_add]
  match j, hj with
  | 0, _ => exact row_cell h 0 rfl
  | 1, _ => exact row_cell h 1 rfl
  | 2, _ => exact row_cell h 2 rfl
  | 3, _ => exact row_cell h 3 rfl
set_option maxRecDepth 100000 in
set_option maxHeartbeats 6400000 in
theorem law_works12 (w : World) : Calls Tryd.prog 6 #[] w fun e w' => e = .returned (.bool true) ∧ Below w.heap.size w w' := by
  have hb1 := below_alloc w (.cells codeBC 74)
  have hr1 := heap_alloc_new w (.cells codeBC 74)
  have hc := codeB_cd hr1
  have HC := Lib.hid hc; have HB1 := Lib.hid hb1
  have HM := Lib.hid (law_tableOf _ _ codeB hc (by decide))
  unfold codeBC at HM hb1 hr1 hc HC HB1
  clear hb1 hr1 hc
  go_enter Tryd.func6, Tryd.ntmps6
  go_wp2_with fail
  refine HM.out.mono ?_
  rintro e w2 ⟨v1, v2, rfl, hb2, ho1, ho2⟩
  have HO := Lib.hid (blk_Of w2 _ (.slice none 0 0) v1 v2 (.slice none 0 0) 0 codeB _ _ (Cd.bel HC.out hb2) (ho1.rd (by decide +kernel)).any (ho2.rd (by decide +kernel)).any (by decide))
  have HC2 := Lib.hid (Cd.bel HC.out hb2)
  have HB2 := Lib.hid (below_next HB1.out hb2)
  clear hb2 ho1 ho2 HM HC HB1
  go_wp2_with fail
  refine HO.out.mono ?_
  rintro e w3 ⟨s1, s2, rfl, hb3, hbl⟩
  rw [codeB_blk] at hbl
  obtain ⟨hs, hl2, -⟩ := hbl
  simp only at hs hl2
  obtain ⟨a1, c1, rfl, _⟩ := own_slice hs
  obtain ⟨a2, c2, rfl, _⟩ := own_slice hl2
  have hb4 := below_alloc w3 (.cells #[.slice a1 4 c1, .slice a2 4 c2] 33)
  have hr4 := heap_alloc_new w3 (.cells #[.slice a1 4 c1, .slice a2 4 c2] 33)
  have HC4 := Lib.hid (Cd.bel HC2.out (below_next hb3 hb4))
  have HB4 := Lib.hid (below_next HB2.out (below_next hb3 hb4))
  have R1 : Hid (RdI .i64 (· < (w3.alloc (.cells #[.slice a1 4 c1, .slice a2 4 c2] 33)).heap.size) (w3.alloc (.cells #[.slice a1 4 c1, .slice a2 4 c2] 33)) (.slice a1 4 c1) [0, 1, 1, 3]) := Lib.hid ((hs.rd (by decide)).any.bel hb4)
  have R2 : Hid (RdI .i64 (· < (w3.alloc (.cells #[.slice a1 4 c1, .slice a2 4 c2] 33)).heap.size) (w3.alloc (.cells #[.slice a1 4 c1, .slice a2 4 c2] 33)) (.slice a2 4 c2) [1, 2, 1, 1]) := Lib.hid ((hl2.rd (by decide)).any.bel hb4)
  have HR4 := Lib.hid hr4
  have HL := Lib.hid (blk_Leaders _ _ codeB HC4.out (by decide))
  clear hs hl2 hb3 hb4 hr4 HO HC2 HB2
  go_wp2_with fail
  refine HL.out.mono ?_
  clear HL
  obtain ⟨w4, hw4⟩ : ∃ w4, w3.alloc (.cells #[.slice a1 4 c1, .slice a2 4 c2] 33) = w4 := ⟨_, rfl⟩
  rw [hw4] at R1 R2 HR4 HC4 HB4 ⊢
  clear hw4
  rintro e w5 ⟨v5, rfl, hb5, ho5⟩
  rw [codeB_lead] at ho5
  obtain ⟨a5, c5, rfl, _⟩ := ho5.slice
  have hr5 := (hb5.block _ (row_lt HR4.out)).trans HR4.out
  have t0 := row_cell hr5 0 rfl
  simp only [List.getElem_toArray, List.getElem_cons_zero, List.getElem_cons_succ] at t0
  have hb6 := below_alloc w5 (.cells #[.int .i64 0, .int .i64 1, .int .i64 1, .int .i64 3] 3)
  have HE := Lib.hid (eqIntsT _ _ _ _ _ [0, 1, 1, 3] (R1.out.bel (below_next hb5 hb6)) (rd_four (w := w5) 0 1 1 3))
  have HR5 := Lib.hid hr5
  have HB6 := Lib.hid (below_next HB4.out (below_next hb5 hb6))
  have HR6 := Lib.hid ((hb6.block _ (row_lt hr5)).trans hr5)
  have R26 := Lib.hid (R2.out.bel (below_next hb5 hb6))
  have HBo : Hid (RdBo (fun b => (Value.slice a5 4 c5).ownBlock = some b) (w5.alloc (.cells #[.int .i64 0, .int .i64 1, .int .i64 1, .int .i64 3] 3)) (.slice a5 4 c5) [true, true, false, true]) := Lib.hid ((Own2.rdB (l := [true, true, false, true]) ho5).keeps (Keeps.all _ hb6))
  clear hr5 hb5 hb6 ho5 R1 R2 HR4 HB4 HC4
  go_wp2_with fail
  refine HE.out.mono ?_
  clear HE t0
  obtain ⟨w6, hw6⟩ : ∃ w6, w5.alloc (.cells #[.int .i64 0, .int .i64 1, .int .i64 1, .int .i64 3] 3) = w6 := ⟨_, rfl⟩
  rw [hw6] at R26 HR6 HB6 HBo ⊢
  clear hw6
  rintro e w7 ⟨rfl, n7, rfl⟩
  have hb7 := drewN_below w6 n7
  have hr7 := (hb7.block _ (row_lt HR6.out)).trans HR6.out
  have t1 := row_cell hr7 1 rfl
  simp only [List.getElem_toArray, List.getElem_cons_zero, List.getElem_cons_succ] at t1
  have hb8 := below_alloc (w6.drewN n7) (.cells #[.int .i64 1, .int .i64 2, .int .i64 1, .int .i64 1] 3)
  have HE := Lib.hid (eqIntsT _ _ _ _ _ [1, 2, 1, 1] (R26.out.bel (below_next hb7 hb8)) (rd_four (w := w6.drewN n7) 1 2 1 1))
  have HB8 := Lib.hid (below_next HB6.out (below_next hb7 hb8))
  have HBo8 := Lib.hid (HBo.out.keeps (Keeps.all _ (below_next hb7 hb8)))
  clear hr7 hb7 hb8 R26 HR6 HBo HR5 HB6
  go_wp2_with fail
  refine HE.out.mono ?_
  clear HE t1
  obtain ⟨w8, hw8⟩ : ∃ w8, (w6.drewN n7).alloc (.cells #[.int .i64 1, .int .i64 2, .int .i64 1, .int .i64 1] 3) = w8 := ⟨_, rfl⟩
  rw [hw8] at HB8 HBo8 ⊢
  clear hw8
  rintro e w9 ⟨rfl, n9, rfl⟩
  have hb9 := drewN_below w8 n9
  have hb10 := below_alloc (w8.drewN n9) (.cells #[.bool true, .bool true, .bool false, .bool true] 4)
  have HE := Lib.hid (eqBools _ _ _ _ _ [true, true, false, true] (HBo8.out.keeps (Keeps.all _ (below_next hb9 hb10))) (rdB_four (w := w8.drewN n9)) (by decide))
  have HB10 := Lib.hid (below_next HB8.out (below_next hb9 hb10))
  clear hb9 hb10 HBo8 HB8
  go_wp2_with fail
  refine HE.out.mono ?_
  clear HE
  obtain ⟨w10, hw10⟩ : ∃ w10, (w8.drewN n9).alloc (.cells #[.bool true, .bool true, .bool false, .bool true] 4) = w10 := ⟨_, rfl⟩
  rw [hw10] at HB10 ⊢
  clear hw10
  rintro e w11 ⟨rfl, n11, rfl⟩
  go_wp2
  go_ret
  exact ⟨rfl, below_next HB10.out (drewN_below _ _)⟩
end Go.Proofs.YtiaoonlhgjfdjaaDoor
