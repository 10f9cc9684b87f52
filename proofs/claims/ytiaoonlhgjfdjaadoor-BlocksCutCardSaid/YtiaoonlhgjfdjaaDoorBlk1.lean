/- blocks.ends, leaders, Leaders. -/
import Derived.Test.YtiaoonlhgjfdjaaDoorBlkP
import Derived.Test.YtiaoonlhgjfdjaaDoorLabelsC
import Derived.Test.YtiaoonlhgjfdjaaDoorOwn2
namespace Go.Proofs.YtiaoonlhgjfdjaaDoor
open Go Go.RowKit
set_option linter.unusedSimpArgs false

theorem Tryd.infoBoolB : (Tryd.prog.info? 4).map (fun i => (i.zero, i.size, i.bytes)) = some (some (.bool false), 1, 1) := by kernel_rfl
abbrev bools (l : List Bool) : List Value := l.map Value.bool
set_option maxRecDepth 100000 in
theorem blk_ends (w : World) (op : Nat) : Calls Tryd.prog 74 #[.int .u8 op] w fun e w' => e = .returned (.bool (decide (cutsP op))) ∧ w' = w := by
  by_cases h : cutsP op
  · rw [decide_eq_true h]
    have h' : op = 0 ∨ op = 3 ∨ op = 4 ∨ op = 5 ∨ op = 6 ∨ op = 7 ∨ op = 8 ∨ op = 9 ∨ op = 10 ∨ op = 11 ∨ op = 12 := by unfold cutsP at h; omega
    clear h
    rcases h' with rfl | rfl | rfl | rfl | rfl | rfl | rfl | rfl | rfl | rfl | rfl
    all_goals
      go_enter Tryd.func74, Tryd.ntmps74
      go_wp2
      go_ret
      exact ⟨rfl, rfl⟩
  · rw [decide_eq_false h]
    unfold cutsP at h
    have b0 : ((op : Int) == 0) = false := by simp; omega
    have b3 : ((op : Int) == 3) = false := by simp; omega
    have b4 : ((op : Int) == 4) = false := by simp; omega
    have b5 : ((op : Int) == 5) = false := by simp; omega
    have b6 : ((op : Int) == 6) = false := by simp; omega
    have b7 : ((op : Int) == 7) = false := by simp; omega
    have b8 : ((op : Int) == 8) = false := by simp; omega
    have b9 : ((op : Int) == 9) = false := by simp; omega
    have b10 : ((op : Int) == 10) = false := by simp; omega
    have b11 : ((op : Int) == 11) = false := by simp; omega
    have b12 : ((op : Int) == 12) = false := by simp; omega
    clear h
    go_enter Tryd.func74, Tryd.ntmps74
    go_wp2
    go_ret
    exact ⟨rfl, rfl⟩
theorem rd_cellB {S : Nat → Prop} {w : World} {a : Option Addr} {n c : Nat} {E : List Int} (h : RdI .i64 S w (.slice a n c) E) {j : Nat} (hj : j < E.length) : ∃ b off, a = some ⟨b, off, none⟩ ∧ S b ∧ w.cell? ⟨b, off + j, none⟩ = some (.int .i64 (gI E j)) := by
  obtain ⟨a', c', e, _, _, he⟩ := h
  simp only [Value.slice.injEq] at e
  obtain ⟨rfl, _, rfl⟩ := e
  obtain ⟨b, off, rfl, hs, hc⟩ := he j hj
  refine ⟨b, off, rfl, hs, ?_⟩
  rw [hc, gI, List.getD_eq_getElem?_getD, List.getElem?_eq_getElem hj]; rfl
/-- A row of bools in the block g0: its first cells read as c. -/
def Bw (w : World) (g0 : Nat) (c : List Bool) : Prop := ∃ cs : Array Value, w.heap[g0]? = some (.cells cs 4 (0, 0)) ∧ cs.toList = bools c
theorem Bw.on {w w' : World} {g0 : Nat} {c : List Bool} (h : Bw w g0 c) (hb : Below w.heap.size w w') : Bw w' g0 c := by
  obtain ⟨cs, h1, h2⟩ := h
  exact ⟨cs, (hb.block g0 (row_lt h1)).trans h1, h2⟩
theorem Bw.set {w : World} {g0 : Nat} {c : List Bool} (h : Bw w g0 c) (k : Nat) (x : Bool) : Bw (w.setCell ⟨g0, k, none⟩ (.bool x)) g0 (c.set k x) := by
  obtain ⟨cs, h1, h2⟩ := h
  exact ⟨_, row_setCell h1 k _, by rw [Array.toList_setIfInBounds, h2, bools, bools, List.map_set]⟩
theorem Bw.cell {w : World} {g0 : Nat} {c : List Bool} (h : Bw w g0 c) {k : Nat} (hk : k < c.length) : (∃ u, w.cell? ⟨g0, k, none⟩ = some (.bool u)) ∧ w.frozen? ⟨g0, k, none⟩ = false := by
  obtain ⟨cs, h1, h2⟩ := h
  refine ⟨⟨c[k], row_cell h1 k ?_⟩, row_free h1 k⟩
  rw [← Array.getElem?_toList, h2, bools, List.getElem?_map, List.getElem?_eq_getElem hk]; rfl
theorem Bw.lt {w : World} {g0 : Nat} {c : List Bool} (h : Bw w g0 c) : g0 < w.heap.size := by obtain ⟨cs, h1, _⟩ := h; exact row_lt h1
theorem Bw.cut {w : World} {B g0 n : Nat} {c : List Bool} (h : Bw w g0 c) (hb : B ≤ g0) (hn : n ≤ c.length) : Own2 w B 4 1 (.slice (some ⟨g0, 0, none⟩) n n) n (bools (c.take n)) := by
  obtain ⟨cs, h1, h2⟩ := h
  refine .inr ⟨g0, cs, rfl, hb, h1, by simp; omega, ?_⟩
  rw [Nat.mul_one, h2, bools, bools, List.map_take]
/-- How the loop of leaders stands. -/
structure Lw (w : World) (ops : List Nat) (E : List Int) (n g0 : Nat) (wr : World) (k : Nat) : Prop where
  bel : Below w.heap.size w wr
  lo : w.heap.size ≤ g0
  row : ∃ c, Bw wr g0 c ∧ LdAt ops E n k c
set_option maxRecDepth 100000 in
set_option maxHeartbeats 3200000 in
theorem blk_leaders (w : World) (v ve : Value) (l : List InsD) (E : List Int) (hc : Cd w v l) (he : RdI .i64 (· < w.heap.size) w ve E) (hE : E.length = l.length) (hl : l.length ≤ 1048576)
    (hr : ∀ k, k < l.length → (opsOf l).getD k 0 = 4 → 0 ≤ gI E k ∧ gI E k ≤ l.length) :
    Calls Tryd.prog 39 #[v, ve] w fun e w' => ∃ v', e = .returned v' ∧ Below w.heap.size w w' ∧ Own2 w' w.heap.size 4 1 v' l.length (bools (leadL (opsOf l) E)) := by
  obtain ⟨ib, bi, bz0, bz1, bz2⟩ := info_parts Tryd.infoBoolB
  have HC := Lib.hid hc
  have HE := Lib.hid he
  have HR := Lib.hid hr
  have HLE := Lib.hid hE
  have HLO : Hid ((opsOf l).length = l.length) := Lib.hid (opsOf_len l)
  have HAT : Hid (∀ j (h : j < l.length), (opsOf l).getD j 0 = l[j].op) := Lib.hid fun j h => opsOf_at h
  obtain ⟨va, vc, rfl, _⟩ := hc.len
  obtain ⟨ea, ec, rfl, _⟩ := he.lenc
  have e1 : wrap64 ((l.length : Int) + 1) = ((l.length + 1 : Nat) : Int) := by unfold wrap64; omega
  have e2 : (l.length : Int) + 1 = ((l.length + 1 : Nat) : Int) := by omega
  obtain ⟨N, hN⟩ : ∃ N, N = l.length + 1 := ⟨_, rfl⟩
  rw [← hN] at e1 e2
  have hN1 : 0 < N := by omega
  have hN2 : l.length < N := by omega
  have HN := Lib.hid hN
  clear hc he hr hE hN
  go_enter Tryd.func39, Tryd.ntmps39
  go_wp2_with (at_make; refine wpList_make_full _ rfl _ _ 35 rfl w.heap.size 4 ib (.bool false) 1 Tryd.underlying35 bi bz0 bz1 _ _ _ _ N rfl rfl rfl rfl ?b1 ?b2 (Nat.le_refl _) ?_)
  case b1 => rw [bz2, HN.out]; omega
  case b2 => rw [HN.out]; unfold maxLen; omega
  intro w1 hown hgrow
  clear e1 e2
  have hb1 : Below w.heap.size w w1 := (Below.refl _ _).grown hgrow (Nat.le_refl _) (fun k hk => by cases hk)
  have hbw : Bw w1 w.heap.size (List.replicate N false) := by
    rcases hown.2 with ⟨h0, _⟩ | ⟨g', cap, cur, e, _, hg, hn, hm, hs, ht⟩
    · cases h0
    · simp only [Value.slice.injEq, Option.some.injEq, Addr.mk.injEq, and_true, true_and] at e
      obtain ⟨rfl, rfl⟩ := e
      refine ⟨cur, hg, ?_⟩
      rw [List.take_of_length_le (by simp; omega)] at ht
      rw [ht]
      show (madeCells #[Value.bool false] N).toList = _
      rw [toList_madeCells_one]; simp [bools]
  obtain ⟨⟨u0, hc0⟩, hf0⟩ := hbw.cell (k := 0) (by simp; exact hN1)
  have HBW := Lib.hid (hbw.set 0 true)
  have HB1 := Lib.hid (hb1.setCell (p := ⟨w.heap.size, 0, none⟩) (Nat.le_refl _) (.bool true))
  clear hown hgrow hb1 hbw
  have HL0 : Hid (Lw w (opsOf l) E l.length w.heap.size (w1.setCell ⟨w.heap.size, 0, none⟩ (.bool true)) 0) := Lib.hid ⟨HB1.out, Nat.le_refl _, _, by rw [HN.out] at HBW; exact HBW.out, LdAt.start⟩
  clear HBW HB1
  go_wp2
  go_loopw [16] (fun i wr => ∃ k : Nat, k ≤ l.length ∧ i = .int .i64 k ∧ Hid (Lw w (opsOf l) E l.length w.heap.size wr k)) (fun i _ => l.length - (intOf i).toNat)
  case atStart => exact ⟨0, by omega, rfl, HL0⟩
  case round =>
    obtain ⟨k, hk, rfl, HL⟩ := hrel
    clear HL0
    by_cases hlt : k < l.length
    · obtain ⟨b, off, vl, rfl, x0, x1, x2, hrl⟩ := Cd.at_ (Cd.bel HC.out HL.out.bel) hlt
      obtain ⟨al, cl, rfl, _⟩ := hrl.lenc
      obtain ⟨eb, eo, rfl, heb, xe⟩ := rd_cellB (HE.out.keeps (Keeps.of_below HL.out.bel)) (j := k) (by rw [HLE.out]; exact hlt)
      have hkE : k < E.length := by rw [HLE.out]; exact hlt
      have hat := HAT.out k hlt
      have HOP := Lib.hid hat
      clear hrl hat
      generalize l[k].op = op at *
      generalize l[k].a = xa at *
      generalize l[k].l.length = ln at *
      go_upto_region 6 with fail
      have hbx := below_alloc wr (.cells #[.int .u8 op, .int .i64 xa, .slice al ln cl] 74)
      have hrx := heap_alloc_new wr (.cells #[.int .u8 op, .int .i64 xa, .slice al ln cl] 74)
      obtain ⟨c, hbw, hld⟩ := HL.out.row
      have hgx : wr.heap.size ≠ w.heap.size := by have := hbw.lt; omega
      have hbw := hbw.on hbx
      have HBX := Lib.hid (below_next HL.out.bel hbx)
      have xe := cell_below hbx xe
      clear x0 x1 x2 HL hbx
      generalize wr.alloc (.cells #[.int .u8 op, .int .i64 xa, .slice al ln cl] 74) = wx at *
      generalize wr.heap.size = gx at *
      have y0 := row_cell hrx 0 rfl
      simp only [List.getElem_toArray, List.getElem_cons_zero] at y0
      have hlc : k + 1 < c.length := by rw [hld.len]; omega
      have HRX := Lib.hid hrx
      go_wp2_with fail
      refine (blk_ends wx op).mono ?_
      rintro e w' ⟨rfl, hw'⟩
      obtain rfl : wx = w' := hw'.symm
      clear hw' hrx
      by_cases hcut : cutsP op
      · rw [decide_eq_true hcut]
        obtain ⟨⟨u1, hc1⟩, hf1⟩ := hbw.cell hlc
        have hbw1 := hbw.set (k + 1) true
        have z0 : (wx.setCell ⟨w.heap.size, k + 1, none⟩ (.bool true)).cell? ⟨gx, 0, none⟩ = some (.int .u8 op) := row_cell ((Below.heap_setCell _ _ _ _ hgx).trans HRX.out) 0 rfl
        have HB1 := Lib.hid (HBX.out.setCell (p := ⟨w.heap.size, k + 1, none⟩) (Nat.le_refl _) (.bool true))
        by_cases h4 : op = 4
        · subst h4
          obtain ⟨e, he⟩ : ∃ e : Nat, gI E k = e := ⟨(gI E k).toNat, by have := (HR.out k hlt HOP.out).1; omega⟩
          have hen : e ≤ l.length := by have := (HR.out k hlt HOP.out).2; omega
          have HLN := Lib.hid (hld.if_ hlt HOP.out he hen)
          rw [he] at xe
          obtain ⟨⟨u2, hc2⟩, hf2⟩ := hbw1.cell (k := e) (by rw [List.length_set, hld.len]; omega)
          have HBN := Lib.hid (hbw1.set e true)
          have HB2 := Lib.hid (HB1.out.setCell (p := ⟨w.heap.size, e, none⟩) (Nat.le_refl _) (.bool true))
          have hlc2 : e < N := by rw [HN.out]; omega
          have z1 : (wx.setCell ⟨w.heap.size, k + 1, none⟩ (.bool true)).cell? ⟨eb, eo + k, none⟩ = some (.int .i64 e) := (((Below.refl w.heap.size wx).setCell (p := ⟨w.heap.size, k + 1, none⟩) (Nat.le_refl _) (.bool true)).cell (p := ⟨eb, eo + k, none⟩) heb).trans xe
          have HLN : Hid (Lw w (opsOf l) E l.length w.heap.size ((wx.setCell ⟨w.heap.size, k + 1, none⟩ (.bool true)).setCell ⟨w.heap.size, e, none⟩ (.bool true)) (k + 1)) := Lib.hid ⟨HB2.out, Nat.le_refl _, _, HBN.out, HLN.out⟩
          clear hbw hbw1 hld hcut HOP xe HBN HB2
          go_wp2
          go_roundw
          case rel => exact ⟨k + 1, by omega, by go_num, HLN⟩
          case measure => simp [intOf]; omega
        · have hb4 : ((op : Int) == 4) = false := by simp; omega
          have HLN : Hid (Lw w (opsOf l) E l.length w.heap.size (wx.setCell ⟨w.heap.size, k + 1, none⟩ (.bool true)) (k + 1)) := Lib.hid ⟨HB1.out, Nat.le_refl _, _, hbw1, hld.cut hlt (by rw [HOP.out]; exact hcut) (by rw [HOP.out]; exact h4)⟩
          clear hbw hbw1 hld hcut h4 HOP
          go_wp2
          go_roundw
          case rel => exact ⟨k + 1, by omega, by go_num, HLN⟩
          case measure => simp [intOf]; omega
      · rw [decide_eq_false hcut]
        have h4 : ¬ op = 4 := fun e => hcut (by subst e; exact .inr (by omega))
        have hb4 : ((op : Int) == 4) = false := by simp; omega
        have HLN : Hid (Lw w (opsOf l) E l.length w.heap.size wx (k + 1)) := Lib.hid ⟨HBX.out, Nat.le_refl _, _, hbw, hld.same (by rw [HOP.out]; exact hcut)⟩
        clear hbw hld hcut h4 HOP
        go_wp2
        go_roundw
        case rel => exact ⟨k + 1, by omega, by go_num, HLN⟩
        case measure => simp [intOf]; omega
    · obtain rfl : k = l.length := by omega
      obtain ⟨c, hbw, hld⟩ := HL.out.row
      have hlen := hld.len
      have hz : Own2 wr w.heap.size 4 1 (.slice (some ⟨w.heap.size, 0, none⟩) l.length l.length) l.length (bools (leadL (opsOf l) E)) := by rw [← hld.end_ HLO.out]; exact hbw.cut HL.out.lo (by omega)
      have HZ := Lib.hid (And.intro HL.out.bel hz)
      clear hbw hld hlen hz
      go_wp2
      go_ret
      exact ⟨_, rfl, HZ.out.1, HZ.out.2⟩
/-- The leaders, or none. -/
def leadersP (ops : List Nat) : List Bool := if (mapP ops).2.2.2.1 ≠ 0 then [] else leadL ops (mapP ops).1
theorem if_range {ops : List Nat} {n : Nat} (h : (mapP ops).2.2.2.1 = 0) (hn : ops.length = n) : ∀ k, k < n → ops.getD k 0 = 4 → 0 ≤ gI (mapP ops).1 k ∧ gI (mapP ops).1 k ≤ n := by
  subst hn
  intro k hk h4
  obtain ⟨e, h1, _, h3, _⟩ := (mapP_br h).closed k hk (by rw [h4]; exact .inr (.inr rfl))
  rw [h1]; omega
set_option maxRecDepth 100000 in
set_option maxHeartbeats 1600000 in
theorem blk_Leaders (w : World) (v : Value) (l : List InsD) (hc : Cd w v l) (hl : l.length ≤ 1048576) :
    Calls Tryd.prog 12 #[v] w fun e w' => ∃ v', e = .returned v' ∧ Below w.heap.size w w' ∧ Own2 w' w.heap.size 4 1 v' (leadersP (opsOf l)).length (bools (leadersP (opsOf l))) := by
  have HM := Lib.hid (control_Map w v l hc hl)
  have HC := Lib.hid hc
  have HLO : Hid ((opsOf l).length = l.length) := Lib.hid (opsOf_len l)
  obtain ⟨va, vc, rfl, _⟩ := hc.len
  clear hc
  go_enter Tryd.func12, Tryd.ntmps12
  go_wp2_with fail
  refine HM.out.mono ?_
  rintro e w1 ⟨v1, v2, v3, rfl, hA⟩
  have HE := Lib.hid hA
  clear hA HM
  obtain ⟨er, her⟩ : ∃ er, (mapP (opsOf l)).2.2.2.1 = er := ⟨_, rfl⟩
  have HER := Lib.hid her
  rw [her]
  generalize (mapP (opsOf l)).2.2.2.2 = q at *
  clear her
  by_cases he : er = 0
  · subst he
    have HF : Hid (leadersP (opsOf l) = leadL (opsOf l) (mapP (opsOf l)).1) := Lib.hid (by rw [leadersP, if_neg (by rw [HER.out]; simp)])
    have HIR := Lib.hid (if_range HER.out HLO.out)
    have HEL : Hid ((mapP (opsOf l)).1.length = l.length) := Lib.hid (by rw [(mapP_ok HER.out).le, HLO.out])
    go_wp2_with fail
    refine (blk_leaders w1 _ _ l _ (Cd.bel HC.out HE.out.bel) (HE.out.rows.r1.rd (by rw [HEL.out]; omega)).any HEL.out hl HIR.out).mono ?_
    rintro e w2 ⟨v', rfl, hb, ho⟩
    have HZ := Lib.hid (And.intro (below_next HE.out.bel hb) (ho.base HE.out.bel.size))
    clear hb ho
    go_wp2
    go_ret
    exact ⟨_, rfl, HZ.out.1, by rw [HF.out, leadL_len, HLO.out]; exact HZ.out.2⟩
  · have HF : Hid (leadersP (opsOf l) = []) := Lib.hid (by rw [leadersP, if_pos (by rw [HER.out]; exact he)])
    have hen : (er != 0) = true := by simp [he]
    go_wp2
    go_ret
    exact ⟨_, rfl, HE.out.bel, by rw [HF.out]; exact .inl (World.ownsRow_nil _ _ _ _)⟩
end Go.Proofs.YtiaoonlhgjfdjaaDoor
