/- flagonref09.Next (printed by gen/nextr.py). -/
import Derived.Test.YtiaoonlhgjfdjaaDoorPlace
import Derived.Test.YtiaoonlhgjfdjaaDoorLabelsR
import Derived.Test.YtiaoonlhgjfdjaaDoorNextC
import Derived.Deep.CutBlock
namespace Go.Proofs.YtiaoonlhgjfdjaaDoor
open Go Go.RowKit

theorem Tryd.infoBoolR : (Tryd.prog.info? 4).map (fun i => (i.zero, i.size, i.bytes)) = some (some (.bool false), 1, 1) := by kernel_rfl
theorem nextsP_rise {ops : List Nat} {n : Nat} {a : Int} {l : List Int} (h : (mapP ops).2.2.2.1 = 0) (hn : n < ops.length) :
    nextsP ops n a l = rise ops.length (someP ops (mapP ops).1 (mapP ops).2.1 (labP (mapP ops).2.2.1 n) n a l) := by
  rw [nextsP, if_neg (by omega), Int.toNat_natCast]
theorem bools_made {w : World} {B T g n c : Nat} (h : w.ownsRow B T 1 (.slice (some ⟨g, 0, none⟩) n c) n (madeCells #[Value.bool false] n).toList) :
    ∃ cs : Array Value, w.heap[g]? = some (.cells cs T (0, 0)) ∧ n ≤ cs.size ∧ ∀ j, j < n → cs[j]? = some (.bool false) := by
  rcases h.2 with ⟨h0, _⟩ | ⟨g', cap, cur, e, _, hg, hn, _, hs, ht⟩
  · cases h0
  · simp only [Value.slice.injEq, Option.some.injEq, Addr.mk.injEq, and_true, true_and] at e
    obtain ⟨rfl, rfl⟩ := e
    refine ⟨cur, hg, by omega, fun j hj => ?_⟩
    have h1 : (cur.toList.take (n * 1))[j]? = ((madeCells #[Value.bool false] n).toList)[j]? := by rw [ht]
    rw [List.getElem?_take, if_pos (by omega), Array.getElem?_toList, toList_madeCells_one, List.getElem?_replicate, if_pos hj] at h1
    exact h1
/-- The places are ticked off, the first k of them. -/
def Tk (N : Nat) (S : List Int) (g0 k : Nat) (w : World) : Prop := ∃ cs : Array Value, w.heap[g0]? = some (.cells cs 4 (0, 0)) ∧ N ≤ cs.size ∧ ∀ j, j < N → cs[j]? = some (.bool (decide ((j : Int) ∈ S.take k)))
theorem take_mem {S : List Int} {k : Nat} (hk : k < S.length) (x : Int) : x ∈ S.take (k + 1) ↔ x ∈ S.take k ∨ x = S[k] := by
  rw [List.take_add_one, List.getElem?_eq_getElem hk, List.mem_append]; simp
theorem Tk.skip {N : Nat} {S : List Int} {g0 k : Nat} {w : World} (h : Tk N S g0 k w) (hk : k < S.length) (hn : S[k] < 0) : Tk N S g0 (k + 1) w := by
  obtain ⟨cs, h1, h2, h3⟩ := h
  refine ⟨cs, h1, h2, fun j hj => ?_⟩
  rw [h3 j hj, decide_eq_decide.2 (take_mem hk (j : Int))]
  by_cases hm : (j : Int) ∈ S.take k
  · rw [decide_eq_true hm, decide_eq_true (.inl hm)]
  · rw [decide_eq_false hm, decide_eq_false (by rintro (h | h); exact hm h; omega)]
theorem Tk.set {N : Nat} {S : List Int} {g0 k m : Nat} {w : World} (h : Tk N S g0 k w) (hk : k < S.length) (hn : S[k] = (m : Int)) (_hm : m < N) : Tk N S g0 (k + 1) (w.setCell ⟨g0, m, none⟩ (.bool true)) := by
  obtain ⟨cs, h1, h2, h3⟩ := h
  refine ⟨_, row_setCell h1 m _, by simpa using h2, fun j hj => ?_⟩
  by_cases e : j = m
  · subst e
    rw [Array.getElem?_setIfInBounds_self_of_lt (by omega), decide_eq_true ((take_mem hk _).2 (.inr hn.symm))]
  · rw [Array.getElem?_setIfInBounds_ne (Ne.symm e), h3 j hj, decide_eq_decide.2 (take_mem hk (j : Int))]
    by_cases hm : (j : Int) ∈ S.take k
    · rw [decide_eq_true hm, decide_eq_true (.inl hm)]
    · rw [decide_eq_false hm, decide_eq_false (by rintro (h | h); exact hm h; omega)]
theorem own_max {B T : Nat} {w : World} {v : Value} {l : List Int} (h : OwnI B T w v l) : l.length ≤ 9223372036854775807 := by
  rcases h.2 with ⟨_, h0⟩ | ⟨g, cap, cur, _, _, _, hn, hm, _⟩
  · omega
  · unfold maxLen at hm; omega
def riseK (S : List Int) (k : Nat) : List Int := ((List.range k).filter fun (j : Nat) => decide ((j : Int) ∈ S)).map fun (j : Nat) => (j : Int)
theorem riseK_len (S : List Int) (k : Nat) : (riseK S k).length ≤ k := by
  unfold riseK
  rw [List.length_map]
  exact Nat.le_trans (List.length_filter_le _ _) (by rw [List.length_range]; exact Nat.le_refl _)
theorem riseK_yes {S : List Int} {k : Nat} (h : (k : Int) ∈ S) : riseK S (k + 1) = riseK S k ++ [(k : Int)] := by
  unfold riseK
  rw [List.range_succ, List.filter_append, List.map_append]
  simp [h]
theorem riseK_no {S : List Int} {k : Nat} (h : ¬ (k : Int) ∈ S) : riseK S (k + 1) = riseK S k := by
  unfold riseK
  rw [List.range_succ, List.filter_append, List.map_append]
  simp [h]
set_option maxRecDepth 100000 in
set_option maxHeartbeats 25600000 in
theorem ref09_Next (w : World) (v : Value) (l : List InsD) (pc : Int) (hc : Cd w v l) (hl : l.length ≤ 1048576) (hll : ∀ j (h : j < l.length), l[j].l.length ≤ 1048576) :
    Calls Tryd.prog 32 #[v, .int .i64 pc] w fun e w' => ∃ v', e = .returned v' ∧ Below w.heap.size w w' ∧
      OwnI w.heap.size 3 w' v' (nextsP (opsOf l) pc (l.getD pc.toNat insZ).a (l.getD pc.toNat insZ).l) := by
  obtain ⟨i0, hi, hz0, hz1, hz2⟩ := info_parts Tryd.infoIntF
  obtain ⟨ib, bi, bz0, bz1, bz2⟩ := info_parts Tryd.infoBoolR
  have HM := Lib.hid (ref09_Map w v l hc hl)
  obtain ⟨va, vc, rfl, _⟩ := hc.len
  have HLL := Lib.hid hll
  have HLO : Hid ((opsOf l).length = l.length) := Lib.hid (opsOf_len l)
  have HC := Lib.hid hc
  clear hll hc
  go_enter Tryd.func32, Tryd.ntmps32
  go_wp2_with fail
  refine HM.out.mono ?_
  rintro e w2 ⟨v1, v2, v3, rfl, hA⟩
  obtain ⟨a1, c1, rfl, _⟩ := own_slice hA.rows.r1
  obtain ⟨a2, c2, rfl, _⟩ := own_slice hA.rows.r2
  have HB2 := Lib.hid hA.bel
  have HA := Lib.hid hA.rows
  clear hA HM
  obtain ⟨er, her⟩ : ∃ er, (mapP (opsOf l)).2.2.2.1 = er := ⟨_, rfl⟩
  have HER := Lib.hid her
  rw [her]
  generalize (mapP (opsOf l)).2.2.2.2 = q at *
  clear her
  by_cases he : er ≠ 0
  · have HF := Lib.hid (fun a xl => nextsP_none (ops := opsOf l) (pc := pc) (a := a) (l := xl) (.inl (by rw [HER.out]; exact he)))
    go_wp2
    go_ret
    exact ⟨_, rfl, HB2.out, by rw [HF.out]; exact World.ownsRow_nil _ _ _ _⟩
  obtain rfl : er = 0 := Decidable.not_not.1 he
  clear he
  by_cases h0 : pc < 0
  · have HF := Lib.hid (fun a xl => nextsP_none (ops := opsOf l) (pc := pc) (a := a) (l := xl) (.inr (.inl h0)))
    go_wp2
    go_ret
    exact ⟨_, rfl, HB2.out, by rw [HF.out]; exact World.ownsRow_nil _ _ _ _⟩
  by_cases h1 : (l.length : Int) ≤ pc
  · have HF := Lib.hid (fun a xl => nextsP_none (ops := opsOf l) (pc := pc) (a := a) (l := xl) (.inr (.inr (by rw [HLO.out]; exact h1))))
    go_wp2
    go_ret
    exact ⟨_, rfl, HB2.out, by rw [HF.out]; exact World.ownsRow_nil _ _ _ _⟩
  obtain ⟨n, rfl⟩ : ∃ n : Nat, pc = n := ⟨pc.toNat, by omega⟩
  have hn : n < l.length := by omega
  have HK := Lib.hid (mapP_ok HER.out)
  have HF := Lib.hid (nextsP_rise (a := l[n].a) (l := l[n].l) HER.out (by rw [HLO.out]; exact hn))
  have HLP : Hid (labelsP (opsOf l) n = labP (mapP (opsOf l)).2.2.1 n) := Lib.hid (labelsP_some HER.out (by rw [HLO.out]; exact hn))
  clear HER
  generalize (mapP (opsOf l)).1 = E at *
  generalize (mapP (opsOf l)).2.1 = L at *
  generalize (mapP (opsOf l)).2.2.1 = O at *
  have hlE : Hid (E.length = l.length) := Lib.hid (by rw [HK.out.le, HLO.out])
  have hlL : Hid (L.length = l.length) := Lib.hid (by rw [HK.out.ll, HLO.out])
  have d1 : decide ((n : Int) < 0) = false := decide_eq_false (by omega)
  have d2 : decide (l.length ≤ n) = false := decide_eq_false (by omega)
  have e1 : wrap64 ((l.length : Int) + 1) = ((l.length + 1 : Nat) : Int) := by unfold wrap64; omega
  have e2 : (l.length : Int) + 1 = ((l.length + 1 : Nat) : Int) := by omega
  obtain ⟨N, hN⟩ : ∃ N, N = l.length + 1 := ⟨_, rfl⟩
  rw [← hN] at e1 e2
  have HN := Lib.hid hN; clear hN
  go_wp2_with (at_make; refine wpList_make_full _ rfl _ _ 35 rfl w2.heap.size 4 ib (.bool false) 1 Tryd.underlying35 bi bz0 bz1 _ _ _ _ N rfl rfl rfl rfl ?b1 ?b2 (Nat.le_refl _) ?_)
  case b1 => rw [bz2, HN.out]; omega
  case b2 => rw [HN.out]; unfold maxLen; omega
  intro w3 hown hgrow
  clear d1 d2 e1 e2
  have hb3 : Below w2.heap.size w2 w3 := (Below.refl _ _).grown hgrow (Nat.le_refl _) (fun k hk => by cases hk)
  have HO3 := Lib.hid hown
  have HB3 := Lib.hid hb3
  have HB30 := Lib.hid (below_next HB2.out hb3)
  clear hown hgrow hb3
  go_wp2_with fail
  refine (ref09_Labels w3 _ l n (Cd.bel HC.out HB30.out) hl).mono ?_
  rintro e w4 ⟨lv, rfl, hb4, ho4⟩
  rw [HLP.out] at ho4
  obtain ⟨la, lc, rfl, _⟩ := own_slice ho4
  have HLN := Lib.hid (HK.out.lab (pc := n) (by rw [HLO.out]; exact hn))
  have HLB : Hid (∃ lab, labP O n = lab) := Lib.hid ⟨_, rfl⟩
  obtain ⟨lab, hlab⟩ := HLB.out
  rw [hlab] at HLN ho4 HF ⊢
  have HLBe := Lib.hid hlab
  clear hlab HLB HLP
  have HB40 := Lib.hid (below_next HB30.out hb4)
  obtain ⟨b, off, xv, rfl, x0, x1, x2, hxr⟩ := Cd.at_ (CdS.keeps HC.out (Keeps.all (· < w.heap.size) HB40.out) fun _ h => h) hn
  have HOP : Hid ((opsOf l).getD n 0 = l[n].op) := Lib.hid (opsOf_at hn)
  have hxll : l[n].l.length ≤ 1048576 := HLL.out n hn
  obtain ⟨xa, xc, rfl, hxl⟩ := hxr.lenc
  have HXR := Lib.hid hxr
  have HEQ : Hid (l.getD n insZ = l[n]) := Lib.hid (insD_at hn)
  generalize hX : l[n] = X at *
  clear hX hxr
  obtain ⟨op, x, xl⟩ := X
  simp only at *
  have hb5 := below_alloc w4 (.cells #[.int .u8 op, .int .i64 x, .slice xa xl.length xc] 74)
  have hr5 := heap_alloc_new w4 (.cells #[.int .u8 op, .int .i64 x, .slice xa xl.length xc] 74)
  go_upto_block 0 with fail
  have hB5 := below_next HB40.out hb5
  have HLW : Hid (RdI .i64 (· < (w4.alloc (.cells #[.int .u8 op, .int .i64 x, .slice xa xl.length xc] 74)).heap.size) (w4.alloc (.cells #[.int .u8 op, .int .i64 x, .slice xa xl.length xc] 74)) (.slice la lab.length lc) lab) := Lib.hid ((ho4.rd (by have := HLN.out.2; omega)).any.bel hb5)
  have hb25 := below_next HB3.out (below_next hb4 hb5)
  have HEW : Hid (RdI .i64 (· < (w4.alloc (.cells #[.int .u8 op, .int .i64 x, .slice xa xl.length xc] 74)).heap.size) (w4.alloc (.cells #[.int .u8 op, .int .i64 x, .slice xa xl.length xc] 74)) (.slice a1 E.length c1) E) := Lib.hid ((HA.out.r1.rd (by rw [hlE.out]; omega)).any.bel hb25)
  have HElW : Hid (RdI .i64 (· < (w4.alloc (.cells #[.int .u8 op, .int .i64 x, .slice xa xl.length xc] 74)).heap.size) (w4.alloc (.cells #[.int .u8 op, .int .i64 x, .slice xa xl.length xc] 74)) (.slice a2 L.length c2) L) := Lib.hid ((HA.out.r2.rd (by rw [hlL.out]; omega)).any.bel hb25)
  have HXW := Lib.hid (HXR.out.any.bel hb5)
  have HCW := Lib.hid (Cd.bel HC.out hB5)
  have HCAN : Hid (∃ cs : Array Value, (w4.alloc (.cells #[.int .u8 op, .int .i64 x, .slice xa xl.length xc] 74)).heap[w2.heap.size]? = some (.cells cs 4 (0, 0)) ∧ N ≤ cs.size ∧ ∀ j, j < N → cs[j]? = some (.bool false)) := Lib.hid (by
    obtain ⟨cs, h1, h2⟩ := bools_made HO3.out
    exact ⟨cs, ((below_next hb4 hb5).block _ (row_lt h1)).trans h1, h2⟩)
  have HBW := Lib.hid hB5
  have HGW : Hid (w.heap.size ≤ w2.heap.size ∧ w2.heap.size < (w4.alloc (.cells #[.int .u8 op, .int .i64 x, .slice xa xl.length xc] 74)).heap.size) := Lib.hid ⟨HB2.out.size, by obtain ⟨cs, h1, _⟩ := HCAN.out; exact row_lt h1⟩
  have HRX := Lib.hid hr5
  generalize w4.alloc (.cells #[.int .u8 op, .int .i64 x, .slice xa xl.length xc] 74) = W at *
  clear hb5 hr5 hb4 ho4 hb25 hB5 x0 x1 x2 HB2 HA HB3 HB30 HB40 HO3 HXR
  generalize w2.heap.size = g0 at *
  generalize w4.heap.size = gx at *
  have y0 := row_cell HRX.out 0 rfl; have y1 := row_cell HRX.out 1 rfl; have y2 := row_cell HRX.out 2 rfl
  simp only [List.getElem_toArray, List.getElem_cons_zero, List.getElem_cons_succ] at y0 y1 y2
  have HEr : Hid (∀ e ∈ E, -1 ≤ e ∧ e < l.length) := Lib.hid (fun e he => by obtain ⟨j, hj⟩ := List.getElem?_of_mem he; have := HK.out.end_ j e hj; rw [HLO.out] at this; exact this)
  have HLr : Hid (∀ e ∈ lab, -1 ≤ e ∧ e < l.length) := Lib.hid (fun e he => by have := HLN.out.1 e he; omega)
  obtain ⟨S, hS⟩ : ∃ S, someP (opsOf l) E L lab n x xl = S := ⟨_, rfl⟩
  have HS := Lib.hid hS
  have HSr : Hid (∀ y ∈ S, -1 ≤ y ∧ y ≤ (l.length : Int)) := Lib.hid (by
    rw [← hS, ← HLBe.out]
    have := someP_range HK.out (by rw [HLO.out]; exact hn) x xl
    rw [HLO.out] at this
    exact this)
  clear hS
  go_cut [13, 14] from 49 to 148 (fun s _ wx => ∃ c a, s = .slice a S.length c ∧ Hid (OwnI W.heap.size 3 wx s S) ∧ Hid (Below W.heap.size W wx))
  case rest =>
    obtain ⟨sc, sa, rfl, HO, HB⟩ := hcut
    have hSm := own_max HO.out
    have HT : Hid (Tk N S g0 0 wc) := Lib.hid (by
      obtain ⟨cs, h1, h2, h3⟩ := HCAN.out
      exact ⟨cs, (HB.out.block _ HGW.out.2).trans h1, h2, fun j hj => by rw [h3 j hj]; simp⟩)
    have HBw := Lib.hid (below_next HBW.out HB.out)
    have HOb := Lib.hid (own_base HO.out (Nat.le_refl W.heap.size))
    clear HB HO y0 y1 y2
    go_wp2
    go_loopw [15] (fun i wx => ∃ k : Nat, k ≤ S.length ∧ i = .int .i64 k ∧ Hid (Tk N S g0 k wx) ∧ Hid (OwnI W.heap.size 3 wx (.slice sa S.length sc) S) ∧ Hid (Below w.heap.size w wx)) (fun i _ => S.length - (intOf i).toNat)
    case atStart => exact ⟨0, by omega, rfl, HT, HOb, HBw⟩
    case round =>
      obtain ⟨k, hk, rfl, HTk, HOk, HBk⟩ := hrel
      clear HT HBw HOb
      by_cases hlt : k < S.length
      · obtain ⟨g, c, e, hgW, _, hcell, _⟩ := HOk.out.at_ hlt
        simp only [Value.slice.injEq] at e
        obtain ⟨rfl, _, rfl⟩ := e
        have hr := HSr.out S[k] (List.getElem_mem hlt)
        obtain ⟨y, hy⟩ : ∃ y, S[k] = y := ⟨_, rfl⟩
        have HY := Lib.hid hy
        rw [hy] at hcell hr
        clear hy
        have hgg := HGW.out.2
        by_cases h0 : 0 ≤ y
        · obtain ⟨m, rfl⟩ : ∃ m : Nat, y = m := ⟨y.toNat, by omega⟩
          have hmN : m < N := by have := HN.out; omega
          obtain ⟨cs, h1, h2, h3⟩ := HTk.out
          have hcm := row_cell h1 m (h3 m hmN)
          have hfm := row_free h1 m
          have HT2 := Lib.hid (HTk.out.set hlt HY.out hmN)
          have HO2 : Hid (OwnI W.heap.size 3 (wr.setCell ⟨g0, m, none⟩ (.bool true)) (.slice (some ⟨g, 0, none⟩) S.length sc) S) := Lib.hid (HOk.out.far (fun e => by simp only [Value.ownBlock, Option.some.injEq] at e; omega) _)
          have HB2 := Lib.hid (HBk.out.setCell (p := ⟨g0, m, none⟩) HGW.out.1 (.bool true))
          clear h1 h2 h3 HTk HOk HBk
          go_wp2
          go_roundw
          case rel => exact ⟨k + 1, by omega, by go_num, HT2, HO2, HB2⟩
          case measure => simp [intOf]; omega
        · have HT2 := Lib.hid (HTk.out.skip hlt (by rw [HY.out]; omega))
          clear HTk
          go_wp2
          go_roundw
          case rel => exact ⟨k + 1, by omega, by go_num, HT2, HOk, HBk⟩
          case measure => simp [intOf]; omega
      · obtain rfl : k = S.length := by omega
        obtain ⟨wB, hwB⟩ : ∃ wB, wB = wr := ⟨_, rfl⟩
        subst hwB
        have HA0 : Hid (OwnI wB.heap.size 3 wB (.slice none 0 0) (riseK S 0)) := Lib.hid (World.ownsRow_nil _ _ _ _)
        have hg0 : g0 < wB.heap.size := by obtain ⟨cs, h1, _⟩ := HTk.out; exact row_lt h1
        go_wp2
        go_loopw [16, 17] (fun lv i wx => ∃ k : Nat, k ≤ N ∧ i = .int .i64 k ∧ Hid (OwnI wB.heap.size 3 wx lv (riseK S k)) ∧ Hid (Below wB.heap.size wB wx)) (fun _ i _ => N - (intOf i).toNat)
        case atStart => exact ⟨0, by omega, rfl, HA0, Lib.hid (Below.refl _ _)⟩
        case round =>
          obtain ⟨k, hk2, rfl, HA, HBx⟩ := hrel
          clear HA0
          obtain ⟨la7, lc7, rfl, _⟩ := own_slice HA.out
          by_cases hlt2 : k < N
          · have hNl : N ≤ 1048577 := by have := HN.out; omega
            have hcell : wr.cell? ⟨g0, k, none⟩ = some (.bool (decide ((k : Int) ∈ S))) := by
              obtain ⟨cs, h1, h2, h3⟩ := HTk.out
              have := row_cell ((HBx.out.block _ hg0).trans h1) k (h3 k hlt2)
              rwa [List.take_length] at this
            by_cases hm : (k : Int) ∈ S
            · rw [decide_eq_true hm] at hcell
              have HR := Lib.hid (riseK_yes hm)
              have hb1 := below_alloc wr (.cells #[.int .i64 (k : Int)] 3)
              have HA1 := Lib.hid (own_below HA.out hb1)
              have HC1 := Lib.hid (below_next HBx.out hb1)
              have hs1 := HC1.out.size
              have hrl := riseK_len S k

              clear hb1 hm
              go_wp2_with (at_builtin; refine wpList_append_kept _ rfl _ _ 24 rfl wB.heap.size 3 i0 (.int .i64 0) 1 8 Tryd.underlying24 hi hz0 hz1 hz2 rfl (by decide) _ (riseK S k).length (ints (riseK S k)) rfl HA1.out ⟨wr.heap.size, 0, none⟩ 1 1 [.int .i64 (k : Int)] rfl rfl (cell_one_new _ _ _) (by simp [Value.oneCell']) (by unfold maxLen; omega) (by omega) hs1 ?_)
              intro v1 w1 ho hkk hn'
              have O1 : Hid (OwnI wB.heap.size 3 w1 v1 (riseK S (k + 1))) := Lib.hid (by rw [HR.out]; unfold OwnI; rw [List.length_append]; simpa [ints] using ho)
              have B1 := Lib.hid (HC1.out.grown hkk.grown hs1 fun j hj => (HA1.out.lt j hj).1)
              clear ho hkk hn' hs1 HA1 HC1 hrl
              go_wp2
              go_roundw
              case rel => exact ⟨k + 1, by omega, by go_num, O1, B1⟩
              case measure => simp [intOf]; omega
            · rw [decide_eq_false hm] at hcell
              have O1 : Hid (OwnI wB.heap.size 3 wr (.slice la7 (riseK S k).length lc7) (riseK S (k + 1))) := Lib.hid (by rw [riseK_no hm]; exact HA.out)
              clear hm
              go_wp2
              go_roundw
              case rel => exact ⟨k + 1, by omega, by go_num, O1, HBx⟩
              case measure => simp [intOf]; omega
          · obtain rfl : k = N := by omega
            go_wp2
            go_ret
            have HRE : nextsP (opsOf l) n x xl = riseK S k := by rw [HF.out, HS.out, HN.out, HLO.out]; rfl
            exact ⟨_, rfl, below_next HBk.out HBx.out, by rw [Int.toNat_natCast, HEQ.out, HRE]; exact own_base HA.out HBk.out.size⟩
  case first =>
    by_cases o0 : op = 0
    · subst o0
      have O0 : Hid (OwnI W.heap.size 3 W (.slice none 0 0) []) := Lib.hid (World.ownsRow_nil _ _ _ _)
      have B0 : Hid (Below W.heap.size W W) := Lib.hid (Below.refl _ _)
      have HSe : Hid (S = []) := Lib.hid (by rw [← HS.out, some_0 HOP.out])
      go_wp2_with fail
      go_meet
      have e := HSe.out
      subst e
      exact ⟨_, _, rfl, O0, B0⟩
    by_cases o10 : op = 10
    · subst o10
      have O0 : Hid (OwnI W.heap.size 3 W (.slice none 0 0) []) := Lib.hid (World.ownsRow_nil _ _ _ _)
      have B0 : Hid (Below W.heap.size W W) := Lib.hid (Below.refl _ _)
      have HSe : Hid (S = [(l.length : Int)]) := Lib.hid (by rw [← HS.out, some_10 HOP.out, HLO.out])
      have hb1 := below_alloc W (.cells #[.int .i64 (l.length : Int)] 3)
      have HA1 := Lib.hid (own_below O0.out hb1)
      have HC1 := Lib.hid (below_next B0.out hb1)
      have hs1 := HC1.out.size
      clear hb1
      go_wp2_with (at_builtin; refine wpList_append_kept _ rfl _ _ 24 rfl W.heap.size 3 i0 (.int .i64 0) 1 8 Tryd.underlying24 hi hz0 hz1 hz2 rfl (by decide) _ 0 (ints ([] : List Int)) rfl HA1.out ⟨W.heap.size, 0, none⟩ 1 1 [.int .i64 (l.length : Int)] rfl rfl (cell_one_new _ _ _) (by simp [Value.oneCell']) (by unfold maxLen; omega) (by omega) hs1 ?_)
      intro v1 w1 ho hkk hn'
      have O1 : Hid (OwnI W.heap.size 3 w1 v1 ([(l.length : Int)] : List Int)) := Lib.hid (by simpa [OwnI, ints] using ho)
      have B1 := Lib.hid (HC1.out.grown hkk.grown hs1 fun j hj => (HA1.out.lt j hj).1)
      obtain ⟨sg1, sc1, rfl, _, _, _⟩ := stk_form O1.out
      clear ho hkk hn' hs1 HA1 HC1
      go_wp2_with fail
      go_meet
      have e := HSe.out
      subst e
      exact ⟨_, _, rfl, O1, B1⟩
    by_cases o5 : op = 5
    · subst o5
      have O0 : Hid (OwnI W.heap.size 3 W (.slice none 0 0) []) := Lib.hid (World.ownsRow_nil _ _ _ _)
      have B0 : Hid (Below W.heap.size W W) := Lib.hid (Below.refl _ _)
      have hnE : n < E.length := by rw [hlE.out]; exact hn
      have hgE : Hid (E.getD n (-1) = E[n]) := Lib.hid (by rw [List.getD_eq_getElem?_getD, List.getElem?_eq_getElem hnE]; rfl)
      have hy := HEr.out E[n] (List.getElem_mem hnE)
      obtain ⟨_, _, e, _, _, hee⟩ := HEW.out
      simp only [Value.slice.injEq] at e
      obtain ⟨rfl, _, rfl⟩ := e
      obtain ⟨eb, eo, rfl, _, hce⟩ := hee n hnE
      clear hee
      have HSe : Hid (S = [E[n]]) := Lib.hid (by rw [← HS.out, some_5 HOP.out, hgE.out])
      clear hgE
      have HEn : Hid (∃ y, E[n] = y) := Lib.hid ⟨_, rfl⟩
      obtain ⟨y, hyy⟩ := HEn.out
      rw [hyy] at hce hy HSe
      clear hyy HEn
      have hb1 := below_alloc W (.cells #[.int .i64 y] 3)
      have HA1 := Lib.hid (own_below O0.out hb1)
      have HC1 := Lib.hid (below_next B0.out hb1)
      have hs1 := HC1.out.size
      clear hb1
      go_wp2_with (at_builtin; refine wpList_append_kept _ rfl _ _ 24 rfl W.heap.size 3 i0 (.int .i64 0) 1 8 Tryd.underlying24 hi hz0 hz1 hz2 rfl (by decide) _ 0 (ints ([] : List Int)) rfl HA1.out ⟨W.heap.size, 0, none⟩ 1 1 [.int .i64 y] rfl rfl (cell_one_new _ _ _) (by simp [Value.oneCell']) (by unfold maxLen; omega) (by omega) hs1 ?_)
      intro v1 w1 ho hkk hn'
      have O1 : Hid (OwnI W.heap.size 3 w1 v1 ([y] : List Int)) := Lib.hid (by simpa [OwnI, ints] using ho)
      have B1 := Lib.hid (HC1.out.grown hkk.grown hs1 fun j hj => (HA1.out.lt j hj).1)
      obtain ⟨sg1, sc1, rfl, _, _, _⟩ := stk_form O1.out
      clear ho hkk hn' hs1 HA1 HC1
      go_wp2_with fail
      go_meet
      have e := HSe.out
      subst e
      exact ⟨_, _, rfl, O1, B1⟩
    by_cases o7 : op = 7
    · subst o7
      have O0 : Hid (OwnI W.heap.size 3 W (.slice none 0 0) []) := Lib.hid (World.ownsRow_nil _ _ _ _)
      have B0 : Hid (Below W.heap.size W W) := Lib.hid (Below.refl _ _)
      have HSe : Hid (S = [placeP (opsOf l) E lab x]) := Lib.hid (by rw [← HS.out, some_7 HOP.out])
      have hpl := ref09_place W _ _ _ _ _ l E lab x (Cd.bel HCW.out B0.out) hl (HEW.out.bel B0.out) (HLW.out.bel B0.out) hlE.out HLr.out HEr.out
      have HPL := Lib.hid hpl
      clear hpl
      go_wp2_with fail
      refine HPL.out.mono ?_
      rintro e w' ⟨rfl, hw'⟩
      obtain rfl : W = w' := hw'.symm
      clear hw' HPL
      generalize hpp : placeP (opsOf l) E lab x = pl at *
      clear hpp
      have hb1 := below_alloc W (.cells #[.int .i64 pl] 3)
      have HA1 := Lib.hid (own_below O0.out hb1)
      have HC1 := Lib.hid (below_next B0.out hb1)
      have hs1 := HC1.out.size
      clear hb1
      go_wp2_with (at_builtin; refine wpList_append_kept _ rfl _ _ 24 rfl W.heap.size 3 i0 (.int .i64 0) 1 8 Tryd.underlying24 hi hz0 hz1 hz2 rfl (by decide) _ 0 (ints ([] : List Int)) rfl HA1.out ⟨W.heap.size, 0, none⟩ 1 1 [.int .i64 pl] rfl rfl (cell_one_new _ _ _) (by simp [Value.oneCell']) (by unfold maxLen; omega) (by omega) hs1 ?_)
      intro v1 w1 ho hkk hn'
      have O1 : Hid (OwnI W.heap.size 3 w1 v1 ([pl] : List Int)) := Lib.hid (by simpa [OwnI, ints] using ho)
      have B1 := Lib.hid (HC1.out.grown hkk.grown hs1 fun j hj => (HA1.out.lt j hj).1)
      obtain ⟨sg1, sc1, rfl, _, _, _⟩ := stk_form O1.out
      clear ho hkk hn' hs1 HA1 HC1
      go_wp2_with fail
      go_meet
      have e := HSe.out
      subst e
      exact ⟨_, _, rfl, O1, B1⟩
    by_cases o8 : op = 8
    · subst o8
      have O0 : Hid (OwnI W.heap.size 3 W (.slice none 0 0) []) := Lib.hid (World.ownsRow_nil _ _ _ _)
      have B0 : Hid (Below W.heap.size W W) := Lib.hid (Below.refl _ _)
      have HSe : Hid (S = [(n : Int) + 1, placeP (opsOf l) E lab x]) := Lib.hid (by rw [← HS.out, some_8 HOP.out])
      have hb1 := below_alloc W (.cells #[.int .i64 ((n : Int) + 1)] 3)
      have HA1 := Lib.hid (own_below O0.out hb1)
      have HC1 := Lib.hid (below_next B0.out hb1)
      have hs1 := HC1.out.size
      clear hb1
      go_wp2_with (at_builtin; refine wpList_append_kept _ rfl _ _ 24 rfl W.heap.size 3 i0 (.int .i64 0) 1 8 Tryd.underlying24 hi hz0 hz1 hz2 rfl (by decide) _ 0 (ints ([] : List Int)) rfl HA1.out ⟨W.heap.size, 0, none⟩ 1 1 [.int .i64 ((n : Int) + 1)] rfl rfl (cell_one_new _ _ _) (by simp [Value.oneCell']) (by unfold maxLen; omega) (by omega) hs1 ?_)
      intro v1 w1 ho hkk hn'
      have O1 : Hid (OwnI W.heap.size 3 w1 v1 ([((n : Int) + 1)] : List Int)) := Lib.hid (by simpa [OwnI, ints] using ho)
      have B1 := Lib.hid (HC1.out.grown hkk.grown hs1 fun j hj => (HA1.out.lt j hj).1)
      obtain ⟨sg1, sc1, rfl, _, _, _⟩ := stk_form O1.out
      clear ho hkk hn' hs1 HA1 HC1
      have z1 := row_cell ((B1.out.block _ (row_lt HRX.out)).trans HRX.out) 1 rfl
      simp only [List.getElem_toArray, List.getElem_cons_zero, List.getElem_cons_succ] at z1
      clear y1
      have hpl := ref09_place w1 _ _ _ _ _ l E lab x (Cd.bel HCW.out B1.out) hl (HEW.out.bel B1.out) (HLW.out.bel B1.out) hlE.out HLr.out HEr.out
      have HPL := Lib.hid hpl
      clear hpl
      go_wp2_with fail
      refine HPL.out.mono ?_
      rintro e w' ⟨rfl, hw'⟩
      obtain rfl : w1 = w' := hw'.symm
      clear hw' HPL
      generalize hpp : placeP (opsOf l) E lab x = pl at *
      clear hpp
      have hb2 := below_alloc w1 (.cells #[.int .i64 pl] 3)
      have HA2 := Lib.hid (own_below O1.out hb2)
      have HC2 := Lib.hid (below_next B1.out hb2)
      have hs2 := HC2.out.size
      clear hb2
      go_wp2_with (at_builtin; refine wpList_append_kept _ rfl _ _ 24 rfl W.heap.size 3 i0 (.int .i64 0) 1 8 Tryd.underlying24 hi hz0 hz1 hz2 rfl (by decide) _ 1 (ints ([(n : Int) + 1] : List Int)) rfl HA2.out ⟨w1.heap.size, 0, none⟩ 1 1 [.int .i64 pl] rfl rfl (cell_one_new _ _ _) (by simp [Value.oneCell']) (by unfold maxLen; omega) (by omega) hs2 ?_)
      intro v2 w2 ho hkk hn'
      have O2 : Hid (OwnI W.heap.size 3 w2 v2 ([(n : Int) + 1, pl] : List Int)) := Lib.hid (by simpa [OwnI, ints] using ho)
      have B2 := Lib.hid (HC2.out.grown hkk.grown hs2 fun j hj => (HA2.out.lt j hj).1)
      obtain ⟨sg2, sc2, rfl, _, _, _⟩ := stk_form O2.out
      clear ho hkk hn' hs2 HA2 HC2
      go_wp2_with fail
      go_meet
      have e := HSe.out
      subst e
      exact ⟨_, _, rfl, O2, B2⟩
    by_cases o9 : op = 9
    · subst o9
      have HSe : Hid (S = xl.map (placeP (opsOf l) E lab)) := Lib.hid (by rw [← HS.out, some_9 HOP.out])
      have O0 : Hid (OwnI W.heap.size 3 W (.slice none 0 0) []) := Lib.hid (World.ownsRow_nil _ _ _ _)
      have B0 : Hid (Below W.heap.size W W) := Lib.hid (Below.refl _ _)
      rw [show ((9 : Nat) : Int) = 9 from rfl]
      go_wp2_with fail
      clear y0 y1 y2
      go_loopw [13, 14] (fun s i wx => ∃ k c a, k ≤ xl.length ∧ i = .int .i64 k ∧ s = .slice a k c ∧ Hid (OwnI W.heap.size 3 wx s ((xl.take k).map (placeP (opsOf l) E lab))) ∧ Hid (Below W.heap.size W wx)) (fun _ i _ => xl.length - (intOf i).toNat)
      case atStart => exact ⟨0, 0, none, by omega, rfl, rfl, O0, B0⟩
      case round =>
        obtain ⟨k, sc, sa, hk, rfl, rfl, HO, HB⟩ := hrel
        have z2 := row_cell ((HB.out.block _ (row_lt HRX.out)).trans HRX.out) 2 rfl
        simp only [List.getElem_toArray, List.getElem_cons_zero, List.getElem_cons_succ] at z2
        by_cases hlt : k < xl.length
        · obtain ⟨_, _, e, _, _, hxe⟩ := HXW.out.bel HB.out
          simp only [Value.slice.injEq] at e
          obtain ⟨rfl, _, rfl⟩ := e
          obtain ⟨xb, xo, rfl, _, hcx⟩ := hxe k hlt
          have HQ : Hid (((xl.take k).map (placeP (opsOf l) E lab)) ++ [placeP (opsOf l) E lab xl[k]] = (xl.take (k + 1)).map (placeP (opsOf l) E lab)) := Lib.hid (by
            rw [List.take_add_one, List.getElem?_eq_getElem hlt, List.map_append]; rfl)
          have hpl := ref09_place wr _ _ _ _ _ l E lab xl[k] (Cd.bel HCW.out HB.out) hl (HEW.out.bel HB.out) (HLW.out.bel HB.out) hlE.out HLr.out HEr.out
          have HPL := Lib.hid hpl
          clear hxe hpl
          generalize xl[k] = y at *
          go_wp2_with fail
          refine HPL.out.mono ?_
          rintro e w' ⟨rfl, hw'⟩
          obtain rfl : wr = w' := hw'.symm
          clear hw' HPL z2
          generalize placeP (opsOf l) E lab y = pl at *
          have hb1 := below_alloc wr (.cells #[.int .i64 pl] 3)
          have hl1 : ((xl.take k).map (placeP (opsOf l) E lab)).length = k := by rw [List.length_map, List.length_take]; omega
          have ho1 := own_below HO.out hb1
          rw [hl1] at ho1
          have HA1 := Lib.hid ho1
          have HC1 := Lib.hid (below_next HB.out hb1)
          have hs1 := HC1.out.size
          have HL1 := Lib.hid hl1
          clear hb1 ho1 hl1
          go_wp2_with (at_builtin; refine wpList_append_kept _ rfl _ _ 24 rfl W.heap.size 3 i0 (.int .i64 0) 1 8 Tryd.underlying24 hi hz0 hz1 hz2 rfl (by decide) _ k (ints ((xl.take k).map (placeP (opsOf l) E lab))) rfl HA1.out ⟨wr.heap.size, 0, none⟩ 1 1 [.int .i64 pl] rfl rfl (cell_one_new _ _ _) (by simp [Value.oneCell']) (by unfold maxLen; omega) (by omega) hs1 ?_)
          intro v1 w1 ho hkk hn'
          have O1 : Hid (OwnI W.heap.size 3 w1 v1 ((xl.take (k + 1)).map (placeP (opsOf l) E lab))) := Lib.hid (by rw [← HQ.out]; unfold OwnI; rw [List.length_append, HL1.out]; simpa [ints] using ho)
          have B1 := Lib.hid (HC1.out.grown hkk.grown hs1 fun j hj => (HA1.out.lt j hj).1)
          obtain ⟨sa1, sc1, rfl, _⟩ := own_slice ho
          clear ho hkk hn' hs1 HA1 HC1
          go_wp2
          go_roundw
          case rel => exact ⟨k + 1, _, _, by omega, by go_num, rfl, O1, B1⟩
          case measure => simp [intOf]; omega
        · obtain rfl : k = xl.length := by omega
          have O1 := HO.out
          rw [List.take_length] at O1
          have O1 := Lib.hid O1
          go_wp2_with fail
          go_meet
          have e := HSe.out
          subst e
          exact ⟨sc, sa, by rw [List.length_map], O1, HB⟩
    by_cases o4 : op = 4
    · subst o4
      have O0 : Hid (OwnI W.heap.size 3 W (.slice none 0 0) []) := Lib.hid (World.ownsRow_nil _ _ _ _)
      have B0 : Hid (Below W.heap.size W W) := Lib.hid (Below.refl _ _)
      have hnE : n < E.length := by rw [hlE.out]; exact hn
      have hgE : Hid (E.getD n (-1) = E[n]) := Lib.hid (by rw [List.getD_eq_getElem?_getD, List.getElem?_eq_getElem hnE]; rfl)
      have hy := HEr.out E[n] (List.getElem_mem hnE)
      have hnL : n < L.length := by rw [hlL.out]; exact hn
      have hgL : Hid (L.getD n (-1) = L[n]) := Lib.hid (by rw [List.getD_eq_getElem?_getD, List.getElem?_eq_getElem hnL]; rfl)
      have hzr := HK.out.els n L[n] (List.getElem?_eq_getElem hnL)
      rw [HLO.out] at hzr
      have hw1 : IntKind.i64.wrap ((n : Int) + 1) = (n : Int) + 1 := IntWalk.i64_in _ ⟨by omega, by omega⟩
      by_cases hz : 0 ≤ L[n]
      · have HSe : Hid (S = [(n : Int) + 1, L[n] + 1]) := Lib.hid (by rw [← HS.out, some_4 HOP.out, hgL.out, hgE.out, if_pos hz])
        obtain ⟨z, hzz⟩ : ∃ z, L[n] = z := ⟨_, rfl⟩
        obtain ⟨y, hyy⟩ : ∃ y, E[n] = y := ⟨_, rfl⟩
        have HLz := Lib.hid hzz
        have HEy := Lib.hid hyy
        rw [hzz] at hz hzr HSe
        rw [hyy] at hy
        clear hzz hyy hgE hgL
        have hb1 := below_alloc W (.cells #[.int .i64 ((n : Int) + 1)] 3)
        have HA1 := Lib.hid (own_below O0.out hb1)
        have HC1 := Lib.hid (below_next B0.out hb1)
        have hs1 := HC1.out.size
        clear hb1
        go_wp2_with (at_builtin; refine wpList_append_kept _ rfl _ _ 24 rfl W.heap.size 3 i0 (.int .i64 0) 1 8 Tryd.underlying24 hi hz0 hz1 hz2 rfl (by decide) _ 0 (ints ([] : List Int)) rfl HA1.out ⟨W.heap.size, 0, none⟩ 1 1 [.int .i64 ((n : Int) + 1)] rfl rfl (cell_one_new _ _ _) (by simp [Value.oneCell']) (by unfold maxLen; omega) (by omega) hs1 ?_)
        intro v1 w1 ho hkk hn'
        have O1 : Hid (OwnI W.heap.size 3 w1 v1 ([((n : Int) + 1)] : List Int)) := Lib.hid (by simpa [OwnI, ints] using ho)
        have B1 := Lib.hid (HC1.out.grown hkk.grown hs1 fun j hj => (HA1.out.lt j hj).1)
        obtain ⟨sg1, sc1, rfl, _, _, _⟩ := stk_form O1.out
        clear ho hkk hn' hs1 HA1 HC1
        obtain ⟨_, _, e, _, _, hq⟩ := HElW.out.bel B1.out
        simp only [Value.slice.injEq] at e
        obtain ⟨rfl, _, rfl⟩ := e
        obtain ⟨qb, qo, rfl, _, hcq⟩ := hq n hnL
        clear hq
        obtain ⟨_, _, e, _, _, hq⟩ := HEW.out.bel B1.out
        simp only [Value.slice.injEq] at e
        obtain ⟨rfl, _, rfl⟩ := e
        obtain ⟨pb, po, rfl, _, hcp⟩ := hq n hnE
        clear hq
        rw [HLz.out] at hcq
        rw [HEy.out] at hcp
        have hb2 := below_alloc w1 (.cells #[.int .i64 (z + 1)] 3)
        have HA2 := Lib.hid (own_below O1.out hb2)
        have HC2 := Lib.hid (below_next B1.out hb2)
        have hs2 := HC2.out.size
        clear hb2
        go_wp2_with (at_builtin; refine wpList_append_kept _ rfl _ _ 24 rfl W.heap.size 3 i0 (.int .i64 0) 1 8 Tryd.underlying24 hi hz0 hz1 hz2 rfl (by decide) _ 1 (ints ([(n : Int) + 1] : List Int)) rfl HA2.out ⟨w1.heap.size, 0, none⟩ 1 1 [.int .i64 (z + 1)] rfl rfl (cell_one_new _ _ _) (by simp [Value.oneCell']) (by unfold maxLen; omega) (by omega) hs2 ?_)
        intro v2 w2 ho hkk hn'
        have O2 : Hid (OwnI W.heap.size 3 w2 v2 ([(n : Int) + 1, (z + 1)] : List Int)) := Lib.hid (by simpa [OwnI, ints] using ho)
        have B2 := Lib.hid (HC2.out.grown hkk.grown hs2 fun j hj => (HA2.out.lt j hj).1)
        obtain ⟨sg2, sc2, rfl, _, _, _⟩ := stk_form O2.out
        clear ho hkk hn' hs2 HA2 HC2
        go_wp2_with fail
        go_meet
        have e := HSe.out
        subst e
        exact ⟨_, _, rfl, O2, B2⟩
      · have HSe : Hid (S = [(n : Int) + 1, E[n]]) := Lib.hid (by rw [← HS.out, some_4 HOP.out, hgL.out, hgE.out, if_neg hz])
        obtain ⟨z, hzz⟩ : ∃ z, L[n] = z := ⟨_, rfl⟩
        obtain ⟨y, hyy⟩ : ∃ y, E[n] = y := ⟨_, rfl⟩
        have HLz := Lib.hid hzz
        have HEy := Lib.hid hyy
        rw [hzz] at hz hzr
        rw [hyy] at hy HSe
        clear hzz hyy hgE hgL
        have hb1 := below_alloc W (.cells #[.int .i64 ((n : Int) + 1)] 3)
        have HA1 := Lib.hid (own_below O0.out hb1)
        have HC1 := Lib.hid (below_next B0.out hb1)
        have hs1 := HC1.out.size
        clear hb1
        go_wp2_with (at_builtin; refine wpList_append_kept _ rfl _ _ 24 rfl W.heap.size 3 i0 (.int .i64 0) 1 8 Tryd.underlying24 hi hz0 hz1 hz2 rfl (by decide) _ 0 (ints ([] : List Int)) rfl HA1.out ⟨W.heap.size, 0, none⟩ 1 1 [.int .i64 ((n : Int) + 1)] rfl rfl (cell_one_new _ _ _) (by simp [Value.oneCell']) (by unfold maxLen; omega) (by omega) hs1 ?_)
        intro v1 w1 ho hkk hn'
        have O1 : Hid (OwnI W.heap.size 3 w1 v1 ([((n : Int) + 1)] : List Int)) := Lib.hid (by simpa [OwnI, ints] using ho)
        have B1 := Lib.hid (HC1.out.grown hkk.grown hs1 fun j hj => (HA1.out.lt j hj).1)
        obtain ⟨sg1, sc1, rfl, _, _, _⟩ := stk_form O1.out
        clear ho hkk hn' hs1 HA1 HC1
        obtain ⟨_, _, e, _, _, hq⟩ := HElW.out.bel B1.out
        simp only [Value.slice.injEq] at e
        obtain ⟨rfl, _, rfl⟩ := e
        obtain ⟨qb, qo, rfl, _, hcq⟩ := hq n hnL
        clear hq
        obtain ⟨_, _, e, _, _, hq⟩ := HEW.out.bel B1.out
        simp only [Value.slice.injEq] at e
        obtain ⟨rfl, _, rfl⟩ := e
        obtain ⟨pb, po, rfl, _, hcp⟩ := hq n hnE
        clear hq
        rw [HLz.out] at hcq
        rw [HEy.out] at hcp
        have hb2 := below_alloc w1 (.cells #[.int .i64 y] 3)
        have HA2 := Lib.hid (own_below O1.out hb2)
        have HC2 := Lib.hid (below_next B1.out hb2)
        have hs2 := HC2.out.size
        clear hb2
        go_wp2_with (at_builtin; refine wpList_append_kept _ rfl _ _ 24 rfl W.heap.size 3 i0 (.int .i64 0) 1 8 Tryd.underlying24 hi hz0 hz1 hz2 rfl (by decide) _ 1 (ints ([(n : Int) + 1] : List Int)) rfl HA2.out ⟨w1.heap.size, 0, none⟩ 1 1 [.int .i64 y] rfl rfl (cell_one_new _ _ _) (by simp [Value.oneCell']) (by unfold maxLen; omega) (by omega) hs2 ?_)
        intro v2 w2 ho hkk hn'
        have O2 : Hid (OwnI W.heap.size 3 w2 v2 ([(n : Int) + 1, y] : List Int)) := Lib.hid (by simpa [OwnI, ints] using ho)
        have B2 := Lib.hid (HC2.out.grown hkk.grown hs2 fun j hj => (HA2.out.lt j hj).1)
        obtain ⟨sg2, sc2, rfl, _, _, _⟩ := stk_form O2.out
        clear ho hkk hn' hs2 HA2 HC2
        go_wp2_with fail
        go_meet
        have e := HSe.out
        subst e
        exact ⟨_, _, rfl, O2, B2⟩
    have O0 : Hid (OwnI W.heap.size 3 W (.slice none 0 0) []) := Lib.hid (World.ownsRow_nil _ _ _ _)
    have B0 : Hid (Below W.heap.size W W) := Lib.hid (Below.refl _ _)
    have HSe : Hid (S = [(n : Int) + 1]) := Lib.hid (by rw [← HS.out, some_x (by rw [HOP.out]; exact o0) (by rw [HOP.out]; exact o4) (by rw [HOP.out]; exact o5) (by rw [HOP.out]; exact o7) (by rw [HOP.out]; exact o8) (by rw [HOP.out]; exact o9) (by rw [HOP.out]; exact o10)])
    have hb0' : ((op : Int) == 0) = false := by simp; omega
    have hb4' : ((op : Int) == 4) = false := by simp; omega
    have hb5' : ((op : Int) == 5) = false := by simp; omega
    have hb7' : ((op : Int) == 7) = false := by simp; omega
    have hb8' : ((op : Int) == 8) = false := by simp; omega
    have hb9' : ((op : Int) == 9) = false := by simp; omega
    have hb10' : ((op : Int) == 10) = false := by simp; omega
    clear o0 o4 o5 o7 o8 o9 o10
    have hb1 := below_alloc W (.cells #[.int .i64 ((n : Int) + 1)] 3)
    have HA1 := Lib.hid (own_below O0.out hb1)
    have HC1 := Lib.hid (below_next B0.out hb1)
    have hs1 := HC1.out.size
    clear hb1
    go_wp2_with (at_builtin; refine wpList_append_kept _ rfl _ _ 24 rfl W.heap.size 3 i0 (.int .i64 0) 1 8 Tryd.underlying24 hi hz0 hz1 hz2 rfl (by decide) _ 0 (ints ([] : List Int)) rfl HA1.out ⟨W.heap.size, 0, none⟩ 1 1 [.int .i64 ((n : Int) + 1)] rfl rfl (cell_one_new _ _ _) (by simp [Value.oneCell']) (by unfold maxLen; omega) (by omega) hs1 ?_)
    intro v1 w1 ho hkk hn'
    have O1 : Hid (OwnI W.heap.size 3 w1 v1 ([((n : Int) + 1)] : List Int)) := Lib.hid (by simpa [OwnI, ints] using ho)
    have B1 := Lib.hid (HC1.out.grown hkk.grown hs1 fun j hj => (HA1.out.lt j hj).1)
    obtain ⟨sg1, sc1, rfl, _, _, _⟩ := stk_form O1.out
    clear ho hkk hn' hs1 HA1 HC1
    go_wp2_with fail
    go_meet
    have e := HSe.out
    subst e
    exact ⟨_, _, rfl, O1, B1⟩
end Go.Proofs.YtiaoonlhgjfdjaaDoor
