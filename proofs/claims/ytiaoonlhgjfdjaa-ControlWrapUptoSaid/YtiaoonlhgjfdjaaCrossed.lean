/- flagonlaw09.crossed, around: of a code that is taken. -/
import Derived.Test.YtiaoonlhgjfdjaaLabelsC
import Derived.Test.YtiaoonlhgjfdjaaBrak2
import Derived.Test.YtiaoonlhgjfdjaaSizeC
namespace Go.Proofs.Ytiaoonlhgjfdjaa
open Go Go.RowKit

set_option maxRecDepth 100000 in
theorem ref09_OpensB (w : World) (op : Nat) : Calls Try.prog 9 #[.int .u8 op] w fun e w' => e = .returned (.bool (decide (opensP op))) ∧ w' = w := by
  by_cases h : op = 2 ∨ op = 3 ∨ op = 4
  · rw [decide_eq_true (show opensP op from h)]
    rcases h with rfl | rfl | rfl
    all_goals
      go_enter Try.func9, Try.ntmps9
      go_wp2
      go_ret
      exact ⟨rfl, rfl⟩
  · rw [decide_eq_false (show ¬ opensP op from h)]
    have hb2 : ((op : Int) == 2) = false := by simp; omega
    have hb3 : ((op : Int) == 3) = false := by simp; omega
    have hb4 : ((op : Int) == 4) = false := by simp; omega
    clear h
    go_enter Try.func9, Try.ntmps9
    go_wp2
    go_ret
    exact ⟨rfl, rfl⟩
/-- The code and two of the lists that are told, as they are read. -/
structure Rd2 (w : World) (v ve vl : Value) (l : List InsD) (E L : List Int) : Prop where
  cd : Cd w v l
  e : RdI .i64 (· < w.heap.size) w ve E
  l : RdI .i64 (· < w.heap.size) w vl L
theorem Rd2.bel {w w' : World} {v ve vl : Value} {l : List InsD} {E L : List Int} (h : Rd2 w v ve vl l E L) (hb : Below w.heap.size w w') : Rd2 w' v ve vl l E L := ⟨Cd.bel h.cd hb, h.e.bel hb, h.l.bel hb⟩
theorem rd_cell {w : World} {a : Option Addr} {n c : Nat} {E : List Int} (h : RdI .i64 (· < w.heap.size) w (.slice a n c) E) {j : Nat} (hj : j < E.length) : ∃ b off, a = some ⟨b, off, none⟩ ∧ w.cell? ⟨b, off + j, none⟩ = some (.int .i64 (gI E j)) := by
  obtain ⟨a', c', e, _, _, he⟩ := h
  simp only [Value.slice.injEq] at e
  obtain ⟨rfl, _, rfl⟩ := e
  obtain ⟨b, off, rfl, _, hc⟩ := he j hj
  refine ⟨b, off, rfl, ?_⟩
  rw [hc, gI, List.getD_eq_getElem?_getD, List.getElem?_eq_getElem hj]; rfl
set_option maxRecDepth 100000 in
set_option maxHeartbeats 6400000 in
theorem law_crossed (w : World) (v ve vl : Value) (l : List InsD) (E L O : List Int) (i : Nat) (hr : Rd2 w v ve vl l E L) (hm : MapBr (opsOf l) E L O) (hk : MapOk (opsOf l) E L O) (hE : E.length = l.length) (hL : L.length = l.length) (hl : l.length ≤ 1048576) (hi : i < l.length) (ho : opensP l[i].op ∨ l[i].op = 5) :
    Calls Try.prog 10 #[v, ve, vl, .int .i64 i] w fun e w' => e = .returned (.bool false) ∧ Below w.heap.size w w' := by
  have HR := Lib.hid hr
  have HM := Lib.hid hm
  obtain ⟨va, vc, rfl, _⟩ := hr.cd.len
  obtain ⟨ea, ec, rfl, _⟩ := hr.e.lenc
  obtain ⟨la, lc, rfl, _⟩ := hr.l.lenc
  have hat : ∀ j (h : j < l.length), (opsOf l).getD j 0 = l[j].op := fun j h => opsOf_at h
  have hlen : (opsOf l).length = l.length := opsOf_len l
  have hend : ∃ e : Nat, gI E i = e ∧ i < e ∧ e < l.length - 1 ∧ (opsOf l).getD e 0 = 6 := by
    rw [← hlen]
    rcases ho with ho | ho
    · exact hm.closed i (by omega) (by rw [hat i hi]; exact ho)
    · exact (hm.els5 i (by omega) (by rw [hat i hi]; exact ho)).2
  obtain ⟨e, he1, he2, he3, he4⟩ := hend
  have hel : e < l.length := by omega
  rw [hat e hel] at he4
  obtain ⟨eb, eo, rfl, hce⟩ := rd_cell hr.e (j := i) (by omega)
  rw [he1] at hce
  obtain ⟨b, off, xv, rfl, z0, -, -, -⟩ := Cd.at_ hr.cd hel
  rw [he4] at z0
  obtain ⟨b', off', xv', e7, y0, -, -, -⟩ := Cd.at_ hr.cd hi
  simp only [Option.some.injEq, Addr.mk.injEq, and_true] at e7
  obtain ⟨rfl, rfl⟩ := e7
  obtain ⟨lb, lo, rfl, hcl⟩ := rd_cell hr.l (j := i) (by omega)
  have hlow := hk.elsD i
  have hopi := hat i hi
  obtain ⟨op, hop⟩ : ∃ op, l[i].op = op := ⟨_, rfl⟩
  have HOP := Lib.hid (hopi.trans hop)
  rw [hop] at y0 ho
  have HEi := Lib.hid he1
  have HAT := Lib.hid hat
  have HL0 := Lib.hid hlen
  clear hr hm hk hat hlen hopi hop he1 he4
  go_enter Try.func10, Try.ntmps10
  go_upto_region 3 with fail
  have hthree : ∀ K : Prop, (0 ≤ gI L i → K) → (gI L i = -1 → K) → K := fun K h1 h2 => by
    by_cases h : 0 ≤ gI L i
    · exact h1 h
    · exact h2 (by unfold gI at *; omega)
  have HLO := Lib.hid hlow
  clear hlow hthree
  by_cases hz : 0 ≤ gI L i
  · obtain ⟨h4, j, g1, g2, g3, g4, g5⟩ := HM.out.els i hz
    rw [HOP.out] at h4
    subst h4
    rw [g1] at hcl
    rw [HEi.out] at g4 g5
    have hjl : j < l.length := by omega
    rw [HAT.out j hjl] at g3
    obtain ⟨eb', eo', e7, hcj⟩ := rd_cell HR.out.e (j := j) (by omega)
    simp only [Option.some.injEq, Addr.mk.injEq, and_true] at e7
    obtain ⟨rfl, rfl⟩ := e7
    rw [g4] at hcj
    obtain ⟨b', off', xv', e7, x0, -, -, -⟩ := Cd.at_ HR.out.cd hjl
    simp only [Option.some.injEq, Addr.mk.injEq, and_true] at e7
    obtain ⟨rfl, rfl⟩ := e7
    rw [g3] at x0
    have hbj : ((j : Int) != -1) = true := by simp
    have hd1 : decide ((j : Int) ≤ i) = false := decide_eq_false (by omega)
    have hd2 : decide ((e : Int) ≤ j) = false := decide_eq_false (by omega)
    have hd3 : decide (j ≤ i) = false := decide_eq_false (by omega)
    have hd4 : decide (e ≤ j) = false := decide_eq_false (by omega)
    clear g1 g3 g4 hz
    go_quiet (fail)
    go_wp2
    go_loopw [9] (fun i9 wr => ∃ k : Nat, i + 1 ≤ k ∧ k ≤ e ∧ i9 = .int .i64 k ∧ Hid (Below w.heap.size w wr)) (fun i9 _ => e - (intOf i9).toNat)
    case atStart => exact ⟨i + 1, by omega, by omega, by go_num, Lib.hid (drewN_below w nq)⟩
    case round =>
      obtain ⟨k, hk1, hk2, rfl, HB⟩ := hrel
      obtain ⟨eb', eo', e7, hce'⟩ := rd_cell (HR.out.bel HB.out).e (j := i) (by omega)
      simp only [Option.some.injEq, Addr.mk.injEq, and_true] at e7
      obtain ⟨rfl, rfl⟩ := e7
      rw [HEi.out] at hce'
      by_cases hlt : k < e
      · have hkl : k < l.length := by omega
        obtain ⟨eb', eo', e7, hck⟩ := rd_cell (HR.out.bel HB.out).e (j := k) (by omega)
        simp only [Option.some.injEq, Addr.mk.injEq, and_true] at e7
        obtain ⟨rfl, rfl⟩ := e7
        obtain ⟨b', off', xv', e7, y1, -, -, -⟩ := Cd.at_ (HR.out.bel HB.out).cd hi
        simp only [Option.some.injEq, Addr.mk.injEq, and_true] at e7
        obtain ⟨rfl, rfl⟩ := e7
        obtain ⟨b', off', xv', e7, y2, -, -, -⟩ := Cd.at_ (HR.out.bel HB.out).cd hkl
        simp only [Option.some.injEq, Addr.mk.injEq, and_true] at e7
        obtain ⟨rfl, rfl⟩ := e7
        have hoi := HOP.out
        rw [HAT.out i hi] at hoi
        rw [hoi] at y1
        have hok := HAT.out k hkl
        obtain ⟨opk, hopk⟩ : ∃ opk, l[k].op = opk := ⟨_, rfl⟩
        rw [hopk] at y2 hok
        have HOK := Lib.hid hok
        have HO1 := Lib.hid (fun w' => ref09_OpensB w' 4)
        have HO2 := Lib.hid (fun w' => ref09_OpensB w' opk)
        have hz3 : opensP 4 → opensP opk → gI E k < e := fun h1 h2 => by
          have := HM.out.nest i k (by omega) (by rw [HL0.out]; omega) (by rw [HOP.out]; exact h1) (by rw [HOK.out]; exact h2) (by rw [HEi.out]; omega)
          rw [HEi.out] at this
          exact this
        clear hoi hok hopk
        generalize gI E k = z at *
        by_cases h1 : opensP 4
        · rw [decide_eq_true h1] at HO1
          by_cases h2 : opensP opk
          · rw [decide_eq_true h2] at HO2
            have hd := hz3 h1 h2
            have hd5 : decide ((e : Int) ≤ z) = false := decide_eq_false (by omega)
            clear hz3
            go_upto_region 8 with fail
            go_quiet (first | (go_at_call 9; with_reducible exact Calls.quiet_of_same (HO1.out _)) | (go_at_call 9; with_reducible exact Calls.quiet_of_same (HO2.out _)))
            go_wp2
            go_roundw
            case rel => exact ⟨k + 1, by omega, by omega, by go_num, Lib.hid (below_next HB.out (drewN_below _ _))⟩
            case measure => simp [intOf]; omega
          · rw [decide_eq_false h2] at HO2
            clear hz3
            go_upto_region 8 with fail
            go_quiet (first | (go_at_call 9; with_reducible exact Calls.quiet_of_same (HO1.out _)) | (go_at_call 9; with_reducible exact Calls.quiet_of_same (HO2.out _)))
            go_wp2
            go_roundw
            case rel => exact ⟨k + 1, by omega, by omega, by go_num, Lib.hid (below_next HB.out (drewN_below _ _))⟩
            case measure => simp [intOf]; omega
        · rw [decide_eq_false h1] at HO1
          clear hz3
          go_upto_region 8 with fail
          go_quiet (first | (go_at_call 9; with_reducible exact Calls.quiet_of_same (HO1.out _)) | (go_at_call 9; with_reducible exact Calls.quiet_of_same (HO2.out _)))
          go_wp2
          go_roundw
          case rel => exact ⟨k + 1, by omega, by omega, by go_num, Lib.hid (below_next HB.out (drewN_below _ _))⟩
          case measure => simp [intOf]; omega
      · obtain rfl : k = e := by omega
        go_wp2
        go_ret
        exact ⟨rfl, HB.out⟩
  · have hl1 : gI L i = -1 := by have := HLO.out; unfold gI at *; omega
    rw [hl1] at hcl
    clear hz hl1
    go_quiet (fail)
    go_wp2
    go_loopw [9] (fun i9 wr => ∃ k : Nat, i + 1 ≤ k ∧ k ≤ e ∧ i9 = .int .i64 k ∧ Hid (Below w.heap.size w wr)) (fun i9 _ => e - (intOf i9).toNat)
    case atStart => exact ⟨i + 1, by omega, by omega, by go_num, Lib.hid (drewN_below w nq)⟩
    case round =>
      obtain ⟨k, hk1, hk2, rfl, HB⟩ := hrel
      obtain ⟨eb', eo', e7, hce'⟩ := rd_cell (HR.out.bel HB.out).e (j := i) (by omega)
      simp only [Option.some.injEq, Addr.mk.injEq, and_true] at e7
      obtain ⟨rfl, rfl⟩ := e7
      rw [HEi.out] at hce'
      by_cases hlt : k < e
      · have hkl : k < l.length := by omega
        obtain ⟨eb', eo', e7, hck⟩ := rd_cell (HR.out.bel HB.out).e (j := k) (by omega)
        simp only [Option.some.injEq, Addr.mk.injEq, and_true] at e7
        obtain ⟨rfl, rfl⟩ := e7
        obtain ⟨b', off', xv', e7, y1, -, -, -⟩ := Cd.at_ (HR.out.bel HB.out).cd hi
        simp only [Option.some.injEq, Addr.mk.injEq, and_true] at e7
        obtain ⟨rfl, rfl⟩ := e7
        obtain ⟨b', off', xv', e7, y2, -, -, -⟩ := Cd.at_ (HR.out.bel HB.out).cd hkl
        simp only [Option.some.injEq, Addr.mk.injEq, and_true] at e7
        obtain ⟨rfl, rfl⟩ := e7
        have hoi := HOP.out
        rw [HAT.out i hi] at hoi
        rw [hoi] at y1
        have hok := HAT.out k hkl
        obtain ⟨opk, hopk⟩ : ∃ opk, l[k].op = opk := ⟨_, rfl⟩
        rw [hopk] at y2 hok
        have HOK := Lib.hid hok
        have HO1 := Lib.hid (fun w' => ref09_OpensB w' op)
        have HO2 := Lib.hid (fun w' => ref09_OpensB w' opk)
        have hz3 : opensP op → opensP opk → gI E k < e := fun h1 h2 => by
          have := HM.out.nest i k (by omega) (by rw [HL0.out]; omega) (by rw [HOP.out]; exact h1) (by rw [HOK.out]; exact h2) (by rw [HEi.out]; omega)
          rw [HEi.out] at this
          exact this
        clear hoi hok hopk
        generalize gI E k = z at *
        by_cases h1 : opensP op
        · rw [decide_eq_true h1] at HO1
          by_cases h2 : opensP opk
          · rw [decide_eq_true h2] at HO2
            have hd := hz3 h1 h2
            have hd5 : decide ((e : Int) ≤ z) = false := decide_eq_false (by omega)
            clear hz3
            go_upto_region 8 with fail
            go_quiet (first | (go_at_call 9; with_reducible exact Calls.quiet_of_same (HO1.out _)) | (go_at_call 9; with_reducible exact Calls.quiet_of_same (HO2.out _)))
            go_wp2
            go_roundw
            case rel => exact ⟨k + 1, by omega, by omega, by go_num, Lib.hid (below_next HB.out (drewN_below _ _))⟩
            case measure => simp [intOf]; omega
          · rw [decide_eq_false h2] at HO2
            clear hz3
            go_upto_region 8 with fail
            go_quiet (first | (go_at_call 9; with_reducible exact Calls.quiet_of_same (HO1.out _)) | (go_at_call 9; with_reducible exact Calls.quiet_of_same (HO2.out _)))
            go_wp2
            go_roundw
            case rel => exact ⟨k + 1, by omega, by omega, by go_num, Lib.hid (below_next HB.out (drewN_below _ _))⟩
            case measure => simp [intOf]; omega
        · rw [decide_eq_false h1] at HO1
          clear hz3
          go_upto_region 8 with fail
          go_quiet (first | (go_at_call 9; with_reducible exact Calls.quiet_of_same (HO1.out _)) | (go_at_call 9; with_reducible exact Calls.quiet_of_same (HO2.out _)))
          go_wp2
          go_roundw
          case rel => exact ⟨k + 1, by omega, by omega, by go_num, Lib.hid (below_next HB.out (drewN_below _ _))⟩
          case measure => simp [intOf]; omega
      · obtain rfl : k = e := by omega
        go_wp2
        go_ret
        exact ⟨rfl, HB.out⟩
end Go.Proofs.Ytiaoonlhgjfdjaa
