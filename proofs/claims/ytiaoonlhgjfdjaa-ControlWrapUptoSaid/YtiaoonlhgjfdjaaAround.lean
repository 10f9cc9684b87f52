/- flagonlaw09.around: of a code that is taken. -/
import Derived.Test.YtiaoonlhgjfdjaaChain
import Derived.Test.YtiaoonlhgjfdjaaCrossed
import Derived.Test.YtiaoonlhgjfdjaaNextC
namespace Go.Proofs.Ytiaoonlhgjfdjaa
open Go Go.RowKit

theorem nextsP_rise {ops : List Nat} {n m : Nat} {a : Int} {xl : List Int} (h : (mapP ops).2.2.2.1 = 0) (hm : ops.length = m) (hn : n < m) :
    ∃ some, nextsP ops n a xl = rise m some := by
  subst hm
  exact ⟨_, by rw [nextsP, if_neg (by omega)]⟩
theorem Own2.rd_cell {w : World} {B T : Nat} {a : Option Addr} {n c : Nat} {l : List Int} (h : Own2 w B T 1 (.slice a n c) l.length (ints l)) {k : Nat} (hk : k < l.length) : ∃ g, a = some ⟨g, 0, none⟩ ∧ w.cell? ⟨g, k, none⟩ = some (.int .i64 l[k]) := by
  obtain ⟨a', c', e, _, hg⟩ := h.slice
  simp only [Value.slice.injEq] at e
  obtain ⟨rfl, _, rfl⟩ := e
  obtain ⟨g, rfl⟩ := hg (by omega)
  exact ⟨g, rfl, h.at_ rfl (by simp [hk])⟩
set_option maxRecDepth 100000 in
set_option maxHeartbeats 6400000 in
theorem law_around (w : World) (v ve vo : Value) (l : List InsD) (E L O : List Int) (pc : Nat) (hr : Rd2 w v ve vo l E O) (h0 : (mapP (opsOf l)).2.2.2.1 = 0) (hmo : (mapP (opsOf l)).2.2.1 = O) (hm : MapBr (opsOf l) E L O) (hk : MapOk (opsOf l) E L O)
    (hE : E.length = l.length) (hO : O.length = l.length) (hl : l.length ≤ 1048576) (hll : ∀ j (h : j < l.length), l[j].l.length ≤ 1048576) (hp : pc < l.length) :
    Calls Try.prog 11 #[v, ve, vo, .int .i64 pc] w fun e w' => e = .returned (.bool true) ∧ Below w.heap.size w w' := by
  have HR := Lib.hid hr
  have HM := Lib.hid hm
  have HLO : Hid ((opsOf l).length = l.length) := Lib.hid (opsOf_len l)
  have HOW := Lib.hid hk.own
  have HLL := Lib.hid hll
  obtain ⟨va, vc, rfl, _⟩ := hr.cd.len
  obtain ⟨ea, ec, rfl, _⟩ := hr.e.lenc
  obtain ⟨oa, oc, rfl, _⟩ := hr.l.lenc
  have hLS := labelsP_some h0 (n := pc) (by rw [HLO.out]; exact hp)
  rw [hmo] at hLS
  have hst := LabAt.start hm (pc := pc) (by rw [HLO.out]; exact hp)
  obtain ⟨N, hN⟩ : ∃ N, nextsP (opsOf l) pc (l.getD (pc : Int).toNat insZ).a (l.getD (pc : Int).toNat insZ).l = N := ⟨_, rfl⟩
  have hNr : ∀ k (h : k < N.length), 0 ≤ N[k] ∧ N[k] ≤ l.length ∧ ∀ (_ : 0 < k), N[k - 1] < N[k] := by
    obtain ⟨sm, hs⟩ := nextsP_rise (a := (l.getD (pc : Int).toNat insZ).a) (xl := (l.getD (pc : Int).toNat insZ).l) h0 HLO.out hp
    rw [hN] at hs
    subst hs
    intro k hk
    exact rise_at hk
  have hNl : N.length ≤ 1048577 := by
    have := hN
    rw [nextsP, if_neg (by rw [HLO.out]; omega)] at this
    rw [← this]
    unfold rise
    rw [List.length_map]
    refine Nat.le_trans (List.length_filter_le _ _) ?_
    rw [List.length_range, HLO.out]; omega
  have hlb := (hk.lab (pc := pc) (by rw [HLO.out]; exact hp)).2
  obtain ⟨lab, hlab⟩ : ∃ lab, labP O pc = lab := ⟨_, rfl⟩
  rw [hlab] at hLS hst hlb
  have hlp : 0 < lab.length := by rw [← hlab]; exact labL_pos HOW.out (hm.lab0 (by rw [HLO.out]; exact hp)).lo
  have HLS := Lib.hid hLS; have HST := Lib.hid hst; have HN := Lib.hid hN; have HNR := Lib.hid hNr
  clear hr hm hk hll hLS hst hN hNr h0 hmo hlab
  go_enter Try.func11, Try.ntmps11
  go_wp2_with fail
  refine (control_Labels w _ l pc HR.out.cd hl).mono ?_
  rintro e w1 ⟨vl, rfl, hb1, ho1⟩
  rw [HLS.out] at ho1
  have HB1 := Lib.hid hb1
  have HRL := Lib.hid (ho1.rd (by omega)).any
  obtain ⟨la, lc, rfl, _⟩ := (HRL.out).lenc
  have HR1 : Hid (Rd2 w1 (.slice va l.length vc) (.slice ea E.length ec) (.slice oa O.length oc) l E O) := Lib.hid (HR.out.bel hb1)
  obtain ⟨ob, oo, rfl, hco⟩ := rd_cell HR1.out.l (j := pc) (by omega)
  clear hb1 ho1
  generalize hx : gI O pc = x at *
  have HX := Lib.hid hx
  clear hx
  go_wp2
  clear hco
  have HST2 : Hid (LabAt (opsOf l) E O lab pc 0 x) := HST
  go_loopw [10, 11] (fun a10 k11 wr => ∃ (k : Nat) (a : Int), k ≤ lab.length ∧ k11 = .int .i64 k ∧ a10 = .int .i64 a ∧ Hid (k < lab.length → LabAt (opsOf l) E O lab pc k a) ∧ Hid (Below w1.heap.size w1 wr)) (fun _ k11 _ => lab.length - (intOf k11).toNat)
  case atStart => exact ⟨0, x, by omega, rfl, rfl, Lib.hid fun _ => HST2.out, Lib.hid (Below.refl _ _)⟩
  case round =>
    obtain ⟨k, a, hk, rfl, rfl, HA, HB⟩ := hrel
    clear HST2 HST
    by_cases hlt : k < lab.length
    · have hat := HA.out hlt
      have hh := hat.head HOW.out hlt
      have HRLk := HRL.out.bel HB.out
      obtain ⟨lb, lo, rfl, hcl⟩ := rd_cell HRLk hlt
      have hcl' : gI lab k = a := by rw [← hh, gI, List.getD_eq_getElem?_getD, List.getElem?_eq_getElem hlt]; rfl
      rw [hcl'] at hcl
      have hlo := hat.good.lo; have halt := hat.good.lt
      have HRk := Lib.hid (HR1.out.bel HB.out)
      clear HRLk hh hcl'
      by_cases h0 : 0 ≤ a
      · obtain ⟨t, rfl⟩ : ∃ t : Nat, a = t := ⟨a.toNat, by omega⟩
        have hg := (hat.good.op h0).2
        rw [Int.toNat_natCast] at hg
        obtain ⟨hnx, hk1⟩ := hat.next HM.out HOW.out (by rw [HLO.out]; exact hp) hlt h0
        rw [Int.toNat_natCast] at hnx
        obtain ⟨eb, eo, rfl, hce⟩ := rd_cell HRk.out.e (j := t) (by omega)
        obtain ⟨ob', oo', e7, hco⟩ := rd_cell HRk.out.l (j := t) (by omega)
        simp only [Option.some.injEq, Addr.mk.injEq, and_true] at e7
        obtain ⟨rfl, rfl⟩ := e7
        have HNX := Lib.hid hnx
        clear hat hnx
        have HNX2 : Hid (∃ y, gI O t = y ∧ LabAt (opsOf l) E O lab pc (k + 1) y) := Lib.hid ⟨_, rfl, HNX.out⟩
        obtain ⟨y, hy, hly⟩ := HNX2.out
        have HY := Lib.hid hly
        rw [hy] at hco
        clear hy hly HNX HNX2
        generalize gI E t = z at *
        have hd1 : decide (z < (pc : Int)) = false := decide_eq_false (by omega)
        have hd2 : decide (pc ≤ t) = false := decide_eq_false (by omega)
        have hd3 : ((k : Int) == (lab.length : Int) - 1) = false := by simp; omega
        go_wp2
        go_roundw
        case rel => exact ⟨k + 1, y, by omega, by go_num, rfl, Lib.hid fun _ => HY.out, HB⟩
        case measure => simp [intOf]; omega
      · obtain rfl : a = -1 := by omega
        have hlast := hat.last hlt
        have hd2 : decide ((pc : Int) ≤ -1) = false := decide_eq_false (by omega)
        have hd3 : ((k : Int) == (lab.length : Int) - 1) = true := by simp; omega
        have HLA := Lib.hid hlast
        clear hat hlast
        go_wp2
        go_roundw
        case rel => exact ⟨k + 1, -1, by omega, by go_num, rfl, Lib.hid fun h => by have := HLA.out; omega, HB⟩
        case measure => simp [intOf]; omega
    · have HRk := Lib.hid (HR1.out.bel HB.out)
      go_wp2_with fail
      refine (control_Next wr _ l pc HRk.out.cd hl HLL.out).mono ?_
      rintro e w3 ⟨vn, rfl, hb3, ho3⟩
      rw [HN.out] at ho3
      obtain ⟨na, nc, rfl, _⟩ := ho3.slice
      have HO3 := Lib.hid ho3
      have HB3 := Lib.hid (below_next HB1.out (below_next HB.out hb3))
      clear hb3 ho3
      go_wp2
      go_loopw [13] (fun i13 wy => ∃ j : Nat, j ≤ N.length ∧ i13 = .int .i64 j ∧ Hid (Below w3.heap.size w3 wy)) (fun i13 _ => N.length - (intOf i13).toNat)
      case atStart => exact ⟨0, by omega, rfl, Lib.hid (Below.refl _ _)⟩
      case round =>
        obtain ⟨j, hj, rfl, HBj⟩ := hrel
        by_cases hjl : j < N.length
        · have HOj := HO3.out.below HBj.out
          obtain ⟨g, rfl, hcn⟩ := HOj.rd_cell hjl
          obtain ⟨r1, r2, r3⟩ := HNR.out j hjl
          have hd1 : decide (N[j] < 0) = false := decide_eq_false (by omega)
          have hd2 : decide ((l.length : Int) < N[j]) = false := decide_eq_false (by omega)
          by_cases hj0 : 0 < j
          · obtain ⟨g', e7, hcm⟩ := HOj.rd_cell (k := j - 1) (by omega)
            simp only [Option.some.injEq, Addr.mk.injEq, and_true] at e7
            subst e7
            have hlt' := r3 hj0
            have hd3 : decide (N[j] ≤ N[j - 1]) = false := decide_eq_false (by omega)
            have hgt : decide ((0 : Int) < j) = true := decide_eq_true (by omega)
            have hgt2 : decide (0 < j) = true := decide_eq_true hj0
            have hs1 : 0 ≤ (j : Int) - 1 := by omega
            have hs2 : ((j : Int) - 1).toNat = j - 1 := by omega
            have hs3 : IntKind.i64.wrap ((j : Int) - 1) = (j : Int) - 1 := IntWalk.i64_in _ (by omega)
            clear HOj r1 r2 r3
            generalize N[j] = x at *
            generalize N[j - 1] = y at *
            go_upto_region 14 with fail
            go_quiet (fail)
            clear hs3
            go_wp2
            go_roundw
            case rel => exact ⟨j + 1, by omega, by go_num, Lib.hid (below_next HBj.out (drewN_below _ _))⟩
            case measure => simp [intOf]; omega
          · obtain rfl : j = 0 := by omega
            clear HOj r1 r2 r3
            generalize N[0] = x at *
            go_upto_region 14 with fail
            go_quiet (fail)
            go_wp2
            go_roundw
            case rel => exact ⟨1, by omega, by go_num, Lib.hid (below_next HBj.out (drewN_below _ _))⟩
            case measure => simp [intOf]; omega
        · go_wp2
          go_ret
          exact ⟨ret_bool (by simp), below_next HB3.out HBj.out⟩
end Go.Proofs.Ytiaoonlhgjfdjaa
