/- The law ControlBrackets. -/
import Derived.Test.YtiaoonlhgjfdjaaAround
import Derived.Test.YtiaoonlhgjfdjaaWorks09P
namespace Go.Proofs.Ytiaoonlhgjfdjaa
open Go Go.RowKit

/-- How often each place was told as an end, k instructions on. -/
structure CntOk (ops : List Nat) (E : List Int) (n k : Nat) (cnt : List Int) : Prop where
  len : cnt.length = n
  at_ : ∀ e : Nat, e < n → (gI cnt e = 1 ∧ ∃ j, j < k ∧ opensP (ops.getD j 0) ∧ gI E j = e) ∨ (gI cnt e = 0 ∧ ∀ j, j < k → opensP (ops.getD j 0) → gI E j ≠ e)
section
variable {ops : List Nat} {E L O cnt : List Int} {n k : Nat}
theorem cnt_start : CntOk ops E n 0 (List.replicate n 0) :=
  ⟨by simp, fun e he => .inr ⟨by rw [gI, List.getD_eq_getElem?_getD, List.getElem?_replicate, if_pos he]; rfl, fun j hj => absurd hj (by omega)⟩⟩
theorem CntOk.same (h : CntOk ops E n k cnt) (hno : ¬ opensP (ops.getD k 0)) : CntOk ops E n (k + 1) cnt := by
  refine ⟨h.len, fun e he => ?_⟩
  rcases h.at_ e he with ⟨h1, j, h2, h3⟩ | ⟨h1, h2⟩
  · exact .inl ⟨h1, j, by omega, h3⟩
  · refine .inr ⟨h1, fun j hj ho => ?_⟩
    by_cases e' : j = k
    · subst e'; exact absurd ho hno
    · exact h2 j (by omega) ho
theorem CntOk.step (h : CntOk ops E n k cnt) (m : MapBr ops E L O) (hn : ops.length = n) (hk : k < n) (ho : opensP (ops.getD k 0)) {e : Nat} (he : gI E k = e) (hen : e < n) : gI cnt e = 0 ∧ CntOk ops E n (k + 1) (cnt.set e 1) := by
  have h0 : gI cnt e = 0 ∧ ∀ j, j < k → opensP (ops.getD j 0) → gI E j ≠ e := by
    rcases h.at_ e hen with ⟨h1, j, h2, h3, h4⟩ | h1
    · have := m.one j k (by omega) (by omega) h3 ho (h4.trans he.symm)
      omega
    · exact h1
  refine ⟨h0.1, by rw [List.length_set]; exact h.len, fun e' he' => ?_⟩
  rw [gI_set (by rw [h.len]; exact hen)]
  by_cases ee : e' = e
  · rw [if_pos ee]
    exact .inl ⟨rfl, k, by omega, ho, by rw [he, ee]⟩
  · rw [if_neg ee]
    rcases h.at_ e' he' with ⟨h1, j, h2, h3⟩ | ⟨h1, h2⟩
    · exact .inl ⟨h1, j, by omega, h3⟩
    · refine .inr ⟨h1, fun j hj ho' hje => ?_⟩
      by_cases ej : j = k
      · subst ej; rw [he] at hje; omega
      · exact h2 j (by omega) ho' hje
theorem CntOk.end_ (h : CntOk ops E n n cnt) (m : MapBr ops E L O) (hn : ops.length = n) : (0 < n → gI cnt (n - 1) = 0) ∧ ∀ e, e + 1 < n → ops.getD e 0 = 6 → gI cnt e = 1 := by
  refine ⟨fun h0 => ?_, fun e he h6 => ?_⟩
  · rcases h.at_ (n - 1) (by omega) with ⟨_, j, h2, h3, h4⟩ | h1
    · obtain ⟨e, e1, _, e3, _⟩ := m.closed j (by omega) h3
      omega
    · exact h1.1
  · rcases h.at_ e (by omega) with h1 | ⟨_, h2⟩
    · exact h1.1
    · obtain ⟨j, f1, f2, f3⟩ := m.used e (by omega) h6
      exact absurd f3 (h2 j (by omega) f2)
end
theorem OwnI.rd_cell {B T g n c : Nat} {w : World} {l : List Int} (h : OwnI B T w (.slice (some ⟨g, 0, none⟩) n c) l) {k : Nat} (hk : k < l.length) : w.cell? ⟨g, k, none⟩ = some (.int .i64 (gI l k)) ∧ w.frozen? ⟨g, k, none⟩ = false := by
  obtain ⟨g', c', e, _, _, h1, h2⟩ := h.at_ hk
  simp only [Value.slice.injEq, Option.some.injEq, Addr.mk.injEq, and_true] at e
  obtain ⟨rfl, _⟩ := e
  exact ⟨by rw [h1, gI, List.getD_eq_getElem?_getD, List.getElem?_eq_getElem hk]; rfl, h2⟩
theorem zeros_own (n : Nat) : (madeCells #[Value.int .i64 0] n).toList = ints (List.replicate n 0) := by
  rw [toList_madeCells_one]
  simp [ints]
set_option maxRecDepth 100000 in
set_option maxHeartbeats 12800000 in
theorem law_brackets (w : World) (v : Value) (l : List InsD) (hc : Cd w v l) :
    Calls Try.prog 3 #[v] w fun e w' => e = .returned (.bool true) ∧ Below w.heap.size w w' := by
  obtain ⟨i0, hi, hz0, hz1, hz2⟩ := info_parts Try.infoIntF
  have HC := Lib.hid hc
  have HLO : Hid ((opsOf l).length = l.length) := Lib.hid (opsOf_len l)
  have HAT : Hid (∀ j (h : j < l.length), (opsOf l).getD j 0 = l[j].op) := Lib.hid fun j h => opsOf_at h
  obtain ⟨va, vc, rfl, _⟩ := hc.len
  clear hc
  go_enter Try.func3, Try.ntmps3
  go_wp2_with fail
  refine (law_works09 w).mono ?_
  rintro e w1 ⟨rfl, hb1⟩
  have HB1 := Lib.hid hb1
  have HC1 := Lib.hid (Cd.bel HC.out hb1)
  clear hb1
  go_wp2_with fail
  refine (sizeCode w1 _ l HC1.out).mono ?_
  rintro e w' ⟨m, rfl, hw', hm⟩
  obtain rfl : w1 = w' := hw'.symm
  have HM := Lib.hid hm
  clear hw' hm
  by_cases hbig : 600 < m
  · go_wp2
    go_ret
    exact ⟨rfl, HB1.out⟩
  have hl : l.length ≤ 600 := by have := (HM.out (by omega)).1; omega
  have HLL2 : Hid (∀ j (h : j < l.length), l[j].l.length ≤ 1048576) := Lib.hid (fun j h => by have := (HM.out (by omega)).2 j h; omega)
  clear HM
  have hdm : decide ((600 : Int) < m) = false := decide_eq_false (by omega)
  go_wp2_with fail
  clear hdm
  refine (control_Map w1 _ l HC1.out (by omega)).mono ?_
  rintro e w2 ⟨v1, v2, v3, rfl, hA⟩
  have HBEL := Lib.hid hA.bel
  have HROW := Lib.hid hA.rows
  have HC2 := Lib.hid (Cd.bel HC1.out hA.bel)
  have HB2 := Lib.hid (below_next HB1.out hA.bel)
  obtain ⟨er, her⟩ : ∃ er, (mapP (opsOf l)).2.2.2.1 = er := ⟨_, rfl⟩
  have HER := Lib.hid her
  rw [her]
  generalize (mapP (opsOf l)).2.2.2.2 = q at *
  clear her hA HBEL
  by_cases he : er = 0
  · subst he
    have HK := Lib.hid (mapP_ok HER.out)
    have HMB := Lib.hid (mapP_br HER.out)
    have hlE := HK.out.le; have hlL := HK.out.ll; have hlO := HK.out.lo; have hpos := HMB.out.pos
    rw [HLO.out] at hlE hlL hlO hpos
    obtain ⟨E, hE⟩ : ∃ E, (mapP (opsOf l)).1 = E := ⟨_, rfl⟩
    obtain ⟨L, hL⟩ : ∃ L, (mapP (opsOf l)).2.1 = L := ⟨_, rfl⟩
    obtain ⟨O, hO⟩ : ∃ O, (mapP (opsOf l)).2.2.1 = O := ⟨_, rfl⟩
    rw [hE] at hlE HK HMB HROW; rw [hL] at hlL HK HMB HROW; rw [hO] at hlO HK HMB HROW
    have HO := Lib.hid hO
    have HR : Hid (Rd2 w2 (.slice va l.length vc) v1 v2 l E L) := Lib.hid ⟨HC2.out, (HROW.out.r1.rd (by omega)).any, (HROW.out.r2.rd (by omega)).any⟩
    have HR3 : Hid (Rd2 w2 (.slice va l.length vc) v1 v3 l E O) := Lib.hid ⟨HC2.out, (HROW.out.r1.rd (by omega)).any, (HROW.out.r3.rd (by omega)).any⟩
    obtain ⟨e1, c1, rfl, _⟩ := HR.out.e.lenc
    obtain ⟨e2, c2, rfl, _⟩ := HR.out.l.lenc
    obtain ⟨e3, c3, rfl, _⟩ := HR3.out.l.lenc
    have HlE := Lib.hid hlE; have HlL := Lib.hid hlL; have HlO := Lib.hid hlO
    have hne1 : ((E.length : Int) != l.length) = false := by rw [hlE]; simp
    have hne2 : ((L.length : Int) != l.length) = false := by rw [hlL]; simp
    have hne3 : ((O.length : Int) != l.length) = false := by rw [hlO]; simp
    have hne4 : ((l.length : Int) == 0) = false := beq_eq_false_iff_ne.2 (by omega)
    clear hE hL hO hlE hlL hlO HROW
    go_wp2_with (at_make; refine wpList_make_full _ rfl _ _ 25 rfl w2.heap.size 3 i0 (.int .i64 0) 1 Try.underlying25 hi hz0 hz1 _ _ _ _ l.length rfl rfl rfl rfl ?b1 ?b2 (Nat.le_refl _) ?_)
    case b1 => rw [hz2]; omega
    case b2 => unfold maxLen; omega
    intro w3 hown hgrow
    have hb3 : Below w2.heap.size w2 w3 := (Below.refl _ _).grown hgrow (Nat.le_refl _) (fun k hk => by cases hk)
    rw [zeros_own] at hown
    have HOW : Hid (OwnI w2.heap.size 3 w3 (.slice (some ⟨w2.heap.size, 0, none⟩) l.length l.length) (List.replicate l.length 0)) := Lib.hid (by unfold OwnI; rw [List.length_replicate]; exact hown)
    have HB3 := Lib.hid hb3
    clear hown hgrow hb3 hne1 hne2 hne3 hne4
    go_wp2
    go_loopw [10, 11] (fun i10 _ wr => ∃ (k : Nat) (cnt : List Int), k ≤ l.length ∧ i10 = .int .i64 k ∧ Hid (CntOk (opsOf l) E l.length k cnt) ∧ Hid (OwnI w2.heap.size 3 wr (.slice (some ⟨w2.heap.size, 0, none⟩) l.length l.length) cnt) ∧ Hid (Below w2.heap.size w2 wr)) (fun i10 _ _ => l.length - (intOf i10).toNat)
    case atStart => exact ⟨0, _, by omega, rfl, Lib.hid cnt_start, HOW, HB3⟩
    case round =>
      obtain ⟨k, cnt, hk, rfl, HCN, HOC, HB⟩ := hrel
      clear HOW HB3
      have HRk := Lib.hid (HR.out.bel HB.out)
      by_cases hlt : k < l.length
      · have hkE : k < E.length := by rw [HlE.out]; exact hlt
        have hkL : k < L.length := by rw [HlL.out]; exact hlt
        obtain ⟨b, off, xv, e7, y0, -, -, -⟩ := Cd.at_ HRk.out.cd hlt
        subst e7
        have hat := HAT.out k hlt
        obtain ⟨op, hop⟩ : ∃ op, l[k].op = op := ⟨_, rfl⟩
        have HOP := Lib.hid hop
        rw [hop] at y0 hat
        have HATk := Lib.hid hat
        clear hat hop
        go_wp2_with fail
        refine (ref09_OpensB wr op).mono ?_
        rintro e w' ⟨rfl, hw'⟩
        obtain rfl : wr = w' := hw'.symm
        clear hw'
        by_cases ho : opensP op
        · rw [decide_eq_true ho]
          have HCR := Lib.hid (law_crossed wr _ _ _ l E L O k HRk.out HMB.out HK.out HlE.out HlL.out (by omega) hlt (.inl (by rw [HOP.out]; exact ho)))
          obtain ⟨e, he, hke, hel⟩ : ∃ e : Nat, gI E k = e ∧ k < e ∧ e < l.length - 1 := by
            obtain ⟨e, h1, h2, h3, _⟩ := HMB.out.closed k (by rw [HLO.out]; exact hlt) (by rw [HATk.out]; exact ho)
            exact ⟨e, h1, h2, by rw [HLO.out] at h3; exact h3⟩
          have hst := HCN.out.step HMB.out HLO.out hlt (by rw [HATk.out]; exact ho) he (by omega)
          have HE := Lib.hid he; have HST := Lib.hid hst; have HCL := Lib.hid HCN.out.len
          clear he hst y0
          go_wp2_with fail
          refine HCR.out.mono ?_
          rintro e' wc ⟨rfl, hbc⟩
          have HBc := Lib.hid (below_next HB.out hbc)
          obtain ⟨eb, eo, e7, hce⟩ := rd_cell (HR.out.bel HBc.out).e (j := k) (by rw [HlE.out]; exact hlt)
          subst e7
          rw [HE.out] at hce
          have hoc := own_below HOC.out hbc
          obtain ⟨hcc, hcf⟩ := OwnI.rd_cell hoc (k := e) (by rw [HCL.out]; omega)
          rw [HST.out.1] at hcc
          have HON := Lib.hid (OwnI.set hoc (k := e) 1)
          have HBN := Lib.hid (HBc.out.setCell (p := ⟨w2.heap.size, e, none⟩) (Nat.le_refl _) (.int .i64 1))
          clear hoc hbc HCR
          go_wp2
          go_roundw
          case rel => exact ⟨k + 1, _, by omega, by go_num, Lib.hid HST.out.2, HON, HBN⟩
          case measure => simp [intOf]; omega
        · rw [decide_eq_false ho]
          have hsm := HCN.out.same (by rw [HATk.out]; exact ho)
          have HSM := Lib.hid hsm
          by_cases h5 : op = 5
          · subst h5
            have HCR := Lib.hid (law_crossed wr _ _ _ l E L O k HRk.out HMB.out HK.out HlE.out HlL.out (by omega) hlt (.inr HOP.out))
            clear hsm ho
            go_wp2_with fail
            refine HCR.out.mono ?_
            rintro e' wc ⟨rfl, hbc⟩
            have HBc := Lib.hid (below_next HB.out hbc)
            have HOc := Lib.hid (own_below HOC.out hbc)
            clear hbc HCR
            go_wp2
            go_roundw
            case rel => exact ⟨k + 1, _, by omega, by go_num, HSM, HOc, HBc⟩
            case measure => simp [intOf]; omega
          · have hpl := HMB.out.plain k (by rw [HATk.out]; exact ho) (by rw [HATk.out]; exact h5)
            obtain ⟨eb, eo, e7, hce⟩ := rd_cell HRk.out.e (j := k) (by rw [HlE.out]; exact hlt)
            subst e7
            obtain ⟨lb, lo, e7, hcl⟩ := rd_cell HRk.out.l (j := k) (by rw [HlL.out]; exact hlt)
            subst e7
            rw [hpl.1] at hce; rw [hpl.2] at hcl
            have hb5 : ((op : Int) != 5) = true := by simp; omega
            clear hpl hsm ho h5
            go_wp2
            go_roundw
            case rel => exact ⟨k + 1, _, by omega, by go_num, HSM, HOC, HB⟩
            case measure => simp [intOf]; omega
      · obtain rfl : k = l.length := by omega
        have HCE := Lib.hid (HCN.out.end_ HMB.out HLO.out)
        have HCL := Lib.hid HCN.out.len
        clear HCN HRk hlt
        obtain ⟨wo, rfl⟩ : ∃ wo : World, wo = wr := ⟨_, rfl⟩
        go_wp2
        go_loopw [12, 13] (fun i12 _ wy => ∃ j : Nat, j ≤ l.length ∧ i12 = .int .i64 j ∧ Hid (Below wo.heap.size wo wy)) (fun i12 _ _ => l.length - (intOf i12).toNat)
        case atStart => exact ⟨0, by omega, rfl, Lib.hid (Below.refl _ _)⟩
        case round =>
          obtain ⟨j, hj, rfl, HBj⟩ := hrel
          have HBY := Lib.hid (below_next HB.out HBj.out)
          by_cases hjl : j < l.length
          · obtain ⟨b, off, xv, e7, y0, -, -, -⟩ := Cd.at_ (HR.out.bel HBY.out).cd hjl
            subst e7
            obtain ⟨hcc, -⟩ := OwnI.rd_cell (own_below HOC.out HBj.out) (k := j) (by rw [HCL.out]; exact hjl)
            have HAR := Lib.hid (law_around wr _ _ _ l E L O j (HR3.out.bel HBY.out) HER.out HO.out HMB.out HK.out HlE.out HlO.out (by omega) HLL2.out hjl)
            have hat := HAT.out j hjl
            by_cases hla : j + 1 = l.length
            · have h6 := HMB.out.last
              rw [HLO.out, show l.length - 1 = j by omega, hat] at h6
              rw [h6] at y0
              have hc0 := HCE.out.1 (by omega)
              rw [show l.length - 1 = j by omega] at hc0
              rw [hc0] at hcc
              have hl1 : ((j : Int) == (l.length : Int) - 1) = true := by simp; omega
              clear hla h6 hc0 hat
              go_wp2_with fail
              refine HAR.out.mono ?_
              rintro e' wc ⟨rfl, hbc⟩
              have HBc := Lib.hid (below_next HBj.out hbc)
              clear hbc HAR
              go_wp2
              go_roundw
              case rel => exact ⟨j + 1, by omega, by go_num, HBc⟩
              case measure => simp [intOf]; omega
            · have hl1 : ((j : Int) == (l.length : Int) - 1) = false := by simp; omega
              by_cases h6 : l[j].op = 6
              · have hc0 := HCE.out.2 j (by omega) (hat.trans h6)
                rw [hc0] at hcc
                rw [h6] at y0
                clear hla h6 hc0 hat
                go_wp2_with fail
                refine HAR.out.mono ?_
                rintro e' wc ⟨rfl, hbc⟩
                have HBc := Lib.hid (below_next HBj.out hbc)
                clear hbc HAR
                go_wp2
                go_roundw
                case rel => exact ⟨j + 1, by omega, by go_num, HBc⟩
                case measure => simp [intOf]; omega
              · have hb6 : ((l[j].op : Int) == 6) = false := by simp; omega
                clear hla h6 hat hcc
                generalize l[j].op = op at *
                go_wp2_with fail
                refine HAR.out.mono ?_
                rintro e' wc ⟨rfl, hbc⟩
                have HBc := Lib.hid (below_next HBj.out hbc)
                clear hbc HAR
                go_wp2
                go_roundw
                case rel => exact ⟨j + 1, by omega, by go_num, HBc⟩
                case measure => simp [intOf]; omega
          · go_wp2
            go_ret
            exact ⟨rfl, below_next HB2.out HBY.out⟩
  · obtain ⟨n1, n2, n3⟩ := mapP_no (ops := opsOf l) (by rw [HER.out]; exact he)
    have hr1 := HROW.out.r1; have hr2 := HROW.out.r2; have hr3 := HROW.out.r3
    rw [n1] at hr1; rw [n2] at hr2; rw [n3] at hr3
    obtain ⟨a1, c1, rfl⟩ := own_zero hr1 rfl
    obtain ⟨a2, c2, rfl⟩ := own_zero hr2 rfl
    obtain ⟨a3, c3, rfl⟩ := own_zero hr3 rfl
    have hen : (er != 0) = true := by simp [he]
    clear n1 n2 n3 hr1 hr2 hr3
    go_wp2
    go_ret
    exact ⟨rfl, HB2.out⟩
end Go.Proofs.Ytiaoonlhgjfdjaa
