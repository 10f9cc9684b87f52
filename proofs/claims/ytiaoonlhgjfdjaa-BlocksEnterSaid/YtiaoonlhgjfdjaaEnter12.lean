/- The law BlocksEnter. -/
import Derived.Test.YtiaoonlhgjfdjaaEnterP
import Derived.Test.YtiaoonlhgjfdjaaAround
import Derived.Test.YtiaoonlhgjfdjaaWorks12
namespace Go.Proofs.Ytiaoonlhgjfdjaa
open Go Go.RowKit
set_option linter.unusedSimpArgs false

theorem blkP_none {ops : List Nat} {te tl : List Int} (h : (mapP ops).2.2.2.1 ≠ 0) : blkP ops te tl = ([], []) := by rw [blkP, if_pos (.inl h)]
theorem blkP_some {ops : List Nat} (h : (mapP ops).2.2.2.1 = 0) : blkP ops (mapP ops).1 (mapP ops).2.1 = (startsL (leadL ops (mapP ops).1) ops.length, leftsL (leadL ops (mapP ops).1) ops.length) := by
  rw [blkP, if_neg]
  rw [h]; simp
/-- What the loop of the law knows of a place. -/
structure EnP (ops : List Nat) (E : List Int) (n p : Nat) (N S L : List Int) : Prop where
  seg : ∃ f i m : Nat, p = f + i ∧ 1 ≤ m ∧ i + m ≤ 16 ∧ p + m ≤ n ∧ gI S p = f ∧ gI L p = m ∧ gI S f = f ∧ gI L f = ((i + m : Nat) : Int) ∧ (0 < i → gI S (p - 1) = f ∧ gI L (p - 1) = ((m + 1 : Nat) : Int)) ∧ (i = 0 → 0 < p → gI L (p - 1) = 1) ∧
    (1 < m → N = [(p : Int) + 1]) ∧ ∀ k (h : k < N.length), 0 ≤ N[k] ∧ N[k] ≤ n ∧ (N[k] < n → (N[k] ≠ (p : Int) + 1 ∨ m = 1) → gI S N[k].toNat = N[k])
theorem en_p {ops : List Nat} {n p : Nat} {a : Int} {xl : List Int} (h0 : (mapP ops).2.2.2.1 = 0) (hn : ops.length = n) (hp : p < n) : EnP ops (mapP ops).1 n p (nextsP ops p a xl) (startsL (leadL ops (mapP ops).1) n) (leftsL (leadL ops (mapP ops).1) n) := by
  subst hn
  have hm := mapP_br h0
  have hk := mapP_ok h0
  obtain ⟨f, i, m, hs⟩ := seg_at (l := leadL ops (mapP ops).1) hp
  have he := hs.eq; have hle := hs.le; have hlo := hs.lo
  refine ⟨f, i, m, he, hlo, hs.hi, hle, ?_, ?_, ?_, ?_, fun hi => ?_, fun hi hp0 => ?_, fun h1 => ?_, fun k hk' => ?_⟩
  · rw [startsL_at hp, hs.sp]
  · rw [leftsL_at hp, hs.lp]
  · rw [startsL_at (by omega), hs.sf]
  · rw [leftsL_at (by omega), hs.lf]
  · rw [startsL_at (by omega), leftsL_at (by omega), (hs.prev hi).1, (hs.prev hi).2]; exact ⟨rfl, rfl⟩
  · rw [leftsL_at (by omega), hs.first hi hp0]; rfl
  · have hno := hs.inn (i + 1) (by omega) (by omega)
    rw [← Nat.add_assoc, ← he] at hno
    have := not_lead (by omega) (by omega) hno
    rw [Nat.add_sub_cancel] at this
    exact nexts_plain h0 hp this
  · obtain ⟨s, hsr⟩ := nextsP_rise (a := a) (xl := xl) h0 rfl hp
    have hr : 0 ≤ (nextsP ops p a xl)[k] ∧ (nextsP ops p a xl)[k] ≤ ops.length := by
      have h2 : k < (rise ops.length s).length := by rw [← hsr]; exact hk'
      have := rise_at h2
      simp only [hsr]
      exact ⟨this.1, this.2.1⟩
    refine ⟨hr.1, hr.2, fun hlt hor => ?_⟩
    obtain ⟨q, hq⟩ : ∃ q : Nat, (nextsP ops p a xl)[k] = q := ⟨(nextsP ops p a xl)[k].toNat, by omega⟩
    have hmem := nexts_mem h0 hp (q := q) (a := a) (xl := xl) (by rw [← hq]; exact List.getElem_mem hk')
    rw [hq] at hlt hor ⊢
    rw [Int.toNat_natCast, startsL_at (by omega)]
    by_cases e : q = p + 1
    · subst e
      have h1 : m = 1 := hor.resolve_left (by simp)
      rw [hs.next h1 (by omega)]
    · rw [lead_start (n := ops.length) (by omega) (next_lead hm hk.own hp (by omega) e hmem)]
set_option maxRecDepth 100000 in
set_option maxHeartbeats 12800000 in
theorem law_enter (w : World) (v : Value) (l : List InsD) (hc : Cd w v l) :
    Calls Try.prog 5 #[v] w fun e w' => e = .returned (.bool true) ∧ Below w.heap.size w w' := by
  have HC := Lib.hid hc
  have HLO : Hid ((opsOf l).length = l.length) := Lib.hid (opsOf_len l)
  obtain ⟨va, vc, rfl, _⟩ := hc.len
  clear hc
  go_enter Try.func5, Try.ntmps5
  go_wp2_with fail
  refine (law_works12 w).mono ?_
  rintro e w1 ⟨rfl, hb1⟩
  have HB1 := Lib.hid hb1
  have HC1 := Lib.hid (Cd.bel HC.out hb1)
  clear hb1
  go_wp2_with fail
  refine (sizeCode w1 _ l HC1.out).mono ?_
  rintro e w' ⟨m, rfl, hw', hm⟩
  obtain rfl : w1 = w' := hw'.symm
  have HM := Lib.hid hm
  clear hw' hm
  by_cases hbig : 500 < m
  · go_wp2
    go_ret
    exact ⟨rfl, HB1.out⟩
  have hl : l.length ≤ 500 := by have := (HM.out (by omega)).1; omega
  have HLL2 : Hid (∀ j (h : j < l.length), l[j].l.length ≤ 1048576) := Lib.hid (fun j h => by have := (HM.out (by omega)).2 j h; omega)
  clear HM
  have hdm : decide ((500 : Int) < m) = false := decide_eq_false (by omega)
  go_wp2_with fail
  clear hdm
  refine (control_Map w1 _ l HC1.out (by omega)).mono ?_
  rintro e w2 ⟨v1, v2, v3, rfl, hA⟩
  have HROW := Lib.hid hA.rows
  have HC2 := Lib.hid (Cd.bel HC1.out hA.bel)
  have HB2 := Lib.hid (below_next HB1.out hA.bel)
  obtain ⟨er, her⟩ : ∃ er, (mapP (opsOf l)).2.2.2.1 = er := ⟨_, rfl⟩
  have HER := Lib.hid her
  rw [her]
  generalize (mapP (opsOf l)).2.2.2.2 = q at *
  clear her hA
  have hlen : (mapP (opsOf l)).1.length ≤ l.length ∧ (mapP (opsOf l)).2.1.length ≤ l.length := by
    by_cases h0 : (mapP (opsOf l)).2.2.2.1 = 0
    · have hk := mapP_ok h0
      rw [hk.le, hk.ll, HLO.out]; omega
    · obtain ⟨n1, n2, _⟩ := mapP_no h0
      rw [n1, n2]; simp
  have HOF := Lib.hid (blk_Of w2 _ (.slice none 0 0) v1 v2 (.slice none 0 0) 0 l _ _ HC2.out (HROW.out.r1.rd (by omega)).any (HROW.out.r2.rd (by omega)).any (by omega))
  obtain ⟨a1, c1, rfl, _⟩ := own_slice HROW.out.r1
  obtain ⟨a2, c2, rfl, _⟩ := own_slice HROW.out.r2
  clear hlen HROW
  go_wp2_with fail
  refine HOF.out.mono ?_
  clear HOF
  rintro e w3 ⟨s1, s2, rfl, hb3, hbl⟩
  have HB3 := Lib.hid (below_next HB2.out hb3)
  have HC3 := Lib.hid (Cd.bel HC2.out hb3)
  clear hb3
  by_cases he : er = 0
  · subst he
    rw [blkP_some HER.out, HLO.out] at hbl
    have HEN : Hid (∀ p, p < l.length → EnP (opsOf l) (mapP (opsOf l)).1 l.length p (nextsP (opsOf l) p (l.getD (p : Int).toNat insZ).a (l.getD (p : Int).toNat insZ).l) (startsL (leadL (opsOf l) (mapP (opsOf l)).1) l.length) (leftsL (leadL (opsOf l) (mapP (opsOf l)).1) l.length)) :=
      Lib.hid fun p hp => en_p HER.out HLO.out hp
    have hpos := (mapP_br HER.out).pos
    rw [HLO.out] at hpos
    have hSl := startsL_len (leadL (opsOf l) (mapP (opsOf l)).1) l.length
    have hLl := leftsL_len (leadL (opsOf l) (mapP (opsOf l)).1) l.length
    obtain ⟨hs, hl2, -⟩ := hbl
    simp only at hs hl2
    generalize startsL (leadL (opsOf l) (mapP (opsOf l)).1) l.length = S at *
    generalize leftsL (leadL (opsOf l) (mapP (opsOf l)).1) l.length = L at *
    obtain ⟨b1, d1, rfl, _⟩ := own_slice hs
    obtain ⟨b2, d2, rfl, _⟩ := own_slice hl2
    have hb4 := below_alloc w3 (.cells #[.slice b1 S.length d1, .slice b2 L.length d2] 40)
    have hr4 := heap_alloc_new w3 (.cells #[.slice b1 S.length d1, .slice b2 L.length d2] 40)
    have t0 := row_cell hr4 0 rfl; have t1 := row_cell hr4 1 rfl
    simp only [List.getElem_toArray, List.getElem_cons_zero, List.getElem_cons_succ] at t0 t1
    have HB4 := Lib.hid (below_next HB3.out hb4)
    have HC4 := Lib.hid (Cd.bel HC3.out hb4)
    have HR4 := Lib.hid hr4
    have HS4 := Lib.hid ((hs.rd (by omega)).any.bel hb4)
    have HL4 := Lib.hid ((hl2.rd (by omega)).any.bel hb4)
    have HSl := Lib.hid hSl; have HLl := Lib.hid hLl
    have hne1 : ((S.length : Int) != l.length) = false := by rw [hSl]; simp
    have hne2 : ((L.length : Int) != l.length) = false := by rw [hLl]; simp
    have hne3 : ((l.length : Int) == 0) = false := beq_eq_false_iff_ne.2 (by omega)
    have hs3 := World.size_alloc w3 (.cells #[.slice b1 S.length d1, .slice b2 L.length d2] 40)
    have HS3 := Lib.hid hs3
    clear hs hl2 hb4 hr4 hSl hLl hs3
    go_wp2
    clear hne1 hne2 hne3 t0 t1
    obtain ⟨w4, hw4⟩ : ∃ w4, w3.alloc (.cells #[.slice b1 S.length d1, .slice b2 L.length d2] 40) = w4 := ⟨_, rfl⟩
    rw [hw4] at HB4 HC4 HR4 HS4 HL4 HS3 ⊢
    clear hw4
    generalize w3.heap.size = gb at *
    go_loopw [10] (fun i10 wr => ∃ k : Nat, k ≤ l.length ∧ i10 = .int .i64 k ∧ Hid (Below w4.heap.size w4 wr)) (fun i10 _ => l.length - (intOf i10).toNat)
    case atStart => exact ⟨0, by omega, rfl, Lib.hid (Below.refl _ _)⟩
    case round =>
      obtain ⟨k, hk, rfl, HB⟩ := hrel
      obtain ⟨wo, rfl⟩ : ∃ wo : World, wo = wr := ⟨_, rfl⟩
      by_cases hlt : k < l.length
      · obtain ⟨f, i, m', h1, h2, h3, h4, h5, h6, h7, h8, h9, h10, h11, h12⟩ := (HEN.out k hlt).seg
        obtain ⟨N, hN⟩ : ∃ N, nextsP (opsOf l) k (l.getD (k : Int).toNat insZ).a (l.getD (k : Int).toNat insZ).l = N := ⟨_, rfl⟩
        rw [hN] at h11 h12
        have HNN := Lib.hid hN
        have hr := (HB.out.block _ (row_lt HR4.out)).trans HR4.out
        have t0 := row_cell hr 0 rfl; have t1 := row_cell hr 1 rfl
        simp only [List.getElem_toArray, List.getElem_cons_zero, List.getElem_cons_succ] at t0 t1
        have hSk := HS4.out.bel HB.out; have hLk := HL4.out.bel HB.out
        have hkS : k < S.length := by rw [HSl.out]; exact hlt
        have hkL : k < L.length := by rw [HLl.out]; exact hlt
        have hfk : f ≤ k := by omega
        have hgm : (k : Int) - f + m' ≤ 16 := by omega
        have hfS : f < S.length := by omega
        have hfL : f < L.length := by omega
        obtain ⟨sb, so, rfl, z1⟩ := rd_cell hSk hkS
        obtain ⟨lb, lo, rfl, z2⟩ := rd_cell hLk hkL
        obtain ⟨sb', so', e7, z3⟩ := rd_cell hSk hfS
        simp only [Option.some.injEq, Addr.mk.injEq, and_true] at e7
        obtain ⟨rfl, rfl⟩ := e7
        obtain ⟨lb', lo', e7, z4⟩ := rd_cell hLk hfL
        simp only [Option.some.injEq, Addr.mk.injEq, and_true] at e7
        obtain ⟨rfl, rfl⟩ := e7
        rw [h5] at z1; rw [h6] at z2; rw [h7] at z3
        have h8' : gI L f = (k : Int) - f + m' := by rw [h8]; omega
        rw [h8'] at z4
        have H9 := Lib.hid h9; have H10 := Lib.hid h10; have H11 := Lib.hid h11; have H12 := Lib.hid h12; have H1 := Lib.hid h1
        have HSk := Lib.hid hSk; have HLk := Lib.hid hLk
        clear hN hr hSk hLk h5 h6 h7 h8 h8' h9 h10 h11 h12 h1
        have HNB : Hid (N.length ≤ 9223372036854775807) := Lib.hid (by
          rw [← HNN.out]
          obtain ⟨sm, hs⟩ := nextsP_rise (a := (l.getD (k : Int).toNat insZ).a) (xl := (l.getD (k : Int).toNat insZ).l) HER.out HLO.out hlt
          rw [hs]
          unfold rise
          rw [List.length_map]
          refine Nat.le_trans (List.length_filter_le _ _) ?_
          rw [List.length_range]; omega)
        by_cases hi0 : 0 < i
        · as_aux_lemma =>
          have hkf : f < k := by have := H1.out; omega
          obtain ⟨p1, p2⟩ := H9.out hi0
          have hk1 : 1 ≤ k := by omega
          obtain ⟨sb', so', e7, z5⟩ := rd_cell HSk.out (j := k - 1) (by omega)
          simp only [Option.some.injEq, Addr.mk.injEq, and_true] at e7
          obtain ⟨rfl, rfl⟩ := e7
          obtain ⟨lb', lo', e7, z6⟩ := rd_cell HLk.out (j := k - 1) (by omega)
          simp only [Option.some.injEq, Addr.mk.injEq, and_true] at e7
          obtain ⟨rfl, rfl⟩ := e7
          rw [p1] at z5; rw [p2] at z6
          have hc1 : ((m' + 1 : Nat) : Int) = (m' : Int) + 1 := by omega
          rw [hc1] at z6
          have hne : ((f : Int) != k) = true := by rw [bne_iff_ne]; omega
          have heq : ((f : Int) == k) = false := beq_eq_false_iff_ne.2 (by omega)
          clear p1 p2 hc1
          go_wp2_with fail
          refine (control_Next wo _ l k (Cd.bel HC4.out HB.out) (by omega) HLL2.out).mono ?_
          rintro e w5 ⟨vn, rfl, hb5, ho5⟩
          rw [HNN.out] at ho5
          obtain ⟨na, nc, rfl, _⟩ := ho5.slice
          have HO5 := Lib.hid ho5
          have HB5 := Lib.hid (below_next HB.out hb5)
          have hNl : N.length ≤ 9223372036854775807 := HNB.out
          clear hb5 ho5 z1 z2 z3 z4
          by_cases hm1 : 1 < m'
          · as_aux_lemma =>
            have hN1 := H11.out hm1
            obtain ⟨g0, e7, hcn0⟩ := HO5.out.rd_cell (k := 0) (by rw [hN1]; simp)
            subst e7
            have e0 : N[0]'(by rw [hN1]; simp) = (k : Int) + 1 := by simp only [hN1, List.getElem_cons_zero]
            rw [e0] at hcn0
            have hnl : ((N.length : Int) != 1) = false := by rw [hN1]; simp
            have hnp : 0 < N.length := by rw [hN1]; simp
            have HN1 := Lib.hid hN1
            clear hN1 e0
            go_wp2
            clear hcn0 hnl
            go_loopw [14, 15] (fun i14 _ wy => ∃ j : Nat, j ≤ N.length ∧ i14 = .int .i64 j ∧ Hid (Below w5.heap.size w5 wy)) (fun i14 _ _ => N.length - (intOf i14).toNat)
            case atStart => exact ⟨0, by omega, rfl, Lib.hid (Below.refl _ _)⟩
            case round =>
              obtain ⟨j, hj, rfl, HBj⟩ := hrel
              have HBY := Lib.hid (below_next HB5.out HBj.out)
              by_cases hjl : j < N.length
              · obtain ⟨g, e7, hcn⟩ := (HO5.out.below HBj.out).rd_cell hjl
                simp only [Option.some.injEq, Addr.mk.injEq, and_true] at e7
                subst e7
                obtain ⟨q1, q2, q3⟩ := H12.out j hjl
                obtain ⟨q, hq⟩ : ∃ q : Nat, N[j] = q := ⟨N[j].toNat, by omega⟩
                rw [hq] at hcn q1 q2 q3
                rw [Int.toNat_natCast] at q3
                have hr5 := (HBY.out.block _ (row_lt HR4.out)).trans HR4.out
                have y0 := row_cell hr5 0 rfl
                simp only [List.getElem_toArray, List.getElem_cons_zero, List.getElem_cons_succ] at y0
                have Q3 := Lib.hid q3
                have HSq := Lib.hid (HS4.out.bel HBY.out)
                clear hr5 q3 hq q1
                by_cases hqn : q < l.length
                · have hqS : q < S.length := by rw [HSl.out]; exact hqn
                  obtain ⟨sb2, so2, e7, z5⟩ := rd_cell HSq.out hqS
                  simp only [Option.some.injEq, Addr.mk.injEq, and_true] at e7
                  obtain ⟨rfl, rfl⟩ := e7
                  by_cases hq1 : q = k + 1
                  · have hb1 : ((q : Int) != (k : Int) + 1) = false := by rw [bne_eq_false_iff_eq]; omega
                    by_cases hm1 : m' = 1
                    · have hz := Q3.out (by omega) (.inr hm1)
                      rw [hz] at z5
                      have hb2 : ((m' : Int) == 1) = true := by rw [beq_iff_eq]; omega
                      clear hq1 hm1 hz
                      go_wp2
                      go_roundw
                      case rel => exact ⟨j + 1, by omega, by go_num, HBj⟩
                      case measure => simp [intOf]; omega
                    · have hb2 : ((m' : Int) == 1) = false := beq_eq_false_iff_ne.2 (by omega)
                      clear hq1 hm1 z5
                      go_wp2
                      go_roundw
                      case rel => exact ⟨j + 1, by omega, by go_num, HBj⟩
                      case measure => simp [intOf]; omega
                  · have hb1 : ((q : Int) != (k : Int) + 1) = true := by rw [bne_iff_ne]; omega
                    have hz := Q3.out (by omega) (.inl (by omega))
                    rw [hz] at z5
                    clear hq1 hz
                    go_wp2
                    go_roundw
                    case rel => exact ⟨j + 1, by omega, by go_num, HBj⟩
                    case measure => simp [intOf]; omega
                · have hqd : decide (q < l.length) = false := decide_eq_false hqn
                  go_wp2
                  go_roundw
                  case rel => exact ⟨j + 1, by omega, by go_num, HBj⟩
                  case measure => simp [intOf]; omega
              · go_wp2
                go_roundw
                case rel => exact ⟨k + 1, by omega, by go_num, HBY⟩
                case measure => simp [intOf]; omega
          · as_aux_lemma =>
            have hmd : decide ((1 : Int) < m') = false := decide_eq_false (by omega)
            go_wp2
            go_loopw [14, 15] (fun i14 _ wy => ∃ j : Nat, j ≤ N.length ∧ i14 = .int .i64 j ∧ Hid (Below w5.heap.size w5 wy)) (fun i14 _ _ => N.length - (intOf i14).toNat)
            case atStart => exact ⟨0, by omega, rfl, Lib.hid (Below.refl _ _)⟩
            case round =>
              obtain ⟨j, hj, rfl, HBj⟩ := hrel
              have HBY := Lib.hid (below_next HB5.out HBj.out)
              by_cases hjl : j < N.length
              · obtain ⟨g, e7, hcn⟩ := (HO5.out.below HBj.out).rd_cell hjl
                subst e7
                obtain ⟨q1, q2, q3⟩ := H12.out j hjl
                obtain ⟨q, hq⟩ : ∃ q : Nat, N[j] = q := ⟨N[j].toNat, by omega⟩
                rw [hq] at hcn q1 q2 q3
                rw [Int.toNat_natCast] at q3
                have hr5 := (HBY.out.block _ (row_lt HR4.out)).trans HR4.out
                have y0 := row_cell hr5 0 rfl
                simp only [List.getElem_toArray, List.getElem_cons_zero, List.getElem_cons_succ] at y0
                have Q3 := Lib.hid q3
                have HSq := Lib.hid (HS4.out.bel HBY.out)
                clear hr5 q3 hq q1
                by_cases hqn : q < l.length
                · have hqS : q < S.length := by rw [HSl.out]; exact hqn
                  obtain ⟨sb2, so2, e7, z5⟩ := rd_cell HSq.out hqS
                  simp only [Option.some.injEq, Addr.mk.injEq, and_true] at e7
                  obtain ⟨rfl, rfl⟩ := e7
                  by_cases hq1 : q = k + 1
                  · have hb1 : ((q : Int) != (k : Int) + 1) = false := by rw [bne_eq_false_iff_eq]; omega
                    by_cases hm1 : m' = 1
                    · have hz := Q3.out (by omega) (.inr hm1)
                      rw [hz] at z5
                      have hb2 : ((m' : Int) == 1) = true := by rw [beq_iff_eq]; omega
                      clear hq1 hm1 hz
                      go_wp2
                      go_roundw
                      case rel => exact ⟨j + 1, by omega, by go_num, HBj⟩
                      case measure => simp [intOf]; omega
                    · have hb2 : ((m' : Int) == 1) = false := beq_eq_false_iff_ne.2 (by omega)
                      clear hq1 hm1 z5
                      go_wp2
                      go_roundw
                      case rel => exact ⟨j + 1, by omega, by go_num, HBj⟩
                      case measure => simp [intOf]; omega
                  · have hb1 : ((q : Int) != (k : Int) + 1) = true := by rw [bne_iff_ne]; omega
                    have hz := Q3.out (by omega) (.inl (by omega))
                    rw [hz] at z5
                    clear hq1 hz
                    go_wp2
                    go_roundw
                    case rel => exact ⟨j + 1, by omega, by go_num, HBj⟩
                    case measure => simp [intOf]; omega
                · have hqd : decide (q < l.length) = false := decide_eq_false hqn
                  go_wp2
                  go_roundw
                  case rel => exact ⟨j + 1, by omega, by go_num, HBj⟩
                  case measure => simp [intOf]; omega
              · go_wp2
                go_roundw
                case rel => exact ⟨k + 1, by omega, by go_num, HBY⟩
                case measure => simp [intOf]; omega

        · have hfk2 : f = k := by have := H1.out; omega
          subst hfk2
          by_cases hk0 : 0 < f
          · as_aux_lemma =>
            have p2 := H10.out (by omega) hk0
            have hk1 : 1 ≤ f := hk0
            obtain ⟨lb', lo', e7, z6⟩ := rd_cell HLk.out (j := f - 1) (by omega)
            simp only [Option.some.injEq, Addr.mk.injEq, and_true] at e7
            obtain ⟨rfl, rfl⟩ := e7
            rw [p2] at z6
            clear p2
            go_wp2_with fail
            refine (control_Next wo _ l f (Cd.bel HC4.out HB.out) (by omega) HLL2.out).mono ?_
            rintro e w5 ⟨vn, rfl, hb5, ho5⟩
            rw [HNN.out] at ho5
            obtain ⟨na, nc, rfl, _⟩ := ho5.slice
            have HO5 := Lib.hid ho5
            have HB5 := Lib.hid (below_next HB.out hb5)
            have hNl : N.length ≤ 9223372036854775807 := HNB.out
            clear hb5 ho5 z1 z2 z3 z4
            by_cases hm1 : 1 < m'
            · as_aux_lemma =>
              have hN1 := H11.out hm1
              obtain ⟨g0, e7, hcn0⟩ := HO5.out.rd_cell (k := 0) (by rw [hN1]; simp)
              subst e7
              have e0 : N[0]'(by rw [hN1]; simp) = (f : Int) + 1 := by simp only [hN1, List.getElem_cons_zero]
              rw [e0] at hcn0
              have hnl : ((N.length : Int) != 1) = false := by rw [hN1]; simp
              have hnp : 0 < N.length := by rw [hN1]; simp
              have HN1 := Lib.hid hN1
              clear hN1 e0
              go_wp2
              clear hcn0 hnl
              go_loopw [14, 15] (fun i14 _ wy => ∃ j : Nat, j ≤ N.length ∧ i14 = .int .i64 j ∧ Hid (Below w5.heap.size w5 wy)) (fun i14 _ _ => N.length - (intOf i14).toNat)
              case atStart => exact ⟨0, by omega, rfl, Lib.hid (Below.refl _ _)⟩
              case round =>
                obtain ⟨j, hj, rfl, HBj⟩ := hrel
                have HBY := Lib.hid (below_next HB5.out HBj.out)
                by_cases hjl : j < N.length
                · obtain ⟨g, e7, hcn⟩ := (HO5.out.below HBj.out).rd_cell hjl
                  simp only [Option.some.injEq, Addr.mk.injEq, and_true] at e7
                  subst e7
                  obtain ⟨q1, q2, q3⟩ := H12.out j hjl
                  obtain ⟨q, hq⟩ : ∃ q : Nat, N[j] = q := ⟨N[j].toNat, by omega⟩
                  rw [hq] at hcn q1 q2 q3
                  rw [Int.toNat_natCast] at q3
                  have hr5 := (HBY.out.block _ (row_lt HR4.out)).trans HR4.out
                  have y0 := row_cell hr5 0 rfl
                  simp only [List.getElem_toArray, List.getElem_cons_zero, List.getElem_cons_succ] at y0
                  have Q3 := Lib.hid q3
                  have HSq := Lib.hid (HS4.out.bel HBY.out)
                  clear hr5 q3 hq q1
                  by_cases hqn : q < l.length
                  · have hqS : q < S.length := by rw [HSl.out]; exact hqn
                    obtain ⟨sb2, so2, e7, z5⟩ := rd_cell HSq.out hqS
                    simp only [Option.some.injEq, Addr.mk.injEq, and_true] at e7
                    obtain ⟨rfl, rfl⟩ := e7
                    by_cases hq1 : q = f + 1
                    · have hb1 : ((q : Int) != (f : Int) + 1) = false := by rw [bne_eq_false_iff_eq]; omega
                      by_cases hm1 : m' = 1
                      · have hz := Q3.out (by omega) (.inr hm1)
                        rw [hz] at z5
                        have hb2 : ((m' : Int) == 1) = true := by rw [beq_iff_eq]; omega
                        clear hq1 hm1 hz
                        go_wp2
                        go_roundw
                        case rel => exact ⟨j + 1, by omega, by go_num, HBj⟩
                        case measure => simp [intOf]; omega
                      · have hb2 : ((m' : Int) == 1) = false := beq_eq_false_iff_ne.2 (by omega)
                        clear hq1 hm1 z5
                        go_wp2
                        go_roundw
                        case rel => exact ⟨j + 1, by omega, by go_num, HBj⟩
                        case measure => simp [intOf]; omega
                    · have hb1 : ((q : Int) != (f : Int) + 1) = true := by rw [bne_iff_ne]; omega
                      have hz := Q3.out (by omega) (.inl (by omega))
                      rw [hz] at z5
                      clear hq1 hz
                      go_wp2
                      go_roundw
                      case rel => exact ⟨j + 1, by omega, by go_num, HBj⟩
                      case measure => simp [intOf]; omega
                  · have hqd : decide (q < l.length) = false := decide_eq_false hqn
                    go_wp2
                    go_roundw
                    case rel => exact ⟨j + 1, by omega, by go_num, HBj⟩
                    case measure => simp [intOf]; omega
                · go_wp2
                  go_roundw
                  case rel => exact ⟨f + 1, by omega, by go_num, HBY⟩
                  case measure => simp [intOf]; omega
            · as_aux_lemma =>
              have hmd : decide ((1 : Int) < m') = false := decide_eq_false (by omega)
              go_wp2
              go_loopw [14, 15] (fun i14 _ wy => ∃ j : Nat, j ≤ N.length ∧ i14 = .int .i64 j ∧ Hid (Below w5.heap.size w5 wy)) (fun i14 _ _ => N.length - (intOf i14).toNat)
              case atStart => exact ⟨0, by omega, rfl, Lib.hid (Below.refl _ _)⟩
              case round =>
                obtain ⟨j, hj, rfl, HBj⟩ := hrel
                have HBY := Lib.hid (below_next HB5.out HBj.out)
                by_cases hjl : j < N.length
                · obtain ⟨g, e7, hcn⟩ := (HO5.out.below HBj.out).rd_cell hjl
                  subst e7
                  obtain ⟨q1, q2, q3⟩ := H12.out j hjl
                  obtain ⟨q, hq⟩ : ∃ q : Nat, N[j] = q := ⟨N[j].toNat, by omega⟩
                  rw [hq] at hcn q1 q2 q3
                  rw [Int.toNat_natCast] at q3
                  have hr5 := (HBY.out.block _ (row_lt HR4.out)).trans HR4.out
                  have y0 := row_cell hr5 0 rfl
                  simp only [List.getElem_toArray, List.getElem_cons_zero, List.getElem_cons_succ] at y0
                  have Q3 := Lib.hid q3
                  have HSq := Lib.hid (HS4.out.bel HBY.out)
                  clear hr5 q3 hq q1
                  by_cases hqn : q < l.length
                  · have hqS : q < S.length := by rw [HSl.out]; exact hqn
                    obtain ⟨sb2, so2, e7, z5⟩ := rd_cell HSq.out hqS
                    simp only [Option.some.injEq, Addr.mk.injEq, and_true] at e7
                    obtain ⟨rfl, rfl⟩ := e7
                    by_cases hq1 : q = f + 1
                    · have hb1 : ((q : Int) != (f : Int) + 1) = false := by rw [bne_eq_false_iff_eq]; omega
                      by_cases hm1 : m' = 1
                      · have hz := Q3.out (by omega) (.inr hm1)
                        rw [hz] at z5
                        have hb2 : ((m' : Int) == 1) = true := by rw [beq_iff_eq]; omega
                        clear hq1 hm1 hz
                        go_wp2
                        go_roundw
                        case rel => exact ⟨j + 1, by omega, by go_num, HBj⟩
                        case measure => simp [intOf]; omega
                      · have hb2 : ((m' : Int) == 1) = false := beq_eq_false_iff_ne.2 (by omega)
                        clear hq1 hm1 z5
                        go_wp2
                        go_roundw
                        case rel => exact ⟨j + 1, by omega, by go_num, HBj⟩
                        case measure => simp [intOf]; omega
                    · have hb1 : ((q : Int) != (f : Int) + 1) = true := by rw [bne_iff_ne]; omega
                      have hz := Q3.out (by omega) (.inl (by omega))
                      rw [hz] at z5
                      clear hq1 hz
                      go_wp2
                      go_roundw
                      case rel => exact ⟨j + 1, by omega, by go_num, HBj⟩
                      case measure => simp [intOf]; omega
                  · have hqd : decide (q < l.length) = false := decide_eq_false hqn
                    go_wp2
                    go_roundw
                    case rel => exact ⟨j + 1, by omega, by go_num, HBj⟩
                    case measure => simp [intOf]; omega
                · go_wp2
                  go_roundw
                  case rel => exact ⟨f + 1, by omega, by go_num, HBY⟩
                  case measure => simp [intOf]; omega

          · as_aux_lemma =>
            have hd0 : decide ((0 : Int) < f) = false := decide_eq_false (by omega)
            have hd1 : decide (0 < f) = false := decide_eq_false hk0
            go_wp2_with fail
            refine (control_Next wo _ l f (Cd.bel HC4.out HB.out) (by omega) HLL2.out).mono ?_
            rintro e w5 ⟨vn, rfl, hb5, ho5⟩
            rw [HNN.out] at ho5
            obtain ⟨na, nc, rfl, _⟩ := ho5.slice
            have HO5 := Lib.hid ho5
            have HB5 := Lib.hid (below_next HB.out hb5)
            have hNl : N.length ≤ 9223372036854775807 := HNB.out
            clear hb5 ho5 z1 z2 z3 z4
            by_cases hm1 : 1 < m'
            · as_aux_lemma =>
              have hN1 := H11.out hm1
              obtain ⟨g0, e7, hcn0⟩ := HO5.out.rd_cell (k := 0) (by rw [hN1]; simp)
              subst e7
              have e0 : N[0]'(by rw [hN1]; simp) = (f : Int) + 1 := by simp only [hN1, List.getElem_cons_zero]
              rw [e0] at hcn0
              have hnl : ((N.length : Int) != 1) = false := by rw [hN1]; simp
              have hnp : 0 < N.length := by rw [hN1]; simp
              have HN1 := Lib.hid hN1
              clear hN1 e0
              go_wp2
              clear hcn0 hnl
              go_loopw [14, 15] (fun i14 _ wy => ∃ j : Nat, j ≤ N.length ∧ i14 = .int .i64 j ∧ Hid (Below w5.heap.size w5 wy)) (fun i14 _ _ => N.length - (intOf i14).toNat)
              case atStart => exact ⟨0, by omega, rfl, Lib.hid (Below.refl _ _)⟩
              case round =>
                obtain ⟨j, hj, rfl, HBj⟩ := hrel
                have HBY := Lib.hid (below_next HB5.out HBj.out)
                by_cases hjl : j < N.length
                · obtain ⟨g, e7, hcn⟩ := (HO5.out.below HBj.out).rd_cell hjl
                  simp only [Option.some.injEq, Addr.mk.injEq, and_true] at e7
                  subst e7
                  obtain ⟨q1, q2, q3⟩ := H12.out j hjl
                  obtain ⟨q, hq⟩ : ∃ q : Nat, N[j] = q := ⟨N[j].toNat, by omega⟩
                  rw [hq] at hcn q1 q2 q3
                  rw [Int.toNat_natCast] at q3
                  have hr5 := (HBY.out.block _ (row_lt HR4.out)).trans HR4.out
                  have y0 := row_cell hr5 0 rfl
                  simp only [List.getElem_toArray, List.getElem_cons_zero, List.getElem_cons_succ] at y0
                  have Q3 := Lib.hid q3
                  have HSq := Lib.hid (HS4.out.bel HBY.out)
                  clear hr5 q3 hq q1
                  by_cases hqn : q < l.length
                  · have hqS : q < S.length := by rw [HSl.out]; exact hqn
                    obtain ⟨sb2, so2, e7, z5⟩ := rd_cell HSq.out hqS
                    simp only [Option.some.injEq, Addr.mk.injEq, and_true] at e7
                    obtain ⟨rfl, rfl⟩ := e7
                    by_cases hq1 : q = f + 1
                    · have hb1 : ((q : Int) != (f : Int) + 1) = false := by rw [bne_eq_false_iff_eq]; omega
                      by_cases hm1 : m' = 1
                      · have hz := Q3.out (by omega) (.inr hm1)
                        rw [hz] at z5
                        have hb2 : ((m' : Int) == 1) = true := by rw [beq_iff_eq]; omega
                        clear hq1 hm1 hz
                        go_wp2
                        go_roundw
                        case rel => exact ⟨j + 1, by omega, by go_num, HBj⟩
                        case measure => simp [intOf]; omega
                      · have hb2 : ((m' : Int) == 1) = false := beq_eq_false_iff_ne.2 (by omega)
                        clear hq1 hm1 z5
                        go_wp2
                        go_roundw
                        case rel => exact ⟨j + 1, by omega, by go_num, HBj⟩
                        case measure => simp [intOf]; omega
                    · have hb1 : ((q : Int) != (f : Int) + 1) = true := by rw [bne_iff_ne]; omega
                      have hz := Q3.out (by omega) (.inl (by omega))
                      rw [hz] at z5
                      clear hq1 hz
                      go_wp2
                      go_roundw
                      case rel => exact ⟨j + 1, by omega, by go_num, HBj⟩
                      case measure => simp [intOf]; omega
                  · have hqd : decide (q < l.length) = false := decide_eq_false hqn
                    go_wp2
                    go_roundw
                    case rel => exact ⟨j + 1, by omega, by go_num, HBj⟩
                    case measure => simp [intOf]; omega
                · go_wp2
                  go_roundw
                  case rel => exact ⟨f + 1, by omega, by go_num, HBY⟩
                  case measure => simp [intOf]; omega
            · as_aux_lemma =>
              have hmd : decide ((1 : Int) < m') = false := decide_eq_false (by omega)
              go_wp2
              go_loopw [14, 15] (fun i14 _ wy => ∃ j : Nat, j ≤ N.length ∧ i14 = .int .i64 j ∧ Hid (Below w5.heap.size w5 wy)) (fun i14 _ _ => N.length - (intOf i14).toNat)
              case atStart => exact ⟨0, by omega, rfl, Lib.hid (Below.refl _ _)⟩
              case round =>
                obtain ⟨j, hj, rfl, HBj⟩ := hrel
                have HBY := Lib.hid (below_next HB5.out HBj.out)
                by_cases hjl : j < N.length
                · obtain ⟨g, e7, hcn⟩ := (HO5.out.below HBj.out).rd_cell hjl
                  subst e7
                  obtain ⟨q1, q2, q3⟩ := H12.out j hjl
                  obtain ⟨q, hq⟩ : ∃ q : Nat, N[j] = q := ⟨N[j].toNat, by omega⟩
                  rw [hq] at hcn q1 q2 q3
                  rw [Int.toNat_natCast] at q3
                  have hr5 := (HBY.out.block _ (row_lt HR4.out)).trans HR4.out
                  have y0 := row_cell hr5 0 rfl
                  simp only [List.getElem_toArray, List.getElem_cons_zero, List.getElem_cons_succ] at y0
                  have Q3 := Lib.hid q3
                  have HSq := Lib.hid (HS4.out.bel HBY.out)
                  clear hr5 q3 hq q1
                  by_cases hqn : q < l.length
                  · have hqS : q < S.length := by rw [HSl.out]; exact hqn
                    obtain ⟨sb2, so2, e7, z5⟩ := rd_cell HSq.out hqS
                    simp only [Option.some.injEq, Addr.mk.injEq, and_true] at e7
                    obtain ⟨rfl, rfl⟩ := e7
                    by_cases hq1 : q = f + 1
                    · have hb1 : ((q : Int) != (f : Int) + 1) = false := by rw [bne_eq_false_iff_eq]; omega
                      by_cases hm1 : m' = 1
                      · have hz := Q3.out (by omega) (.inr hm1)
                        rw [hz] at z5
                        have hb2 : ((m' : Int) == 1) = true := by rw [beq_iff_eq]; omega
                        clear hq1 hm1 hz
                        go_wp2
                        go_roundw
                        case rel => exact ⟨j + 1, by omega, by go_num, HBj⟩
                        case measure => simp [intOf]; omega
                      · have hb2 : ((m' : Int) == 1) = false := beq_eq_false_iff_ne.2 (by omega)
                        clear hq1 hm1 z5
                        go_wp2
                        go_roundw
                        case rel => exact ⟨j + 1, by omega, by go_num, HBj⟩
                        case measure => simp [intOf]; omega
                    · have hb1 : ((q : Int) != (f : Int) + 1) = true := by rw [bne_iff_ne]; omega
                      have hz := Q3.out (by omega) (.inl (by omega))
                      rw [hz] at z5
                      clear hq1 hz
                      go_wp2
                      go_roundw
                      case rel => exact ⟨j + 1, by omega, by go_num, HBj⟩
                      case measure => simp [intOf]; omega
                  · have hqd : decide (q < l.length) = false := decide_eq_false hqn
                    go_wp2
                    go_roundw
                    case rel => exact ⟨j + 1, by omega, by go_num, HBj⟩
                    case measure => simp [intOf]; omega
                · go_wp2
                  go_roundw
                  case rel => exact ⟨f + 1, by omega, by go_num, HBY⟩
                  case measure => simp [intOf]; omega

      · go_wp2
        go_ret
        exact ⟨rfl, below_next HB4.out HB.out⟩
  · rw [blkP_none (by rw [HER.out]; exact he)] at hbl
    obtain ⟨b1, d1, rfl⟩ := own_zero hbl.s rfl
    obtain ⟨b2, d2, rfl⟩ := own_zero hbl.l rfl
    have hb4 := below_alloc w3 (.cells #[.slice b1 0 d1, .slice b2 0 d2] 40)
    have hr4 := heap_alloc_new w3 (.cells #[.slice b1 0 d1, .slice b2 0 d2] 40)
    have t0 := row_cell hr4 0 rfl; have t1 := row_cell hr4 1 rfl
    simp only [List.getElem_toArray, List.getElem_cons_zero, List.getElem_cons_succ] at t0 t1
    have HB4 := Lib.hid (below_next HB3.out hb4)
    have hen : (er != 0) = true := by simp [he]
    clear hbl hb4 hr4 he
    go_wp2
    go_ret
    exact ⟨rfl, HB4.out⟩
end Go.Proofs.Ytiaoonlhgjfdjaa
