/- flagonlaw03.OpsFind, walked. -/
import Derived.Test.YtmlniifdipeboaaDoorOpsLaw
namespace Go.Proofs.YtmlniifdipeboaaDoor
open Go Go.RowKit

theorem row_parts (op : Nat) (h : isOp op = true) : (rowVal op).toArray = #[.int .u8 op, .string ⟨(wordP op).toArray⟩, .int .i8 (progRow op).takes, .string ⟨(progRow op).pops.toArray⟩, .string ⟨(progRow op).pushes.toArray⟩, .bool (progRow op).plain] := by
  rw [rowVal, if_pos h]; rfl
theorem row_none (op : Nat) (h : isOp op = false) : (rowVal op).toArray = #[.int .u8 0, .string ⟨#[]⟩, .int .i8 0, .string ⟨#[]⟩, .string ⟨#[]⟩, .bool false] := by
  rw [rowVal, if_neg (by simp [h])]; rfl
theorem count_step {op k n : Nat} (h : allOps[k]? = some n) : (allOps.take (k + 1)).countP (fun x => x == op) = (allOps.take k).countP (fun x => x == op) + (if n = op then 1 else 0) := by
  rw [List.take_add_one, h, List.countP_append]
  by_cases e : n = op <;> simp [e]
theorem rising {j m n : Nat} (h : j + 1 < 90) (h1 : allOps[j]? = some m) (h2 : allOps[j + 1]? = some n) : m < n := by
  have := all_rising ⟨j, by omega⟩
  simp only [List.getD_eq_getElem?_getD] at this
  rw [h1, h2] at this
  simpa using this
/-- A row of six cells stands. -/
theorem row_on {w w' : World} {g : Nat} {o : Obj} (h : Hid (w.heap[g]? = some o)) (hb : Below w.heap.size w w') : Hid (w'.heap[g]? = some o) := Lib.hid ((hb.block _ (row_lt h.out)).trans h.out)

set_option maxRecDepth 100000 in
set_option maxHeartbeats 6400000 in
theorem law_find_none (w : World) (op other : Nat) (ho : op < 256) (ho2 : other < 256) (ht : Tb w) (h : isOp op = false) :
    Calls Tryd.prog 4 #[.int .u8 op, .int .u8 other] w fun e w' => e = .returned (.bool true) ∧ Below w.heap.size w w' := by
  have HT := Lib.hid ht; clear ht
  obtain ⟨x, s, t, p, q, b, hrow2⟩ := rowVal_parts other
  have hrow := row_none op h
  go_enter Tryd.func4, Tryd.ntmps4
  go_wp2_with fail
  refine (ops_Of _ op ho HT.out).mono ?_
  rintro e w1 ⟨rfl, hb1⟩
  rw [hrow, h]
  have HB1 := Lib.hid hb1
  have hr1 := heap_alloc_new w1 (.cells #[.int .u8 0, .string ⟨#[]⟩, .int .i8 0, .string ⟨#[]⟩, .string ⟨#[]⟩, .bool false] 24)
  have hb2 := HB1.out.alloc HB1.out.size (.cells #[.int .u8 0, .string ⟨#[]⟩, .int .i8 0, .string ⟨#[]⟩, .string ⟨#[]⟩, .bool false] 24)
  clear hb1
  go_wp2_with fail
  generalize w1.alloc (.cells #[.int .u8 0, .string ⟨#[]⟩, .int .i8 0, .string ⟨#[]⟩, .string ⟨#[]⟩, .bool false] 24) = w2 at *
  generalize w1.heap.size = g at *
  have HB2 := Lib.hid hb2; have HR2 := Lib.hid hr1
  clear hb2 hr1 HB1 hrow
  refine (ops_Of _ other ho2 (HT.out.bel HB2.out)).mono ?_
  rintro e w3 ⟨rfl, hb3⟩
  rw [hrow2]
  have HR3 := row_on HR2 hb3
  have HB3 := Lib.hid (below_next HB2.out hb3)
  clear hb3 HR2 HB2 hrow2
  have HB4 := Lib.hid (HB3.out.alloc HB3.out.size (.cells #[.int .u8 x, .string s, .int .i8 t, .string p, .string q, .bool b] 24))
  have HR4 := row_on HR3 (below_alloc w3 (.cells #[.int .u8 x, .string s, .int .i8 t, .string p, .string q, .bool b] 24))
  generalize isOp other = io at *
  go_wp2_with fail
  generalize w3.alloc (.cells #[.int .u8 x, .string s, .int .i8 t, .string p, .string q, .bool b] 24) = w4 at *
  refine (law_works03 _ (HT.out.bel HB4.out)).mono ?_
  rintro e w5 ⟨rfl, hb5⟩
  have HR5 := row_on HR4 hb5
  have HB5 := Lib.hid (below_next HB4.out hb5)
  clear hb5 HR4 HB4 HR3 HB3
  have g0 := row_cell HR5.out 0 rfl; have g1 := row_cell HR5.out 1 rfl; have g2 := row_cell HR5.out 2 rfl; have g3 := row_cell HR5.out 3 rfl; have g4 := row_cell HR5.out 4 rfl; have g5 := row_cell HR5.out 5 rfl
  simp only [List.getElem_toArray, List.getElem_cons_zero, List.getElem_cons_succ] at g0 g1 g2 g3 g4 g5
  go_wp2
  go_ret
  exact ⟨rfl, HB5.out⟩

set_option maxRecDepth 100000 in
set_option maxHeartbeats 12800000 in
theorem law_find_some (w : World) (op other : Nat) (ho : op < 256) (ho2 : other < 256) (ht : Tb w) (h : isOp op = true) :
    Calls Tryd.prog 4 #[.int .u8 op, .int .u8 other] w fun e w' => e = .returned (.bool true) ∧ Below w.heap.size w w' := by
  have HT := Lib.hid ht; clear ht
  have hfind := find_word ⟨op, ho⟩ h
  simp only at hfind
  have honce := Lib.hid (all_once ⟨op, ho⟩ h)
  simp only at honce
  have hshort := row_short ⟨op, ho⟩ h
  simp only at hshort
  obtain ⟨x, s2, t2, p2, q2, b2, hrow2, HAP⟩ : ∃ (x : Int) (s : List UInt8) (t : Int) (p q : ByteArray) (b : Bool), (rowVal other).toArray = #[.int .u8 x, .string ⟨s.toArray⟩, .int .i8 t, .string p, .string q, .bool b] ∧ Hid (isOp other = true → op ≠ other → ¬ wordP op = s) := by
    cases ho3 : isOp other with
    | true => exact ⟨_, _, _, _, _, _, row_parts other ho3, Lib.hid fun _ hne => words_apart ho ho2 h ho3 hne⟩
    | false => exact ⟨_, [], _, _, _, _, row_none other ho3, Lib.hid fun e => by cases e⟩
  have hrow := row_parts op h
  generalize (progRow op).takes = t at *
  generalize (progRow op).pops = pp at *
  generalize (progRow op).pushes = pu at *
  generalize (progRow op).plain = pl at *
  generalize wordP op = wd at *
  have HF := Lib.hid hfind; have HSh := Lib.hid hshort
  clear hfind hshort
  go_enter Tryd.func4, Tryd.ntmps4
  go_wp2_with fail
  refine (ops_Of _ op ho HT.out).mono ?_
  rintro e w1 ⟨rfl, hb1⟩
  rw [hrow, h]
  have HB1 := Lib.hid hb1
  have hr1 := heap_alloc_new w1 (.cells #[.int .u8 op, .string ⟨wd.toArray⟩, .int .i8 t, .string ⟨pp.toArray⟩, .string ⟨pu.toArray⟩, .bool pl] 24)
  have hb2 := HB1.out.alloc HB1.out.size (.cells #[.int .u8 op, .string ⟨wd.toArray⟩, .int .i8 t, .string ⟨pp.toArray⟩, .string ⟨pu.toArray⟩, .bool pl] 24)
  clear hb1
  go_wp2_with fail
  generalize w1.alloc (.cells #[.int .u8 op, .string ⟨wd.toArray⟩, .int .i8 t, .string ⟨pp.toArray⟩, .string ⟨pu.toArray⟩, .bool pl] 24) = w2 at *
  generalize w1.heap.size = g at *
  have HB2 := Lib.hid hb2; have HR2 := Lib.hid hr1
  clear hb2 hr1 HB1 hrow h
  refine (ops_Of _ other ho2 (HT.out.bel HB2.out)).mono ?_
  rintro e w3 ⟨rfl, hb3⟩
  rw [hrow2]
  have HR3 := row_on HR2 hb3
  have HB3 := Lib.hid (below_next HB2.out hb3)
  clear hb3 HR2 HB2 hrow2
  have HB4 := Lib.hid (HB3.out.alloc HB3.out.size (.cells #[.int .u8 x, .string ⟨s2.toArray⟩, .int .i8 t2, .string p2, .string q2, .bool b2] 24))
  have HR4 := row_on HR3 (below_alloc w3 (.cells #[.int .u8 x, .string ⟨s2.toArray⟩, .int .i8 t2, .string p2, .string q2, .bool b2] 24))
  have HQ4 := Lib.hid (heap_alloc_new w3 (.cells #[.int .u8 x, .string ⟨s2.toArray⟩, .int .i8 t2, .string p2, .string q2, .bool b2] 24))
  have g1 := row_cell HR4.out 1 rfl
  simp only [List.getElem_toArray, List.getElem_cons_zero, List.getElem_cons_succ] at g1
  generalize isOp other = io at *
  go_wp2_with fail
  generalize w3.alloc (.cells #[.int .u8 x, .string ⟨s2.toArray⟩, .int .i8 t2, .string p2, .string q2, .bool b2] 24) = w4 at *
  generalize w3.heap.size = g2 at *
  refine (ops_Find _ wd (HT.out.bel HB4.out)).mono ?_
  rintro e w5 ⟨rfl, hb5⟩
  rw [findN, HF.out]
  have HR5 := row_on HR4 hb5; have HQ5 := row_on HQ4 hb5
  have HB5 := Lib.hid (below_next HB4.out hb5)
  clear hb5 HR4 HQ4 HB4 HR3 HB3 g1 HF
  have g1 := row_cell HR5.out 1 rfl; have q1 := row_cell HQ5.out 1 rfl
  simp only [List.getElem_toArray, List.getElem_cons_zero, List.getElem_cons_succ] at g1 q1
  simp only [Option.getD_some, Option.isSome_some]
  have hgo : Hid (io = false ∨ op = other ∨ (io = true ∧ op ≠ other ∧ ¬ wd = s2)) := by
    by_cases e1 : op = other
    · exact .inr (.inl e1)
    · cases io with
      | false => exact .inl rfl
      | true => exact .inr (.inr ⟨rfl, e1, HAP.out rfl e1⟩)
  clear HAP
  rcases hgo.out with rfl | rfl | ⟨rfl, e1, e2⟩
  · clear hgo
    go_wp2_with fail
    refine (ops_All _ (HT.out.bel HB5.out)).mono ?_
    rintro e w6 ⟨v6, rfl, hown, hb6⟩
    have HR : Hid (RdI .u8 (fun b => v6.ownBlock = some b) w6 v6 (allOps.map fun n : Nat => (n : Int))) := RdI.of_own (by rw [List.map_map, List.length_map, all_len]; exact hown) (by simp [all_len])
    obtain ⟨a, cap, rfl, _⟩ := HR.out.lenc
    have H1 : Hid (∀ k, k < 90 → ∃ n b off, allOps[k]? = some n ∧ n < 256 ∧ isOp n = true ∧ a = some ⟨b, off, none⟩ ∧ w6.cell? ⟨b, off + k, none⟩ = some (.int .u8 (n : Nat))) := by
      intro k hk
      obtain ⟨n, hn, h2, h3⟩ := all_at hk
      obtain ⟨a', c', e, _, _, h⟩ := HR.out
      simp only [Value.slice.injEq] at e
      obtain ⟨rfl, _, rfl⟩ := e
      obtain ⟨b, off, ha, _, hc⟩ := h k (by simp [all_len, hk])
      refine ⟨n, b, off, hn, h2, h3, ha, ?_⟩
      rw [hc, List.getElem_map, (List.getElem?_eq_some_iff.1 hn).2]
    have hl : (allOps.map fun n : Nat => (n : Int)).length = 90 := by simp [all_len]
    rw [hl]
    have HR6 := row_on HR5 hb6
    have HB6 := Lib.hid (below_next HB5.out hb6)
    clear hown hb6 HR hl HR5 HQ5 g1 q1
    go_wp2
    go_loopw [12, 13] (fun c i wr => ∃ k : Nat, k ≤ 90 ∧ i = .int .i64 k ∧ c = .int .i64 ((allOps.take k).countP (fun x => x == op) : Nat) ∧ Below w6.heap.size w6 wr) (fun _ i _ => 90 - (intOf i).toNat)
    case atStart => exact ⟨0, by omega, rfl, by simp, Below.refl _ _⟩
    case round =>
      obtain ⟨k, hk, rfl, rfl, hbr⟩ := hrel
      have HBr := Lib.hid hbr
      by_cases hlt : k < 90
      · obtain ⟨n, b, off, hn, hn2, hn3, rfl, hc⟩ := H1.out k hlt
        have hc := cell_below hbr hc
        have HCs := Lib.hid (count_step (op := op) hn)
        have hcl : (allOps.take k).countP (fun x => x == op) ≤ 90 := by have := List.countP_le_length (p := fun x => x == op) (l := allOps.take k); simp at this; omega
        generalize (allOps.take k).countP (fun x => x == op) = c at *
        have HK := Lib.hid hcl
        have F1 : IntKind.i64.wrap ((c : Int) + 1) = ((c + 1 : Nat) : Int) := by rw [IntWalk.i64_in _ ⟨by omega, by omega⟩]; push_cast; rfl
        have F2 : IntKind.i64.wrap ((k : Int) + 1) = ((k + 1 : Nat) : Int) := by rw [IntWalk.i64_in _ ⟨by omega, by omega⟩]; push_cast; rfl
        rcases Nat.eq_zero_or_pos k with hk0 | hk0
        · have hz : decide ((0 : Int) < (k : Int)) = false := by rw [decide_eq_false_iff_not]; omega
          have hz' : decide (0 < k) = false := by rw [decide_eq_false_iff_not]; omega
          clear hk0
          by_cases e : n = op
          · have HX : Hid ((allOps.take (k + 1)).countP (fun x => x == op) = c + 1) := by have := HCs.out; rw [if_pos e] at this; exact this
            have E1 : ((n : Int) == op) = true := by rw [beq_iff_eq]; omega
            clear HCs e hn
            go_wp2
            go_quiet (fail)
            go_wp2
            go_roundw
            case rel => exact ⟨k + 1, by omega, by go_num, by rw [HX.out]; first | done | go_num, below_next hbr (drewN_below _ _)⟩
            case measure => simp [intOf]; omega
          · have HX : Hid ((allOps.take (k + 1)).countP (fun x => x == op) = c) := by have := HCs.out; rw [if_neg e] at this; exact this
            have E1 : ((n : Int) == op) = false := by rw [beq_eq_false_iff_ne]; omega
            clear HCs e hn
            go_wp2
            go_quiet (fail)
            go_wp2
            go_roundw
            case rel => exact ⟨k + 1, by omega, by go_num, by rw [HX.out]; first | done | go_num, below_next hbr (drewN_below _ _)⟩
            case measure => simp [intOf]; omega
        · obtain ⟨m, b', off', hm, _, _, hbo, hcm⟩ := H1.out (k - 1) (by omega)
          simp only [Option.some.injEq, Addr.mk.injEq, and_true] at hbo
          obtain ⟨rfl, rfl⟩ := hbo
          have hcm := cell_below hbr hcm
          have hlt2 := rising (j := k - 1) (m := m) (n := n) (by omega) hm (by rw [Nat.sub_add_cancel hk0]; exact hn)
          have hg : (0 : Int) < (k : Int) := by omega
          have F4 : IntKind.i64.wrap ((k : Int) - 1) = ((k - 1 : Nat) : Int) := by rw [IntWalk.i64_in _ ⟨by omega, by omega⟩]; omega
          have hge : decide ((n : Int) ≤ (m : Int)) = false := by rw [decide_eq_false_iff_not]; omega
          have hin : k - 1 < 90 := by omega
          generalize k - 1 = j at *
          clear hm
          by_cases e : n = op
          · have HX : Hid ((allOps.take (k + 1)).countP (fun x => x == op) = c + 1) := by have := HCs.out; rw [if_pos e] at this; exact this
            have E1 : ((n : Int) == op) = true := by rw [beq_iff_eq]; omega
            clear HCs e hn
            go_wp2
            go_quiet (fail)
            go_wp2
            go_roundw
            case rel => exact ⟨k + 1, by omega, by go_num, by rw [HX.out]; first | done | go_num, below_next hbr (drewN_below _ _)⟩
            case measure => simp [intOf]; omega
          · have HX : Hid ((allOps.take (k + 1)).countP (fun x => x == op) = c) := by have := HCs.out; rw [if_neg e] at this; exact this
            have E1 : ((n : Int) == op) = false := by rw [beq_eq_false_iff_ne]; omega
            clear HCs e hn
            go_wp2
            go_quiet (fail)
            go_wp2
            go_roundw
            case rel => exact ⟨k + 1, by omega, by go_num, by rw [HX.out]; first | done | go_num, below_next hbr (drewN_below _ _)⟩
            case measure => simp [intOf]; omega
      · have HX : Hid ((allOps.take k).countP (fun x => x == op) = 1) := by have := honce.out; rw [List.take_of_length_le (by rw [all_len]; omega)]; exact this
        rw [HX.out]
        have HR7 := row_on HR6 hbr
        have HB7 := Lib.hid (below_next HB6.out hbr)
        clear hbr H1
        go_wp2_with fail
        refine (law_works03 _ (HT.out.bel HB7.out)).mono ?_
        rintro e w8 ⟨rfl, hb8⟩
        have HR8 := row_on HR7 hb8
        have HB8 := Lib.hid (below_next HB7.out hb8)
        clear hb8
        have g0 := row_cell HR8.out 0 rfl; have g3 := row_cell HR8.out 3 rfl; have g4 := row_cell HR8.out 4 rfl; have g5 := row_cell HR8.out 5 rfl
        simp only [List.getElem_toArray, List.getElem_cons_zero, List.getElem_cons_succ] at g0 g3 g4 g5
        obtain ⟨q1, q2, q3⟩ := HSh.out
        rcases q3 with rfl | ⟨rfl, rfl⟩
        · go_wp2
          go_ret
          exact ⟨rfl, HB8.out⟩
        · cases pl
          · go_wp2
            go_ret
            exact ⟨rfl, HB8.out⟩
          · go_wp2
            go_ret
            exact ⟨rfl, HB8.out⟩
  · clear hgo
    cases io
    · go_wp2_with fail
      refine (ops_All _ (HT.out.bel HB5.out)).mono ?_
      rintro e w6 ⟨v6, rfl, hown, hb6⟩
      have HR : Hid (RdI .u8 (fun b => v6.ownBlock = some b) w6 v6 (allOps.map fun n : Nat => (n : Int))) := RdI.of_own (by rw [List.map_map, List.length_map, all_len]; exact hown) (by simp [all_len])
      obtain ⟨a, cap, rfl, _⟩ := HR.out.lenc
      have H1 : Hid (∀ k, k < 90 → ∃ n b off, allOps[k]? = some n ∧ n < 256 ∧ isOp n = true ∧ a = some ⟨b, off, none⟩ ∧ w6.cell? ⟨b, off + k, none⟩ = some (.int .u8 (n : Nat))) := by
        intro k hk
        obtain ⟨n, hn, h2, h3⟩ := all_at hk
        obtain ⟨a', c', e, _, _, h⟩ := HR.out
        simp only [Value.slice.injEq] at e
        obtain ⟨rfl, _, rfl⟩ := e
        obtain ⟨b, off, ha, _, hc⟩ := h k (by simp [all_len, hk])
        refine ⟨n, b, off, hn, h2, h3, ha, ?_⟩
        rw [hc, List.getElem_map, (List.getElem?_eq_some_iff.1 hn).2]
      have hl : (allOps.map fun n : Nat => (n : Int)).length = 90 := by simp [all_len]
      rw [hl]
      have HR6 := row_on HR5 hb6
      have HB6 := Lib.hid (below_next HB5.out hb6)
      clear hown hb6 HR hl HR5 HQ5 g1 q1
      go_wp2
      go_loopw [12, 13] (fun c i wr => ∃ k : Nat, k ≤ 90 ∧ i = .int .i64 k ∧ c = .int .i64 ((allOps.take k).countP (fun x => x == op) : Nat) ∧ Below w6.heap.size w6 wr) (fun _ i _ => 90 - (intOf i).toNat)
      case atStart => exact ⟨0, by omega, rfl, by simp, Below.refl _ _⟩
      case round =>
        obtain ⟨k, hk, rfl, rfl, hbr⟩ := hrel
        have HBr := Lib.hid hbr
        by_cases hlt : k < 90
        · obtain ⟨n, b, off, hn, hn2, hn3, rfl, hc⟩ := H1.out k hlt
          have hc := cell_below hbr hc
          have HCs := Lib.hid (count_step (op := op) hn)
          have hcl : (allOps.take k).countP (fun x => x == op) ≤ 90 := by have := List.countP_le_length (p := fun x => x == op) (l := allOps.take k); simp at this; omega
          generalize (allOps.take k).countP (fun x => x == op) = c at *
          have HK := Lib.hid hcl
          have F1 : IntKind.i64.wrap ((c : Int) + 1) = ((c + 1 : Nat) : Int) := by rw [IntWalk.i64_in _ ⟨by omega, by omega⟩]; push_cast; rfl
          have F2 : IntKind.i64.wrap ((k : Int) + 1) = ((k + 1 : Nat) : Int) := by rw [IntWalk.i64_in _ ⟨by omega, by omega⟩]; push_cast; rfl
          rcases Nat.eq_zero_or_pos k with hk0 | hk0
          · have hz : decide ((0 : Int) < (k : Int)) = false := by rw [decide_eq_false_iff_not]; omega
            have hz' : decide (0 < k) = false := by rw [decide_eq_false_iff_not]; omega
            clear hk0
            by_cases e : n = op
            · have HX : Hid ((allOps.take (k + 1)).countP (fun x => x == op) = c + 1) := by have := HCs.out; rw [if_pos e] at this; exact this
              have E1 : ((n : Int) == op) = true := by rw [beq_iff_eq]; omega
              clear HCs e hn
              go_wp2
              go_quiet (fail)
              go_wp2
              go_roundw
              case rel => exact ⟨k + 1, by omega, by go_num, by rw [HX.out]; first | done | go_num, below_next hbr (drewN_below _ _)⟩
              case measure => simp [intOf]; omega
            · have HX : Hid ((allOps.take (k + 1)).countP (fun x => x == op) = c) := by have := HCs.out; rw [if_neg e] at this; exact this
              have E1 : ((n : Int) == op) = false := by rw [beq_eq_false_iff_ne]; omega
              clear HCs e hn
              go_wp2
              go_quiet (fail)
              go_wp2
              go_roundw
              case rel => exact ⟨k + 1, by omega, by go_num, by rw [HX.out]; first | done | go_num, below_next hbr (drewN_below _ _)⟩
              case measure => simp [intOf]; omega
          · obtain ⟨m, b', off', hm, _, _, hbo, hcm⟩ := H1.out (k - 1) (by omega)
            simp only [Option.some.injEq, Addr.mk.injEq, and_true] at hbo
            obtain ⟨rfl, rfl⟩ := hbo
            have hcm := cell_below hbr hcm
            have hlt2 := rising (j := k - 1) (m := m) (n := n) (by omega) hm (by rw [Nat.sub_add_cancel hk0]; exact hn)
            have hg : (0 : Int) < (k : Int) := by omega
            have F4 : IntKind.i64.wrap ((k : Int) - 1) = ((k - 1 : Nat) : Int) := by rw [IntWalk.i64_in _ ⟨by omega, by omega⟩]; omega
            have hge : decide ((n : Int) ≤ (m : Int)) = false := by rw [decide_eq_false_iff_not]; omega
            have hin : k - 1 < 90 := by omega
            generalize k - 1 = j at *
            clear hm
            by_cases e : n = op
            · have HX : Hid ((allOps.take (k + 1)).countP (fun x => x == op) = c + 1) := by have := HCs.out; rw [if_pos e] at this; exact this
              have E1 : ((n : Int) == op) = true := by rw [beq_iff_eq]; omega
              clear HCs e hn
              go_wp2
              go_quiet (fail)
              go_wp2
              go_roundw
              case rel => exact ⟨k + 1, by omega, by go_num, by rw [HX.out]; first | done | go_num, below_next hbr (drewN_below _ _)⟩
              case measure => simp [intOf]; omega
            · have HX : Hid ((allOps.take (k + 1)).countP (fun x => x == op) = c) := by have := HCs.out; rw [if_neg e] at this; exact this
              have E1 : ((n : Int) == op) = false := by rw [beq_eq_false_iff_ne]; omega
              clear HCs e hn
              go_wp2
              go_quiet (fail)
              go_wp2
              go_roundw
              case rel => exact ⟨k + 1, by omega, by go_num, by rw [HX.out]; first | done | go_num, below_next hbr (drewN_below _ _)⟩
              case measure => simp [intOf]; omega
        · have HX : Hid ((allOps.take k).countP (fun x => x == op) = 1) := by have := honce.out; rw [List.take_of_length_le (by rw [all_len]; omega)]; exact this
          rw [HX.out]
          have HR7 := row_on HR6 hbr
          have HB7 := Lib.hid (below_next HB6.out hbr)
          clear hbr H1
          go_wp2_with fail
          refine (law_works03 _ (HT.out.bel HB7.out)).mono ?_
          rintro e w8 ⟨rfl, hb8⟩
          have HR8 := row_on HR7 hb8
          have HB8 := Lib.hid (below_next HB7.out hb8)
          clear hb8
          have g0 := row_cell HR8.out 0 rfl; have g3 := row_cell HR8.out 3 rfl; have g4 := row_cell HR8.out 4 rfl; have g5 := row_cell HR8.out 5 rfl
          simp only [List.getElem_toArray, List.getElem_cons_zero, List.getElem_cons_succ] at g0 g3 g4 g5
          obtain ⟨q1, q2, q3⟩ := HSh.out
          rcases q3 with rfl | ⟨rfl, rfl⟩
          · go_wp2
            go_ret
            exact ⟨rfl, HB8.out⟩
          · cases pl
            · go_wp2
              go_ret
              exact ⟨rfl, HB8.out⟩
            · go_wp2
              go_ret
              exact ⟨rfl, HB8.out⟩
    · go_wp2_with fail
      refine (ops_All _ (HT.out.bel HB5.out)).mono ?_
      rintro e w6 ⟨v6, rfl, hown, hb6⟩
      have HR : Hid (RdI .u8 (fun b => v6.ownBlock = some b) w6 v6 (allOps.map fun n : Nat => (n : Int))) := RdI.of_own (by rw [List.map_map, List.length_map, all_len]; exact hown) (by simp [all_len])
      obtain ⟨a, cap, rfl, _⟩ := HR.out.lenc
      have H1 : Hid (∀ k, k < 90 → ∃ n b off, allOps[k]? = some n ∧ n < 256 ∧ isOp n = true ∧ a = some ⟨b, off, none⟩ ∧ w6.cell? ⟨b, off + k, none⟩ = some (.int .u8 (n : Nat))) := by
        intro k hk
        obtain ⟨n, hn, h2, h3⟩ := all_at hk
        obtain ⟨a', c', e, _, _, h⟩ := HR.out
        simp only [Value.slice.injEq] at e
        obtain ⟨rfl, _, rfl⟩ := e
        obtain ⟨b, off, ha, _, hc⟩ := h k (by simp [all_len, hk])
        refine ⟨n, b, off, hn, h2, h3, ha, ?_⟩
        rw [hc, List.getElem_map, (List.getElem?_eq_some_iff.1 hn).2]
      have hl : (allOps.map fun n : Nat => (n : Int)).length = 90 := by simp [all_len]
      rw [hl]
      have HR6 := row_on HR5 hb6
      have HB6 := Lib.hid (below_next HB5.out hb6)
      clear hown hb6 HR hl HR5 HQ5 g1 q1
      go_wp2
      go_loopw [12, 13] (fun c i wr => ∃ k : Nat, k ≤ 90 ∧ i = .int .i64 k ∧ c = .int .i64 ((allOps.take k).countP (fun x => x == op) : Nat) ∧ Below w6.heap.size w6 wr) (fun _ i _ => 90 - (intOf i).toNat)
      case atStart => exact ⟨0, by omega, rfl, by simp, Below.refl _ _⟩
      case round =>
        obtain ⟨k, hk, rfl, rfl, hbr⟩ := hrel
        have HBr := Lib.hid hbr
        by_cases hlt : k < 90
        · obtain ⟨n, b, off, hn, hn2, hn3, rfl, hc⟩ := H1.out k hlt
          have hc := cell_below hbr hc
          have HCs := Lib.hid (count_step (op := op) hn)
          have hcl : (allOps.take k).countP (fun x => x == op) ≤ 90 := by have := List.countP_le_length (p := fun x => x == op) (l := allOps.take k); simp at this; omega
          generalize (allOps.take k).countP (fun x => x == op) = c at *
          have HK := Lib.hid hcl
          have F1 : IntKind.i64.wrap ((c : Int) + 1) = ((c + 1 : Nat) : Int) := by rw [IntWalk.i64_in _ ⟨by omega, by omega⟩]; push_cast; rfl
          have F2 : IntKind.i64.wrap ((k : Int) + 1) = ((k + 1 : Nat) : Int) := by rw [IntWalk.i64_in _ ⟨by omega, by omega⟩]; push_cast; rfl
          rcases Nat.eq_zero_or_pos k with hk0 | hk0
          · have hz : decide ((0 : Int) < (k : Int)) = false := by rw [decide_eq_false_iff_not]; omega
            have hz' : decide (0 < k) = false := by rw [decide_eq_false_iff_not]; omega
            clear hk0
            by_cases e : n = op
            · have HX : Hid ((allOps.take (k + 1)).countP (fun x => x == op) = c + 1) := by have := HCs.out; rw [if_pos e] at this; exact this
              have E1 : ((n : Int) == op) = true := by rw [beq_iff_eq]; omega
              clear HCs e hn
              go_wp2
              go_quiet (fail)
              go_wp2
              go_roundw
              case rel => exact ⟨k + 1, by omega, by go_num, by rw [HX.out]; first | done | go_num, below_next hbr (drewN_below _ _)⟩
              case measure => simp [intOf]; omega
            · have HX : Hid ((allOps.take (k + 1)).countP (fun x => x == op) = c) := by have := HCs.out; rw [if_neg e] at this; exact this
              have E1 : ((n : Int) == op) = false := by rw [beq_eq_false_iff_ne]; omega
              clear HCs e hn
              go_wp2
              go_quiet (fail)
              go_wp2
              go_roundw
              case rel => exact ⟨k + 1, by omega, by go_num, by rw [HX.out]; first | done | go_num, below_next hbr (drewN_below _ _)⟩
              case measure => simp [intOf]; omega
          · obtain ⟨m, b', off', hm, _, _, hbo, hcm⟩ := H1.out (k - 1) (by omega)
            simp only [Option.some.injEq, Addr.mk.injEq, and_true] at hbo
            obtain ⟨rfl, rfl⟩ := hbo
            have hcm := cell_below hbr hcm
            have hlt2 := rising (j := k - 1) (m := m) (n := n) (by omega) hm (by rw [Nat.sub_add_cancel hk0]; exact hn)
            have hg : (0 : Int) < (k : Int) := by omega
            have F4 : IntKind.i64.wrap ((k : Int) - 1) = ((k - 1 : Nat) : Int) := by rw [IntWalk.i64_in _ ⟨by omega, by omega⟩]; omega
            have hge : decide ((n : Int) ≤ (m : Int)) = false := by rw [decide_eq_false_iff_not]; omega
            have hin : k - 1 < 90 := by omega
            generalize k - 1 = j at *
            clear hm
            by_cases e : n = op
            · have HX : Hid ((allOps.take (k + 1)).countP (fun x => x == op) = c + 1) := by have := HCs.out; rw [if_pos e] at this; exact this
              have E1 : ((n : Int) == op) = true := by rw [beq_iff_eq]; omega
              clear HCs e hn
              go_wp2
              go_quiet (fail)
              go_wp2
              go_roundw
              case rel => exact ⟨k + 1, by omega, by go_num, by rw [HX.out]; first | done | go_num, below_next hbr (drewN_below _ _)⟩
              case measure => simp [intOf]; omega
            · have HX : Hid ((allOps.take (k + 1)).countP (fun x => x == op) = c) := by have := HCs.out; rw [if_neg e] at this; exact this
              have E1 : ((n : Int) == op) = false := by rw [beq_eq_false_iff_ne]; omega
              clear HCs e hn
              go_wp2
              go_quiet (fail)
              go_wp2
              go_roundw
              case rel => exact ⟨k + 1, by omega, by go_num, by rw [HX.out]; first | done | go_num, below_next hbr (drewN_below _ _)⟩
              case measure => simp [intOf]; omega
        · have HX : Hid ((allOps.take k).countP (fun x => x == op) = 1) := by have := honce.out; rw [List.take_of_length_le (by rw [all_len]; omega)]; exact this
          rw [HX.out]
          have HR7 := row_on HR6 hbr
          have HB7 := Lib.hid (below_next HB6.out hbr)
          clear hbr H1
          go_wp2_with fail
          refine (law_works03 _ (HT.out.bel HB7.out)).mono ?_
          rintro e w8 ⟨rfl, hb8⟩
          have HR8 := row_on HR7 hb8
          have HB8 := Lib.hid (below_next HB7.out hb8)
          clear hb8
          have g0 := row_cell HR8.out 0 rfl; have g3 := row_cell HR8.out 3 rfl; have g4 := row_cell HR8.out 4 rfl; have g5 := row_cell HR8.out 5 rfl
          simp only [List.getElem_toArray, List.getElem_cons_zero, List.getElem_cons_succ] at g0 g3 g4 g5
          obtain ⟨q1, q2, q3⟩ := HSh.out
          rcases q3 with rfl | ⟨rfl, rfl⟩
          · go_wp2
            go_ret
            exact ⟨rfl, HB8.out⟩
          · cases pl
            · go_wp2
              go_ret
              exact ⟨rfl, HB8.out⟩
            · go_wp2
              go_ret
              exact ⟨rfl, HB8.out⟩
  · clear hgo
    have e3 : (wd == s2) = false := by rw [beq_eq_false_iff_ne]; exact e2
    go_wp2_with fail
    refine (ops_All _ (HT.out.bel HB5.out)).mono ?_
    rintro e w6 ⟨v6, rfl, hown, hb6⟩
    have HR : Hid (RdI .u8 (fun b => v6.ownBlock = some b) w6 v6 (allOps.map fun n : Nat => (n : Int))) := RdI.of_own (by rw [List.map_map, List.length_map, all_len]; exact hown) (by simp [all_len])
    obtain ⟨a, cap, rfl, _⟩ := HR.out.lenc
    have H1 : Hid (∀ k, k < 90 → ∃ n b off, allOps[k]? = some n ∧ n < 256 ∧ isOp n = true ∧ a = some ⟨b, off, none⟩ ∧ w6.cell? ⟨b, off + k, none⟩ = some (.int .u8 (n : Nat))) := by
      intro k hk
      obtain ⟨n, hn, h2, h3⟩ := all_at hk
      obtain ⟨a', c', e, _, _, h⟩ := HR.out
      simp only [Value.slice.injEq] at e
      obtain ⟨rfl, _, rfl⟩ := e
      obtain ⟨b, off, ha, _, hc⟩ := h k (by simp [all_len, hk])
      refine ⟨n, b, off, hn, h2, h3, ha, ?_⟩
      rw [hc, List.getElem_map, (List.getElem?_eq_some_iff.1 hn).2]
    have hl : (allOps.map fun n : Nat => (n : Int)).length = 90 := by simp [all_len]
    rw [hl]
    have HR6 := row_on HR5 hb6
    have HB6 := Lib.hid (below_next HB5.out hb6)
    clear hown hb6 HR hl HR5 HQ5 g1 q1
    go_wp2
    go_loopw [12, 13] (fun c i wr => ∃ k : Nat, k ≤ 90 ∧ i = .int .i64 k ∧ c = .int .i64 ((allOps.take k).countP (fun x => x == op) : Nat) ∧ Below w6.heap.size w6 wr) (fun _ i _ => 90 - (intOf i).toNat)
    case atStart => exact ⟨0, by omega, rfl, by simp, Below.refl _ _⟩
    case round =>
      obtain ⟨k, hk, rfl, rfl, hbr⟩ := hrel
      have HBr := Lib.hid hbr
      by_cases hlt : k < 90
      · obtain ⟨n, b, off, hn, hn2, hn3, rfl, hc⟩ := H1.out k hlt
        have hc := cell_below hbr hc
        have HCs := Lib.hid (count_step (op := op) hn)
        have hcl : (allOps.take k).countP (fun x => x == op) ≤ 90 := by have := List.countP_le_length (p := fun x => x == op) (l := allOps.take k); simp at this; omega
        generalize (allOps.take k).countP (fun x => x == op) = c at *
        have HK := Lib.hid hcl
        have F1 : IntKind.i64.wrap ((c : Int) + 1) = ((c + 1 : Nat) : Int) := by rw [IntWalk.i64_in _ ⟨by omega, by omega⟩]; push_cast; rfl
        have F2 : IntKind.i64.wrap ((k : Int) + 1) = ((k + 1 : Nat) : Int) := by rw [IntWalk.i64_in _ ⟨by omega, by omega⟩]; push_cast; rfl
        rcases Nat.eq_zero_or_pos k with hk0 | hk0
        · have hz : decide ((0 : Int) < (k : Int)) = false := by rw [decide_eq_false_iff_not]; omega
          have hz' : decide (0 < k) = false := by rw [decide_eq_false_iff_not]; omega
          clear hk0
          by_cases e : n = op
          · have HX : Hid ((allOps.take (k + 1)).countP (fun x => x == op) = c + 1) := by have := HCs.out; rw [if_pos e] at this; exact this
            have E1 : ((n : Int) == op) = true := by rw [beq_iff_eq]; omega
            clear HCs e hn
            go_wp2
            go_quiet (fail)
            go_wp2
            go_roundw
            case rel => exact ⟨k + 1, by omega, by go_num, by rw [HX.out]; first | done | go_num, below_next hbr (drewN_below _ _)⟩
            case measure => simp [intOf]; omega
          · have HX : Hid ((allOps.take (k + 1)).countP (fun x => x == op) = c) := by have := HCs.out; rw [if_neg e] at this; exact this
            have E1 : ((n : Int) == op) = false := by rw [beq_eq_false_iff_ne]; omega
            clear HCs e hn
            go_wp2
            go_quiet (fail)
            go_wp2
            go_roundw
            case rel => exact ⟨k + 1, by omega, by go_num, by rw [HX.out]; first | done | go_num, below_next hbr (drewN_below _ _)⟩
            case measure => simp [intOf]; omega
        · obtain ⟨m, b', off', hm, _, _, hbo, hcm⟩ := H1.out (k - 1) (by omega)
          simp only [Option.some.injEq, Addr.mk.injEq, and_true] at hbo
          obtain ⟨rfl, rfl⟩ := hbo
          have hcm := cell_below hbr hcm
          have hlt2 := rising (j := k - 1) (m := m) (n := n) (by omega) hm (by rw [Nat.sub_add_cancel hk0]; exact hn)
          have hg : (0 : Int) < (k : Int) := by omega
          have F4 : IntKind.i64.wrap ((k : Int) - 1) = ((k - 1 : Nat) : Int) := by rw [IntWalk.i64_in _ ⟨by omega, by omega⟩]; omega
          have hge : decide ((n : Int) ≤ (m : Int)) = false := by rw [decide_eq_false_iff_not]; omega
          have hin : k - 1 < 90 := by omega
          generalize k - 1 = j at *
          clear hm
          by_cases e : n = op
          · have HX : Hid ((allOps.take (k + 1)).countP (fun x => x == op) = c + 1) := by have := HCs.out; rw [if_pos e] at this; exact this
            have E1 : ((n : Int) == op) = true := by rw [beq_iff_eq]; omega
            clear HCs e hn
            go_wp2
            go_quiet (fail)
            go_wp2
            go_roundw
            case rel => exact ⟨k + 1, by omega, by go_num, by rw [HX.out]; first | done | go_num, below_next hbr (drewN_below _ _)⟩
            case measure => simp [intOf]; omega
          · have HX : Hid ((allOps.take (k + 1)).countP (fun x => x == op) = c) := by have := HCs.out; rw [if_neg e] at this; exact this
            have E1 : ((n : Int) == op) = false := by rw [beq_eq_false_iff_ne]; omega
            clear HCs e hn
            go_wp2
            go_quiet (fail)
            go_wp2
            go_roundw
            case rel => exact ⟨k + 1, by omega, by go_num, by rw [HX.out]; first | done | go_num, below_next hbr (drewN_below _ _)⟩
            case measure => simp [intOf]; omega
      · have HX : Hid ((allOps.take k).countP (fun x => x == op) = 1) := by have := honce.out; rw [List.take_of_length_le (by rw [all_len]; omega)]; exact this
        rw [HX.out]
        have HR7 := row_on HR6 hbr
        have HB7 := Lib.hid (below_next HB6.out hbr)
        clear hbr H1
        go_wp2_with fail
        refine (law_works03 _ (HT.out.bel HB7.out)).mono ?_
        rintro e w8 ⟨rfl, hb8⟩
        have HR8 := row_on HR7 hb8
        have HB8 := Lib.hid (below_next HB7.out hb8)
        clear hb8
        have g0 := row_cell HR8.out 0 rfl; have g3 := row_cell HR8.out 3 rfl; have g4 := row_cell HR8.out 4 rfl; have g5 := row_cell HR8.out 5 rfl
        simp only [List.getElem_toArray, List.getElem_cons_zero, List.getElem_cons_succ] at g0 g3 g4 g5
        obtain ⟨q1, q2, q3⟩ := HSh.out
        rcases q3 with rfl | ⟨rfl, rfl⟩
        · go_wp2
          go_ret
          exact ⟨rfl, HB8.out⟩
        · cases pl
          · go_wp2
            go_ret
            exact ⟨rfl, HB8.out⟩
          · go_wp2
            go_ret
            exact ⟨rfl, HB8.out⟩
theorem law_find (w : World) (op other : Nat) (ho : op < 256) (ho2 : other < 256) (ht : Tb w) :
    Calls Tryd.prog 4 #[.int .u8 op, .int .u8 other] w fun e w' => e = .returned (.bool true) ∧ Below w.heap.size w w' := by
  cases h : isOp op with
  | true => exact law_find_some w op other ho ho2 ht h
  | false => exact law_find_none w op other ho ho2 ht h
end Go.Proofs.YtmlniifdipeboaaDoor
