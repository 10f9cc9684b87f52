/- flagonlaw04.InstrList, walked. -/
import Derived.Test.YtmlniifdipeboaaDoorOpenI
namespace Go.Proofs.YtmlniifdipeboaaDoor
open Go Go.RowKit

/-- The bytes of a list of instructions. -/
def encL (l : List InsD) : List Int := l.flatMap encI
theorem encL_take {l : List InsD} {k : Nat} (h : k < l.length) : encL (l.take (k + 1)) = encL (l.take k) ++ encI l[k] := by
  rw [encL, List.take_succ_eq_append_getElem h, List.flatMap_append]; simp [encL]
theorem encL_split {l : List InsD} {k : Nat} (h : k < l.length) : encL l = encL (l.take k) ++ (encI l[k] ++ encL (l.drop (k + 1))) := by
  have e1 : encL l = encL (l.take k) ++ encL (l.drop k) := by unfold encL; rw [← List.flatMap_append, List.take_append_drop]
  have e2 : encL (l.drop k) = encI l[k] ++ encL (l.drop (k + 1)) := by rw [List.drop_eq_getElem_cons h]; unfold encL; rw [List.flatMap_cons]
  rw [e1, e2]
theorem encL_ok {l : List InsD} (h : ∀ x ∈ l, WfIns x ∧ checkI x = 0) : Bytes (encL l) ∧ (encL l).length ≤ 200 * l.length := by
  induction l with
  | nil => exact ⟨fun x hx => by simp [encL] at hx, by simp [encL]⟩
  | cons x l ih =>
    obtain ⟨a, b⟩ := ih fun y hy => h y (List.mem_cons_of_mem _ hy)
    obtain ⟨c, d⟩ := enc_ok (h x List.mem_cons_self).1 (h x List.mem_cons_self).2
    refine ⟨?_, ?_⟩
    · rw [show encL (x :: l) = encI x ++ encL l by simp [encL]]; exact bytes_app c a
    · rw [show encL (x :: l) = encI x ++ encL l by simp [encL], List.length_append, List.length_cons]; omega
/-- What stays while the law goes on: the instructions. -/
structure Lk (w : World) (v : Value) (l : List InsD) (wx : World) : Prop where
  bel : Below w.heap.size w wx
  tb : Tb wx
  rd : RdL 3 (RIns (· < w.heap.size)) (· < w.heap.size) wx v l
theorem RIns.keeps {S T : Nat → Prop} {w w' : World} {cs : List Value} {x : InsD} (h : RIns S w cs x) (hk : Keeps T w w') (hS : ∀ b, S b → T b) : RIns S w' cs x := by
  obtain ⟨v, e, hr⟩ := h
  exact ⟨v, e, hr.keeps (hk.mono fun b _ hb => hS b hb)⟩
theorem Lk.keep {w : World} {v : Value} {l : List InsD} {wx wy : World} {B : Nat} (h : Lk w v l wx) (ht : Tb w) (hk : Keeps (· < B) wx wy) (hB : w.heap.size ≤ B) : Lk w v l wy :=
  have hb : Below w.heap.size w wy := h.bel.trans (hk.below h.bel.size fun _ hy => Nat.lt_of_lt_of_le hy hB)
  have hk' : Keeps (· < w.heap.size) wx wy := hk.mono fun _ _ hy => Nat.lt_of_lt_of_le hy hB
  ⟨hb, ht.bel hb, RdL.map h.rd hk' (fun _ h => h) fun _ _ hr => hr.keeps hk' fun _ h => h⟩
theorem Lk.on {w : World} {v : Value} {l : List InsD} {wx wy : World} (h : Lk w v l wx) (ht : Tb w) (hb : Below wx.heap.size wx wy) : Lk w v l wy :=
  h.keep ht (Keeps.all (· < w.heap.size) hb) (Nat.le_refl _)
/-- The cells of the k-th instruction. -/
theorem Lk.at_ {w : World} {a : Option Addr} {n c : Nat} {l : List InsD} {wx : World} (h : Lk w (.slice a n c) l wx) {k : Nat} (hk : k < l.length) :
    ∃ b off vl, a = some ⟨b, off, none⟩ ∧ wx.cell? ⟨b, off + k * 3, none⟩ = some (.int .u8 l[k].op) ∧ wx.cell? ⟨b, off + k * 3 + 1, none⟩ = some (.int .i64 l[k].a) ∧ wx.cell? ⟨b, off + k * 3 + 2, none⟩ = some vl ∧ RdI .i64 (· < wx.heap.size) wx vl l[k].l := by
  obtain ⟨a', c', e, _, _, h3⟩ := h.rd
  simp only [Value.slice.injEq] at e
  obtain ⟨rfl, _, rfl⟩ := e
  obtain ⟨b, off, cs, e1, e2, e3, e4, vl, e5, e6⟩ := h3 k hk
  subst e5
  exact ⟨b, off, vl, e1, e4 0 (by omega), e4 1 (by omega), e4 2 (by omega), e6.any⟩
theorem dec_list {l : List InsD} (h : ∀ x ∈ l, WfIns x ∧ checkI x = 0) {k : Nat} (hk : k < l.length) : decI (encL l) ((encL (l.take k)).length : Nat) = (l[k], (encL (l.take (k + 1))).length, 0) := by
  have h1 := h l[k] (List.getElem_mem hk)
  have h2 := decI_encI l[k] h1.1 h1.2 (encL (l.take k)) (encL (l.drop (k + 1)))
  rw [← encL_split hk] at h2
  rw [h2, encL_take hk, List.length_append]
set_option maxRecDepth 100000 in
set_option maxHeartbeats 6400000 in
theorem law_list04 (w : World) (v : Value) (l : List InsD) (hwf : ∀ x ∈ l, WfIns x) (h : RdL 3 (RIns (· < w.heap.size)) (· < w.heap.size) w v l) (ht : Tb w) :
    Calls Tryd.prog 7 #[v] w fun e w' => e = .returned (.bool true) ∧ Below w.heap.size w w' := by
  have HK0 : Hid (Lk w v l w) := Lib.hid ⟨Below.refl _ _, ht, h⟩
  have HT := Lib.hid ht; have HWf := Lib.hid hwf
  obtain ⟨a, c, rfl, hlm⟩ := h.len
  clear h ht hwf
  go_enter Tryd.func7, Tryd.ntmps7
  go_wp2_with fail
  refine (law_works04 _ HT.out).mono ?_
  rintro e w1 ⟨rfl, hb1⟩
  have HK1 := Lib.hid (HK0.out.on HT.out hb1)
  have hB : w.heap.size ≤ w1.heap.size := hb1.size
  clear hb1 HK0
  by_cases hbig : 2000 < l.length
  · go_wp2
    go_ret
    exact ⟨rfl, HK1.out.bel⟩
  go_wp2
  go_loopw [4, 5] (fun u i wr => ∃ k : Nat, k ≤ l.length ∧ i = .int .i64 k ∧ Hid (∀ x ∈ l.take k, checkI x = 0) ∧ Hid (wr.ownsRow w1.heap.size 5 1 u (encL (l.take k)).length ((encL (l.take k)).map (Value.int .u8))) ∧ Hid (Lk w (.slice a l.length c) l wr) ∧ w1.heap.size ≤ wr.heap.size) (fun _ i _ => l.length - (intOf i).toNat)
  case atStart => exact ⟨0, by omega, rfl, Lib.hid (by simp), Lib.hid (by simpa [encL] using World.ownsRow_nil w1 w1.heap.size 5 1), HK1, Nat.le_refl _⟩
  case round =>
    obtain ⟨k, hk, rfl, HC, HO, HK, hsz⟩ := hrel
    by_cases hlt : k < l.length
    · obtain ⟨b, off, vl, rfl, x0, x1, x2, hrl⟩ := HK.out.at_ hlt
      have HCk := Lib.hid (fun (h : checkI l[k] = 0) => show ∀ x ∈ l.take (k + 1), checkI x = 0 from fun x hx => by
        rw [List.take_succ_eq_append_getElem hlt] at hx
        rcases List.mem_append.1 hx with hx | hx
        · exact HC.out x hx
        · simp at hx; rw [hx]; exact h)
      have HEk := Lib.hid (encL_take hlt)
      have hlen : (encL (l.take k)).length ≤ 400000 := by
        have := (encL_ok (l := l.take k) fun x hx => ⟨HWf.out x (List.mem_of_mem_take hx), HC.out x hx⟩).2
        simp at this; omega
      have HW := Lib.hid (HWf.out l[k] (List.getElem_mem hlt))
      obtain ⟨al, cl, rfl, hll⟩ := hrl.len
      have HRl := Lib.hid hrl
      clear hrl HC
      generalize l[k] = y at *
      obtain ⟨op, ya, yl⟩ := y
      simp only at x0 x1 x2 hll HRl
      by_cases hb1000 : 1000 < yl.length
      · go_wp2
        go_ret
        exact ⟨rfl, HK.out.bel⟩
      go_wp2_with fail
      refine (instr_Encode _ _ ⟨op, ya, yl⟩ _ HW.out HRl.out HK.out.tb).mono ?_
      rintro e w2 ⟨v2, rfl, hb2, hown2, hnil2⟩
      have HK2 := Lib.hid (HK.out.on HT.out hb2)
      have HO2 := Lib.hid (own_below HO.out hb2)
      have hsz2 := Nat.le_trans hsz hb2.size
      obtain ⟨z, hz⟩ : ∃ c, checkI ⟨op, ya, yl⟩ = c := ⟨_, rfl⟩
      rw [hz] at hnil2 HCk ⊢
      clear HK HO hb2 x0 x1 x2 HRl
      by_cases hz0 : ¬ z = 0
      · obtain rfl := hnil2 hz0
        have hz1 : (z != 0) = true := by rw [bne_iff_ne]; exact hz0
        clear hown2 hnil2 hz hz0 HCk
        go_wp2
        go_ret
        exact ⟨rfl, HK2.out.bel⟩
      · obtain rfl := Decidable.not_not.1 hz0
        obtain ⟨hbe, hle⟩ := enc_ok HW.out hz
        have hpos : 0 < (encI ⟨op, ya, yl⟩).length := by rw [encI, if_pos hz]; simp
        obtain ⟨g2, c2, rfl, _, _⟩ := hown2.form hpos
        have HV2 : Hid (RdI .u8 (· < w2.heap.size) w2 _ (encI ⟨op, ya, yl⟩)) := Lib.hid (RdI.of_own hown2 (by omega)).any
        have HCn := Lib.hid (HCk.out rfl)
        clear hown2 hnil2 hz hz0 hbe HCk
        generalize encI ⟨op, ya, yl⟩ = E at *
        go_wp2_with (at_builtin; refine append_bytes _ rfl _ _ rfl w1.heap.size _ _ _ rfl HO2.out _ rfl _ E HV2.out (.inr ⟨_, _, _, rfl⟩) (by omega) hsz2 ?_)
        intro v3 w3 hown3 hgrow3
        have hk3 := keepG (B := w1.heap.size) hgrow3 (fun k hk => (HO2.out.lt k hk).1)
        have HK3 := Lib.hid (HK2.out.keep HT.out hk3 hB)
        have hsz3 : w1.heap.size ≤ w3.heap.size := Nat.le_trans hsz2 hk3.size
        have HO3 : Hid (w3.ownsRow w1.heap.size 5 1 v3 (encL (l.take (k + 1))).length ((encL (l.take (k + 1))).map (Value.int .u8))) := Lib.hid (by rw [HEk.out]; simpa using hown3)
        clear hk3 hgrow3 hown3 HO2 HK2 HV2 hsz2
        go_wp2
        go_roundw
        case rel => exact ⟨k + 1, by omega, by go_num, HCn, HO3, HK3, hsz3⟩
        case measure => simp [intOf]; omega
    · have hkl : k = l.length := by omega
      subst hkl
      have HAll : Hid (∀ x ∈ l, WfIns x ∧ checkI x = 0) := Lib.hid fun x hx => ⟨HWf.out x hx, by have := HC.out x; rw [List.take_of_length_le (by omega)] at this; exact this hx⟩
      have HOl : Hid (wr.ownsRow w1.heap.size 5 1 u4 (encL l).length ((encL l).map (Value.int .u8))) := Lib.hid (by have := HO.out; rw [List.take_of_length_le (by omega)] at this; exact this)
      obtain ⟨hbb, hbl⟩ := encL_ok HAll.out
      have HBb := Lib.hid hbb
      have HV : Hid (RdI .u8 (· < wr.heap.size) wr u4 (encL l)) := Lib.hid (RdI.of_own HOl.out (by omega)).any
      obtain ⟨sa, sc, rfl, _⟩ := own_slice HOl.out
      clear HC HO hbb HOl
      go_wp2
      go_loopw [8, 9] (fun p i wx => ∃ k : Nat, k ≤ l.length ∧ i = .int .i64 k ∧ p = .int .i64 ((encL (l.take k)).length : Nat) ∧ Hid (Below wr.heap.size wr wx)) (fun _ i _ => l.length - (intOf i).toNat)
      case atStart => exact ⟨0, by omega, rfl, by simp [encL], hid_refl _⟩
      case round =>
        obtain ⟨j, hj, rfl, rfl, HBx⟩ := hrel
        have HKx := Lib.hid (HK.out.on HT.out HBx.out)
        by_cases hlt2 : j < l.length
        · obtain ⟨b, off, vl, rfl, -⟩ := HKx.out.at_ hlt2
          have HD := Lib.hid (dec_list HAll.out hlt2)
          have hgrow : (encL (l.take j)).length < (encL (l.take (j + 1))).length := by
            have h1 := HAll.out l[j] (List.getElem_mem hlt2)
            rw [encL_take hlt2, List.length_append]
            have : 0 < (encI l[j]).length := by rw [encI, if_pos h1.2]; simp
            omega
          have hs2 : (encL (l.take (j + 1))).length ≤ 400000 := by
            have := (encL_ok (l := l.take (j + 1)) fun x hx => HAll.out x (List.mem_of_mem_take hx)).2
            simp at this; omega
          generalize (encL (l.take j)).length = p at *
          generalize hq : (encL (l.take (j + 1))).length = q at *
          go_wp2_with fail
          refine (instr_Decode _ _ _ (encL l) p HBb.out (HV.out.bel HBx.out) (fun k h => h) HKx.out.tb).mono ?_
          rintro e w6 ⟨⟨vy, rfl, hry⟩, hb6⟩
          rw [HD.out] at hry ⊢
          have HK6 := Lib.hid (HKx.out.on HT.out hb6)
          have HB6 := Lib.hid (below_next HBx.out hb6)
          obtain ⟨b', off', vl', e7, x0, x1, x2, hrl⟩ := HK6.out.at_ hlt2
          simp only [Option.some.injEq, Addr.mk.injEq, and_true] at e7
          obtain ⟨rfl, rfl⟩ := e7
          clear hb6 HKx HBx HD
          generalize l[j] = y at *
          obtain ⟨op, ya, yl⟩ := y
          simp only at x0 x1 x2 hrl hry ⊢
          obtain ⟨ay, cy, rfl, _⟩ := hry.lenc
          obtain ⟨al, cl, rfl, _⟩ := hrl.lenc
          have hb7 := below_alloc w6 (.cells #[.int .u8 op, .int .i64 ya, .slice ay yl.length cy] 81)
          have hr7 := heap_alloc_new w6 (.cells #[.int .u8 op, .int .i64 ya, .slice ay yl.length cy] 81)
          have HK7 := Lib.hid (HK6.out.on HT.out hb7)
          have HB7 := Lib.hid (below_next HB6.out hb7)
          have HY7 := Lib.hid (hry.any.bel hb7)
          have HL7 := Lib.hid (hrl.bel hb7)
          have x0 := cell_below hb7 x0; have x1 := cell_below hb7 x1; have x2 := cell_below hb7 x2
          have y0 := row_cell hr7 0 rfl; have y1 := row_cell hr7 1 rfl; have y2 := row_cell hr7 2 rfl
          simp only [List.getElem_toArray, List.getElem_cons_zero, List.getElem_cons_succ] at y0 y1 y2
          have hle : decide ((q : Int) ≤ (p : Int)) = false := by rw [decide_eq_false_iff_not]; omega
          have hle2 : decide (q ≤ p) = false := by rw [decide_eq_false_iff_not]; omega
          clear hb7 hr7 hry hrl HK6 HB6
          go_wp2_with fail
          generalize w6.alloc (.cells #[.int .u8 op, .int .i64 ya, .slice ay yl.length cy] 81) = w7 at *
          generalize w6.heap.size = g7 at *
          go_still_tail 13, (by kernel_rfl)
          repeat still_step
          go_wp2_with fail
          refine (eqInsQ _ _ _ ⟨op, ya, yl⟩ _ _ (HY7.out.bel (drew_below _)) (HL7.out.bel (drew_below _))).mono ?_
          rintro e w8 ⟨rfl, hb8⟩
          have HB8 := Lib.hid (below_next (below_next HB7.out (drew_below _)) hb8)
          clear hb8 x0 x1 x2 y0 y1 y2 HY7 HL7 HK7 HB7
          go_wp2
          go_roundw
          case rel => exact ⟨j + 1, by omega, by go_num, by rw [hq], HB8⟩
          case measure => simp [intOf]; omega
        · have hjl : j = l.length := by omega
          rw [List.take_of_length_le (by omega)]
          go_wp2
          go_ret
          exact ⟨rfl, HKx.out.bel⟩
end Go.Proofs.YtmlniifdipeboaaDoor
