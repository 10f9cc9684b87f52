/- flagonlaw04: works, EqIns. -/
import Derived.Test.YtmlniifdipeboaaDoorInstr3
import Derived.Test.YtmlniifdipeboaaDoorDecode
import Derived.Test.YtmlniifdipeboaaDoorEqs
namespace Go.Proofs.YtmlniifdipeboaaDoor
open Go Go.RowKit

set_option maxRecDepth 100000 in
set_option maxHeartbeats 1600000 in
/-- 'flagonref00.EqIns' at two that read alike. -/
theorem eqInsQ (w : World) (S1 S2) (x : InsD) (v1 v2 : Value) (h1 : RdI .i64 S1 w v1 x.l) (h2 : RdI .i64 S2 w v2 x.l) :
    Calls Tryd.prog 46 #[.agg #[.int .u8 x.op, .int .i64 x.a, v1], .agg #[.int .u8 x.op, .int .i64 x.a, v2]] w fun e w' => e = .returned (.bool true) ∧ Below w.heap.size w w' := by
  obtain ⟨op, a, l⟩ := x
  simp only at *
  obtain ⟨a1, c1, rfl, _⟩ := h1.lenc
  obtain ⟨a2, c2, rfl, _⟩ := h2.lenc
  have hb := below_alloc2 w (.cells #[.int .u8 op, .int .i64 a, .slice a1 l.length c1] 81) (.cells #[.int .u8 op, .int .i64 a, .slice a2 l.length c2] 81)
  obtain ⟨k1, k2⟩ := boxes_cell (Below.refl ((w.alloc (.cells #[.int .u8 op, .int .i64 a, .slice a1 l.length c1] 81)).alloc (.cells #[.int .u8 op, .int .i64 a, .slice a2 l.length c2] 81)).heap.size _)
  have H1 := Lib.hid (h1.any.bel hb); have H2 := Lib.hid (h2.any.bel hb); have HB := Lib.hid hb
  have x0 := k1 0 _ rfl; have x1 := k1 1 _ rfl; have x2 := k1 2 _ rfl
  have y0 := k2 0 _ rfl; have y1 := k2 1 _ rfl; have y2 := k2 2 _ rfl
  clear h1 h2 hb k1 k2
  go_enter Tryd.func46, Tryd.ntmps46
  go_wp2_with fail
  refine (eqInts _ _ _ _ _ l l H1.out H2.out).mono ?_
  rintro e w1 ⟨rfl, n, rfl⟩
  rw [decide_eq_true (rfl : l = l)]
  go_wp2
  go_ret
  exact ⟨rfl, below_next HB.out (drewN_below _ _)⟩

theorem takes24 : takesP 24 = 8 ∧ takesP 18 = 6 ∧ checkI ⟨24, -3, []⟩ = 0 ∧ checkI ⟨18, 5, []⟩ = 0 ∧ checkI ⟨48, 1, []⟩ = 17 := by decide +kernel
theorem enc24 : encI ⟨24, -3, []⟩ = [24, 5] := by
  rw [encI, if_pos takes24.2.2.1]
  simp only [tailI, takes24.1]
  rw [if_neg (by decide), if_pos trivial, show zig (-3) = 5 from rfl, uv_lo (by decide)]; rfl
theorem enc18 : encI ⟨18, 5, []⟩ = [18, 5] := by
  rw [encI, if_pos takes24.2.2.2.1]
  simp only [tailI, takes24.2.1]
  rw [if_neg (by decide), if_neg (by decide), if_pos (by decide)]
  rw [show (5 : Int).toNat = 5 from rfl, uv_lo (by decide)]; rfl
theorem dec18 : decI [255, 18, 5] 1 = (⟨18, 5, []⟩, 3, 0) := by
  have h := decI_encI ⟨18, 5, []⟩ ⟨by decide, by unfold i64P; decide, fun n hn => by simp at hn⟩ takes24.2.2.2.1 [255] []
  rw [enc18] at h
  exact h
theorem wf3 : WfIns ⟨24, -3, []⟩ ∧ WfIns ⟨48, 1, []⟩ := ⟨⟨by decide, by unfold i64P; decide, fun n hn => by simp at hn⟩, ⟨by decide, by unfold i64P; decide, fun n hn => by simp at hn⟩⟩
theorem rdI_lit {k : IntKind} {w : World} {g : Nat} {l : List Int} {T : Nat} (h : w.heap[g]? = some (.cells (l.map (Value.int k)).toArray T (0, 0))) (hl : l.length ≤ 140737488355328) : RdI k (· < w.heap.size) w (.slice (some ⟨g, 0, none⟩) l.length l.length) l :=
  (rdI_block h hl l.length (Nat.le_refl _)).any

set_option maxRecDepth 100000 in
set_option maxHeartbeats 1600000 in
theorem law_works04 (w : World) (ht : Tb w) :
    Calls Tryd.prog 43 #[] w fun e w' => e = .returned (.bool true) ∧ Below w.heap.size w w' := by
  have HT := Lib.hid ht; clear ht
  have HEn := Lib.hid (instr_Encode w (fun _ => False) ⟨24, -3, []⟩ (.slice none 0 0) wf3.1 (RdI.nil _ _ _) HT.out)
  rw [takes24.2.2.1, enc24] at HEn
  go_enter Tryd.func43, Tryd.ntmps43
  go_wp2_with fail
  refine HEn.out.mono ?_
  rintro e w1 ⟨v1, rfl, hb1, hown1, -⟩
  have HV1 : Hid (RdI .u8 (· < w1.heap.size) w1 v1 [24, 5]) := Lib.hid (RdI.of_own (l := [24, 5]) hown1 (by decide)).any
  have HB1 := Lib.hid hb1
  have hb2 := below_alloc w1 (.cells #[.int .u8 255, .int .u8 18, .int .u8 5] 5)
  have hr2 : RdI .u8 (· < (w1.alloc (.cells #[.int .u8 255, .int .u8 18, .int .u8 5] 5)).heap.size) (w1.alloc (.cells #[.int .u8 255, .int .u8 18, .int .u8 5] 5)) (.slice (some ⟨w1.heap.size, 0, none⟩) 3 3) [255, 18, 5] := rdI_lit (l := [255, 18, 5]) (heap_alloc_new w1 _) (by decide)
  clear hb1 hown1 HEn
  go_wp2_with fail
  generalize w1.alloc (.cells #[.int .u8 255, .int .u8 18, .int .u8 5] 5) = w2 at *
  have HB2 := Lib.hid (below_next HB1.out hb2); have HV2 := Lib.hid (HV1.out.bel hb2)
  refine (instr_Decode _ w2 _ [255, 18, 5] 1 (by unfold Bytes; decide) hr2 (fun _ h => h) (HT.out.bel HB2.out)).mono ?_
  rintro e w3 ⟨⟨vl, rfl, hrl⟩, hb3⟩
  rw [dec18]
  have HB3 := Lib.hid (below_next HB2.out hb3); have HV3 := Lib.hid (HV2.out.bel hb3)
  rw [dec18] at hrl
  obtain ⟨al, cl, rfl, _⟩ := hrl.lenc
  clear hb2 hr2 hb3 HV1 HV2 HB1 HB2 hrl
  have hr4 := heap_alloc_new w3 (.cells #[.int .u8 18, .int .i64 5, .slice al 0 cl] 81)
  have hb4 := below_alloc w3 (.cells #[.int .u8 18, .int .i64 5, .slice al 0 cl] 81)
  simp only [List.length_nil]
  have hb5 := below_alloc (w3.alloc (.cells #[.int .u8 18, .int .i64 5, .slice al 0 cl] 81)) (.cells #[.int .u8 24, .int .u8 5] 5)
  have hr5 : RdI .u8 (· < ((w3.alloc (.cells #[.int .u8 18, .int .i64 5, .slice al 0 cl] 81)).alloc (.cells #[.int .u8 24, .int .u8 5] 5)).heap.size) ((w3.alloc (.cells #[.int .u8 18, .int .i64 5, .slice al 0 cl] 81)).alloc (.cells #[.int .u8 24, .int .u8 5] 5)) (.slice (some ⟨(w3.alloc (.cells #[.int .u8 18, .int .i64 5, .slice al 0 cl] 81)).heap.size, 0, none⟩) 2 2) [24, 5] := rdI_lit (l := [24, 5]) (heap_alloc_new _ _) (by decide)
  have hr6 := hr5
  have hsz : (w3.alloc (.cells #[.int .u8 18, .int .i64 5, .slice al 0 cl] 81)).heap.size = w3.heap.size + 1 := World.size_alloc ..
  rw [hsz] at hr6
  clear hsz
  go_wp2_with fail
  generalize hw4 : w3.alloc (.cells #[.int .u8 18, .int .i64 5, .slice al 0 cl] 81) = w4 at *
  have HR5 := Lib.hid ((hb5.block _ (row_lt hr4)).trans hr4)
  have HB5 := Lib.hid (below_next (below_next HB3.out hb4) hb5); have HV5 := Lib.hid ((HV3.out.bel hb4).bel hb5)
  have HT5 := Lib.hid (HT.out.bel HB5.out)
  generalize w4.alloc (.cells #[.int .u8 24, .int .u8 5] 5) = w5 at *
  clear hb4 hb5 hr4 hw4 HV3 HB3
  generalize w3.heap.size = g at *
  first
    | with_reducible refine (eqBytes _ _ _ _ _ [24, 5] [24, 5] HV5.out hr5).mono ?_
    | with_reducible refine (eqBytes _ _ _ _ _ [24, 5] [24, 5] HV5.out hr6).mono ?_
  rintro e w6 ⟨rfl, n, rfl⟩
  rw [decide_eq_true (rfl : ([24, 5] : List Int) = [24, 5])]
  have HR6 : Hid ((w5.drewN n).heap[g]? = some (.cells #[.int .u8 18, .int .i64 5, .slice al 0 cl] 81 (0, 0))) := HR5
  have HB6 := Lib.hid (below_next HB5.out (drewN_below w5 n)); have HT6 := Lib.hid (HT5.out.bel (drewN_below w5 n))
  clear hr5 hr6 HV5 HR5 HB5 HT5
  generalize w5.drewN n = w6 at *
  have g0 := row_cell HR6.out 0 rfl; have g1 := row_cell HR6.out 1 rfl
  simp only [List.getElem_toArray, List.getElem_cons_zero, List.getElem_cons_succ] at g0 g1
  go_wp2_with fail
  refine (instr_Check _ (fun _ => False) ⟨48, 1, []⟩ (.slice none 0 0) wf3.2 (RdI.nil _ _ _) HT6.out).mono ?_
  rintro e w7 ⟨rfl, hb7⟩
  rw [takes24.2.2.2.2]
  go_wp2
  go_ret
  exact ⟨rfl, below_next HB6.out hb7⟩
end Go.Proofs.YtmlniifdipeboaaDoor
