/- Slices of values, one cell each: bools, strings; flagonref00.EqBools, EqTexts. -/
import Derived.Test.YtiaoonlhgjfdjaaDoorLib2
namespace Go.Proofs.YtiaoonlhgjfdjaaDoor
open Go Go.RowKit

/-- The slice v reads as the values xs, one cell each; what it reads lies in the blocks S. -/
def RdV (S : Nat → Prop) (w : World) (v : Value) (xs : List Value) : Prop :=
  ∃ a cap, v = .slice a xs.length cap ∧ xs.length ≤ cap ∧ xs.length ≤ 140737488355328 ∧
    ∀ j (h : j < xs.length), ∃ b off, a = some ⟨b, off, none⟩ ∧ S b ∧ w.cell? ⟨b, off + j, none⟩ = some xs[j]
theorem RdV.nil (S : Nat → Prop) (w : World) : RdV S w (.slice none 0 0) [] := ⟨none, 0, rfl, by simp, by simp, fun j h => absurd h (by simp)⟩
theorem RdV.mono {S w v l} {T : Nat → Prop} (h : RdV S w v l) (hs : ∀ b, b < w.heap.size → S b → T b) : RdV T w v l := by
  obtain ⟨a, cap, e, h1, h2, h3⟩ := h
  refine ⟨a, cap, e, h1, h2, fun j hj => ?_⟩
  obtain ⟨b, off, ha, hb, hc⟩ := h3 j hj
  exact ⟨b, off, ha, hs b (World.block_lt_of_cell? w _ hc) hb, hc⟩
theorem RdV.keeps {S w w' v l} (h : RdV S w v l) (hk : Keeps S w w') : RdV S w' v l := by
  obtain ⟨a, cap, e, h1, h2, h3⟩ := h
  refine ⟨a, cap, e, h1, h2, fun j hj => ?_⟩
  obtain ⟨b, off, ha, hb, hc⟩ := h3 j hj
  exact ⟨b, off, ha, hb, hk.cell hc hb⟩
theorem RdV.any {S : Nat → Prop} {w : World} {v : Value} {l : List Value} (h : RdV S w v l) : RdV (· < w.heap.size) w v l := h.mono fun _ hb _ => hb
theorem RdV.bel {w w' : World} {v : Value} {l : List Value} (h : RdV (· < w.heap.size) w v l) (hb : Below w.heap.size w w') : RdV (· < w'.heap.size) w' v l :=
  (h.keeps (Keeps.all _ hb)).mono fun _ hb' _ => hb'
theorem RdV.lenc {S w v l} (h : RdV S w v l) : ∃ a cap, v = .slice a l.length cap ∧ l.length ≤ cap := by
  obtain ⟨a, cap, e, h1, _⟩ := h; exact ⟨a, cap, e, h1⟩
theorem RdV.ofI {k : IntKind} {S : Nat → Prop} {w : World} {v : Value} {l : List Int} (h : RdI k S w v l) : RdV S w v (l.map (Value.int k)) := by
  obtain ⟨a, cap, e, h1, h2, h3⟩ := h
  refine ⟨a, cap, by simpa using e, by simpa using h1, by simpa using h2, fun j hj => ?_⟩
  obtain ⟨b, off, ha, hb, hc⟩ := h3 j (by simpa using hj)
  exact ⟨b, off, ha, hb, by simpa using hc⟩
/-- A list of bools, of strings, as values. -/
abbrev bools' (l : List Bool) : List Value := l.map Value.bool
theorem ba_inj {a b : ByteArray} (h : a.toList = b.toList) : a = b := by
  rw [ByteArray.toList_eq, ByteArray.toList_eq] at h
  obtain ⟨⟨x⟩⟩ := a
  obtain ⟨⟨y⟩⟩ := b
  simp at h
  rw [h]
abbrev texts (l : List ByteArray) : List Value := l.map Value.string
set_option maxHeartbeats 400000 in
theorem eqBoolsV (w : World) (S1 S2) (v1 v2 : Value) (l1 l2 : List Bool) (h1 : RdV S1 w v1 (bools' l1)) (h2 : RdV S2 w v2 (bools' l2)) :
    Calls Tryd.prog 17 #[v1, v2] w fun e w' => e = .returned (.bool (decide (l1 = l2))) ∧ ∃ n, w' = w.drewN n := by
  obtain ⟨a1, c1, rfl, hc1, hm1, r1⟩ := h1
  obtain ⟨a2, c2, rfl, hc2, hm2, r2⟩ := h2
  simp only [List.length_map, List.getElem_map] at r1 r2 hc1 hc2 hm1 hm2 ⊢
  have H1 := Lib.hid r1; have H2 := Lib.hid r2; clear r1 r2
  by_cases hl : l1.length = l2.length
  · have HL := Lib.hid hl
    have hb : ((l1.length : Int) != l2.length) = false := by simp [hl]
    clear hl
    go_enter Tryd.func17, Tryd.ntmps17
    go_wp2
    go_loopw [5] (fun i wr => ∃ k : Nat, k ≤ l1.length ∧ i = .int .i64 k ∧ Hid (l1.take k = l2.take k) ∧ ∃ n, wr = w.drewN n) (fun i _ => l1.length - (intOf i).toNat)
    case atStart => exact ⟨0, by omega, rfl, by simp [Hid], 0, rfl⟩
    case round =>
      obtain ⟨k, hk, rfl, HT, n, rfl⟩ := hrel
      by_cases hlt : k < l1.length
      · have hlt2 : k < l2.length := by rw [← HL.out]; exact hlt
        obtain ⟨b1, o1, rfl, _, e1⟩ := H1.out k hlt
        obtain ⟨b2, o2, rfl, _, e2⟩ := H2.out k hlt2
        obtain ⟨x1, hx1⟩ : ∃ x, l1[k] = x := ⟨_, rfl⟩
        obtain ⟨x2, hx2⟩ : ∃ x, l2[k] = x := ⟨_, rfl⟩
        rw [hx1] at e1; rw [hx2] at e2
        have HX := Lib.hid (And.intro hx1 hx2)
        clear hx1 hx2
        go_wp2
        go_quiet (fail)
        go_wp2
        · rename_i hne
          go_ret
          exact ⟨ret_bool (decide_eq_false (ne_of_get hlt hlt2 (fun e => absurd (HX.out.1.symm.trans (e.trans HX.out.2)) (by simpa using hne)))).symm, _, World.drewN_drewN _ _ _⟩
        · rename_i heq
          go_roundw
          case rel => exact ⟨k + 1, by omega, by go_num, take_eq_succ hlt hlt2 HT.out (HX.out.1.trans (Eq.trans (by simpa using heq) HX.out.2.symm)), _, rfl⟩
          case measure => simp [intOf]; omega
      · go_wp2
        go_ret
        exact ⟨ret_bool (decide_eq_true (eq_of_takes HL.out hlt HT.out)).symm, _, rfl⟩
  · have hb : ((l1.length : Int) != l2.length) = true := by simp; omega
    go_enter Tryd.func17, Tryd.ntmps17
    go_wp2
    go_ret
    exact ⟨ret_bool (decide_eq_false fun h => hl (by rw [h])).symm, 0, rfl⟩
set_option maxHeartbeats 400000 in
theorem eqTexts (w : World) (S1 S2) (v1 v2 : Value) (l1 l2 : List ByteArray) (h1 : RdV S1 w v1 (texts l1)) (h2 : RdV S2 w v2 (texts l2)) :
    Calls Tryd.prog 61 #[v1, v2] w fun e w' => e = .returned (.bool (decide (l1 = l2))) ∧ ∃ n, w' = w.drewN n := by
  obtain ⟨a1, c1, rfl, hc1, hm1, r1⟩ := h1
  obtain ⟨a2, c2, rfl, hc2, hm2, r2⟩ := h2
  simp only [List.length_map, List.getElem_map] at r1 r2 hc1 hc2 hm1 hm2 ⊢
  have H1 := Lib.hid r1; have H2 := Lib.hid r2; clear r1 r2
  by_cases hl : l1.length = l2.length
  · have HL := Lib.hid hl
    have hb : ((l1.length : Int) != l2.length) = false := by simp [hl]
    clear hl
    go_enter Tryd.func61, Tryd.ntmps61
    go_wp2
    go_loopw [5] (fun i wr => ∃ k : Nat, k ≤ l1.length ∧ i = .int .i64 k ∧ Hid (l1.take k = l2.take k) ∧ ∃ n, wr = w.drewN n) (fun i _ => l1.length - (intOf i).toNat)
    case atStart => exact ⟨0, by omega, rfl, by simp [Hid], 0, rfl⟩
    case round =>
      obtain ⟨k, hk, rfl, HT, n, rfl⟩ := hrel
      by_cases hlt : k < l1.length
      · have hlt2 : k < l2.length := by rw [← HL.out]; exact hlt
        obtain ⟨b1, o1, rfl, _, e1⟩ := H1.out k hlt
        obtain ⟨b2, o2, rfl, _, e2⟩ := H2.out k hlt2
        obtain ⟨x1, hx1⟩ : ∃ x, l1[k] = x := ⟨_, rfl⟩
        obtain ⟨x2, hx2⟩ : ∃ x, l2[k] = x := ⟨_, rfl⟩
        rw [hx1] at e1; rw [hx2] at e2
        have HX := Lib.hid (And.intro hx1 hx2)
        clear hx1 hx2
        go_wp2
        go_quiet (fail)
        go_wp2
        · rename_i hne
          go_ret
          exact ⟨ret_bool (decide_eq_false (ne_of_get hlt hlt2 (fun e => absurd (congrArg ByteArray.toList (HX.out.1.symm.trans (e.trans HX.out.2))) (by simpa using hne)))).symm, _, World.drewN_drewN _ _ _⟩
        · rename_i heq
          go_roundw
          case rel => exact ⟨k + 1, by omega, by go_num, take_eq_succ hlt hlt2 HT.out (HX.out.1.trans (Eq.trans (ba_inj (by simpa using heq)) HX.out.2.symm)), _, rfl⟩
          case measure => simp [intOf]; omega
      · go_wp2
        go_ret
        exact ⟨ret_bool (decide_eq_true (eq_of_takes HL.out hlt HT.out)).symm, _, rfl⟩
  · have hb : ((l1.length : Int) != l2.length) = true := by simp; omega
    go_enter Tryd.func61, Tryd.ntmps61
    go_wp2
    go_ret
    exact ⟨ret_bool (decide_eq_false fun h => hl (by rw [h])).symm, 0, rfl⟩
end Go.Proofs.YtiaoonlhgjfdjaaDoor
