/- flagonref09.Labels. -/
import Derived.Test.YtiaoonlhgjfdjaaDoorLabelsC
import Derived.Test.YtiaoonlhgjfdjaaDoorMapR
namespace Go.Proofs.YtiaoonlhgjfdjaaDoor
open Go Go.RowKit

set_option maxRecDepth 100000 in
set_option maxHeartbeats 3200000 in
theorem ref09_Labels (w : World) (v : Value) (l : List InsD) (pc : Int) (hc : Cd w v l) (hl : l.length ≤ 1048576) :
    Calls Tryd.prog 31 #[v, .int .i64 pc] w fun e w' => ∃ v', e = .returned v' ∧ Below w.heap.size w w' ∧ OwnI w.heap.size 3 w' v' (labelsP (opsOf l) pc) := by
  obtain ⟨i0, hi, hz0, hz1, hz2⟩ := info_parts Tryd.infoIntF
  have HC := Lib.hid (ref09_Map w v l hc hl)
  obtain ⟨va, vc, rfl, _⟩ := hc.len
  clear hc
  have HLO : Hid ((opsOf l).length = l.length) := Lib.hid (opsOf_len l)
  go_enter Tryd.func31, Tryd.ntmps31
  go_wp2_with fail
  refine HC.out.mono ?_
  rintro e w1 ⟨v1, v2, v3, rfl, hA⟩
  have HE := Lib.hid hA
  clear hA HC
  obtain ⟨er, her⟩ : ∃ er, (mapP (opsOf l)).2.2.2.1 = er := ⟨_, rfl⟩
  have HER := Lib.hid her
  rw [her]
  generalize (mapP (opsOf l)).2.2.2.2 = q at *
  clear her
  by_cases he : er = 0
  · subst he
    by_cases h0 : pc < 0
    · have HF := Lib.hid (labelsP_none (ops := opsOf l) (pc := pc) (.inr (.inl h0)))
      go_wp2
      go_ret
      exact ⟨_, rfl, HE.out.bel, by rw [HF.out]; exact World.ownsRow_nil _ _ _ _⟩
    by_cases h1 : (l.length : Int) ≤ pc
    · have HF := Lib.hid (labelsP_none (ops := opsOf l) (pc := pc) (.inr (.inr (by rw [HLO.out]; exact h1))))
      go_wp2
      go_ret
      exact ⟨_, rfl, HE.out.bel, by rw [HF.out]; exact World.ownsRow_nil _ _ _ _⟩
    obtain ⟨n, rfl⟩ : ∃ n : Nat, pc = n := ⟨pc.toNat, by omega⟩
    have hn : n < l.length := by omega
    have HK := Lib.hid (mapP_ok HER.out)
    have HF := Lib.hid (labelsP_some HER.out (by rw [HLO.out]; exact hn))
    have HLN : Hid ((mapP (opsOf l)).2.2.1.length = l.length) := Lib.hid (by rw [HK.out.lo, HLO.out])
    have HO := Lib.hid HK.out.own
    have HL := Lib.hid (HE.out.rows.r3.rd (by rw [HLN.out]; omega)).any
    have HB0 := Lib.hid HE.out.bel
    have HF2 : Hid (labelsP (opsOf l) n = labL (mapP (opsOf l)).2.2.1 ((mapP (opsOf l)).2.2.1.getD n (-1))) := HF
    generalize (mapP (opsOf l)).2.2.1 = o at *
    clear HE HF HK HER
    obtain ⟨va3, vc3, e, _, _, hce⟩ := HL.out
    subst e
    have hno : n < o.length := by have := HLN.out; omega
    obtain ⟨bb, off, rfl, _, hcl⟩ := hce n hno
    have hol : o.length ≤ 1048576 := by have := HLN.out; omega
    have hx := HO.out n o[n] (List.getElem?_eq_getElem hno)
    have hg : o.getD n (-1) = o[n] := by rw [List.getD_eq_getElem?_getD, List.getElem?_eq_getElem hno]; rfl
    have HF3 : Hid (labelsP (opsOf l) n = labL o o[n]) := Lib.hid (by rw [← hg]; exact HF2.out)
    clear hce hg HF2 
    have HP : Hid (∃ P, labelsP (opsOf l) n = P) := Lib.hid ⟨_, rfl⟩
    obtain ⟨P, hP⟩ := HP.out
    rw [hP] at HF3
    have HPP := Lib.hid hP
    clear hP HP
    generalize o[n] = x0 at *
    have d1 : decide ((n : Int) < 0) = false := decide_eq_false (by omega)
    have d2 : decide (l.length ≤ n) = false := decide_eq_false (by omega)
    go_wp2
    clear d1 d2
    go_loopw [10, 11] (fun lv at_ wr => ∃ (acc : List Int) (a : Int), at_ = .int .i64 a ∧ -1 ≤ a ∧ a < o.length ∧ acc.length + a ≤ o.length ∧ Hid (acc ++ labL o a = P) ∧ Hid (OwnI w1.heap.size 3 wr lv acc) ∧ Hid (Below w1.heap.size w1 wr)) (fun _ at_ _ => (intOf at_ + 1).toNat)
    case atStart => exact ⟨[], x0, rfl, hx.1, by omega, by simp; omega, Lib.hid (by rw [HF3.out]; rfl), Lib.hid (World.ownsRow_nil _ _ _ _), Lib.hid (Below.refl _ _)⟩
    case round =>
      obtain ⟨acc, a, rfl, hx1, hx2, hk, HP, HA, HB⟩ := hrel
      by_cases h0 : a < 0
      · obtain rfl : a = -1 := by omega
        have HPE := HP.out
        rw [labL_end] at HPE
        have HPE := Lib.hid HPE
        have hb6 := below_alloc wr (.cells #[.int .i64 (-1)] 3)
        have hA6 : (wr.alloc (.cells #[.int .i64 (-1)] 3)).ownsRow w1.heap.size 3 1 _ acc.length (ints acc) := own_below HA.out hb6
        have HA6 := Lib.hid hA6
        have hB6 := (below_next HB.out hb6).size
        have HB6 := Lib.hid (below_next HB.out hb6)
        clear hb6 hA6 HA HP
        go_wp2_with (at_builtin; refine wpList_append_kept _ rfl _ _ 24 rfl w1.heap.size 3 i0 (.int .i64 0) 1 8 Tryd.underlying24 hi hz0 hz1 hz2 rfl (by decide) _ acc.length (ints acc) rfl HA6.out ⟨wr.heap.size, 0, none⟩ 1 1 [.int .i64 (-1)] rfl rfl (cell_one_new _ _ _) (by simp [Value.oneCell']) (by unfold maxLen; omega) (by omega) hB6 ?_)
        intro v' w7 ho hkk hn
        have HO7 : Hid (OwnI w1.heap.size 3 w7 v' (acc ++ [-1])) := Lib.hid (by simpa [OwnI, ints] using ho)
        have HB7 := Lib.hid (HB6.out.grown hkk.grown hB6 fun j hj => (HA6.out.lt j hj).1)
        clear ho hkk hn HA6 HB6
        go_wp2
        go_ret
        exact ⟨_, rfl, below_next HB0.out HB7.out, by rw [HPP.out, ← HPE.out]; exact own_base HO7.out HB0.out.size⟩
      · obtain ⟨y, rfl⟩ : ∃ y : Nat, a = y := ⟨a.toNat, by omega⟩
        have hy : y < o.length := by omega
        have HE := HP.out
        rw [labL_next HO.out (by omega), Int.toNat_natCast, List.append_cons, List.getD_eq_getElem?_getD, List.getElem?_eq_getElem hy] at HE
        have HE : Hid (acc ++ [(y : Int)] ++ labL o o[y] = P) := Lib.hid HE
        have hb6 := below_alloc wr (.cells #[.int .i64 (y : Int)] 3)
        have hA6 : (wr.alloc (.cells #[.int .i64 (y : Int)] 3)).ownsRow w1.heap.size 3 1 _ acc.length (ints acc) := own_below HA.out hb6
        have HA6 := Lib.hid hA6
        have hB6 := (below_next HB.out hb6).size
        have HB6 := Lib.hid (below_next HB.out hb6)
        clear hb6 hA6 HP
        go_wp2_with (at_builtin; refine wpList_append_kept _ rfl _ _ 24 rfl w1.heap.size 3 i0 (.int .i64 0) 1 8 Tryd.underlying24 hi hz0 hz1 hz2 rfl (by decide) _ acc.length (ints acc) rfl HA6.out ⟨wr.heap.size, 0, none⟩ 1 1 [.int .i64 (y : Int)] rfl rfl (cell_one_new _ _ _) (by simp [Value.oneCell']) (by unfold maxLen; omega) (by omega) hB6 ?_)
        intro v' w7 ho hkk hn
        have HO7 : Hid (OwnI w1.heap.size 3 w7 v' (acc ++ [(y : Int)])) := Lib.hid (by simpa [OwnI, ints] using ho)
        have HB7 := Lib.hid (HB6.out.grown hkk.grown hB6 fun j hj => (HA6.out.lt j hj).1)
        obtain ⟨va4, vc4, e, _, _, hce⟩ := HL.out.keeps (Keeps.of_below HB7.out)
        simp only [Value.slice.injEq] at e
        obtain ⟨rfl, _, rfl⟩ := e
        obtain ⟨bb4, off4, e, _, hcy⟩ := hce y hy
        simp only [Option.some.injEq, Addr.mk.injEq, and_true] at e
        obtain ⟨rfl, rfl⟩ := e
        have hx := HO.out y o[y] (List.getElem?_eq_getElem hy)
        clear ho hkk hn HA6 HB6 hce
        generalize o[y] = z at *
        go_wp2
        go_roundw
        case rel => exact ⟨acc ++ [(y : Int)], z, rfl, hx.1, by omega, by rw [labels_len]; omega, HE, HO7, HB7⟩
        case measure => simp [intOf]; omega
  · have HF := Lib.hid (labelsP_none (ops := opsOf l) (pc := pc) (.inl (by rw [HER.out]; exact he)))
    go_wp2
    go_ret
    exact ⟨_, rfl, HE.out.bel, by rw [HF.out]; exact World.ownsRow_nil _ _ _ _⟩
end Go.Proofs.YtiaoonlhgjfdjaaDoor
