/- flagonref00's Bag: its lists of bytes lie apart. -/
import Derived.Test.YthlkckpadjjbdaaDoorBag0
import Derived.Test.YthlkckpadjjbdaaDoorUvar
namespace Go.Proofs.YthlkckpadjjbdaaDoor
open Go Go.RowKit

theorem Tryd.infoSlB : (Tryd.prog.info? 31).map (fun i => (i.zero, i.size, i.bytes)) = some (some (.slice none 0 0), 1, 24) := by kernel_rfl
theorem wrap_mark {k j : Nat} (_hk : k ≤ 300) (_hj : j ≤ 1073741924) : wrap64 (wrap64 (31 * (k : Int) + wrap64 (7 * j)) + 3) % 256 = mkB k j := by
  unfold wrap64 mkB; omega
set_option maxRecDepth 100000 in
set_option maxHeartbeats 6400000 in
theorem apart_bytes (w : World) (B : Nat) (R0 : Nat → Nat) (gb : Nat) (hv : Value) (vs : List Value) (ls : List (List Int)) (h : G1 B R0 w gb hv vs ls w 0) (hl : ls.length = vs.length) (hN : vs.length ≤ 300)
    (hB : B ≤ w.heap.size) (hb : ∀ (k : Nat) l, ls[k]? = some l → l.length ≤ 1073741824) :
    Calls Tryd.prog 32 #[.pointer (some ⟨gb, 0, none⟩)] w fun e w' => e = .returned (.bool true) ∧ ∃ R, Went R0 w R w' := by
  obtain ⟨i0, hi, hz0, hz1, hz2⟩ := info_parts Tryd.infoU8
  obtain ⟨i1, hj, hy0, hy1, hy2⟩ := info_parts Tryd.infoSlB
  obtain ⟨ha, cap, rfl, hcap, _⟩ := h.fr.list
  have HG0 := Lib.hid h; clear h
  have HBd := Lib.hid hb; clear hb
  go_enter Tryd.func32, Tryd.ntmps32
  go_wp2
  go_loopw [3] (fun n wr => ∃ k : Nat, k ≤ vs.length ∧ n = .int .i64 k ∧ Hid (G1 B R0 w gb (.slice ha vs.length cap) vs ls wr k)) (fun n _ => vs.length - (intOf n).toNat)
  case atStart => exact ⟨0, by omega, rfl, HG0⟩
  case round =>
    obtain ⟨k, hk, rfl, HG⟩ := hrel
    have hd := HG.out.fr.head
    by_cases hlt : k < vs.length
    · obtain ⟨v, hv⟩ : ∃ v, vs[k]? = some v := ⟨vs[k], List.getElem?_eq_getElem hlt⟩
      obtain ⟨l, hl'⟩ : ∃ l, ls[k]? = some l := ⟨ls[k]'(by omega), List.getElem?_eq_getElem (by omega)⟩
      have hlen := HBd.out k l hl'
      have HI := Lib.hid (HG.out.start hv hl')
      clear HG
      go_wp2
      go_loopw [4] (fun i wr' => ∃ j : Nat, j ≤ l.length ∧ i = .int .i64 j ∧ Hid (In1 B R0 w gb (.slice ha vs.length cap) vs ls wr' k j v l)) (fun i _ => l.length - (intOf i).toNat)
      case atStart => exact ⟨0, by omega, rfl, HI⟩
      case round =>
        obtain ⟨j, hj, rfl, HJ⟩ := hrel
        have hd := HJ.out.fr.head
        obtain ⟨b, cap', e1, _, hc⟩ := HJ.out.fr.at hv
        simp only [Value.slice.injEq] at e1
        obtain ⟨rfl, _, rfl⟩ := e1
        by_cases hjl : j < l.length
        · obtain ⟨g, cv, rfl, ⟨u, hu⟩, hf, hI2⟩ := HJ.out.set hjl
          have HI2 := Lib.hid hI2; clear hI2
          have hm := wrap_mark (k := k) (j := j) (by omega) (by omega)
          clear hv hl'
          go_wp2
          go_roundw
          case rel => exact ⟨j + 1, by omega, by go_num, by first | exact HI2 | (rw [hm]; exact HI2)⟩
          case measure => simp [intOf]; omega
        · obtain rfl : j = l.length := by omega
          have HN := Lib.hid HJ.out.next
          have hvv := HJ.out.cur.own
          rw [HJ.out.len (Nat.le_refl _)] at hvv
          obtain ⟨av, cv, rfl, _⟩ := own_slice hvv
          clear hvv
          go_wp2
          go_roundw
          case rel => exact ⟨k + 1, by omega, by go_num, HN⟩
          case measure => simp [intOf]; omega
    · obtain rfl : k = vs.length := by omega
      have H2 := Lib.hid (HG.out.go rfl hl)
      have HLb : Hid (∀ k, (ls.getD k []).length ≤ 1073741824) := by
        intro k
        by_cases hk : k < ls.length
        · have := HBd.out k ls[k] (List.getElem?_eq_getElem hk)
          rw [List.getD_eq_getElem?_getD, List.getElem?_eq_getElem hk]; exact this
        · rw [List.getD_eq_getElem?_getD, List.getElem?_eq_none (by omega)]; simp
      have hL : ∃ L : Nat → Nat, L = fun k => (ls.getD k []).length := ⟨_, rfl⟩
      obtain ⟨L, hL⟩ := hL
      have HLb2 : Hid (∀ k, L k ≤ 1073741824) := by rw [hL]; exact HLb
      rw [← hL] at H2
      clear HG HLb HBd hL hk hlt
      go_wp2
      go_loopw [5, 6, 7] (fun o m n wr => ∃ (k : Nat) (R : Nat → Nat) (os ms : List Value), k ≤ vs.length ∧ n = .int .i64 k ∧ Hid (G2 B R0 w gb (.slice ha vs.length cap) vs L R wr k o m os ms)) (fun _ _ n _ => vs.length - (intOf n).toNat)
      case atStart => exact ⟨0, _, _, _, by omega, rfl, H2⟩
      case round =>
        obtain ⟨k, R, os, ms, hk, rfl, HG⟩ := hrel
        have hd := HG.out.fr.head
        by_cases hlt : k < vs.length
        · obtain ⟨v, hv⟩ : ∃ v, vs[k]? = some v := ⟨vs[k], List.getElem?_eq_getElem hlt⟩
          have HI := Lib.hid (HG.out.start hv)
          obtain ⟨av, cv, ev, _⟩ := HI.out.mine.2.1
          rw [marks_len] at ev
          subst ev
          obtain ⟨b, cap', e1, _, hc⟩ := HI.out.fr.at hv
          simp only [Value.slice.injEq] at e1
          obtain ⟨rfl, _, rfl⟩ := e1
          have hlb := HLb2.out k
          obtain ⟨Lk, hLk⟩ : ∃ x, x = L k := ⟨_, rfl⟩
          rw [← hLk] at hc hlb hv
          have HLk := Lib.hid hLk
          have HI2 : Hid (In2 B R0 w gb (.slice (some ⟨b, 0, none⟩) vs.length cap) vs L R wr k (.slice av Lk cv) Lk 0 (.slice av Lk cv) u5 u6 os ms) := by rw [hLk]; exact HI
          clear hLk HI H2
          clear HG
          go_wp2
          go_loopw [5, 8, 9] (fun o l i wr => ∃ (j c : Nat) (R : Nat → Nat) (os : List Value), Lk ≤ j ∧ j ≤ Lk + 70 ∧ i = .int .i64 j ∧ (j = Lk → c = 0) ∧ (j ≠ Lk → c = 1) ∧ Hid (In2 B R0 w gb (.slice (some ⟨b, 0, none⟩) vs.length cap) vs L R wr k (.slice av Lk cv) j c l o u6 os ms)) (fun _ _ i _ => Lk + 70 - (intOf i).toNat)
          case atStart => exact ⟨Lk, 0, _, _, by omega, by omega, by rw [HLk.out], fun _ => rfl, fun h => absurd rfl h, HI2⟩
          case round =>
            obtain ⟨j, c, R', os', hj1, hj2, rfl, hc0, hc1, HJ⟩ := hrel
            have hd := HJ.out.fr.head
            obtain ⟨b', cap', e1, _, hc⟩ := HJ.out.fr.at hv
            simp only [Value.slice.injEq, Option.some.injEq, Addr.mk.injEq, and_true, true_and] at e1
            obtain ⟨rfl, rfl⟩ := e1
            have hsz : B ≤ wr.heap.size := Nat.le_trans hB HJ.out.went.keeps.size
            by_cases hjl : j < Lk + 70
            · have hm := wrap_mark (k := k) (j := j) (by omega) (by omega)
              have HA := Lib.hid (HJ.out.still (Still.alloc R' wr (.cells #[.int .u8 (mkB k j)] 5) 0))
              have hown := HA.out.cur.own
              rw [marks_len] at hown
              obtain ⟨al, cl, rfl, _⟩ := own_slice hown
              by_cases hje : j = Lk
              · obtain rfl := hc0 hje
                obtain rfl : Lk = j := hje.symm
                clear hc0 hc1 hje
                go_wp2_with (at_builtin; refine wpList_append_kept _ rfl _ _ 31 rfl B 5 i0 (.int .u8 0) 1 1 Tryd.underlying31 hi hz0 hz1 hz2 rfl (by decide) (.slice al Lk cl) Lk ((marks k Lk).map (Value.int .u8)) rfl hown ⟨wr.heap.size, 0, none⟩ 1 1 [.int .u8 (mkB k Lk)] rfl rfl (cell_one_new _ _ _) (by simp [Value.oneCell']) (by unfold maxLen; omega) (by omega) (by rw [World.size_alloc]; omega) ?_)
                intro l' w3 ho hkk hg
                have HB := Lib.hid (HA.out.app ho hkk (by simp only [World.size_alloc]; exact hg))
                obtain ⟨al', cl', rfl, _⟩ := own_slice ho
                have hd3 := HB.out.fr.head
                obtain ⟨b', cap', e3, _, hc3⟩ := HB.out.fr.at hv
                simp only [Value.slice.injEq, Option.some.injEq, Addr.mk.injEq, and_true, true_and] at e3
                obtain ⟨rfl, rfl⟩ := e3
                generalize ext (ext R' wr.heap.size 0) (wr.alloc (.cells #[.int .u8 (mkB k Lk)] 5)).heap.size (k + 3) = R3 at *
                have HC := Lib.hid (HB.out.still (Still.alloc R3 w3 (.cells #[.slice al' (Lk + 1) cl'] 31) 0))
                have hown3 := HC.out.one.own
                have hlos := HC.out.los
                rw [Nat.add_zero] at hlos
                rw [hlos] at hown3
                have hsz3 : B ≤ w3.heap.size := Nat.le_trans hB HB.out.went.keeps.size
                clear ho hkk hg hown hd hc
                go_wp2_with (at_builtin; refine wpList_append_kept _ rfl _ _ 24 rfl B 31 i1 (.slice none 0 0) 1 24 Tryd.underlying24 hj hy0 hy1 hy2 rfl (by decide) u5 k os' rfl hown3 ⟨w3.heap.size, 0, none⟩ 1 1 [.slice al' (Lk + 1) cl'] rfl rfl (cell_one_new _ _ _) (by simp [Value.oneCell']) (by unfold maxLen; omega) (by omega) (by rw [World.size_alloc]; omega) ?_)
                intro o' w4 ho4 hkk4 hg4
                have HD := Lib.hid (HC.out.tell (by rw [HLk.out]) ho4 hkk4 (by simp only [World.size_alloc]; exact hg4))
                clear ho4 hkk4 hg4
                go_wp2
                go_roundw
                case rel => exact ⟨Lk + 1, 1, _, _, by omega, by omega, by go_num, fun h => by omega, fun _ => rfl, HD⟩
                case measure => simp [intOf]
              · obtain rfl := hc1 hje
                clear hc0 hc1
                go_wp2_with (at_builtin; refine wpList_append_kept _ rfl _ _ 31 rfl B 5 i0 (.int .u8 0) 1 1 Tryd.underlying31 hi hz0 hz1 hz2 rfl (by decide) (.slice al j cl) j ((marks k j).map (Value.int .u8)) rfl hown ⟨wr.heap.size, 0, none⟩ 1 1 [.int .u8 (mkB k j)] rfl rfl (cell_one_new _ _ _) (by simp [Value.oneCell']) (by unfold maxLen; omega) (by omega) (by rw [World.size_alloc]; omega) ?_)
                intro l' w3 ho hkk hg
                have HB := Lib.hid (HA.out.app ho hkk (by simp only [World.size_alloc]; exact hg))
                obtain ⟨al', cl', rfl, _⟩ := own_slice ho
                have hd3 := HB.out.fr.head
                obtain ⟨b', cap', e3, _, hc3⟩ := HB.out.fr.at hv
                simp only [Value.slice.injEq, Option.some.injEq, Addr.mk.injEq, and_true, true_and] at e3
                obtain ⟨rfl, rfl⟩ := e3
                clear ho hkk hg hown hd hc
                go_wp2
                go_roundw
                case rel => exact ⟨j + 1, 1, _, _, by omega, by omega, by go_num, fun h => by omega, fun _ => rfl, HB⟩
                case measure => simp [intOf]; omega
            · obtain rfl : j = Lk + 70 := by omega
              obtain rfl := hc1 (by omega)
              have hown := HJ.out.cur.own
              rw [marks_len] at hown
              obtain ⟨al, cl, rfl, _⟩ := own_slice hown
              have HC := Lib.hid (HJ.out.still (Still.alloc R' wr (.cells #[.slice al (Lk + 70) cl] 31) 0))
              have hownm := HC.out.more.own
              have hlms := HC.out.lms
              rw [hlms] at hownm
              clear hown hc0 hc1
              go_wp2_with (at_builtin; refine wpList_append_kept _ rfl _ _ 24 rfl B 31 i1 (.slice none 0 0) 1 24 Tryd.underlying24 hj hy0 hy1 hy2 rfl (by decide) u6 k ms rfl hownm ⟨wr.heap.size, 0, none⟩ 1 1 [.slice al (Lk + 70) cl] rfl rfl (cell_one_new _ _ _) (by simp [Value.oneCell']) (by unfold maxLen; omega) (by omega) (by rw [World.size_alloc]; omega) ?_)
              intro m' w4 ho4 hkk4 hg4
              have HD := Lib.hid (HC.out.next (by rw [HLk.out]) ho4 hkk4 (by simp only [World.size_alloc]; exact hg4))
              clear ho4 hkk4 hg4
              go_wp2
              go_roundw
              case rel => exact ⟨k + 1, _, _, _, by omega, by go_num, HD⟩
              case measure => simp [intOf]; omega
        · obtain rfl : k = vs.length := by omega
          clear H2
          go_wp2
          have hl5 := own_slice HG.out.one.own
          rw [HG.out.los] at hl5
          have hl6 := own_slice HG.out.more.own
          rw [HG.out.lms] at hl6
          obtain ⟨ao, co, rfl, _⟩ := hl5
          obtain ⟨am, cm, rfl, _⟩ := hl6
          go_wp2
          go_loopw [10] (fun n wr' => ∃ k : Nat, k ≤ vs.length ∧ n = .int .i64 k ∧ Hid (G2 B R0 w gb (.slice ha vs.length cap) vs L R wr' vs.length (.slice ao vs.length co) (.slice am vs.length cm) os ms)) (fun n _ => vs.length - (intOf n).toNat)
          case atStart => exact ⟨0, by omega, rfl, HG⟩
          case round =>
            obtain ⟨k, hk, rfl, HG⟩ := hrel
            by_cases hlt : k < vs.length
            · have hlb := HLb2.out k
              obtain ⟨v, hv⟩ : ∃ v, vs[k]? = some v := ⟨vs[k], List.getElem?_eq_getElem hlt⟩
              obtain ⟨vo, vm, hvo, hvm, hdn⟩ := HG.out.done k v hlt hv
              obtain ⟨Lk, hLk⟩ : ∃ x, x = L k := ⟨_, rfl⟩
              rw [← hLk] at hlb hdn
              have HLk := Lib.hid hLk; clear hLk
              obtain ⟨av, cv, rfl⟩ := hdn.mine.shape
              obtain ⟨avo, cvo, rfl⟩ := hdn.fst.shape
              obtain ⟨avm, cvm, rfl⟩ := hdn.all.shape
              obtain ⟨go_, rfl, hco⟩ := HG.out.one.at hvo
              obtain ⟨gm, rfl, hcm⟩ := HG.out.more.at hvm
              obtain ⟨b, cap', e1, _, hc⟩ := HG.out.fr.at hv
              simp only [Value.slice.injEq] at e1
              obtain ⟨rfl, _, rfl⟩ := e1
              have hd := HG.out.fr.head
              have HD := Lib.hid hdn; clear hdn hvo hvm hv
              go_wp2
              go_loopw [11] (fun i wr' => ∃ j : Nat, j ≤ Lk + 70 ∧ i = .int .i64 j ∧ wr' = wr) (fun i _ => Lk + 70 - (intOf i).toNat)
              case atStart => exact ⟨0, by omega, rfl, rfl⟩
              case round =>
                obtain ⟨j, hj, rfl, rfl⟩ := hrel
                by_cases hjl : j < Lk + 70
                · have hm : (31 * (k : Int) + 7 * j + 3) % 256 = mkB k j := by unfold mkB; omega
                  have hm2 := wrap_mark (k := k) (j := j) (by omega) (by omega)
                  obtain ⟨bm, rfl, cm2⟩ := HD.out.all.at hjl
                  by_cases h1 : j < Lk
                  · obtain ⟨bv, rfl, cv2⟩ := HD.out.mine.at h1
                    have hne : ((j : Int) == (Lk : Int)) = false := by rw [beq_eq_false_iff_ne]; omega
                    generalize mkB k j = x at *
                    go_wp2
                    all_goals first | (exfalso; simp_all; done) | skip
                    go_roundw
                    case rel => exact ⟨j + 1, by omega, by go_num, by trivial⟩
                    case measure => simp [intOf]; omega
                  · have h1' : decide ((j : Int) < (Lk : Int)) = false := by rw [decide_eq_false_iff_not]; omega
                    by_cases h2 : j = Lk
                    · obtain rfl : Lk = j := h2.symm
                      obtain ⟨bo, rfl, co2⟩ := HD.out.fst.at (Nat.lt_succ_self _)
                      generalize mkB k Lk = x at *
                      go_wp2
                      all_goals first | (exfalso; simp_all; done) | skip
                      go_roundw
                      case rel => exact ⟨Lk + 1, by omega, by go_num, by trivial⟩
                      case measure => simp [intOf]
                    · have hne : ((j : Int) == (Lk : Int)) = false := by rw [beq_eq_false_iff_ne]; omega
                      generalize mkB k j = x at *
                      go_wp2
                      all_goals first | (exfalso; simp_all; done) | skip
                      go_roundw
                      case rel => exact ⟨j + 1, by omega, by go_num, by trivial⟩
                      case measure => simp [intOf]; omega
                · obtain rfl : j = Lk + 70 := by omega
                  go_wp2
                  go_roundw
                  case rel => exact ⟨k + 1, by omega, by go_num, HG⟩
                  case measure => simp [intOf]; omega
            · obtain rfl : k = vs.length := by omega
              go_wp2
              go_ret
              exact ⟨rfl, _, HG.out.went⟩
end Go.Proofs.YthlkckpadjjbdaaDoor
