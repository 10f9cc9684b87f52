/- flagonref00's Bag: its lists of pages lie apart. -/
import Derived.Test.YthlkckpadjjbdaaDoorPagesM
import Derived.Deep.RegionHeld3
namespace Go.Proofs.YthlkckpadjjbdaaDoor
open Go Go.RowKit
namespace BagPages
theorem infoE : (Tryd.prog.info? 31).map (fun i => (i.zero, i.size, i.bytes)) = some (some (.slice none 0 0), 1, 24) := by kernel_rfl
theorem infoL : (Tryd.prog.info? 24).map (fun i => (i.zero, i.size, i.bytes)) = some (some (.slice none 0 0), 1, 24) := by kernel_rfl
set_option maxRecDepth 100000 in
set_option maxHeartbeats 12800000 in
theorem apart (w : World) (B : Nat) (R0 : Nat → Nat) (gb : Nat) (hv : Value) (vs : List Value) (L : Nat → Nat) (M0 : Nat → Nat → Value) (h : P.G1 (kd M0) B R0 w gb hv vs L w 0) (hN : vs.length ≤ 300)
    (hB : B ≤ w.heap.size) (hb : ∀ k, L k ≤ 1073741824) (ht : Tp w) (hR : R0 0 = 0) (hnew : ∀ b, w.heap.size ≤ b → R0 b = 0) :
    Calls Tryd.prog 47 #[.pointer (some ⟨gb, 0, none⟩)] w fun e w' => e = .returned (.bool true) ∧ ∃ R, Went R0 w R w' := by
  obtain ⟨i0, hi, hz0, hz1, hz2⟩ := info_parts infoE
  obtain ⟨i1, hj, hy0, hy1, hy2⟩ := info_parts infoL
  obtain ⟨ha, cap, rfl, hcap, _⟩ := h.fr.list
  have HG0 := Lib.hid h; clear h
  have HLb2 := Lib.hid hb; clear hb
  have HNEW := Lib.hid hnew
  have HTP : Hid (∀ (wr : World) (R : Nat → Nat), Went R0 w R wr → Tp wr) := Lib.hid fun wr R hW => tp_keeps ht hW.keeps hR
  clear ht hR hnew
  have HT0 : Hid (Txts R0 w M0 (cA L 0 0)) := Lib.hid fun k j hj => by unfold cA at hj; split at hj <;> (try split at hj) <;> omega
  go_enter Tryd.func47, Tryd.ntmps47
  go_wp2
  go_loopw [3] (fun n wr => ∃ (k : Nat) (M : Nat → Nat → Value), k ≤ vs.length ∧ n = .int .i64 k ∧ Hid (P.G1 (kd M) B R0 w gb (.slice ha vs.length cap) vs L wr k) ∧ Hid (Txts R0 wr M (cA L k 0))) (fun n _ => vs.length - (intOf n).toNat)
  case atStart => exact ⟨0, M0, by omega, rfl, HG0, HT0⟩
  case round =>
    obtain ⟨k, M, hk, rfl, HG, HT⟩ := hrel
    clear HT0 HG0
    have hd : wr.cell? ⟨gb, 15, none⟩ = some (.slice ha vs.length cap) := HG.out.fr.head
    by_cases hlt : k < vs.length
    · obtain ⟨v, hv⟩ : ∃ v, vs[k]? = some v := ⟨vs[k], List.getElem?_eq_getElem hlt⟩
      have hlen := HLb2.out k
      have HI := Lib.hid (HG.out.start hv)
      obtain ⟨Lk, hLk⟩ : ∃ x, L k = x := ⟨_, rfl⟩
      have HLk := Lib.hid hLk
      rw [hLk] at hlen
      clear HG hLk
      go_wp2
      go_loopw [4] (fun i wr' => ∃ (j : Nat) (M : Nat → Nat → Value), j ≤ Lk ∧ i = .int .i64 j ∧ Hid (P.In1 (kd M) B R0 w gb (.slice ha vs.length cap) vs L wr' k j v) ∧ Hid (Txts R0 wr' M (cA L k j))) (fun i _ => Lk - (intOf i).toNat)
      case atStart => exact ⟨0, M, by omega, rfl, HI, HT⟩
      case round =>
        clear HI HT
        obtain ⟨j, M, hj, rfl, HJ, HT⟩ := hrel
        have hd : wr.cell? ⟨gb, 15, none⟩ = some (.slice ha vs.length cap) := HJ.out.fr.head
        obtain ⟨b, cap', e1, _, hc⟩ := HJ.out.fr.at hv
        simp only [Value.slice.injEq] at e1
        obtain ⟨rfl, _, rfl⟩ := e1
        by_cases hjl : j < Lk
        · obtain ⟨g, cv, rfl, hset⟩ := setPg HJ.out HT.out (by rw [HLk.out]; exact hjl) HNEW.out
          rw [HLk.out] at hc hset ⊢
          have HSET := Lib.hid hset; clear hset
          have HMx : Hid (∀ wx, Hid (Below wr.heap.size wr wx) → Calls Tryd.prog 70 #[.int .i64 k, .int .i64 j] wx fun e w' => e = .returned (.string (txtB k j)) ∧ Hid (Below wr.heap.size wr w')) := Lib.hid fun wx h => by
            refine (ref_text wx k j (by omega) (by omega) ((HTP.out wr _ HJ.out.went).bel h.out)).mono ?_
            rintro e w' ⟨he, hb⟩
            exact ⟨he, Lib.hid (below_next h.out hb)⟩
          have HCELL := Lib.hid (And.intro hd hc)
          have hq0 := hid_refl wr
          clear hv
          generalize txtB k j = s at *
          go_wp2_with fail
          go_region_law ((go_simp; go_at_call 70; (with_reducible refine (HMx.out _ (by with_reducible first | exact hq0 | exact hid_drew hq0 | exact hid_drewN hq0 _)).mono ?_); rintro e w5 ⟨rfl, hb5⟩; have kc := txt_conv w5 s; have hd5 := cell_below hb5.out hd; have hc5 := cell_below hb5.out hc; have hd6 := cell_below (below_next hb5.out (txt_below w5 s)) hd; have hc6 := cell_below (below_next hb5.out (txt_below w5 s)) hc; obtain ⟨⟨u0, q0⟩, f0, hfin⟩ := HSET.out w5 hb5.out; have HFIN := Lib.hid hfin; clear hfin))
          all_goals go_wp2
          all_goals (obtain ⟨M', h1, h2⟩ := HFIN.out (grownCap w5 s.size 0 5); have HI2 := Lib.hid h1; have HT2 := Lib.hid h2; clear h1 h2)
          all_goals go_roundw
          all_goals first | exact ⟨j + 1, M', by omega, by go_num, HI2, HT2⟩ | (simp [intOf]; omega)
        · obtain rfl : j = Lk := by omega
          have HN : Hid (P.G1 (kd M) B R0 w gb (.slice (some ⟨b, 0, none⟩) vs.length cap) vs L wr (k + 1)) := Lib.hid (by have h' := HJ.out; rw [← HLk.out] at h'; exact h'.next (kdok M))
          have HT2 : Hid (Txts R0 wr M (cA L (k + 1) 0)) := Lib.hid (HT.out.le (cA_next HLk.out))
          obtain ⟨av, cv, ev⟩ := HJ.out.slice
          rw [HLk.out] at ev
          subst ev
          go_wp2
          go_roundw
          case rel => exact ⟨k + 1, M, by omega, by go_num, HN, HT2⟩
          case measure => simp [intOf]; omega
    · obtain rfl : k = vs.length := by omega
      have H2 := Lib.hid HG.out.go
      have HT2 : Hid (Txts R0 wr M (cC L vs.length 0)) := Lib.hid (HT.out.le cA_end)
      clear HG hk hlt HT
      go_wp2
      go_loopw [5, 6, 7] (fun o m n wr => ∃ (k : Nat) (M : Nat → Nat → Value) (R : Nat → Nat) (os ms : List Value), k ≤ vs.length ∧ n = .int .i64 k ∧ Hid (P.G2 (kd M) B R0 w gb (.slice ha vs.length cap) vs L R wr k o m os ms) ∧ Hid (Txts R wr M (cC L vs.length k))) (fun _ _ n _ => vs.length - (intOf n).toNat)
      case atStart => exact ⟨0, M, _, _, _, by omega, rfl, H2, HT2⟩
      case round =>
        clear HT2
        obtain ⟨k, M, R, os, ms, hk, rfl, HG, HT⟩ := hrel
        have hd : wr.cell? ⟨gb, 15, none⟩ = some (.slice ha vs.length cap) := HG.out.fr.head
        by_cases hlt : k < vs.length
        · obtain ⟨v, hv⟩ : ∃ v, vs[k]? = some v := ⟨vs[k], List.getElem?_eq_getElem hlt⟩
          have HI := Lib.hid (HG.out.start (kdok M) hv)
          obtain ⟨av, cv, ev, _⟩ := HI.out.mine.2.1
          subst ev
          obtain ⟨b, cap', e1, _, hc⟩ := HI.out.fr.at hv
          simp only [Value.slice.injEq] at e1
          obtain ⟨rfl, _, rfl⟩ := e1
          have hlb := HLb2.out k
          obtain ⟨Lk, hLk⟩ : ∃ x, x = L k := ⟨_, rfl⟩
          rw [← hLk] at hc hlb hv
          have HLk := Lib.hid hLk
          have HT3 : Hid (Txts R wr M (cB L vs.length k Lk)) := Lib.hid (HT.out.le (cB_start hLk hlt))
          have HI2 : Hid (P.In2 (kd M) B R0 w gb (.slice (some ⟨b, 0, none⟩) vs.length cap) vs L R wr k (.slice av Lk cv) Lk 0 (.slice av Lk cv) u5 u6 os ms) := by rw [hLk]; exact HI
          clear hLk HI H2
          clear HG HT
          go_wp2
          go_loopw [5, 8, 9] (fun o l i wr => ∃ (j c : Nat) (M : Nat → Nat → Value) (R : Nat → Nat) (os : List Value), Lk ≤ j ∧ j ≤ Lk + 70 ∧ i = .int .i64 j ∧ (j = Lk → c = 0) ∧ (j ≠ Lk → c = 1) ∧ Hid (P.In2 (kd M) B R0 w gb (.slice (some ⟨b, 0, none⟩) vs.length cap) vs L R wr k (.slice av Lk cv) j c l o u6 os ms) ∧ Hid (Txts R wr M (cB L vs.length k j))) (fun _ _ i _ => Lk + 70 - (intOf i).toNat)
          case atStart => exact ⟨Lk, 0, M, _, _, by omega, by omega, by rw [HLk.out], fun _ => rfl, fun h => absurd rfl h, HI2, HT3⟩
          case round =>
            clear HT3
            obtain ⟨j, c, M, R', os', hj1, hj2, rfl, hc0, hc1, HJ, HT⟩ := hrel
            have hd : wr.cell? ⟨gb, 15, none⟩ = some (.slice (some ⟨b, 0, none⟩) vs.length cap) := HJ.out.fr.head
            obtain ⟨b', cap', e1, _, hc⟩ := HJ.out.fr.at hv
            simp only [Value.slice.injEq, Option.some.injEq, Addr.mk.injEq, and_true, true_and] at e1
            obtain ⟨rfl, rfl⟩ := e1
            have hsz : B ≤ wr.heap.size := Nat.le_trans hB HJ.out.went.keeps.size
            by_cases hjl : j < Lk + 70
            · have HM := Lib.hid (ref_text wr k j (by omega) (by omega) (HTP.out wr _ HJ.out.went))
              have hownj : Own2 wr B 31 1 u8 j (P.marks (kd M) k j) := HJ.out.cur.own
              obtain ⟨al, cl, rfl, _, _⟩ := hownj.slice
              clear hownj
              by_cases hje : j = Lk
              · obtain rfl := hc0 hje
                obtain rfl : Lk = j := hje.symm
                clear hc0 hc1 hje
                go_wp2_with fail
                refine HM.out.mono ?_
                rintro e w5 ⟨rfl, hb5⟩
                obtain ⟨M', R7, hM', hA, hT7⟩ := appPg HJ.out HT.out w5 hb5 (grownCap w5 (txtB k Lk).size 0 5)
                have HA := Lib.hid hA; have HT7 := Lib.hid hT7; have HX := Lib.hid hM'
                have hsz5 := hb5.size
                clear hA hT7 hM'
                have kc := txt_conv w5 (txtB k Lk)
                have hown : Own2 ((Lib.bytesWorld w5 5 (txtB k Lk)).alloc (.cells #[.slice (some ⟨w5.heap.size, 0, none⟩) (txtB k Lk).size (grownCap w5 (txtB k Lk).size 0 5)] 31)) B 31 1 (.slice al Lk cl) Lk (P.marks (kd M') k Lk) := HA.out.cur.own
                have hszb : B ≤ (Lib.bytesWorld w5 5 (txtB k Lk)).heap.size := by have := (txt_below w5 (txtB k Lk)).size; omega
                clear hb5
                obtain ⟨s, hs⟩ : ∃ s, txtB k Lk = s := ⟨_, rfl⟩
                rw [hs] at HA HT7 HX kc hown hszb ⊢
                clear hs
                obtain ⟨wy, hwy⟩ : ∃ wy, Lib.bytesWorld w5 5 s = wy := ⟨_, rfl⟩
                rw [hwy] at HA HT7 kc hown hszb
                clear hwy
                generalize grownCap w5 s.size 0 5 = gc at *
                go_wp2_with (at_builtin; refine wpList_append_two _ rfl _ _ 24 rfl B 31 i0 (.slice none 0 0) 1 24 Tryd.underlying24 hi hz0 hz1 hz2 rfl (by decide) (.slice al Lk cl) Lk (P.marks (kd M') k Lk) rfl hown ⟨wy.heap.size, 0, none⟩ 1 1 (by omega) [.slice (some ⟨w5.heap.size, 0, none⟩) s.size gc] rfl rfl (cells_new _ [.slice (some ⟨w5.heap.size, 0, none⟩) s.size gc] _) (by simp [Value.oneCell']) (by unfold maxLen; omega) (by omega) (by rw [World.size_alloc]; omega) ?_)
                intro l' w3 ho hkk hg
                have HT8 := Lib.hid (HT7.out.turned (Turned.kept hkk HA.out.cur.role) (by omega))
                have HB := Lib.hid (HA.out.app (kdok M') (by show World.ownsRow _ _ _ _ _ _ (_ ++ [M' k Lk]); rw [HX.out]; exact ho) (by rw [show (kd M').sz = 1 from rfl, Nat.mul_one]; exact hkk) (by simp only [World.size_alloc]; exact hg))
                obtain ⟨al', cl', rfl, _⟩ := own_slice ho
                have hd3 : w3.cell? ⟨gb, 15, none⟩ = some (.slice (some ⟨b, 0, none⟩) vs.length cap) := HB.out.fr.head
                obtain ⟨b', cap', e3, _, hc3⟩ := HB.out.fr.at hv
                simp only [Value.slice.injEq, Option.some.injEq, Addr.mk.injEq, and_true, true_and] at e3
                obtain ⟨rfl, rfl⟩ := e3
                generalize ext R7 (wy.alloc (.cells #[.slice (some ⟨w5.heap.size, 0, none⟩) s.size gc] 31)).heap.size (k + 3) = R3 at *
                have HC := Lib.hid (HB.out.still (Still.alloc R3 w3 (.cells #[.slice al' (Lk + 1) cl'] 24) 0))
                have HTC := Lib.hid (HT8.out.turned (Still.alloc R3 w3 (.cells #[.slice al' (Lk + 1) cl'] 24) 0 1) (by decide))
                have hown3 : (w3.alloc (.cells #[.slice al' (Lk + 1) cl'] 24)).ownsRow B 24 1 u5 os'.length os' := HC.out.one.own
                have hlos := HC.out.los
                rw [Nat.add_zero] at hlos
                rw [hlos] at hown3
                have hsz3 : B ≤ w3.heap.size := Nat.le_trans hB HB.out.went.keeps.size
                clear ho hkk hg hown hd hc
                go_wp2_with (at_builtin; refine wpList_append_kept _ rfl _ _ 50 rfl B 24 i1 (.slice none 0 0) 1 24 Tryd.underlying50 hj hy0 hy1 hy2 rfl (by decide) u5 k os' rfl hown3 ⟨w3.heap.size, 0, none⟩ 1 1 [.slice al' (Lk + 1) cl'] rfl rfl (cell_one_new _ _ _) (by simp [Value.oneCell']) (by unfold maxLen; omega) (by omega) (by rw [World.size_alloc]; omega) ?_)
                intro o' w4 ho4 hkk4 hg4
                have HTD := Lib.hid (HTC.out.turned (Turned.kept hkk4 HC.out.one.role) (by decide))
                have HD := Lib.hid (HC.out.tell (kdok M') (by rw [HLk.out]) ho4 (by simpa using hkk4) (by simp only [World.size_alloc]; exact hg4))
                clear ho4 hkk4 hg4
                go_wp2
                go_roundw
                case rel => exact ⟨Lk + 1, 1, M', _, _, by omega, by omega, by go_num, fun h => by omega, fun _ => rfl, HD, HTD⟩
                case measure => simp [intOf]
              · obtain rfl := hc1 hje
                clear hc0 hc1
                go_wp2_with fail
                refine HM.out.mono ?_
                rintro e w5 ⟨rfl, hb5⟩
                obtain ⟨M', R7, hM', hA, hT7⟩ := appPg HJ.out HT.out w5 hb5 (grownCap w5 (txtB k j).size 0 5)
                have HA := Lib.hid hA; have HT7 := Lib.hid hT7; have HX := Lib.hid hM'
                have hsz5 := hb5.size
                clear hA hT7 hM'
                have kc := txt_conv w5 (txtB k j)
                have hown : Own2 ((Lib.bytesWorld w5 5 (txtB k j)).alloc (.cells #[.slice (some ⟨w5.heap.size, 0, none⟩) (txtB k j).size (grownCap w5 (txtB k j).size 0 5)] 31)) B 31 1 (.slice al j cl) j (P.marks (kd M') k j) := HA.out.cur.own
                have hszb : B ≤ (Lib.bytesWorld w5 5 (txtB k j)).heap.size := by have := (txt_below w5 (txtB k j)).size; omega
                clear hb5
                obtain ⟨s, hs⟩ : ∃ s, txtB k j = s := ⟨_, rfl⟩
                rw [hs] at HA HT7 HX kc hown hszb ⊢
                clear hs
                obtain ⟨wy, hwy⟩ : ∃ wy, Lib.bytesWorld w5 5 s = wy := ⟨_, rfl⟩
                rw [hwy] at HA HT7 kc hown hszb
                clear hwy
                generalize grownCap w5 s.size 0 5 = gc at *
                go_wp2_with (at_builtin; refine wpList_append_two _ rfl _ _ 24 rfl B 31 i0 (.slice none 0 0) 1 24 Tryd.underlying24 hi hz0 hz1 hz2 rfl (by decide) (.slice al j cl) j (P.marks (kd M') k j) rfl hown ⟨wy.heap.size, 0, none⟩ 1 1 (by omega) [.slice (some ⟨w5.heap.size, 0, none⟩) s.size gc] rfl rfl (cells_new _ [.slice (some ⟨w5.heap.size, 0, none⟩) s.size gc] _) (by simp [Value.oneCell']) (by unfold maxLen; omega) (by omega) (by rw [World.size_alloc]; omega) ?_)
                intro l' w3 ho hkk hg
                have HT8 := Lib.hid (HT7.out.turned (Turned.kept hkk HA.out.cur.role) (by omega))
                have HB := Lib.hid (HA.out.app (kdok M') (by show World.ownsRow _ _ _ _ _ _ (_ ++ [M' k j]); rw [HX.out]; exact ho) (by rw [show (kd M').sz = 1 from rfl, Nat.mul_one]; exact hkk) (by simp only [World.size_alloc]; exact hg))
                obtain ⟨al', cl', rfl, _⟩ := own_slice ho
                have hd3 : w3.cell? ⟨gb, 15, none⟩ = some (.slice (some ⟨b, 0, none⟩) vs.length cap) := HB.out.fr.head
                obtain ⟨b', cap', e3, _, hc3⟩ := HB.out.fr.at hv
                simp only [Value.slice.injEq, Option.some.injEq, Addr.mk.injEq, and_true, true_and] at e3
                obtain ⟨rfl, rfl⟩ := e3
                clear ho hkk hg hown hd hc
                go_wp2
                go_roundw
                case rel => exact ⟨j + 1, 1, M', _, _, by omega, by omega, by go_num, fun h => by omega, fun _ => rfl, HB, HT8⟩
                case measure => simp [intOf]; omega
            · obtain rfl : j = Lk + 70 := by omega
              obtain rfl := hc1 (by omega)
              have hown := HJ.out.cur.own
              obtain ⟨al, cl, rfl, _, _⟩ := hown.slice
              have HC := Lib.hid (HJ.out.still (Still.alloc R' wr (.cells #[.slice al (Lk + 70) cl] 24) 0))
              have HTC := Lib.hid (HT.out.turned (Still.alloc R' wr (.cells #[.slice al (Lk + 70) cl] 24) 0 1) (by decide))
              have hownm : (wr.alloc (.cells #[.slice al (Lk + 70) cl] 24)).ownsRow B 24 1 u6 ms.length ms := HC.out.more.own
              have hlms := HC.out.lms
              rw [hlms] at hownm
              clear hown hc0 hc1
              go_wp2_with (at_builtin; refine wpList_append_kept _ rfl _ _ 50 rfl B 24 i1 (.slice none 0 0) 1 24 Tryd.underlying50 hj hy0 hy1 hy2 rfl (by decide) u6 k ms rfl hownm ⟨wr.heap.size, 0, none⟩ 1 1 [.slice al (Lk + 70) cl] rfl rfl (cell_one_new _ _ _) (by simp [Value.oneCell']) (by unfold maxLen; omega) (by omega) (by rw [World.size_alloc]; omega) ?_)
              intro m' w4 ho4 hkk4 hg4
              have HTD := Lib.hid ((HTC.out.turned (Turned.kept hkk4 HC.out.more.role) (by decide)).le (cB_end HLk.out))
              have HD := Lib.hid (HC.out.next (kdok M) (by rw [HLk.out]) ho4 (by simpa using hkk4) (by simp only [World.size_alloc]; exact hg4))
              clear ho4 hkk4 hg4
              go_wp2
              go_roundw
              case rel => exact ⟨k + 1, M, _, _, _, by omega, by go_num, HD, HTD⟩
              case measure => simp [intOf]; omega
        · obtain rfl : k = vs.length := by omega
          clear H2
          go_wp2
          have hl5 := own_slice HG.out.one.own
          rw [HG.out.los] at hl5
          have hl6 := own_slice HG.out.more.own
          rw [HG.out.lms] at hl6
          obtain ⟨ao, co, rfl, _⟩ := hl5
          obtain ⟨am, cm, rfl, _⟩ := hl6
          go_wp2
          obtain ⟨wB, hwB⟩ : ∃ wB, wr = wB := ⟨_, rfl⟩
          have HB0 : Hid (Below wB.heap.size wB wr) := Lib.hid (by rw [hwB]; exact Below.refl _ _)
          rw [hwB] at HG HT
          clear hwB hd
          go_loopw [10] (fun n wr' => ∃ k : Nat, k ≤ vs.length ∧ n = .int .i64 k ∧ Hid (Below wB.heap.size wB wr')) (fun n _ => vs.length - (intOf n).toNat)
          case atStart => exact ⟨0, by omega, rfl, HB0⟩
          case round =>
            obtain ⟨k, hk, rfl, HBk⟩ := hrel
            by_cases hlt : k < vs.length
            · have hlb := HLb2.out k
              obtain ⟨v, hv⟩ : ∃ v, vs[k]? = some v := ⟨vs[k], List.getElem?_eq_getElem hlt⟩
              obtain ⟨vo, vm, hvo, hvm, hdn⟩ := HG.out.done k v hlt hv
              obtain ⟨Lk, hLk⟩ : ∃ x, x = L k := ⟨_, rfl⟩
              rw [← hLk] at hlb hdn
              have HLk := Lib.hid hLk; clear hLk
              obtain ⟨av, cv, rfl⟩ := hdn.mine.shape
              obtain ⟨avo, cvo, rfl⟩ := hdn.fst.shape
              obtain ⟨avm, cvm, rfl⟩ := hdn.all.shape
              obtain ⟨go_, rfl, hco⟩ := HG.out.one.at hvo
              obtain ⟨gm, rfl, hcm⟩ := HG.out.more.at hvm
              obtain ⟨b, cap', e1, _, hc⟩ := HG.out.fr.at hv
              simp only [Value.slice.injEq] at e1
              obtain ⟨rfl, _, rfl⟩ := e1
              have HBASE := Lib.hid (And.intro (show wB.cell? ⟨gb, 15, none⟩ = some (.slice (some ⟨b, 0, none⟩) vs.length cap) from HG.out.fr.head) (And.intro hco (And.intro hcm hc)))
              have HD := Lib.hid hdn; clear hdn hvo hvm hv hco hcm hc
              obtain ⟨hd, hco, hcm, hc⟩ := base4 HBASE HBk
              go_wp2
              clear hd hco hcm hc
              go_loopw [11] (fun i wr' => ∃ j : Nat, j ≤ Lk + 70 ∧ i = .int .i64 j ∧ Hid (Below wB.heap.size wB wr')) (fun i _ => Lk + 70 - (intOf i).toNat)
              case atStart => exact ⟨0, by omega, rfl, HBk⟩
              case round =>
                obtain ⟨j, hj, rfl, HBj⟩ := hrel
                obtain ⟨hd, hco, hcm, hc⟩ := base4 HBASE HBj
                by_cases hjl : j < Lk + 70
                · obtain ⟨bm, rfl, cm0⟩ := at0 HD.out.all hjl
                  obtain ⟨gk, cap2, hMk, _, hta⟩ := HT.out k j (by unfold cC; rw [if_pos hlt]; have := HLk.out; omega)
                  have HMx : Hid (∀ wx, Hid (Below wB.heap.size wB wx) → Calls Tryd.prog 70 #[.int .i64 k, .int .i64 j] wx fun e w' => e = .returned (.string (txtB k j)) ∧ Hid (Below wB.heap.size wB w')) := Lib.hid fun wx h => by
                    refine (ref_text wx k j (by omega) (by omega) ((HTP.out wB _ HG.out.went).bel h.out)).mono ?_
                    rintro e w' ⟨he, hb⟩
                    exact ⟨he, Lib.hid (below_next h.out hb)⟩
                  have HCx : Hid (∀ wx, Hid (Below wB.heap.size wB wx) → (convert 31 9 (.slice (some ⟨gk, 0, none⟩) (txtB k j).size cap2)).run Tryd.prog wx = .ok (.string (txtB k j)) wx) := Lib.hid fun wx h => (hta.keeps (Keeps.all (fun _ => True) h.out) trivial).back cap2
                  clear hta
                  have HM0 : Hid (wB.cell? ⟨bm, j, none⟩ = some (.slice (some ⟨gk, 0, none⟩) (txtB k j).size cap2)) := Lib.hid (by rw [cm0, hMk])
                  replace cm0 := cell_below HBj.out HM0.out
                  by_cases h1 : j < Lk
                  · obtain ⟨bv, rfl, cv0⟩ := at0 HD.out.mine h1
                    rw [hMk] at cv0
                    have HV0 := Lib.hid cv0
                    replace cv0 := cell_below HBj.out HV0.out
                    have hne : ((j : Int) == (Lk : Int)) = false := by rw [beq_eq_false_iff_ne]; omega
                    clear hMk
                    generalize txtB k j = s at *
                    go_upto_region 31 with fail
                    go_region_held3 (fun wx => (convert 31 9 (.slice (some ⟨gk, 0, none⟩) s.size cap2)).run Tryd.prog wx = .ok (.string s) wx ∧ True ∧ Hid (Below wB.heap.size wB wx))
                      (first | exact ⟨HCx.out _ (by assumption), trivial, by assumption⟩ | exact ⟨HCx.out _ (hid_drew (by assumption)), trivial, hid_drew (by assumption)⟩)
                      (first | (go_at_call 70; with_reducible refine (HMx.out _ (heldOf (by assumption))).mono ?_; rintro e w' ⟨rfl, hk5⟩))
                    obtain ⟨hd, hco, hcm, hc⟩ := base4 HBASE hk5
                    replace cm0 := cell_below hk5.out HM0.out
                    go_upto_region 33 with fail
                    go_region_held3 (fun wx => (convert 31 9 (.slice (some ⟨gk, 0, none⟩) s.size cap2)).run Tryd.prog wx = .ok (.string s) wx ∧ True ∧ Hid (Below wB.heap.size wB wx))
                      (first | exact ⟨HCx.out _ (by assumption), trivial, by assumption⟩ | exact ⟨HCx.out _ (hid_drew (by assumption)), trivial, hid_drew (by assumption)⟩)
                      (first | (go_at_call 70; with_reducible refine (HMx.out _ (heldOf (by assumption))).mono ?_; rintro e w'' ⟨rfl, hk6⟩))
                    go_wp2
                    go_roundw
                    case rel => exact ⟨j + 1, by omega, by go_num, hk6⟩
                    case measure => simp [intOf]; omega
                  · have h1' : decide ((j : Int) < (Lk : Int)) = false := by rw [decide_eq_false_iff_not]; omega
                    by_cases h2 : j = Lk
                    · obtain rfl : Lk = j := h2.symm
                      obtain ⟨bo, rfl, cv0⟩ := at0 HD.out.fst (Nat.lt_succ_self _)
                      rw [hMk] at cv0
                      have HV0 := Lib.hid cv0
                      replace cv0 := cell_below HBj.out HV0.out
                      clear hMk
                      generalize txtB k Lk = s at *
                      go_upto_region 31 with fail
                      go_region_held3 (fun wx => (convert 31 9 (.slice (some ⟨gk, 0, none⟩) s.size cap2)).run Tryd.prog wx = .ok (.string s) wx ∧ True ∧ Hid (Below wB.heap.size wB wx))
                        (first | exact ⟨HCx.out _ (by assumption), trivial, by assumption⟩ | exact ⟨HCx.out _ (hid_drew (by assumption)), trivial, hid_drew (by assumption)⟩)
                        (first | (go_at_call 70; with_reducible refine (HMx.out _ (heldOf (by assumption))).mono ?_; rintro e w' ⟨rfl, hk5⟩))
                      obtain ⟨hd, hco, hcm, hc⟩ := base4 HBASE hk5
                      replace cm0 := cell_below hk5.out HM0.out
                      go_upto_region 33 with fail
                      go_region_held3 (fun wx => (convert 31 9 (.slice (some ⟨gk, 0, none⟩) s.size cap2)).run Tryd.prog wx = .ok (.string s) wx ∧ True ∧ Hid (Below wB.heap.size wB wx))
                        (first | exact ⟨HCx.out _ (by assumption), trivial, by assumption⟩ | exact ⟨HCx.out _ (hid_drew (by assumption)), trivial, hid_drew (by assumption)⟩)
                        (first | (go_at_call 70; with_reducible refine (HMx.out _ (heldOf (by assumption))).mono ?_; rintro e w'' ⟨rfl, hk6⟩))
                      go_wp2
                      go_roundw
                      case rel => exact ⟨Lk + 1, by omega, by go_num, hk6⟩
                      case measure => simp [intOf]
                    · have hne : ((j : Int) == (Lk : Int)) = false := by rw [beq_eq_false_iff_ne]; omega
                      clear hMk
                      generalize txtB k j = s at *
                      go_upto_region 31 with fail
                      go_region_held3 (fun wx => (convert 31 9 (.slice (some ⟨gk, 0, none⟩) s.size cap2)).run Tryd.prog wx = .ok (.string s) wx ∧ True ∧ Hid (Below wB.heap.size wB wx))
                        (first | exact ⟨HCx.out _ (by assumption), trivial, by assumption⟩ | exact ⟨HCx.out _ (hid_drew (by assumption)), trivial, hid_drew (by assumption)⟩)
                        (first | (go_at_call 70; with_reducible refine (HMx.out _ (heldOf (by assumption))).mono ?_; rintro e w' ⟨rfl, hk5⟩))
                      obtain ⟨hd, hco, hcm, hc⟩ := base4 HBASE hk5
                      replace cm0 := cell_below hk5.out HM0.out
                      go_upto_region 33 with fail
                      go_region_held3 (fun wx => (convert 31 9 (.slice (some ⟨gk, 0, none⟩) s.size cap2)).run Tryd.prog wx = .ok (.string s) wx ∧ True ∧ Hid (Below wB.heap.size wB wx))
                        (first | exact ⟨HCx.out _ (by assumption), trivial, by assumption⟩ | exact ⟨HCx.out _ (hid_drew (by assumption)), trivial, hid_drew (by assumption)⟩)
                        (first | (go_at_call 70; with_reducible refine (HMx.out _ (heldOf (by assumption))).mono ?_; rintro e w'' ⟨rfl, hk6⟩))
                      go_wp2
                      go_roundw
                      case rel => exact ⟨j + 1, by omega, by go_num, hk6⟩
                      case measure => simp [intOf]; omega
                · obtain rfl : j = Lk + 70 := by omega
                  go_wp2
                  go_roundw
                  case rel => exact ⟨k + 1, by omega, by go_num, HBj⟩
                  case measure => simp [intOf]; omega
            · obtain rfl : k = vs.length := by omega
              go_wp2
              go_ret
              exact ⟨rfl, _, (HG.out.still (Still.below R HBk.out)).went⟩
end BagPages
end Go.Proofs.YthlkckpadjjbdaaDoor
