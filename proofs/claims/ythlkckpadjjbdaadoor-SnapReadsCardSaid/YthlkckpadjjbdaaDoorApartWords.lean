/- flagonref00's Bag: its lists of the kind Words lie apart. -/
import Derived.Test.YthlkckpadjjbdaaDoorBagP
import Derived.Test.YthlkckpadjjbdaaDoorMText
import Derived.StillTailTactics
import Derived.Deep.QuietTactic
import Derived.BigQuiet
import Derived.Test.YthlkckpadjjbdaaDoorMBagG
namespace Go.Proofs.YthlkckpadjjbdaaDoor
open Go Go.RowKit
namespace BagWords
def mkx (k j : Nat) : Int := ((1048576 * k + j + 1 : Nat) : Int)
def cl (x : Int) : List Value := [.int .u64 x]
def kd : Kd := ⟨63, 23, 1, 3, fun k j => cl (mkx k j)⟩
theorem kdok : kd.Ok := ⟨by decide, fun _ _ => rfl⟩
theorem infoE : (Tryd.prog.info? 63).map (fun i => (i.zero, i.size, i.bytes)) = some (some (.int .u64 0), 1, 8) := by kernel_rfl
theorem infoL : (Tryd.prog.info? 23).map (fun i => (i.zero, i.size, i.bytes)) = some (some (.slice none 0 0), 1, 24) := by kernel_rfl
theorem num_mk (w : World) (k j : Nat) (hk : k ≤ 300) (hj : j ≤ 1073741924) :
    Calls Tryd.prog 69 #[.int .i64 k, .int .i64 j] w fun e w' => e = .returned (.int .i64 (mkx k j)) ∧ w' = w := ref_num w k j (by omega) (by omega)
theorem mkx_in (k j : Nat) (_hk : k ≤ 300) (_hj : j ≤ 1073741924) : 0 ≤ mkx k j ∧ mkx k j ≤ 2000000000 := by unfold mkx; omega
theorem at0 {S : Nat → Prop} {w : World} {a : Option Addr} {n c k m j : Nat} (h : P.Rd0 S w (.slice a n c) m (P.marks kd k m)) (hj : j < m) : ∃ b, a = some ⟨b, 0, none⟩ ∧ w.cell? ⟨b, j, none⟩ = some (.int .u64 (mkx k j)) := by
  obtain ⟨b, hb, h1⟩ := h.at kdok hj
  refine ⟨b, hb, ?_⟩
  · have := h1 0 (.int .u64 (mkx k j)) rfl
    simpa [kd] using this
theorem in1set {B gb n i : Nat} {R : Nat → Nat} {w0 w : World} {hv v : Value} {vs : List Value} {L : Nat → Nat} (h : P.In1 kd B R w0 gb hv vs L w n i v) (hi : i < L n) :
    ∃ g cap, v = .slice (some ⟨g, 0, none⟩) (L n) cap ∧ (((∃ u, w.cell? ⟨g, i, none⟩ = some u) ∧ w.frozen? ⟨g, i, none⟩ = false)) ∧ P.In1 kd B R w0 gb hv vs L (w.setCell ⟨g, i, none⟩ (.int .u64 (mkx n i))) n (i + 1) v := by
  obtain ⟨g, cap, e, h1, h2⟩ := h.set kdok hi
  refine ⟨g, cap, e, ?_, ?_⟩
  · have := h1 0 (by decide)
    simpa [kd] using this
  · simpa only [kd, cl, Nat.mul_one, Nat.add_zero, setAll] using h2
theorem appd {B gb n i c : Nat} {R0 R : Nat → Nat} {w0 w w' : World} {hv v l l' o m : Value} {vs os ms : List Value} {L : Nat → Nat} (h : P.In2 kd B R0 w0 gb hv vs L R w n v i c l o m os ms) (ho : w'.ownsRow B 63 1 l' (i + 1) (P.marks kd n i ++ cl (mkx n i))) (hk : Kept w w' l.ownBlock (i * 1))
    (hg : ∀ g, l'.ownBlock = some g → l.ownBlock = some g ∨ w.heap.size ≤ g) : P.In2 kd B R0 w0 gb hv vs L (ext R w.heap.size (n + 3)) w' n v (i + 1) c l' o m os ms :=
  h.app kdok ho hk hg
set_option maxRecDepth 100000 in
set_option maxHeartbeats 12800000 in
theorem apart (w : World) (B : Nat) (R0 : Nat → Nat) (gb : Nat) (hv : Value) (vs : List Value) (L : Nat → Nat) (h : P.G1 kd B R0 w gb hv vs L w 0) (hN : vs.length ≤ 300)
    (hB : B ≤ w.heap.size) (hb : ∀ k, L k ≤ 1073741824) :
    Calls Tryd.prog 35 #[.pointer (some ⟨gb, 0, none⟩)] w fun e w' => e = .returned (.bool true) ∧ ∃ R, Went R0 w R w' := by
  obtain ⟨i0, hi, hz0, hz1, hz2⟩ := info_parts infoE
  obtain ⟨i1, hj, hy0, hy1, hy2⟩ := info_parts infoL
  obtain ⟨ha, cap, rfl, hcap, _⟩ := h.fr.list
  have HG0 := Lib.hid h; clear h
  have HLb2 := Lib.hid hb; clear hb
  go_enter Tryd.func35, Tryd.ntmps35
  go_wp2
  go_loopw [3] (fun n wr => ∃ k : Nat, k ≤ vs.length ∧ n = .int .i64 k ∧ Hid (P.G1 kd B R0 w gb (.slice ha vs.length cap) vs L wr k)) (fun n _ => vs.length - (intOf n).toNat)
  case atStart => exact ⟨0, by omega, rfl, HG0⟩
  case round =>
    obtain ⟨k, hk, rfl, HG⟩ := hrel
    have hd : wr.cell? ⟨gb, 3, none⟩ = some (.slice ha vs.length cap) := HG.out.fr.head
    by_cases hlt : k < vs.length
    · obtain ⟨v, hv⟩ : ∃ v, vs[k]? = some v := ⟨vs[k], List.getElem?_eq_getElem hlt⟩
      have hlen := HLb2.out k
      have HI := Lib.hid (HG.out.start hv)
      obtain ⟨Lk, hLk⟩ : ∃ x, L k = x := ⟨_, rfl⟩
      have HLk := Lib.hid hLk
      rw [hLk] at hlen
      clear HG hLk
      go_wp2
      go_loopw [4] (fun i wr' => ∃ j : Nat, j ≤ Lk ∧ i = .int .i64 j ∧ Hid (P.In1 kd B R0 w gb (.slice ha vs.length cap) vs L wr' k j v)) (fun i _ => Lk - (intOf i).toNat)
      case atStart => exact ⟨0, by omega, rfl, HI⟩
      case round =>
        obtain ⟨j, hj, rfl, HJ⟩ := hrel
        have hd : wr.cell? ⟨gb, 3, none⟩ = some (.slice ha vs.length cap) := HJ.out.fr.head
        obtain ⟨b, cap', e1, _, hc⟩ := HJ.out.fr.at hv
        simp only [Value.slice.injEq] at e1
        obtain ⟨rfl, _, rfl⟩ := e1
        by_cases hjl : j < Lk
        · obtain ⟨g, cv, rfl, ⟨⟨u0, hu0⟩, hf0⟩, hI2⟩ := in1set (HJ.out.still (Still.drew R0 wr)) (by rw [HLk.out]; exact hjl)
          rw [HLk.out] at *
          have HI2 := Lib.hid hI2; clear hI2
          replace hu0 : wr.cell? ⟨g, j, none⟩ = some u0 := hu0
          replace hf0 : wr.frozen? ⟨g, j, none⟩ = false := hf0
          have HM := Lib.hid (fun w' => num_mk w' k j (by omega) (by omega))
          obtain ⟨hx1, hx2⟩ := mkx_in k j (by omega) (by omega)
          generalize mkx k j = x at *
          clear hv
          go_wp2_with fail
          go_still_tail 12, (by kernel_rfl)
          repeat still_step
          still_call (HM.out _)
          repeat still_step
          refine wpStill_nil ?_
          go_wp2
          go_roundw
          case rel => exact ⟨j + 1, by omega, by go_num, HI2⟩
          case measure => simp [intOf]; omega
        · obtain rfl : j = Lk := by omega
          have HN : Hid (P.G1 kd B R0 w gb (.slice (some ⟨b, 0, none⟩) vs.length cap) vs L wr (k + 1)) := Lib.hid (by have h' := HJ.out; rw [← HLk.out] at h'; exact h'.next kdok)
          obtain ⟨av, cv, ev⟩ := HJ.out.slice
          rw [HLk.out] at ev
          subst ev
          go_wp2
          go_roundw
          case rel => exact ⟨k + 1, by omega, by go_num, HN⟩
          case measure => simp [intOf]; omega
    · obtain rfl : k = vs.length := by omega
      have H2 := Lib.hid HG.out.go
      clear HG hk hlt
      go_wp2
      go_loopw [5, 6, 7] (fun o m n wr => ∃ (k : Nat) (R : Nat → Nat) (os ms : List Value), k ≤ vs.length ∧ n = .int .i64 k ∧ Hid (P.G2 kd B R0 w gb (.slice ha vs.length cap) vs L R wr k o m os ms)) (fun _ _ n _ => vs.length - (intOf n).toNat)
      case atStart => exact ⟨0, _, _, _, by omega, rfl, H2⟩
      case round =>
        obtain ⟨k, R, os, ms, hk, rfl, HG⟩ := hrel
        have hd : wr.cell? ⟨gb, 3, none⟩ = some (.slice ha vs.length cap) := HG.out.fr.head
        by_cases hlt : k < vs.length
        · obtain ⟨v, hv⟩ : ∃ v, vs[k]? = some v := ⟨vs[k], List.getElem?_eq_getElem hlt⟩
          have HI := Lib.hid (HG.out.start kdok hv)
          obtain ⟨av, cv, ev, _⟩ := HI.out.mine.2.1
          subst ev
          obtain ⟨b, cap', e1, _, hc⟩ := HI.out.fr.at hv
          simp only [Value.slice.injEq] at e1
          obtain ⟨rfl, _, rfl⟩ := e1
          have hlb := HLb2.out k
          obtain ⟨Lk, hLk⟩ : ∃ x, x = L k := ⟨_, rfl⟩
          rw [← hLk] at hc hlb hv
          have HLk := Lib.hid hLk
          have HI2 : Hid (P.In2 kd B R0 w gb (.slice (some ⟨b, 0, none⟩) vs.length cap) vs L R wr k (.slice av Lk cv) Lk 0 (.slice av Lk cv) u5 u6 os ms) := by rw [hLk]; exact HI
          clear hLk HI H2
          clear HG
          go_wp2
          go_loopw [5, 8, 9] (fun o l i wr => ∃ (j c : Nat) (R : Nat → Nat) (os : List Value), Lk ≤ j ∧ j ≤ Lk + 70 ∧ i = .int .i64 j ∧ (j = Lk → c = 0) ∧ (j ≠ Lk → c = 1) ∧ Hid (P.In2 kd B R0 w gb (.slice (some ⟨b, 0, none⟩) vs.length cap) vs L R wr k (.slice av Lk cv) j c l o u6 os ms)) (fun _ _ i _ => Lk + 70 - (intOf i).toNat)
          case atStart => exact ⟨Lk, 0, _, _, by omega, by omega, by rw [HLk.out], fun _ => rfl, fun h => absurd rfl h, HI2⟩
          case round =>
            obtain ⟨j, c, R', os', hj1, hj2, rfl, hc0, hc1, HJ⟩ := hrel
            have hd : wr.cell? ⟨gb, 3, none⟩ = some (.slice (some ⟨b, 0, none⟩) vs.length cap) := HJ.out.fr.head
            obtain ⟨b', cap', e1, _, hc⟩ := HJ.out.fr.at hv
            simp only [Value.slice.injEq, Option.some.injEq, Addr.mk.injEq, and_true, true_and] at e1
            obtain ⟨rfl, rfl⟩ := e1
            have hsz : B ≤ wr.heap.size := Nat.le_trans hB HJ.out.went.keeps.size
            by_cases hjl : j < Lk + 70
            · have HM := Lib.hid (fun w' => num_mk w' k j (by omega) (by omega))
              obtain ⟨hx1, hx2⟩ := mkx_in k j (by omega) (by omega)
              obtain ⟨x, hx⟩ : ∃ x, mkx k j = x := ⟨_, rfl⟩
              rw [hx] at hx1 hx2 HM
              have HX := Lib.hid hx
              clear hx
              have HA := Lib.hid (HJ.out.still (Still.alloc R' wr (.cells #[.int .u64 x] 63) 0))
              have hown : Own2 (wr.alloc (.cells #[.int .u64 x] 63)) B 63 1 u8 j (P.marks kd k j) := HA.out.cur.own
              obtain ⟨al, cl, rfl, _, _⟩ := hown.slice
              by_cases hje : j = Lk
              · obtain rfl := hc0 hje
                obtain rfl : Lk = j := hje.symm
                clear hc0 hc1 hje
                go_wp2_with fail
                refine (HM.out _).mono ?_
                rintro e w' ⟨rfl, hw'⟩
                obtain rfl : wr = w' := hw'.symm
                go_wp2_with (at_builtin; refine wpList_append_two _ rfl _ _ 23 rfl B 63 i0 (.int .u64 0) 1 8 Tryd.underlying23 hi hz0 hz1 hz2 rfl (by decide) (.slice al Lk cl) Lk (P.marks kd k Lk) rfl hown ⟨wr.heap.size, 0, none⟩ 1 1 (by omega) [.int .u64 x] rfl rfl (cells_new _ [.int .u64 x] _) (by simp [Value.oneCell']) (by unfold maxLen; omega) (by omega) (by rw [World.size_alloc]; omega) ?_)
                intro l' w3 ho hkk hg
                have HB := Lib.hid (appd HA.out (by rw [HX.out]; exact ho) (by simpa using hkk) (by simp only [World.size_alloc]; exact hg))
                obtain ⟨al', cl', rfl, _⟩ := own_slice ho
                have hd3 : w3.cell? ⟨gb, 3, none⟩ = some (.slice (some ⟨b, 0, none⟩) vs.length cap) := HB.out.fr.head
                obtain ⟨b', cap', e3, _, hc3⟩ := HB.out.fr.at hv
                simp only [Value.slice.injEq, Option.some.injEq, Addr.mk.injEq, and_true, true_and] at e3
                obtain ⟨rfl, rfl⟩ := e3
                generalize ext (ext R' wr.heap.size 0) (wr.alloc (.cells #[.int .u64 x] 63)).heap.size (k + 3) = R3 at *
                have HC := Lib.hid (HB.out.still (Still.alloc R3 w3 (.cells #[.slice al' (Lk + 1) cl'] 23) 0))
                have hown3 : (w3.alloc (.cells #[.slice al' (Lk + 1) cl'] 23)).ownsRow B 23 1 u5 os'.length os' := HC.out.one.own
                have hlos := HC.out.los
                rw [Nat.add_zero] at hlos
                rw [hlos] at hown3
                have hsz3 : B ≤ w3.heap.size := Nat.le_trans hB HB.out.went.keeps.size
                clear ho hkk hg hown hd hc
                go_wp2_with (at_builtin; refine wpList_append_kept _ rfl _ _ 38 rfl B 23 i1 (.slice none 0 0) 1 24 Tryd.underlying38 hj hy0 hy1 hy2 rfl (by decide) u5 k os' rfl hown3 ⟨w3.heap.size, 0, none⟩ 1 1 [.slice al' (Lk + 1) cl'] rfl rfl (cell_one_new _ _ _) (by simp [Value.oneCell']) (by unfold maxLen; omega) (by omega) (by rw [World.size_alloc]; omega) ?_)
                intro o' w4 ho4 hkk4 hg4
                have HD := Lib.hid (HC.out.tell kdok (by rw [HLk.out]) ho4 (by simpa using hkk4) (by simp only [World.size_alloc]; exact hg4))
                clear ho4 hkk4 hg4
                go_wp2
                go_roundw
                case rel => exact ⟨Lk + 1, 1, _, _, by omega, by omega, by go_num, fun h => by omega, fun _ => rfl, HD⟩
                case measure => simp [intOf]
              · obtain rfl := hc1 hje
                clear hc0 hc1
                go_wp2_with fail
                refine (HM.out _).mono ?_
                rintro e w' ⟨rfl, hw'⟩
                obtain rfl : wr = w' := hw'.symm
                go_wp2_with (at_builtin; refine wpList_append_two _ rfl _ _ 23 rfl B 63 i0 (.int .u64 0) 1 8 Tryd.underlying23 hi hz0 hz1 hz2 rfl (by decide) (.slice al j cl) j (P.marks kd k j) rfl hown ⟨wr.heap.size, 0, none⟩ 1 1 (by omega) [.int .u64 x] rfl rfl (cells_new _ [.int .u64 x] _) (by simp [Value.oneCell']) (by unfold maxLen; omega) (by omega) (by rw [World.size_alloc]; omega) ?_)
                intro l' w3 ho hkk hg
                have HB := Lib.hid (appd HA.out (by rw [HX.out]; exact ho) (by simpa using hkk) (by simp only [World.size_alloc]; exact hg))
                obtain ⟨al', cl', rfl, _⟩ := own_slice ho
                have hd3 : w3.cell? ⟨gb, 3, none⟩ = some (.slice (some ⟨b, 0, none⟩) vs.length cap) := HB.out.fr.head
                obtain ⟨b', cap', e3, _, hc3⟩ := HB.out.fr.at hv
                simp only [Value.slice.injEq, Option.some.injEq, Addr.mk.injEq, and_true, true_and] at e3
                obtain ⟨rfl, rfl⟩ := e3
                clear ho hkk hg hown hd hc
                go_wp2
                go_roundw
                case rel => exact ⟨j + 1, 1, _, _, by omega, by omega, by go_num, fun h => by omega, fun _ => rfl, HB⟩
                case measure => simp [intOf]; omega
            · obtain rfl : j = Lk + 70 := by omega
              obtain rfl := hc1 (by omega)
              have hown := HJ.out.cur.own
              obtain ⟨al, cl, rfl, _, _⟩ := hown.slice
              have HC := Lib.hid (HJ.out.still (Still.alloc R' wr (.cells #[.slice al (Lk + 70) cl] 23) 0))
              have hownm : (wr.alloc (.cells #[.slice al (Lk + 70) cl] 23)).ownsRow B 23 1 u6 ms.length ms := HC.out.more.own
              have hlms := HC.out.lms
              rw [hlms] at hownm
              clear hown hc0 hc1
              go_wp2_with (at_builtin; refine wpList_append_kept _ rfl _ _ 38 rfl B 23 i1 (.slice none 0 0) 1 24 Tryd.underlying38 hj hy0 hy1 hy2 rfl (by decide) u6 k ms rfl hownm ⟨wr.heap.size, 0, none⟩ 1 1 [.slice al (Lk + 70) cl] rfl rfl (cell_one_new _ _ _) (by simp [Value.oneCell']) (by unfold maxLen; omega) (by omega) (by rw [World.size_alloc]; omega) ?_)
              intro m' w4 ho4 hkk4 hg4
              have HD := Lib.hid (HC.out.next kdok (by rw [HLk.out]) ho4 (by simpa using hkk4) (by simp only [World.size_alloc]; exact hg4))
              clear ho4 hkk4 hg4
              go_wp2
              go_roundw
              case rel => exact ⟨k + 1, _, _, _, by omega, by go_num, HD⟩
              case measure => simp [intOf]; omega
        · obtain rfl : k = vs.length := by omega
          clear H2
          go_wp2
          have hl5 := own_slice HG.out.one.own
          rw [HG.out.los] at hl5
          have hl6 := own_slice HG.out.more.own
          rw [HG.out.lms] at hl6
          obtain ⟨ao, co, rfl, _⟩ := hl5
          obtain ⟨am, cm, rfl, _⟩ := hl6
          go_wp2
          obtain ⟨wB, hwB⟩ : ∃ wB, wr = wB := ⟨_, rfl⟩
          have HB0 : Hid (Below wB.heap.size wB wr) := Lib.hid (by rw [hwB]; exact Below.refl _ _)
          rw [hwB] at HG
          clear hwB hd
          go_loopw [10] (fun n wr' => ∃ k : Nat, k ≤ vs.length ∧ n = .int .i64 k ∧ Hid (Below wB.heap.size wB wr')) (fun n _ => vs.length - (intOf n).toNat)
          case atStart => exact ⟨0, by omega, rfl, HB0⟩
          case round =>
            obtain ⟨k, hk, rfl, HBk⟩ := hrel
            by_cases hlt : k < vs.length
            · have hlb := HLb2.out k
              obtain ⟨v, hv⟩ : ∃ v, vs[k]? = some v := ⟨vs[k], List.getElem?_eq_getElem hlt⟩
              obtain ⟨vo, vm, hvo, hvm, hdn⟩ := HG.out.done k v hlt hv
              obtain ⟨Lk, hLk⟩ : ∃ x, x = L k := ⟨_, rfl⟩
              rw [← hLk] at hlb hdn
              have HLk := Lib.hid hLk; clear hLk
              obtain ⟨av, cv, rfl⟩ := hdn.mine.shape
              obtain ⟨avo, cvo, rfl⟩ := hdn.fst.shape
              obtain ⟨avm, cvm, rfl⟩ := hdn.all.shape
              obtain ⟨go_, rfl, hco⟩ := HG.out.one.at hvo
              obtain ⟨gm, rfl, hcm⟩ := HG.out.more.at hvm
              obtain ⟨b, cap', e1, _, hc⟩ := HG.out.fr.at hv
              simp only [Value.slice.injEq] at e1
              obtain ⟨rfl, _, rfl⟩ := e1
              have HBASE := Lib.hid (And.intro (show wB.cell? ⟨gb, 3, none⟩ = some (.slice (some ⟨b, 0, none⟩) vs.length cap) from HG.out.fr.head) (And.intro hco (And.intro hcm hc)))
              have HD := Lib.hid hdn; clear hdn hvo hvm hv hco hcm hc
              obtain ⟨hd, hco, hcm, hc⟩ := base4 HBASE HBk
              go_wp2
              clear hd hco hcm hc
              go_loopw [11] (fun i wr' => ∃ j : Nat, j ≤ Lk + 70 ∧ i = .int .i64 j ∧ Hid (Below wB.heap.size wB wr')) (fun i _ => Lk + 70 - (intOf i).toNat)
              case atStart => exact ⟨0, by omega, rfl, HBk⟩
              case round =>
                obtain ⟨j, hj, rfl, HBj⟩ := hrel
                obtain ⟨hd, hco, hcm, hc⟩ := base4 HBASE HBj
                by_cases hjl : j < Lk + 70
                · have HM := Lib.hid (fun w' => num_mk w' k j (by omega) (by omega))
                  obtain ⟨hx1, hx2⟩ := mkx_in k j (by omega) (by omega)
                  obtain ⟨bm, rfl, cm0⟩ := at0 HD.out.all hjl
                  replace cm0 := cell_below HBj.out cm0
                  by_cases h1 : j < Lk
                  · obtain ⟨bv, rfl, cv0⟩ := at0 HD.out.mine h1
                    replace cv0 := cell_below HBj.out cv0
                    have hne : ((j : Int) == (Lk : Int)) = false := by rw [beq_eq_false_iff_ne]; omega
                    generalize mkx k j = x at *
                    go_wp2_with (go_at_call 69; refine (HM.out _).mono ?_; rintro e w' ⟨rfl, rfl⟩)
                    all_goals first | (exfalso; simp_all; done) | skip
                    go_roundw
                    case rel => exact ⟨j + 1, by omega, by go_num, HBj⟩
                    case measure => simp [intOf]; omega
                  · have h1' : decide ((j : Int) < (Lk : Int)) = false := by rw [decide_eq_false_iff_not]; omega
                    by_cases h2 : j = Lk
                    · obtain rfl : Lk = j := h2.symm
                      obtain ⟨bo, rfl, cv0⟩ := at0 HD.out.fst (Nat.lt_succ_self _)
                      replace cv0 := cell_below HBj.out cv0
                      generalize mkx k Lk = x at *
                      go_wp2_with (go_at_call 69; refine (HM.out _).mono ?_; rintro e w' ⟨rfl, rfl⟩)
                      all_goals first | (exfalso; simp_all; done) | skip
                      go_roundw
                      case rel => exact ⟨Lk + 1, by omega, by go_num, HBj⟩
                      case measure => simp [intOf]
                    · have hne : ((j : Int) == (Lk : Int)) = false := by rw [beq_eq_false_iff_ne]; omega
                      generalize mkx k j = x at *
                      go_wp2_with (go_at_call 69; refine (HM.out _).mono ?_; rintro e w' ⟨rfl, rfl⟩)
                      all_goals first | (exfalso; simp_all; done) | skip
                      go_roundw
                      case rel => exact ⟨j + 1, by omega, by go_num, HBj⟩
                      case measure => simp [intOf]; omega
                · obtain rfl : j = Lk + 70 := by omega
                  go_wp2
                  go_roundw
                  case rel => exact ⟨k + 1, by omega, by go_num, HBj⟩
                  case measure => simp [intOf]; omega
            · obtain rfl : k = vs.length := by omega
              go_wp2
              go_ret
              exact ⟨rfl, _, (HG.out.still (Still.below R HBk.out)).went⟩
end BagWords
end Go.Proofs.YthlkckpadjjbdaaDoor
