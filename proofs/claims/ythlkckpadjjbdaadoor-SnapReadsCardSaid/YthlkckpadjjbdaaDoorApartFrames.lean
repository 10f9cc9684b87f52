/- flagonref00's Bag: its lists of the kind Frames lie apart. -/
import Derived.Test.YthlkckpadjjbdaaDoorBagP
import Derived.Test.YthlkckpadjjbdaaDoorMText
import Derived.StillTailTactics
import Derived.Deep.QuietTactic
import Derived.BigQuiet
import Derived.Test.YthlkckpadjjbdaaDoorMBagG
namespace Go.Proofs.YthlkckpadjjbdaaDoor
open Go Go.RowKit
namespace BagFrames
def mkx (k j : Nat) : Int := ((1048576 * k + j + 1 : Nat) : Int)
def cl (x : Int) : List Value := [.int .i64 0, .int .i64 x, .slice none 0 0, .slice none 0 0]
def kd : Kd := ⟨66, 22, 4, 13, fun k j => cl (mkx k j)⟩
theorem kdok : kd.Ok := ⟨by decide, fun _ _ => rfl⟩
theorem infoE : (Tryd.prog.info? 66).map (fun i => (i.zero, i.size, i.bytes)) = some (some (.agg #[.int .i64 0, .int .i64 0, .slice none 0 0, .slice none 0 0]), 4, 64) := by kernel_rfl
theorem infoL : (Tryd.prog.info? 22).map (fun i => (i.zero, i.size, i.bytes)) = some (some (.slice none 0 0), 1, 24) := by kernel_rfl
theorem num_mk (w : World) (k j : Nat) (hk : k ≤ 300) (hj : j ≤ 1073741924) :
    Calls Tryd.prog 69 #[.int .i64 k, .int .i64 j] w fun e w' => e = .returned (.int .i64 (mkx k j)) ∧ w' = w := ref_num w k j (by omega) (by omega)
theorem mkx_in (k j : Nat) (_hk : k ≤ 300) (_hj : j ≤ 1073741924) : 0 ≤ mkx k j ∧ mkx k j ≤ 2000000000 := by unfold mkx; omega
theorem at0 {S : Nat → Prop} {w : World} {a : Option Addr} {n c k m j : Nat} (h : P.Rd0 S w (.slice a n c) m (P.marks kd k m)) (hj : j < m) : ∃ b, a = some ⟨b, 0, none⟩ ∧ w.cell? ⟨b, j * 4, none⟩ = some (.int .i64 0) ∧ w.cell? ⟨b, j * 4 + 1, none⟩ = some (.int .i64 (mkx k j)) ∧ w.cell? ⟨b, j * 4 + 2, none⟩ = some (.slice none 0 0) ∧ w.cell? ⟨b, j * 4 + 3, none⟩ = some (.slice none 0 0) := by
  obtain ⟨b, hb, h1⟩ := h.at kdok hj
  refine ⟨b, hb, ?_, ?_, ?_, ?_⟩
  · have := h1 0 (.int .i64 0) rfl
    simpa [kd] using this
  · have := h1 1 (.int .i64 (mkx k j)) rfl
    simpa [kd] using this
  · have := h1 2 (.slice none 0 0) rfl
    simpa [kd] using this
  · have := h1 3 (.slice none 0 0) rfl
    simpa [kd] using this
theorem in1set {B gb n i : Nat} {R : Nat → Nat} {w0 w : World} {hv v : Value} {vs : List Value} {L : Nat → Nat} (h : P.In1 kd B R w0 gb hv vs L w n i v) (hi : i < L n) :
    ∃ g cap, v = .slice (some ⟨g, 0, none⟩) (L n) cap ∧ (((∃ u, w.cell? ⟨g, i * 4, none⟩ = some u) ∧ w.frozen? ⟨g, i * 4, none⟩ = false) ∧ ((∃ u, w.cell? ⟨g, i * 4 + 1, none⟩ = some u) ∧ w.frozen? ⟨g, i * 4 + 1, none⟩ = false) ∧ ((∃ u, w.cell? ⟨g, i * 4 + 2, none⟩ = some u) ∧ w.frozen? ⟨g, i * 4 + 2, none⟩ = false) ∧ ((∃ u, w.cell? ⟨g, i * 4 + 3, none⟩ = some u) ∧ w.frozen? ⟨g, i * 4 + 3, none⟩ = false)) ∧ P.In1 kd B R w0 gb hv vs L ((((w.setCell ⟨g, i * 4, none⟩ (.int .i64 0)).setCell ⟨g, i * 4 + 1, none⟩ (.int .i64 (mkx n i))).setCell ⟨g, i * 4 + 2, none⟩ (.slice none 0 0)).setCell ⟨g, i * 4 + 3, none⟩ (.slice none 0 0)) n (i + 1) v := by
  obtain ⟨g, cap, e, h1, h2⟩ := h.set kdok hi
  refine ⟨g, cap, e, ⟨?_, ?_, ?_, ?_⟩, ?_⟩
  · have := h1 0 (by decide)
    simpa [kd] using this
  · have := h1 1 (by decide)
    simpa [kd] using this
  · have := h1 2 (by decide)
    simpa [kd] using this
  · have := h1 3 (by decide)
    simpa [kd] using this
  · simpa only [kd, cl, Nat.mul_one, Nat.add_zero, setAll] using h2
theorem appd {B gb n i c : Nat} {R0 R : Nat → Nat} {w0 w w' : World} {hv v l l' o m : Value} {vs os ms : List Value} {L : Nat → Nat} (h : P.In2 kd B R0 w0 gb hv vs L R w n v i c l o m os ms) (ho : w'.ownsRow B 66 4 l' (i + 1) (P.marks kd n i ++ cl (mkx n i))) (hk : Kept w w' l.ownBlock (i * 4))
    (hg : ∀ g, l'.ownBlock = some g → l.ownBlock = some g ∨ w.heap.size ≤ g) : P.In2 kd B R0 w0 gb hv vs L (ext R w.heap.size (n + 3)) w' n v (i + 1) c l' o m os ms :=
  h.app kdok ho hk hg
set_option maxRecDepth 100000 in
set_option maxHeartbeats 12800000 in
theorem apart (w : World) (B : Nat) (R0 : Nat → Nat) (gb : Nat) (hv : Value) (vs : List Value) (L : Nat → Nat) (h : P.G1 kd B R0 w gb hv vs L w 0) (hN : vs.length ≤ 300)
    (hB : B ≤ w.heap.size) (hb : ∀ k, L k ≤ 1073741824) :
    Calls Tryd.prog 45 #[.pointer (some ⟨gb, 0, none⟩)] w fun e w' => e = .returned (.bool true) ∧ ∃ R, Went R0 w R w' := by
  obtain ⟨i0, hi, hz0, hz1, hz2⟩ := info_parts infoE
  obtain ⟨i1, hj, hy0, hy1, hy2⟩ := info_parts infoL
  obtain ⟨ha, cap, rfl, hcap, _⟩ := h.fr.list
  have HG0 := Lib.hid h; clear h
  have HLb2 := Lib.hid hb; clear hb
  go_enter Tryd.func45, Tryd.ntmps45
  go_wp2
  go_loopw [3] (fun n wr => ∃ k : Nat, k ≤ vs.length ∧ n = .int .i64 k ∧ Hid (P.G1 kd B R0 w gb (.slice ha vs.length cap) vs L wr k)) (fun n _ => vs.length - (intOf n).toNat)
  case atStart => exact ⟨0, by omega, rfl, HG0⟩
  case round =>
    obtain ⟨k, hk, rfl, HG⟩ := hrel
    have hd : wr.cell? ⟨gb, 13, none⟩ = some (.slice ha vs.length cap) := HG.out.fr.head
    by_cases hlt : k < vs.length
    · obtain ⟨v, hv⟩ : ∃ v, vs[k]? = some v := ⟨vs[k], List.getElem?_eq_getElem hlt⟩
      have hlen := HLb2.out k
      have HI := Lib.hid (HG.out.start hv)
      obtain ⟨Lk, hLk⟩ : ∃ x, L k = x := ⟨_, rfl⟩
      have HLk := Lib.hid hLk
      rw [hLk] at hlen
      clear HG hLk
      go_wp2
      go_loopw [4] (fun i wr' => ∃ j : Nat, j ≤ Lk ∧ i = .int .i64 j ∧ Hid (P.In1 kd B R0 w gb (.slice ha vs.length cap) vs L wr' k j v)) (fun i _ => Lk - (intOf i).toNat)
      case atStart => exact ⟨0, by omega, rfl, HI⟩
      case round =>
        obtain ⟨j, hj, rfl, HJ⟩ := hrel
        have hd : wr.cell? ⟨gb, 13, none⟩ = some (.slice ha vs.length cap) := HJ.out.fr.head
        obtain ⟨b, cap', e1, _, hc⟩ := HJ.out.fr.at hv
        simp only [Value.slice.injEq] at e1
        obtain ⟨rfl, _, rfl⟩ := e1
        by_cases hjl : j < Lk
        · obtain ⟨g, cv, rfl, ⟨⟨⟨u0, hu0⟩, hf0⟩, ⟨⟨u1, hu1⟩, hf1⟩, ⟨⟨u2, hu2⟩, hf2⟩, ⟨⟨u3, hu3⟩, hf3⟩⟩, hI2⟩ := in1set (HJ.out.still (Still.drew R0 wr)) (by rw [HLk.out]; exact hjl)
          rw [HLk.out] at *
          have HI2 := Lib.hid hI2; clear hI2
          replace hu0 : wr.cell? ⟨g, j * 4, none⟩ = some u0 := hu0
          replace hf0 : wr.frozen? ⟨g, j * 4, none⟩ = false := hf0
          replace hu1 : wr.cell? ⟨g, j * 4 + 1, none⟩ = some u1 := hu1
          replace hf1 : wr.frozen? ⟨g, j * 4 + 1, none⟩ = false := hf1
          replace hu2 : wr.cell? ⟨g, j * 4 + 2, none⟩ = some u2 := hu2
          replace hf2 : wr.frozen? ⟨g, j * 4 + 2, none⟩ = false := hf2
          replace hu3 : wr.cell? ⟨g, j * 4 + 3, none⟩ = some u3 := hu3
          replace hf3 : wr.frozen? ⟨g, j * 4 + 3, none⟩ = false := hf3
          have HM := Lib.hid (fun w' => num_mk w' k j (by omega) (by omega))
          obtain ⟨hx1, hx2⟩ := mkx_in k j (by omega) (by omega)
          generalize mkx k j = x at *
          clear hv
          go_wp2_with fail
          go_still_tail 12, (by kernel_rfl)
          repeat still_step
          still_call (HM.out _)
          repeat still_step
          refine wpStill_nil ?_
          go_wp2
          go_roundw
          case rel => exact ⟨j + 1, by omega, by go_num, HI2⟩
          case measure => simp [intOf]; omega
        · obtain rfl : j = Lk := by omega
          have HN : Hid (P.G1 kd B R0 w gb (.slice (some ⟨b, 0, none⟩) vs.length cap) vs L wr (k + 1)) := Lib.hid (by have h' := HJ.out; rw [← HLk.out] at h'; exact h'.next kdok)
          obtain ⟨av, cv, ev⟩ := HJ.out.slice
          rw [HLk.out] at ev
          subst ev
          go_wp2
          go_roundw
          case rel => exact ⟨k + 1, by omega, by go_num, HN⟩
          case measure => simp [intOf]; omega
    · obtain rfl : k = vs.length := by omega
      have H2 := Lib.hid HG.out.go
      clear HG hk hlt
      go_wp2
      go_loopw [5, 6, 7] (fun o m n wr => ∃ (k : Nat) (R : Nat → Nat) (os ms : List Value), k ≤ vs.length ∧ n = .int .i64 k ∧ Hid (P.G2 kd B R0 w gb (.slice ha vs.length cap) vs L R wr k o m os ms)) (fun _ _ n _ => vs.length - (intOf n).toNat)
      case atStart => exact ⟨0, _, _, _, by omega, rfl, H2⟩
      case round =>
        obtain ⟨k, R, os, ms, hk, rfl, HG⟩ := hrel
        have hd : wr.cell? ⟨gb, 13, none⟩ = some (.slice ha vs.length cap) := HG.out.fr.head
        by_cases hlt : k < vs.length
        · obtain ⟨v, hv⟩ : ∃ v, vs[k]? = some v := ⟨vs[k], List.getElem?_eq_getElem hlt⟩
          have HI := Lib.hid (HG.out.start kdok hv)
          obtain ⟨av, cv, ev, _⟩ := HI.out.mine.2.1
          subst ev
          obtain ⟨b, cap', e1, _, hc⟩ := HI.out.fr.at hv
          simp only [Value.slice.injEq] at e1
          obtain ⟨rfl, _, rfl⟩ := e1
          have hlb := HLb2.out k
          obtain ⟨Lk, hLk⟩ : ∃ x, x = L k := ⟨_, rfl⟩
          rw [← hLk] at hc hlb hv
          have HLk := Lib.hid hLk
          have HI2 : Hid (P.In2 kd B R0 w gb (.slice (some ⟨b, 0, none⟩) vs.length cap) vs L R wr k (.slice av Lk cv) Lk 0 (.slice av Lk cv) u5 u6 os ms) := by rw [hLk]; exact HI
          clear hLk HI H2
          clear HG
          go_wp2
          go_loopw [5, 8, 9] (fun o l i wr => ∃ (j c : Nat) (R : Nat → Nat) (os : List Value), Lk ≤ j ∧ j ≤ Lk + 70 ∧ i = .int .i64 j ∧ (j = Lk → c = 0) ∧ (j ≠ Lk → c = 1) ∧ Hid (P.In2 kd B R0 w gb (.slice (some ⟨b, 0, none⟩) vs.length cap) vs L R wr k (.slice av Lk cv) j c l o u6 os ms)) (fun _ _ i _ => Lk + 70 - (intOf i).toNat)
          case atStart => exact ⟨Lk, 0, _, _, by omega, by omega, by rw [HLk.out], fun _ => rfl, fun h => absurd rfl h, HI2⟩
          case round =>
            obtain ⟨j, c, R', os', hj1, hj2, rfl, hc0, hc1, HJ⟩ := hrel
            have hd : wr.cell? ⟨gb, 13, none⟩ = some (.slice (some ⟨b, 0, none⟩) vs.length cap) := HJ.out.fr.head
            obtain ⟨b', cap', e1, _, hc⟩ := HJ.out.fr.at hv
            simp only [Value.slice.injEq, Option.some.injEq, Addr.mk.injEq, and_true, true_and] at e1
            obtain ⟨rfl, rfl⟩ := e1
            have hsz : B ≤ wr.heap.size := Nat.le_trans hB HJ.out.went.keeps.size
            by_cases hjl : j < Lk + 70
            · have HM := Lib.hid (fun w' => num_mk w' k j (by omega) (by omega))
              obtain ⟨hx1, hx2⟩ := mkx_in k j (by omega) (by omega)
              obtain ⟨x, hx⟩ : ∃ x, mkx k j = x := ⟨_, rfl⟩
              rw [hx] at hx1 hx2 HM
              have HX := Lib.hid hx
              clear hx
              have HA := Lib.hid (HJ.out.still (Still.alloc R' wr (.cells #[.int .i64 0, .int .i64 x, .slice none 0 0, .slice none 0 0] 66) 0))
              have hown : Own2 (wr.alloc (.cells #[.int .i64 0, .int .i64 x, .slice none 0 0, .slice none 0 0] 66)) B 66 4 u8 j (P.marks kd k j) := HA.out.cur.own
              obtain ⟨al, cl, rfl, _, _⟩ := hown.slice
              by_cases hje : j = Lk
              · obtain rfl := hc0 hje
                obtain rfl : Lk = j := hje.symm
                clear hc0 hc1 hje
                go_wp2_with fail
                refine (HM.out _).mono ?_
                rintro e w' ⟨rfl, hw'⟩
                obtain rfl : wr = w' := hw'.symm
                go_wp2_with (at_builtin; refine wpList_append_two _ rfl _ _ 22 rfl B 66 i0 (.agg #[.int .i64 0, .int .i64 0, .slice none 0 0, .slice none 0 0]) 4 64 Tryd.underlying22 hi hz0 hz1 hz2 rfl (by decide) (.slice al Lk cl) Lk (P.marks kd k Lk) rfl hown ⟨wr.heap.size, 0, none⟩ 1 1 (by omega) [.int .i64 0, .int .i64 x, .slice none 0 0, .slice none 0 0] rfl rfl (cells_new _ [.int .i64 0, .int .i64 x, .slice none 0 0, .slice none 0 0] _) (by simp [Value.oneCell']) (by unfold maxLen; omega) (by omega) (by rw [World.size_alloc]; omega) ?_)
                intro l' w3 ho hkk hg
                have HB := Lib.hid (appd HA.out (by rw [HX.out]; exact ho) (by simpa using hkk) (by simp only [World.size_alloc]; exact hg))
                obtain ⟨al', cl', rfl, _⟩ := own_slice ho
                have hd3 : w3.cell? ⟨gb, 13, none⟩ = some (.slice (some ⟨b, 0, none⟩) vs.length cap) := HB.out.fr.head
                obtain ⟨b', cap', e3, _, hc3⟩ := HB.out.fr.at hv
                simp only [Value.slice.injEq, Option.some.injEq, Addr.mk.injEq, and_true, true_and] at e3
                obtain ⟨rfl, rfl⟩ := e3
                generalize ext (ext R' wr.heap.size 0) (wr.alloc (.cells #[.int .i64 0, .int .i64 x, .slice none 0 0, .slice none 0 0] 66)).heap.size (k + 3) = R3 at *
                have HC := Lib.hid (HB.out.still (Still.alloc R3 w3 (.cells #[.slice al' (Lk + 1) cl'] 22) 0))
                have hown3 : (w3.alloc (.cells #[.slice al' (Lk + 1) cl'] 22)).ownsRow B 22 1 u5 os'.length os' := HC.out.one.own
                have hlos := HC.out.los
                rw [Nat.add_zero] at hlos
                rw [hlos] at hown3
                have hsz3 : B ≤ w3.heap.size := Nat.le_trans hB HB.out.went.keeps.size
                clear ho hkk hg hown hd hc
                go_wp2_with (at_builtin; refine wpList_append_kept _ rfl _ _ 48 rfl B 22 i1 (.slice none 0 0) 1 24 Tryd.underlying48 hj hy0 hy1 hy2 rfl (by decide) u5 k os' rfl hown3 ⟨w3.heap.size, 0, none⟩ 1 1 [.slice al' (Lk + 1) cl'] rfl rfl (cell_one_new _ _ _) (by simp [Value.oneCell']) (by unfold maxLen; omega) (by omega) (by rw [World.size_alloc]; omega) ?_)
                intro o' w4 ho4 hkk4 hg4
                have HD := Lib.hid (HC.out.tell kdok (by rw [HLk.out]) ho4 (by simpa using hkk4) (by simp only [World.size_alloc]; exact hg4))
                clear ho4 hkk4 hg4
                go_wp2
                go_roundw
                case rel => exact ⟨Lk + 1, 1, _, _, by omega, by omega, by go_num, fun h => by omega, fun _ => rfl, HD⟩
                case measure => simp [intOf]
              · obtain rfl := hc1 hje
                clear hc0 hc1
                go_wp2_with fail
                refine (HM.out _).mono ?_
                rintro e w' ⟨rfl, hw'⟩
                obtain rfl : wr = w' := hw'.symm
                go_wp2_with (at_builtin; refine wpList_append_two _ rfl _ _ 22 rfl B 66 i0 (.agg #[.int .i64 0, .int .i64 0, .slice none 0 0, .slice none 0 0]) 4 64 Tryd.underlying22 hi hz0 hz1 hz2 rfl (by decide) (.slice al j cl) j (P.marks kd k j) rfl hown ⟨wr.heap.size, 0, none⟩ 1 1 (by omega) [.int .i64 0, .int .i64 x, .slice none 0 0, .slice none 0 0] rfl rfl (cells_new _ [.int .i64 0, .int .i64 x, .slice none 0 0, .slice none 0 0] _) (by simp [Value.oneCell']) (by unfold maxLen; omega) (by omega) (by rw [World.size_alloc]; omega) ?_)
                intro l' w3 ho hkk hg
                have HB := Lib.hid (appd HA.out (by rw [HX.out]; exact ho) (by simpa using hkk) (by simp only [World.size_alloc]; exact hg))
                obtain ⟨al', cl', rfl, _⟩ := own_slice ho
                have hd3 : w3.cell? ⟨gb, 13, none⟩ = some (.slice (some ⟨b, 0, none⟩) vs.length cap) := HB.out.fr.head
                obtain ⟨b', cap', e3, _, hc3⟩ := HB.out.fr.at hv
                simp only [Value.slice.injEq, Option.some.injEq, Addr.mk.injEq, and_true, true_and] at e3
                obtain ⟨rfl, rfl⟩ := e3
                clear ho hkk hg hown hd hc
                go_wp2
                go_roundw
                case rel => exact ⟨j + 1, 1, _, _, by omega, by omega, by go_num, fun h => by omega, fun _ => rfl, HB⟩
                case measure => simp [intOf]; omega
            · obtain rfl : j = Lk + 70 := by omega
              obtain rfl := hc1 (by omega)
              have hown := HJ.out.cur.own
              obtain ⟨al, cl, rfl, _, _⟩ := hown.slice
              have HC := Lib.hid (HJ.out.still (Still.alloc R' wr (.cells #[.slice al (Lk + 70) cl] 22) 0))
              have hownm : (wr.alloc (.cells #[.slice al (Lk + 70) cl] 22)).ownsRow B 22 1 u6 ms.length ms := HC.out.more.own
              have hlms := HC.out.lms
              rw [hlms] at hownm
              clear hown hc0 hc1
              go_wp2_with (at_builtin; refine wpList_append_kept _ rfl _ _ 48 rfl B 22 i1 (.slice none 0 0) 1 24 Tryd.underlying48 hj hy0 hy1 hy2 rfl (by decide) u6 k ms rfl hownm ⟨wr.heap.size, 0, none⟩ 1 1 [.slice al (Lk + 70) cl] rfl rfl (cell_one_new _ _ _) (by simp [Value.oneCell']) (by unfold maxLen; omega) (by omega) (by rw [World.size_alloc]; omega) ?_)
              intro m' w4 ho4 hkk4 hg4
              have HD := Lib.hid (HC.out.next kdok (by rw [HLk.out]) ho4 (by simpa using hkk4) (by simp only [World.size_alloc]; exact hg4))
              clear ho4 hkk4 hg4
              go_wp2
              go_roundw
              case rel => exact ⟨k + 1, _, _, _, by omega, by go_num, HD⟩
              case measure => simp [intOf]; omega
        · obtain rfl : k = vs.length := by omega
          clear H2
          go_wp2
          have hl5 := own_slice HG.out.one.own
          rw [HG.out.los] at hl5
          have hl6 := own_slice HG.out.more.own
          rw [HG.out.lms] at hl6
          obtain ⟨ao, co, rfl, _⟩ := hl5
          obtain ⟨am, cm, rfl, _⟩ := hl6
          go_wp2
          obtain ⟨wB, hwB⟩ : ∃ wB, wr = wB := ⟨_, rfl⟩
          have HB0 : Hid (Below wB.heap.size wB wr) := Lib.hid (by rw [hwB]; exact Below.refl _ _)
          rw [hwB] at HG
          clear hwB hd
          go_loopw [10] (fun n wr' => ∃ k : Nat, k ≤ vs.length ∧ n = .int .i64 k ∧ Hid (Below wB.heap.size wB wr')) (fun n _ => vs.length - (intOf n).toNat)
          case atStart => exact ⟨0, by omega, rfl, HB0⟩
          case round =>
            obtain ⟨k, hk, rfl, HBk⟩ := hrel
            by_cases hlt : k < vs.length
            · have hlb := HLb2.out k
              obtain ⟨v, hv⟩ : ∃ v, vs[k]? = some v := ⟨vs[k], List.getElem?_eq_getElem hlt⟩
              obtain ⟨vo, vm, hvo, hvm, hdn⟩ := HG.out.done k v hlt hv
              obtain ⟨Lk, hLk⟩ : ∃ x, x = L k := ⟨_, rfl⟩
              rw [← hLk] at hlb hdn
              have HLk := Lib.hid hLk; clear hLk
              obtain ⟨av, cv, rfl⟩ := hdn.mine.shape
              obtain ⟨avo, cvo, rfl⟩ := hdn.fst.shape
              obtain ⟨avm, cvm, rfl⟩ := hdn.all.shape
              obtain ⟨go_, rfl, hco⟩ := HG.out.one.at hvo
              obtain ⟨gm, rfl, hcm⟩ := HG.out.more.at hvm
              obtain ⟨b, cap', e1, _, hc⟩ := HG.out.fr.at hv
              simp only [Value.slice.injEq] at e1
              obtain ⟨rfl, _, rfl⟩ := e1
              have HBASE := Lib.hid (And.intro (show wB.cell? ⟨gb, 13, none⟩ = some (.slice (some ⟨b, 0, none⟩) vs.length cap) from HG.out.fr.head) (And.intro hco (And.intro hcm hc)))
              have HD := Lib.hid hdn; clear hdn hvo hvm hv hco hcm hc
              obtain ⟨hd, hco, hcm, hc⟩ := base4 HBASE HBk
              go_wp2
              clear hd hco hcm hc
              go_loopw [11] (fun i wr' => ∃ j : Nat, j ≤ Lk + 70 ∧ i = .int .i64 j ∧ Hid (Below wB.heap.size wB wr')) (fun i _ => Lk + 70 - (intOf i).toNat)
              case atStart => exact ⟨0, by omega, rfl, HBk⟩
              case round =>
                obtain ⟨j, hj, rfl, HBj⟩ := hrel
                obtain ⟨hd, hco, hcm, hc⟩ := base4 HBASE HBj
                by_cases hjl : j < Lk + 70
                · have HM := Lib.hid (fun w' => num_mk w' k j (by omega) (by omega))
                  obtain ⟨hx1, hx2⟩ := mkx_in k j (by omega) (by omega)
                  obtain ⟨bm, rfl, cm0, cm1, cm2, cm3⟩ := at0 HD.out.all hjl
                  replace cm0 := cell_below HBj.out cm0
                  replace cm1 := cell_below HBj.out cm1
                  replace cm2 := cell_below HBj.out cm2
                  replace cm3 := cell_below HBj.out cm3
                  by_cases h1 : j < Lk
                  · obtain ⟨bv, rfl, cv0, cv1, cv2, cv3⟩ := at0 HD.out.mine h1
                    replace cv0 := cell_below HBj.out cv0
                    replace cv1 := cell_below HBj.out cv1
                    replace cv2 := cell_below HBj.out cv2
                    replace cv3 := cell_below HBj.out cv3
                    have hne : ((j : Int) == (Lk : Int)) = false := by rw [beq_eq_false_iff_ne]; omega
                    generalize mkx k j = x at *
                    have hbx := below_alloc wr (.cells #[.int .i64 0, .int .i64 x, .slice none 0 0, .slice none 0 0] 66)
                    have hrx := heap_alloc_new wr (.cells #[.int .i64 0, .int .i64 x, .slice none 0 0, .slice none 0 0] 66)
                    go_upto_region 27 with fail
                    obtain ⟨wx, hwx⟩ : ∃ wx, wr.alloc (.cells #[.int .i64 0, .int .i64 x, .slice none 0 0, .slice none 0 0] 66) = wx := ⟨_, rfl⟩
                    rw [hwx] at hbx hrx ⊢
                    clear hwx
                    replace hd := cell_below hbx hd
                    replace hco := cell_below hbx hco
                    replace hcm := cell_below hbx hcm
                    replace hc := cell_below hbx hc
                    replace cm0 := cell_below hbx cm0
                    replace cm1 := cell_below hbx cm1
                    replace cm2 := cell_below hbx cm2
                    replace cm3 := cell_below hbx cm3
                    replace cv0 := cell_below hbx cv0
                    replace cv1 := cell_below hbx cv1
                    replace cv2 := cell_below hbx cv2
                    replace cv3 := cell_below hbx cv3
                    have y0 := row_cell hrx 0 rfl
                    have z0 := row_free hrx 0
                    have y1 := row_cell hrx 1 rfl
                    have z1 := row_free hrx 1
                    have y2 := row_cell hrx 2 rfl
                    have z2 := row_free hrx 2
                    have y3 := row_cell hrx 3 rfl
                    have z3 := row_free hrx 3
                    simp only [List.getElem_toArray, List.getElem_cons_zero, List.getElem_cons_succ] at y0 y1 y2 y3
                    have HBX := Lib.hid (below_next HBj.out hbx)
                    clear hbx hrx
                    generalize wr.heap.size = bx at *
                    have SD : Hid (∀ n, (((((wx.drewN n).setCell ⟨bx, 0, none⟩ (.int .i64 0)).setCell ⟨bx, 1, none⟩ (.int .i64 x)).setCell ⟨bx, 2, none⟩ (.slice none 0 0)).setCell ⟨bx, 3, none⟩ (.slice none 0 0)) = wx.drewN n) := Lib.hid fun n => by rw [setCell_same (w := wx.drewN n) (b := bx) (o := 0) (by exact y0)]; rw [setCell_same (w := wx.drewN n) (b := bx) (o := 1) (by exact y1)]; rw [setCell_same (w := wx.drewN n) (b := bx) (o := 2) (by exact y2)]; rw [setCell_same (w := wx.drewN n) (b := bx) (o := 3) (by exact y3)]
                    have S0 : Hid (((((wx.setCell ⟨bx, 0, none⟩ (.int .i64 0)).setCell ⟨bx, 1, none⟩ (.int .i64 x)).setCell ⟨bx, 2, none⟩ (.slice none 0 0)).setCell ⟨bx, 3, none⟩ (.slice none 0 0)) = wx) := Lib.hid (by rw [setCell_same (w := wx) (b := bx) (o := 0) (by exact y0)]; rw [setCell_same (w := wx) (b := bx) (o := 1) (by exact y1)]; rw [setCell_same (w := wx) (b := bx) (o := 2) (by exact y2)]; rw [setCell_same (w := wx) (b := bx) (o := 3) (by exact y3)])
                    go_upto_region 29 with fail
                    rw [S0.out]
                    go_wp2_with fail
                    go_quiet ((go_at_call 69; exact Calls.quiet_of_same (HM.out _)))
                    go_upto_region 33 with fail
                    simp only [SD.out]
                    go_wp2_with fail
                    go_quiet ((go_at_call 69; exact quiet_add_same (HM.out _)))
                    go_wp2
                    go_roundw
                    case rel => exact ⟨j + 1, by omega, by go_num, Lib.hid (below_next HBX.out (drewN_below _ _))⟩
                    case measure => simp [intOf]; omega
                  · have h1' : decide ((j : Int) < (Lk : Int)) = false := by rw [decide_eq_false_iff_not]; omega
                    by_cases h2 : j = Lk
                    · obtain rfl : Lk = j := h2.symm
                      obtain ⟨bo, rfl, cv0, cv1, cv2, cv3⟩ := at0 HD.out.fst (Nat.lt_succ_self _)
                      replace cv0 := cell_below HBj.out cv0
                      replace cv1 := cell_below HBj.out cv1
                      replace cv2 := cell_below HBj.out cv2
                      replace cv3 := cell_below HBj.out cv3
                      generalize mkx k Lk = x at *
                      have hbx := below_alloc wr (.cells #[.int .i64 0, .int .i64 x, .slice none 0 0, .slice none 0 0] 66)
                      have hrx := heap_alloc_new wr (.cells #[.int .i64 0, .int .i64 x, .slice none 0 0, .slice none 0 0] 66)
                      go_upto_region 27 with fail
                      obtain ⟨wx, hwx⟩ : ∃ wx, wr.alloc (.cells #[.int .i64 0, .int .i64 x, .slice none 0 0, .slice none 0 0] 66) = wx := ⟨_, rfl⟩
                      rw [hwx] at hbx hrx ⊢
                      clear hwx
                      replace hd := cell_below hbx hd
                      replace hco := cell_below hbx hco
                      replace hcm := cell_below hbx hcm
                      replace hc := cell_below hbx hc
                      replace cm0 := cell_below hbx cm0
                      replace cm1 := cell_below hbx cm1
                      replace cm2 := cell_below hbx cm2
                      replace cm3 := cell_below hbx cm3
                      replace cv0 := cell_below hbx cv0
                      replace cv1 := cell_below hbx cv1
                      replace cv2 := cell_below hbx cv2
                      replace cv3 := cell_below hbx cv3
                      have y0 := row_cell hrx 0 rfl
                      have z0 := row_free hrx 0
                      have y1 := row_cell hrx 1 rfl
                      have z1 := row_free hrx 1
                      have y2 := row_cell hrx 2 rfl
                      have z2 := row_free hrx 2
                      have y3 := row_cell hrx 3 rfl
                      have z3 := row_free hrx 3
                      simp only [List.getElem_toArray, List.getElem_cons_zero, List.getElem_cons_succ] at y0 y1 y2 y3
                      have HBX := Lib.hid (below_next HBj.out hbx)
                      clear hbx hrx
                      generalize wr.heap.size = bx at *
                      have SD : Hid (∀ n, (((((wx.drewN n).setCell ⟨bx, 0, none⟩ (.int .i64 0)).setCell ⟨bx, 1, none⟩ (.int .i64 x)).setCell ⟨bx, 2, none⟩ (.slice none 0 0)).setCell ⟨bx, 3, none⟩ (.slice none 0 0)) = wx.drewN n) := Lib.hid fun n => by rw [setCell_same (w := wx.drewN n) (b := bx) (o := 0) (by exact y0)]; rw [setCell_same (w := wx.drewN n) (b := bx) (o := 1) (by exact y1)]; rw [setCell_same (w := wx.drewN n) (b := bx) (o := 2) (by exact y2)]; rw [setCell_same (w := wx.drewN n) (b := bx) (o := 3) (by exact y3)]
                      have S0 : Hid (((((wx.setCell ⟨bx, 0, none⟩ (.int .i64 0)).setCell ⟨bx, 1, none⟩ (.int .i64 x)).setCell ⟨bx, 2, none⟩ (.slice none 0 0)).setCell ⟨bx, 3, none⟩ (.slice none 0 0)) = wx) := Lib.hid (by rw [setCell_same (w := wx) (b := bx) (o := 0) (by exact y0)]; rw [setCell_same (w := wx) (b := bx) (o := 1) (by exact y1)]; rw [setCell_same (w := wx) (b := bx) (o := 2) (by exact y2)]; rw [setCell_same (w := wx) (b := bx) (o := 3) (by exact y3)])
                      go_upto_region 31 with fail
                      rw [S0.out]
                      go_wp2_with fail
                      go_quiet ((go_at_call 69; exact Calls.quiet_of_same (HM.out _)))
                      go_upto_region 33 with fail
                      simp only [SD.out]
                      go_wp2_with fail
                      go_quiet ((go_at_call 69; exact quiet_add_same (HM.out _)))
                      go_wp2
                      go_roundw
                      case rel => exact ⟨Lk + 1, by omega, by go_num, Lib.hid (below_next HBX.out (drewN_below _ _))⟩
                      case measure => simp [intOf]
                    · have hne : ((j : Int) == (Lk : Int)) = false := by rw [beq_eq_false_iff_ne]; omega
                      generalize mkx k j = x at *
                      have hbx := below_alloc wr (.cells #[.int .i64 0, .int .i64 x, .slice none 0 0, .slice none 0 0] 66)
                      have hrx := heap_alloc_new wr (.cells #[.int .i64 0, .int .i64 x, .slice none 0 0, .slice none 0 0] 66)
                      go_upto_region 27 with fail
                      obtain ⟨wx, hwx⟩ : ∃ wx, wr.alloc (.cells #[.int .i64 0, .int .i64 x, .slice none 0 0, .slice none 0 0] 66) = wx := ⟨_, rfl⟩
                      rw [hwx] at hbx hrx ⊢
                      clear hwx
                      replace hd := cell_below hbx hd
                      replace hco := cell_below hbx hco
                      replace hcm := cell_below hbx hcm
                      replace hc := cell_below hbx hc
                      replace cm0 := cell_below hbx cm0
                      replace cm1 := cell_below hbx cm1
                      replace cm2 := cell_below hbx cm2
                      replace cm3 := cell_below hbx cm3
                      have y0 := row_cell hrx 0 rfl
                      have z0 := row_free hrx 0
                      have y1 := row_cell hrx 1 rfl
                      have z1 := row_free hrx 1
                      have y2 := row_cell hrx 2 rfl
                      have z2 := row_free hrx 2
                      have y3 := row_cell hrx 3 rfl
                      have z3 := row_free hrx 3
                      simp only [List.getElem_toArray, List.getElem_cons_zero, List.getElem_cons_succ] at y0 y1 y2 y3
                      have HBX := Lib.hid (below_next HBj.out hbx)
                      clear hbx hrx
                      generalize wr.heap.size = bx at *
                      have SD : Hid (∀ n, (((((wx.drewN n).setCell ⟨bx, 0, none⟩ (.int .i64 0)).setCell ⟨bx, 1, none⟩ (.int .i64 x)).setCell ⟨bx, 2, none⟩ (.slice none 0 0)).setCell ⟨bx, 3, none⟩ (.slice none 0 0)) = wx.drewN n) := Lib.hid fun n => by rw [setCell_same (w := wx.drewN n) (b := bx) (o := 0) (by exact y0)]; rw [setCell_same (w := wx.drewN n) (b := bx) (o := 1) (by exact y1)]; rw [setCell_same (w := wx.drewN n) (b := bx) (o := 2) (by exact y2)]; rw [setCell_same (w := wx.drewN n) (b := bx) (o := 3) (by exact y3)]
                      have S0 : Hid (((((wx.setCell ⟨bx, 0, none⟩ (.int .i64 0)).setCell ⟨bx, 1, none⟩ (.int .i64 x)).setCell ⟨bx, 2, none⟩ (.slice none 0 0)).setCell ⟨bx, 3, none⟩ (.slice none 0 0)) = wx) := Lib.hid (by rw [setCell_same (w := wx) (b := bx) (o := 0) (by exact y0)]; rw [setCell_same (w := wx) (b := bx) (o := 1) (by exact y1)]; rw [setCell_same (w := wx) (b := bx) (o := 2) (by exact y2)]; rw [setCell_same (w := wx) (b := bx) (o := 3) (by exact y3)])
                      go_wp2_with fail
                      go_quiet ((go_at_call 69; exact Calls.quiet_of_same (HM.out _)))
                      go_upto_region 33 with fail
                      simp only [SD.out]
                      go_wp2_with fail
                      go_quiet ((go_at_call 69; exact quiet_add_same (HM.out _)))
                      go_wp2
                      go_roundw
                      case rel => exact ⟨j + 1, by omega, by go_num, Lib.hid (below_next HBX.out (drewN_below _ _))⟩
                      case measure => simp [intOf]; omega
                · obtain rfl : j = Lk + 70 := by omega
                  go_wp2
                  go_roundw
                  case rel => exact ⟨k + 1, by omega, by go_num, HBj⟩
                  case measure => simp [intOf]; omega
            · obtain rfl : k = vs.length := by omega
              go_wp2
              go_ret
              exact ⟨rfl, _, (HG.out.still (Still.below R HBk.out)).went⟩
end BagFrames
end Go.Proofs.YthlkckpadjjbdaaDoor
