/- flagonref00's Bag: its lists of the kind Bools lie apart. -/
import Derived.Test.YtiaoonlhgjfdjaaDoorBagP
import Derived.Test.YtiaoonlhgjfdjaaDoorWide
import Derived.StillTailTactics
namespace Go.Proofs.YtiaoonlhgjfdjaaDoor
open Go Go.RowKit
namespace BagBools
def mkv (k j : Nat) : Value := .bool (((k : Int) + (j : Int)) % 2 == 0)
def kd : Kd := ⟨4, 35, 1, 4, fun k j => [mkv k j]⟩
theorem kdok : kd.Ok := ⟨by decide, fun _ _ => rfl⟩
theorem infoE : (Tryd.prog.info? 4).map (fun i => (i.zero, i.size, i.bytes)) = some (some (.bool false), 1, 1) := by kernel_rfl
theorem infoL : (Tryd.prog.info? 35).map (fun i => (i.zero, i.size, i.bytes)) = some (some (.slice none 0 0), 1, 24) := by kernel_rfl
theorem one_cell (k j : Nat) : (mkv k j).oneCell' = true := rfl
theorem at0 {S : Nat → Prop} {w : World} {a : Option Addr} {n c k m j : Nat} (h : P.Rd0 S w (.slice a n c) m (P.marks kd k m)) (hj : j < m) : ∃ b, a = some ⟨b, 0, none⟩ ∧ w.cell? ⟨b, j, none⟩ = some (mkv k j) := by
  obtain ⟨b, hb, h1⟩ := h.at kdok hj
  have := h1 0 (mkv k j) rfl
  exact ⟨b, hb, by simpa [kd] using this⟩
theorem in1set {B gb n i : Nat} {R : Nat → Nat} {w0 w : World} {hv v : Value} {vs : List Value} {L : Nat → Nat} (h : P.In1 kd B R w0 gb hv vs L w n i v) (hi : i < L n) :
    ∃ g cap, v = .slice (some ⟨g, 0, none⟩) (L n) cap ∧ (∃ u, w.cell? ⟨g, i, none⟩ = some u) ∧ w.frozen? ⟨g, i, none⟩ = false ∧ P.In1 kd B R w0 gb hv vs L (w.setCell ⟨g, i, none⟩ (mkv n i)) n (i + 1) v := by
  obtain ⟨g, cap, e, h1, h2⟩ := h.set kdok hi
  have := h1 0 (by decide)
  simp only [kd, Nat.mul_one, Nat.add_zero, setAll] at this h2
  exact ⟨g, cap, e, this.1, this.2, h2⟩
theorem appd {B gb n i c : Nat} {R0 R : Nat → Nat} {w0 w w' : World} {hv v l l' o m : Value} {vs os ms : List Value} {L : Nat → Nat} (h : P.In2 kd B R0 w0 gb hv vs L R w n v i c l o m os ms) (ho : w'.ownsRow B 4 1 l' (i + 1) (P.marks kd n i ++ [mkv n i])) (hk : Kept w w' l.ownBlock (i * 1))
    (hg : ∀ g, l'.ownBlock = some g → l.ownBlock = some g ∨ w.heap.size ≤ g) : P.In2 kd B R0 w0 gb hv vs L (ext R w.heap.size (n + 3)) w' n v (i + 1) c l' o m os ms :=
  h.app kdok ho hk hg
set_option maxRecDepth 100000 in
set_option maxHeartbeats 12800000 in
theorem apart (w : World) (B : Nat) (R0 : Nat → Nat) (gb : Nat) (hv : Value) (vs : List Value) (L : Nat → Nat) (h : P.G1 kd B R0 w gb hv vs L w 0) (hN : vs.length ≤ 300)
    (hB : B ≤ w.heap.size) (hb : ∀ k, L k ≤ 1073741824) :
    Calls Tryd.prog 46 #[.pointer (some ⟨gb, 0, none⟩)] w fun e w' => e = .returned (.bool true) ∧ ∃ R, Went R0 w R w' := by
  obtain ⟨i0, hi, hz0, hz1, hz2⟩ := info_parts infoE
  obtain ⟨i1, hj, hy0, hy1, hy2⟩ := info_parts infoL
  obtain ⟨ha, cap, rfl, hcap, _⟩ := h.fr.list
  have HG0 := Lib.hid h; clear h
  have HLb2 := Lib.hid hb; clear hb
  go_enter Tryd.func46, Tryd.ntmps46
  go_wp2
  go_loopw [3] (fun n wr => ∃ k : Nat, k ≤ vs.length ∧ n = .int .i64 k ∧ Hid (P.G1 kd B R0 w gb (.slice ha vs.length cap) vs L wr k)) (fun n _ => vs.length - (intOf n).toNat)
  case atStart => exact ⟨0, by omega, rfl, HG0⟩
  case round =>
    obtain ⟨k, hk, rfl, HG⟩ := hrel
    have hd : wr.cell? ⟨gb, 4, none⟩ = some (.slice ha vs.length cap) := HG.out.fr.head
    by_cases hlt : k < vs.length
    · obtain ⟨v, hv⟩ : ∃ v, vs[k]? = some v := ⟨vs[k], List.getElem?_eq_getElem hlt⟩
      have hlen := HLb2.out k
      have HI := Lib.hid (HG.out.start hv)
      obtain ⟨Lk, hLk⟩ : ∃ x, L k = x := ⟨_, rfl⟩
      have HLk := Lib.hid hLk
      rw [hLk] at hlen
      clear HG hLk
      go_wp2
      go_loopw [4] (fun i wr' => ∃ j : Nat, j ≤ Lk ∧ i = .int .i64 j ∧ Hid (P.In1 kd B R0 w gb (.slice ha vs.length cap) vs L wr' k j v)) (fun i _ => Lk - (intOf i).toNat)
      case atStart => exact ⟨0, by omega, rfl, HI⟩
      case round =>
        obtain ⟨j, hj, rfl, HJ⟩ := hrel
        have hd : wr.cell? ⟨gb, 4, none⟩ = some (.slice ha vs.length cap) := HJ.out.fr.head
        obtain ⟨b, cap', e1, _, hc⟩ := HJ.out.fr.at hv
        simp only [Value.slice.injEq] at e1
        obtain ⟨rfl, _, rfl⟩ := e1
        by_cases hjl : j < Lk
        · obtain ⟨g, cv, rfl, ⟨u, hu⟩, hf, hI2⟩ := in1set HJ.out (by rw [HLk.out]; exact hjl)
          rw [HLk.out] at *
          have HI2 := Lib.hid hI2; clear hI2
          clear hv
          go_wp2
          go_roundw
          case rel => exact ⟨j + 1, by omega, by go_num, HI2⟩
          case measure => simp [intOf]; omega
        · obtain rfl : j = Lk := by omega
          have HN : Hid (P.G1 kd B R0 w gb (.slice (some ⟨b, 0, none⟩) vs.length cap) vs L wr (k + 1)) := Lib.hid (by have h' := HJ.out; rw [← HLk.out] at h'; exact h'.next kdok)
          obtain ⟨av, cv, ev⟩ := HJ.out.slice
          rw [HLk.out] at ev
          subst ev
          go_wp2
          go_roundw
          case rel => exact ⟨k + 1, by omega, by go_num, HN⟩
          case measure => simp [intOf]; omega
    · obtain rfl : k = vs.length := by omega
      have H2 := Lib.hid HG.out.go
      clear HG hk hlt
      go_wp2
      go_loopw [5, 6, 7] (fun o m n wr => ∃ (k : Nat) (R : Nat → Nat) (os ms : List Value), k ≤ vs.length ∧ n = .int .i64 k ∧ Hid (P.G2 kd B R0 w gb (.slice ha vs.length cap) vs L R wr k o m os ms)) (fun _ _ n _ => vs.length - (intOf n).toNat)
      case atStart => exact ⟨0, _, _, _, by omega, rfl, H2⟩
      case round =>
        obtain ⟨k, R, os, ms, hk, rfl, HG⟩ := hrel
        have hd : wr.cell? ⟨gb, 4, none⟩ = some (.slice ha vs.length cap) := HG.out.fr.head
        by_cases hlt : k < vs.length
        · obtain ⟨v, hv⟩ : ∃ v, vs[k]? = some v := ⟨vs[k], List.getElem?_eq_getElem hlt⟩
          have HI := Lib.hid (HG.out.start kdok hv)
          obtain ⟨av, cv, ev, _⟩ := HI.out.mine.2.1
          subst ev
          obtain ⟨b, cap', e1, _, hc⟩ := HI.out.fr.at hv
          simp only [Value.slice.injEq] at e1
          obtain ⟨rfl, _, rfl⟩ := e1
          have hlb := HLb2.out k
          obtain ⟨Lk, hLk⟩ : ∃ x, x = L k := ⟨_, rfl⟩
          rw [← hLk] at hc hlb hv
          have HLk := Lib.hid hLk
          have HI2 : Hid (P.In2 kd B R0 w gb (.slice (some ⟨b, 0, none⟩) vs.length cap) vs L R wr k (.slice av Lk cv) Lk 0 (.slice av Lk cv) u5 u6 os ms) := by rw [hLk]; exact HI
          clear hLk HI H2
          clear HG
          go_wp2
          go_loopw [5, 8, 9] (fun o l i wr => ∃ (j c : Nat) (R : Nat → Nat) (os : List Value), Lk ≤ j ∧ j ≤ Lk + 70 ∧ i = .int .i64 j ∧ (j = Lk → c = 0) ∧ (j ≠ Lk → c = 1) ∧ Hid (P.In2 kd B R0 w gb (.slice (some ⟨b, 0, none⟩) vs.length cap) vs L R wr k (.slice av Lk cv) j c l o u6 os ms)) (fun _ _ i _ => Lk + 70 - (intOf i).toNat)
          case atStart => exact ⟨Lk, 0, _, _, by omega, by omega, by rw [HLk.out], fun _ => rfl, fun h => absurd rfl h, HI2⟩
          case round =>
            obtain ⟨j, c, R', os', hj1, hj2, rfl, hc0, hc1, HJ⟩ := hrel
            have hd : wr.cell? ⟨gb, 4, none⟩ = some (.slice (some ⟨b, 0, none⟩) vs.length cap) := HJ.out.fr.head
            obtain ⟨b', cap', e1, _, hc⟩ := HJ.out.fr.at hv
            simp only [Value.slice.injEq, Option.some.injEq, Addr.mk.injEq, and_true, true_and] at e1
            obtain ⟨rfl, rfl⟩ := e1
            have hsz : B ≤ wr.heap.size := Nat.le_trans hB HJ.out.went.keeps.size
            by_cases hjl : j < Lk + 70
            · obtain ⟨x, hx⟩ : ∃ x, mkv k j = x := ⟨_, rfl⟩
              have hx1 : x.oneCell' = true := by rw [← hx]; exact one_cell k j
              have HX := Lib.hid hx
              have HA := Lib.hid (HJ.out.still (Still.alloc R' wr (.cells #[x] 4) 0))
              have hown : Own2 (wr.alloc (.cells #[x] 4)) B 4 1 u8 j (P.marks kd k j) := HA.out.cur.own
              obtain ⟨al, cl, rfl, _, _⟩ := hown.slice
              by_cases hje : j = Lk
              · obtain rfl := hc0 hje
                obtain rfl : Lk = j := hje.symm
                clear hc0 hc1 hje
                have e2 : x = .bool (((k : Int) + Lk) % 2 == 0) := hx.symm
                clear hx
                obtain ⟨y, hy⟩ : ∃ y, (((k : Int) + Lk) % 2 == 0) = y := ⟨_, rfl⟩
                rw [hy] at e2
                subst e2
                go_wp2_with (at_builtin; refine wpList_append_two _ rfl _ _ 35 rfl B 4 i0 (.bool false) 1 1 Tryd.underlying35 hi hz0 hz1 hz2 rfl (by decide) (.slice al Lk cl) Lk (P.marks kd k Lk) rfl hown ⟨wr.heap.size, 0, none⟩ 1 1 (by omega) [.bool y] rfl rfl (cell_one_new _ _ _) (by simpa using hx1) (by unfold maxLen; omega) (by omega) (by rw [World.size_alloc]; omega) ?_)
                intro l' w3 ho hkk hg
                clear hy
                have HB := Lib.hid (appd HA.out (by rw [HX.out]; exact ho) (by simpa using hkk) (by simp only [World.size_alloc]; exact hg))
                obtain ⟨al', cl', rfl, _⟩ := own_slice ho
                have hd3 : w3.cell? ⟨gb, 4, none⟩ = some (.slice (some ⟨b, 0, none⟩) vs.length cap) := HB.out.fr.head
                obtain ⟨b', cap', e3, _, hc3⟩ := HB.out.fr.at hv
                simp only [Value.slice.injEq, Option.some.injEq, Addr.mk.injEq, and_true, true_and] at e3
                obtain ⟨rfl, rfl⟩ := e3
                generalize ext (ext R' wr.heap.size 0) (wr.alloc (.cells #[.bool y] 4)).heap.size (k + 3) = R3 at *
                have HC := Lib.hid (HB.out.still (Still.alloc R3 w3 (.cells #[.slice al' (Lk + 1) cl'] 35) 0))
                have hown3 : (w3.alloc (.cells #[.slice al' (Lk + 1) cl'] 35)).ownsRow B 35 1 u5 os'.length os' := HC.out.one.own
                have hlos := HC.out.los
                rw [Nat.add_zero] at hlos
                rw [hlos] at hown3
                have hsz3 : B ≤ w3.heap.size := Nat.le_trans hB HB.out.went.keeps.size
                clear ho hkk hg hown hd hc
                go_wp2_with (at_builtin; refine wpList_append_kept _ rfl _ _ 42 rfl B 35 i1 (.slice none 0 0) 1 24 Tryd.underlying42 hj hy0 hy1 hy2 rfl (by decide) u5 k os' rfl hown3 ⟨w3.heap.size, 0, none⟩ 1 1 [.slice al' (Lk + 1) cl'] rfl rfl (cell_one_new _ _ _) (by simp [Value.oneCell']) (by unfold maxLen; omega) (by omega) (by rw [World.size_alloc]; omega) ?_)
                intro o' w4 ho4 hkk4 hg4
                have HD := Lib.hid (HC.out.tell kdok (by rw [HLk.out]) ho4 (by simpa using hkk4) (by simp only [World.size_alloc]; exact hg4))
                clear ho4 hkk4 hg4
                go_wp2
                go_roundw
                case rel => exact ⟨Lk + 1, 1, _, _, by omega, by omega, by go_num, fun h => by omega, fun _ => rfl, HD⟩
                case measure => simp [intOf]
              · obtain rfl := hc1 hje
                clear hc0 hc1
                have e2 : x = .bool (((k : Int) + j) % 2 == 0) := hx.symm
                clear hx
                obtain ⟨y, hy⟩ : ∃ y, (((k : Int) + j) % 2 == 0) = y := ⟨_, rfl⟩
                rw [hy] at e2
                subst e2
                go_wp2_with (at_builtin; refine wpList_append_two _ rfl _ _ 35 rfl B 4 i0 (.bool false) 1 1 Tryd.underlying35 hi hz0 hz1 hz2 rfl (by decide) (.slice al j cl) j (P.marks kd k j) rfl hown ⟨wr.heap.size, 0, none⟩ 1 1 (by omega) [.bool y] rfl rfl (cell_one_new _ _ _) (by simpa using hx1) (by unfold maxLen; omega) (by omega) (by rw [World.size_alloc]; omega) ?_)
                intro l' w3 ho hkk hg
                clear hy
                have HB := Lib.hid (appd HA.out (by rw [HX.out]; exact ho) (by simpa using hkk) (by simp only [World.size_alloc]; exact hg))
                obtain ⟨al', cl', rfl, _⟩ := own_slice ho
                have hd3 : w3.cell? ⟨gb, 4, none⟩ = some (.slice (some ⟨b, 0, none⟩) vs.length cap) := HB.out.fr.head
                obtain ⟨b', cap', e3, _, hc3⟩ := HB.out.fr.at hv
                simp only [Value.slice.injEq, Option.some.injEq, Addr.mk.injEq, and_true, true_and] at e3
                obtain ⟨rfl, rfl⟩ := e3
                clear ho hkk hg hown hd hc
                go_wp2
                go_roundw
                case rel => exact ⟨j + 1, 1, _, _, by omega, by omega, by go_num, fun h => by omega, fun _ => rfl, HB⟩
                case measure => simp [intOf]; omega
            · obtain rfl : j = Lk + 70 := by omega
              obtain rfl := hc1 (by omega)
              have hown := HJ.out.cur.own
              obtain ⟨al, cl, rfl, _, _⟩ := hown.slice
              have HC := Lib.hid (HJ.out.still (Still.alloc R' wr (.cells #[.slice al (Lk + 70) cl] 35) 0))
              have hownm : (wr.alloc (.cells #[.slice al (Lk + 70) cl] 35)).ownsRow B 35 1 u6 ms.length ms := HC.out.more.own
              have hlms := HC.out.lms
              rw [hlms] at hownm
              clear hown hc0 hc1
              go_wp2_with (at_builtin; refine wpList_append_kept _ rfl _ _ 42 rfl B 35 i1 (.slice none 0 0) 1 24 Tryd.underlying42 hj hy0 hy1 hy2 rfl (by decide) u6 k ms rfl hownm ⟨wr.heap.size, 0, none⟩ 1 1 [.slice al (Lk + 70) cl] rfl rfl (cell_one_new _ _ _) (by simp [Value.oneCell']) (by unfold maxLen; omega) (by omega) (by rw [World.size_alloc]; omega) ?_)
              intro m' w4 ho4 hkk4 hg4
              have HD := Lib.hid (HC.out.next kdok (by rw [HLk.out]) ho4 (by simpa using hkk4) (by simp only [World.size_alloc]; exact hg4))
              clear ho4 hkk4 hg4
              go_wp2
              go_roundw
              case rel => exact ⟨k + 1, _, _, _, by omega, by go_num, HD⟩
              case measure => simp [intOf]; omega
        · obtain rfl : k = vs.length := by omega
          clear H2
          go_wp2
          have hl5 := own_slice HG.out.one.own
          rw [HG.out.los] at hl5
          have hl6 := own_slice HG.out.more.own
          rw [HG.out.lms] at hl6
          obtain ⟨ao, co, rfl, _⟩ := hl5
          obtain ⟨am, cm, rfl, _⟩ := hl6
          go_wp2
          go_loopw [10] (fun n wr' => ∃ k : Nat, k ≤ vs.length ∧ n = .int .i64 k ∧ Hid (P.G2 kd B R0 w gb (.slice ha vs.length cap) vs L R wr' vs.length (.slice ao vs.length co) (.slice am vs.length cm) os ms)) (fun n _ => vs.length - (intOf n).toNat)
          case atStart => exact ⟨0, by omega, rfl, HG⟩
          case round =>
            obtain ⟨k, hk, rfl, HG⟩ := hrel
            by_cases hlt : k < vs.length
            · have hlb := HLb2.out k
              obtain ⟨v, hv⟩ : ∃ v, vs[k]? = some v := ⟨vs[k], List.getElem?_eq_getElem hlt⟩
              obtain ⟨vo, vm, hvo, hvm, hdn⟩ := HG.out.done k v hlt hv
              obtain ⟨Lk, hLk⟩ : ∃ x, x = L k := ⟨_, rfl⟩
              rw [← hLk] at hlb hdn
              have HLk := Lib.hid hLk; clear hLk
              obtain ⟨av, cv, rfl⟩ := hdn.mine.shape
              obtain ⟨avo, cvo, rfl⟩ := hdn.fst.shape
              obtain ⟨avm, cvm, rfl⟩ := hdn.all.shape
              obtain ⟨go_, rfl, hco⟩ := HG.out.one.at hvo
              obtain ⟨gm, rfl, hcm⟩ := HG.out.more.at hvm
              obtain ⟨b, cap', e1, _, hc⟩ := HG.out.fr.at hv
              simp only [Value.slice.injEq] at e1
              obtain ⟨rfl, _, rfl⟩ := e1
              have hd : wr.cell? ⟨gb, 4, none⟩ = some (.slice (some ⟨b, 0, none⟩) vs.length cap) := HG.out.fr.head
              have HD := Lib.hid hdn; clear hdn hvo hvm hv
              go_wp2
              go_loopw [11] (fun i wr' => ∃ j : Nat, j ≤ Lk + 70 ∧ i = .int .i64 j ∧ wr' = wr) (fun i _ => Lk + 70 - (intOf i).toNat)
              case atStart => exact ⟨0, by omega, rfl, rfl⟩
              case round =>
                obtain ⟨j, hj, rfl, rfl⟩ := hrel
                by_cases hjl : j < Lk + 70
                · obtain ⟨bm, rfl, cm2⟩ := at0 HD.out.all hjl
                  obtain ⟨x, hx⟩ : ∃ x, mkv k j = x := ⟨_, rfl⟩
                  rw [hx] at cm2
                  have hp : ∃ y, x = .bool y ∧ ((((k : Int) + j) % 2 = 0 ∧ y = true) ∨ (((k : Int) + j) % 2 = 1 ∧ y = false)) := by
                    refine ⟨_, hx.symm, ?_⟩
                    by_cases h : ((k : Int) + (j : Int)) % 2 = 0
                    · left; rw [h]; exact ⟨rfl, rfl⟩
                    · right; exact ⟨by omega, by rw [beq_eq_false_iff_ne]; exact h⟩
                  obtain ⟨y, rfl, hp⟩ := hp
                  by_cases h1 : j < Lk
                  · obtain ⟨bv, rfl, cv2⟩ := at0 HD.out.mine h1
                    rw [hx] at cv2
                    clear hx
                    have hne : ((j : Int) == (Lk : Int)) = false := by rw [beq_eq_false_iff_ne]; omega
                    rcases hp with ⟨hp, rfl⟩ | ⟨hp, rfl⟩
                    all_goals
                      go_wp2
                      go_roundw
                      case rel => exact ⟨j + 1, by omega, by go_num, by trivial⟩
                      case measure => simp [intOf]; omega
                  · have h1' : decide ((j : Int) < (Lk : Int)) = false := by rw [decide_eq_false_iff_not]; omega
                    by_cases h2 : j = Lk
                    · obtain rfl : Lk = j := h2.symm
                      obtain ⟨bo, rfl, co2⟩ := at0 HD.out.fst (Nat.lt_succ_self _)
                      rw [hx] at co2
                      clear hx
                      rcases hp with ⟨hp, rfl⟩ | ⟨hp, rfl⟩
                      all_goals
                        go_wp2
                        go_roundw
                        case rel => exact ⟨Lk + 1, by omega, by go_num, by trivial⟩
                        case measure => simp [intOf]
                    · have hne : ((j : Int) == (Lk : Int)) = false := by rw [beq_eq_false_iff_ne]; omega
                      clear hx
                      rcases hp with ⟨hp, rfl⟩ | ⟨hp, rfl⟩
                      all_goals
                        go_wp2
                        go_roundw
                        case rel => exact ⟨j + 1, by omega, by go_num, by trivial⟩
                        case measure => simp [intOf]; omega
                · obtain rfl : j = Lk + 70 := by omega
                  go_wp2
                  go_roundw
                  case rel => exact ⟨k + 1, by omega, by go_num, HG⟩
                  case measure => simp [intOf]; omega
            · obtain rfl : k = vs.length := by omega
              go_wp2
              go_ret
              exact ⟨rfl, _, HG.out.went⟩
end BagBools
end Go.Proofs.YtiaoonlhgjfdjaaDoor
