/- flagonref00.SpareFrames. -/
import Derived.Test.YthlkckpadjjbdaaDoorWideFr3
namespace Go.Proofs.YthlkckpadjjbdaaDoor
open Go Go.RowKit

theorem WideFrs.any {S : Nat → Prop} {w : World} {g : Nat} {l : List FrameD} (h : WideFrs S w g l) : WideFrs (fun _ => True) w g l := by
  obtain ⟨c, h1, h2⟩ := h
  refine ⟨c, h1, fun j hj => ?_⟩
  obtain ⟨x, y, z, u, q0, q1, q2, q3, hv⟩ := h2 j hj
  exact ⟨x, y, z, u, q0, q1, q2, q3, hv.mono fun _ _ => trivial⟩
set_option maxRecDepth 100000 in
set_option maxHeartbeats 3200000 in
theorem spareFrames (w : World) (S : Nat → Prop) (g : Nat) (l : List FrameD) (h : WideFrs S w g l) (hl : l.length ≤ 1048576) (hll : ∀ j (h : j < l.length), l[j].loc.length ≤ 1048576 ∧ l[j].stk.length ≤ 1048576) :
    Calls Tryd.prog 52 #[.slice (some ⟨g, 0, none⟩) l.length (l.length + 64)] w fun e w' => e = .returned (.bool true) ∧ Below w.heap.size w w' := by
  have H : Hid (WideFrs (fun _ => True) w g l) := Lib.hid h.any
  have HLL := Lib.hid hll
  clear h hll
  have e1 : wrap64 ((l.length : Int) + 64) = ((l.length + 64 : Nat) : Int) := by unfold wrap64; omega
  have e2 : (l.length : Int) + 64 = ((l.length + 64 : Nat) : Int) := by omega
  obtain ⟨N, hN⟩ : ∃ N, N = l.length + 64 := ⟨_, rfl⟩
  rw [← hN] at e1 e2 ⊢
  have hle : l.length ≤ N := by omega
  have HN := Lib.hid hN; clear hN
  have HK : Hid (∀ wr, Below w.heap.size w wr → WideFrs (fun _ => True) wr g l) := Lib.hid fun wr hb => H.out.keeps (Keeps.all (fun _ => True) hb) trivial fun _ h => h
  go_enter Tryd.func52, Tryd.ntmps52
  go_wp2
  go_loopw [4] (fun i wr => ∃ k : Nat, l.length ≤ k ∧ k ≤ N ∧ i = .int .i64 k ∧ Hid (Below w.heap.size w wr)) (fun i _ => N - (intOf i).toNat)
  case atStart => exact ⟨l.length, by omega, hle, rfl, Lib.hid (Below.refl _ _)⟩
  case round =>
    obtain ⟨k, hk1, hk, rfl, HB⟩ := hrel
    by_cases hlt : k < N
    · obtain ⟨c, r1, r2⟩ := HK.out wr HB.out
      obtain ⟨x, y, z, u, q0, q1, q2, q3, hv⟩ := r2 k (by have := HN.out; omega)
      obtain ⟨rfl, rfl, rfl, rfl⟩ := hv.2 hk1
      have x0 := row_cell r1 (k * 4) q0; have x1 := row_cell r1 (k * 4 + 1) q1; have x2 := row_cell r1 (k * 4 + 2) q2; have x3 := row_cell r1 (k * 4 + 3) q3
      clear r1 r2 hv q0 q1 q2 q3
      have hbx := below_alloc wr (.cells #[.int .i64 0, .int .i64 ((9437184 + k + 1 : Nat) : Int), .slice none 0 0, .slice none 0 0] 66)
      have hrx := heap_alloc_new wr (.cells #[.int .i64 0, .int .i64 ((9437184 + k + 1 : Nat) : Int), .slice none 0 0, .slice none 0 0] 66)
      have HBX := Lib.hid (below_next HB.out hbx)
      have y0 := row_cell hrx 0 rfl; have y1 := row_cell hrx 1 rfl; have y2 := row_cell hrx 2 rfl; have y3 := row_cell hrx 3 rfl
      simp only [List.getElem_toArray, List.getElem_cons_zero, List.getElem_cons_succ] at y0 y1 y2 y3
      clear hbx hrx
      have hnum := fun wx => ref_num wx 9 k (by omega) (by have := HN.out; omega)
      rw [show 1048576 * 9 + k + 1 = 9437184 + k + 1 by omega] at hnum
      have HM := Lib.hid hnum; clear hnum
      have hb : k ≤ 1073741888 := by have := HN.out; omega
      generalize 9437184 + k + 1 = x at *
      go_upto_region 6 with fail
      generalize wr.alloc (.cells #[.int .i64 0, .int .i64 (x : Int), .slice none 0 0, .slice none 0 0] 66) = wx at *
      have hd : decide ((x : Int) = x) = true := by simp
      go_quiet ((go_at_call 69; exact Calls.quiet_of_same (HM.out _)))
      go_wp2
      go_roundw
      case rel => exact ⟨k + 1, by omega, by omega, by go_num, Lib.hid (below_next HBX.out (drewN_below _ _))⟩
      case measure => simp [intOf]; omega
    · obtain rfl : k = N := by omega
      have HB0 := HB
      go_wp2
      go_loopw [6] (fun i wx => ∃ k : Nat, k ≤ l.length ∧ i = .int .i64 k ∧ Hid (Below w.heap.size w wx)) (fun i _ => l.length - (intOf i).toNat)
      case atStart => exact ⟨0, by omega, rfl, HB0⟩
      case round =>
        obtain ⟨k2, hk2, rfl, HB2⟩ := hrel
        by_cases hlt2 : k2 < l.length
        · obtain ⟨c, r1, r2⟩ := HK.out _ HB2.out
          obtain ⟨x, y, z, u, q0, q1, q2, q3, hv⟩ := r2 k2 (by omega)
          obtain ⟨rfl, rfl, ga, gb, _, _, rfl, rfl, hwa, hwb⟩ := hv.1 hlt2
          have x0 := row_cell r1 (k2 * 4) q0; have x1 := row_cell r1 (k2 * 4 + 1) q1; have x2 := row_cell r1 (k2 * 4 + 2) q2; have x3 := row_cell r1 (k2 * 4 + 3) q3
          have HS := Lib.hid (spareFrame _ ga gb l[k2].fn l[k2].pc l[k2].loc l[k2].stk hwa hwb (by have := HLL.out k2 hlt2; omega) (by have := HLL.out k2 hlt2; omega))
          clear r1 r2 q0 q1 q2 q3 hv hwa hwb
          go_wp2_with fail
          refine HS.out.mono ?_
          rintro e w' ⟨rfl, hb'⟩
          have HB3 := Lib.hid (below_next HB2.out hb')
          clear hb'
          go_wp2
          go_roundw
          case rel => exact ⟨k2 + 1, by omega, by go_num, HB3⟩
          case measure => simp [intOf]; omega
        · go_wp2
          go_ret
          exact ⟨rfl, HB2.out⟩
end Go.Proofs.YthlkckpadjjbdaaDoor
