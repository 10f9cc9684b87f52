/- flagonref00.SpareCode. -/
import Derived.Test.YtiaoonlhgjfdjaaDoorCode2
namespace Go.Proofs.YtiaoonlhgjfdjaaDoor
open Go Go.RowKit

set_option maxRecDepth 100000 in
set_option maxHeartbeats 3200000 in
theorem spareCode (w : World) (S : Nat → Prop) (g : Nat) (l : List InsD) (h : WideCd S w g l) (hl : l.length ≤ 1048576) (hll : ∀ j (h : j < l.length), l[j].l.length ≤ 1048576) :
    Calls Tryd.prog 21 #[.slice (some ⟨g, 0, none⟩) l.length (l.length + 64)] w fun e w' => e = .returned (.bool true) ∧ Below w.heap.size w w' := by
  have H : Hid (WideCd (· < w.heap.size) w g l) := Lib.hid (by
    obtain ⟨c, h1, h2, h3⟩ := h
    refine ⟨c, h1, h2, fun j hj => ⟨fun hj' => ?_, (h3 j hj).2⟩⟩
    obtain ⟨gk, _, a, b, d, e⟩ := (h3 j hj).1 hj'
    exact ⟨gk, e.lt, a, b, d, e⟩)
  have HLL := Lib.hid hll
  have HG := Lib.hid h.lt
  clear h hll
  have e1 : wrap64 ((l.length : Int) + 64) = ((l.length + 64 : Nat) : Int) := by unfold wrap64; omega
  have e2 : (l.length : Int) + 64 = ((l.length + 64 : Nat) : Int) := by omega
  obtain ⟨N, hN⟩ : ∃ N, N = l.length + 64 := ⟨_, rfl⟩
  rw [← hN] at e1 e2 ⊢
  have hle : l.length ≤ N := by omega
  have HN := Lib.hid hN; clear hN
  have HK : Hid (∀ wr, Below w.heap.size w wr → WideCd (· < w.heap.size) wr g l) := Lib.hid fun wr hb => H.out.keeps (Keeps.all (· < w.heap.size) hb) HG.out fun _ h => h
  go_enter Tryd.func21, Tryd.ntmps21
  go_wp2
  go_loopw [4] (fun i wr => ∃ k : Nat, l.length ≤ k ∧ k ≤ N ∧ i = .int .i64 k ∧ Hid (Below w.heap.size w wr)) (fun i _ => N - (intOf i).toNat)
  case atStart => exact ⟨l.length, by omega, hle, rfl, Lib.hid (Below.refl _ _)⟩
  case round =>
    obtain ⟨k, hk1, hk, rfl, HB⟩ := hrel
    by_cases hlt : k < N
    · obtain ⟨c, r1, r2, r3⟩ := HK.out wr HB.out
      obtain ⟨q0, q1, q2⟩ := (r3 k (by have := HN.out; omega)).2 hk1
      have x0 := row_cell r1 (k * 3) q0; have x1 := row_cell r1 (k * 3 + 1) q1; have x2 := row_cell r1 (k * 3 + 2) q2
      clear r1 r2 r3 q0 q1 q2
      have hbx := below_alloc wr (.cells #[.int .u8 0, .int .i64 ((9437184 + k + 1 : Nat) : Int), .slice none 0 0] 74)
      have hrx := heap_alloc_new wr (.cells #[.int .u8 0, .int .i64 ((9437184 + k + 1 : Nat) : Int), .slice none 0 0] 74)
      have HBX := Lib.hid (below_next HB.out hbx)
      have y0 := row_cell hrx 0 rfl; have y1 := row_cell hrx 1 rfl; have y2 := row_cell hrx 2 rfl
      simp only [List.getElem_toArray, List.getElem_cons_zero, List.getElem_cons_succ] at y0 y1 y2
      clear hbx hrx
      have hnum := fun wx => ref_num wx 9 k (by omega) (by have := HN.out; omega)
      rw [show 1048576 * 9 + k + 1 = 9437184 + k + 1 by omega] at hnum
      have HM := Lib.hid hnum; clear hnum
      have hb : k ≤ 1073741888 := by have := HN.out; omega
      generalize 9437184 + k + 1 = x at *
      go_upto_region 6 with fail
      generalize wr.alloc (.cells #[.int .u8 0, .int .i64 (x : Int), .slice none 0 0] 74) = wx at *
      have hd : decide ((x : Int) = x) = true := by simp
      go_quiet ((go_at_call 34; exact Calls.quiet_of_same (HM.out _)))
      go_wp2
      go_roundw
      case rel => exact ⟨k + 1, by omega, by omega, by go_num, Lib.hid (below_next HBX.out (drewN_below _ _))⟩
      case measure => simp [intOf]; omega
    · obtain rfl : k = N := by omega
      have HB0 := HB
      go_wp2
      go_loopw [6] (fun i wx => ∃ k : Nat, k ≤ l.length ∧ i = .int .i64 k ∧ Hid (Below w.heap.size w wx)) (fun i _ => l.length - (intOf i).toNat)
      case atStart => exact ⟨0, by omega, rfl, HB0⟩
      case round =>
        obtain ⟨k2, hk2, rfl, HB2⟩ := hrel
        by_cases hlt2 : k2 < l.length
        · obtain ⟨c, r1, r2, r3⟩ := HK.out _ HB2.out
          obtain ⟨gk, hs, q0, q1, q2, hw⟩ := (r3 k2 (by omega)).1 hlt2
          have x0 := row_cell r1 (k2 * 3) q0; have x1 := row_cell r1 (k2 * 3 + 1) q1; have x2 := row_cell r1 (k2 * 3 + 2) q2
          have HS := Lib.hid (spareIns _ gk l[k2].op l[k2].a l[k2].l hw (by have := HLL.out k2 hlt2; omega))
          clear r1 r2 r3 q0 q1 q2 hw
          go_wp2_with fail
          refine HS.out.mono ?_
          rintro e w' ⟨rfl, hb'⟩
          have HB3 := Lib.hid (below_next HB2.out hb')
          clear hb'
          go_wp2
          go_roundw
          case rel => exact ⟨k2 + 1, by omega, by go_num, HB3⟩
          case measure => simp [intOf]; omega
        · go_wp2
          go_ret
          exact ⟨rfl, HB2.out⟩
end Go.Proofs.YtiaoonlhgjfdjaaDoor
