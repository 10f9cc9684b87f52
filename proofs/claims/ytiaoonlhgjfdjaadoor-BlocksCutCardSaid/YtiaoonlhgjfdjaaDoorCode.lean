/- Codes handed in: flagonref00.SizeCode, WideCode, SpareCode, EqIns, EqCode. -/
import Derived.Test.YtiaoonlhgjfdjaaDoorWide
import Derived.Test.YtiaoonlhgjfdjaaDoorEqs
import Derived.Test.YtiaoonlhgjfdjaaDoorInsD
namespace Go.Proofs.YtiaoonlhgjfdjaaDoor
open Go Go.RowKit

theorem Cd.lens {S : Nat → Prop} {w : World} {a : Option Addr} {n c : Nat} {l : List InsD} (h : CdS S w (.slice a n c) l) : n = l.length ∧ l.length ≤ 140737488355328 := by
  obtain ⟨a', c', e, _, h2, _⟩ := h
  simp only [Value.slice.injEq] at e
  exact ⟨e.2.1, h2⟩
set_option maxRecDepth 100000 in
set_option maxHeartbeats 1600000 in
theorem sizeCode (w : World) (v : Value) (l : List InsD) (hc : Cd w v l) :
    Calls Tryd.prog 7 #[v] w fun e w' => ∃ m : Nat, e = .returned (.int .i64 m) ∧ w' = w ∧ (m ≤ 2147483647 → l.length ≤ m ∧ ∀ j (h : j < l.length), l[j].l.length ≤ m) := by
  have HC := Lib.hid hc
  obtain ⟨va, vc, rfl, _⟩ := hc.len
  have hn := (Cd.lens hc).2
  clear hc
  go_enter Tryd.func7, Tryd.ntmps7
  go_wp2
  go_loopw [3, 4] (fun m i wr => ∃ k n : Nat, k ≤ l.length ∧ i = .int .i64 k ∧ m = .int .i64 n ∧ wr = w ∧ n ≤ 281474976710656 ∧ l.length ≤ n ∧ Hid (∀ j (h : j < l.length), j < k → l[j].l.length ≤ n)) (fun _ i _ => l.length - (intOf i).toNat)
  case atStart => exact ⟨0, l.length, by omega, rfl, rfl, rfl, by omega, by omega, Lib.hid fun j h h2 => absurd h2 (by omega)⟩
  case round =>
    obtain ⟨k, n, hk, rfl, rfl, rfl, hnb, hln, HJ⟩ := hrel
    by_cases hlt : k < l.length
    · by_cases hb : n ≤ 2147483647
      · obtain ⟨b, off, vl, rfl, -, -, x2, hrl⟩ := Cd.at_ HC.out hlt
        obtain ⟨al, cl, rfl, hll⟩ := hrl.len
        have HJ2 : Hid (∀ j (h : j < l.length), j < k + 1 → l[j].l.length ≤ n + l[k].l.length) := Lib.hid fun j h hj => by
          by_cases e : j = k
          · subst e; omega
          · have := HJ.out j h (by omega); omega
        clear hrl
        generalize l[k].l.length = ln at *
        go_wp2
        go_roundw
        case rel => exact ⟨k + 1, n + ln, by omega, by go_num, by go_num, by trivial, by omega, by omega, HJ2⟩
        case measure => simp [intOf]; omega
      · go_wp2
        go_ret
        exact ⟨n, rfl, rfl, fun h => absurd h hb⟩
    · go_wp2
      go_ret
      exact ⟨n, rfl, rfl, fun _ => ⟨hln, fun j h => HJ.out j h (by omega)⟩⟩

set_option maxRecDepth 100000 in
set_option maxHeartbeats 1600000 in
/-- 'flagonref00.EqIns' at two that read alike. -/
theorem eqInsC (w : World) (S1 S2) (x : InsD) (v1 v2 : Value) (h1 : RdI .i64 S1 w v1 x.l) (h2 : RdI .i64 S2 w v2 x.l) :
    Calls Tryd.prog 59 #[.agg #[.int .u8 x.op, .int .i64 x.a, v1], .agg #[.int .u8 x.op, .int .i64 x.a, v2]] w fun e w' => e = .returned (.bool true) ∧ Below w.heap.size w w' := by
  obtain ⟨op, a, l⟩ := x
  simp only at *
  obtain ⟨a1, c1, rfl, _⟩ := h1.lenc
  obtain ⟨a2, c2, rfl, _⟩ := h2.lenc
  have hb := below_alloc2 w (.cells #[.int .u8 op, .int .i64 a, .slice a1 l.length c1] 74) (.cells #[.int .u8 op, .int .i64 a, .slice a2 l.length c2] 74)
  obtain ⟨k1, k2⟩ := boxes_cell (Below.refl ((w.alloc (.cells #[.int .u8 op, .int .i64 a, .slice a1 l.length c1] 74)).alloc (.cells #[.int .u8 op, .int .i64 a, .slice a2 l.length c2] 74)).heap.size _)
  have H1 := Lib.hid (h1.any.bel hb); have H2 := Lib.hid (h2.any.bel hb); have HB := Lib.hid hb
  have x0 := k1 0 _ rfl; have x1 := k1 1 _ rfl; have x2 := k1 2 _ rfl
  have y0 := k2 0 _ rfl; have y1 := k2 1 _ rfl; have y2 := k2 2 _ rfl
  clear h1 h2 hb k1 k2
  go_enter Tryd.func59, Tryd.ntmps59
  go_wp2_with fail
  refine (eqInts _ _ _ _ _ l l H1.out H2.out).mono ?_
  rintro e w1 ⟨rfl, n, rfl⟩
  rw [decide_eq_true (rfl : l = l)]
  go_wp2
  go_ret
  exact ⟨rfl, below_next HB.out (drewN_below _ _)⟩
set_option maxRecDepth 100000 in
set_option maxHeartbeats 1600000 in
/-- 'flagonref00.EqCode' at two that read alike. -/
theorem eqCode (w : World) (v1 v2 : Value) (l : List InsD) (h1 : Cd w v1 l) (h2 : Cd w v2 l) :
    Calls Tryd.prog 20 #[v1, v2] w fun e w' => e = .returned (.bool true) ∧ Below w.heap.size w w' := by
  have H1 := Lib.hid h1; have H2 := Lib.hid h2
  obtain ⟨a1, c1, rfl, _⟩ := h1.len
  obtain ⟨a2, c2, rfl, _⟩ := h2.len
  clear h1 h2
  go_enter Tryd.func20, Tryd.ntmps20
  go_wp2
  go_loopw [5] (fun i wr => ∃ k : Nat, k ≤ l.length ∧ i = .int .i64 k ∧ Hid (Below w.heap.size w wr)) (fun i _ => l.length - (intOf i).toNat)
  case atStart => exact ⟨0, by omega, rfl, Lib.hid (Below.refl _ _)⟩
  case round =>
    obtain ⟨k, hk, rfl, HB⟩ := hrel
    by_cases hlt : k < l.length
    · obtain ⟨b1, o1, u1, rfl, x0, x1, x2, r1⟩ := Cd.at_ (Cd.bel H1.out HB.out) hlt
      obtain ⟨b2, o2, u2, rfl, y0, y1, y2, r2⟩ := Cd.at_ (Cd.bel H2.out HB.out) hlt
      have hd := (drewN_below wr 1)
      have R1 := Lib.hid r1; have R2 := Lib.hid r2
      clear r1 r2 hd
      go_wp2
      go_still_tail 8, (by kernel_rfl)
      go_wp2_with (go_at_call 59; refine (eqInsC _ _ _ l[k] _ _ (R1.out.keeps ((Keeps.refl _ _).drew)) (R2.out.keeps ((Keeps.refl _ _).drew))).mono ?_; rintro e w' ⟨rfl, hbel'⟩)
      go_roundw
      case rel => exact ⟨k + 1, by omega, by go_num, Lib.hid (below_step HB.out.drew (Nat.le_refl _) hbel')⟩
      case measure => simp [intOf]; omega
    · go_wp2
      go_ret
      exact ⟨rfl, HB.out⟩
end Go.Proofs.YtiaoonlhgjfdjaaDoor
