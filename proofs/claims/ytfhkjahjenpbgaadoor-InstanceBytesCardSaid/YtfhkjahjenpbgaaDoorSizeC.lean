/- flagonref00.SizeCode. -/
import Derived.Test.YtfhkjahjenpbgaaDoorMLib
namespace Go.Proofs.YtfhkjahjenpbgaaDoor
open Go Go.RowKit

theorem Cd.lens {S : Nat → Prop} {w : World} {a : Option Addr} {n c : Nat} {l : List InsD} (h : CdS S w (.slice a n c) l) : n = l.length ∧ l.length ≤ 140737488355328 := by
  obtain ⟨a', c', e, _, h2, _⟩ := h
  simp only [Value.slice.injEq] at e
  exact ⟨e.2.1, h2⟩
set_option maxRecDepth 100000 in
set_option maxHeartbeats 1600000 in
theorem sizeCode (w : World) (v : Value) (l : List InsD) (hc : Cd w v l) :
    Calls Tryd.prog 10 #[v] w fun e w' => ∃ m : Nat, e = .returned (.int .i64 m) ∧ w' = w ∧ (m ≤ 2147483647 → l.length ≤ m ∧ ∀ j (h : j < l.length), l[j].l.length ≤ m) := by
  have HC := Lib.hid hc
  obtain ⟨va, vc, rfl, _⟩ := hc.len
  have hn := (Cd.lens hc).2
  clear hc
  go_enter Tryd.func10, Tryd.ntmps10
  go_wp2
  go_loopw [3, 4] (fun m i wr => ∃ k n : Nat, k ≤ l.length ∧ i = .int .i64 k ∧ m = .int .i64 n ∧ wr = w ∧ n ≤ 281474976710656 ∧ l.length ≤ n ∧ Hid (∀ j (h : j < l.length), j < k → l[j].l.length ≤ n)) (fun _ i _ => l.length - (intOf i).toNat)
  case atStart => exact ⟨0, l.length, by omega, rfl, rfl, rfl, by omega, by omega, Lib.hid fun j h h2 => absurd h2 (by omega)⟩
  case round =>
    obtain ⟨k, n, hk, rfl, rfl, rfl, hnb, hln, HJ⟩ := hrel
    by_cases hlt : k < l.length
    · by_cases hb : n ≤ 2147483647
      · obtain ⟨b, off, vl, rfl, -, -, x2, hrl⟩ := Cd.at_ HC.out hlt
        obtain ⟨al, cl, rfl, hll⟩ := hrl.len
        have HJ2 : Hid (∀ j (h : j < l.length), j < k + 1 → l[j].l.length ≤ n + l[k].l.length) := Lib.hid fun j h hj => by
          by_cases e : j = k
          · subst e; omega
          · have := HJ.out j h (by omega); omega
        clear hrl
        generalize l[k].l.length = ln at *
        go_wp2
        go_roundw
        case rel => exact ⟨k + 1, n + ln, by omega, by go_num, by go_num, by trivial, by omega, by omega, HJ2⟩
        case measure => simp [intOf]; omega
      · go_wp2
        go_ret
        exact ⟨n, rfl, rfl, fun h => absurd h hb⟩
    · go_wp2
      go_ret
      exact ⟨n, rfl, rfl, fun _ => ⟨hln, fun j h => HJ.out j h (by omega)⟩⟩
end Go.Proofs.YtfhkjahjenpbgaaDoor
