/- flagonref01.Uvar. -/
import Derived.Test.YthlkckpadjjbdaaDoorMUvar
import Derived.Test.YthlkckpadjjbdaaDoorLib2
namespace Go.Proofs.YthlkckpadjjbdaaDoor
open Go Go.RowKit

set_option maxRecDepth 100000 in
set_option maxHeartbeats 800000 in
theorem ref_Uvar (w : World) (n : Nat) (hn : n ≤ 18446744073709551615) :
    Calls Tryd.prog 72 #[.int .u64 n] w fun e w' => ∃ v', e = .returned v' ∧ w'.ownsRow w.heap.size 5 1 v' (uv n).length ((uv n).map (Value.int .u8)) ∧ Below w.heap.size w w' := by
  obtain ⟨i0, hi, hz0, hz1, hz2⟩ := info_parts Tryd.infoU8
  have hl10 := uv_len10 hn
  go_enter Tryd.func72, Tryd.ntmps72
  go_wp2
  go_loopw [0, 3] (fun v l wr => ∃ (m : Nat) (xs : List Int), v = .int .u64 m ∧ m ≤ 18446744073709551615 ∧ Hid (xs ++ uv m = uv n) ∧ wr.ownsRow w.heap.size 5 1 l xs.length (xs.map (Value.int .u8)) ∧ Below w.heap.size w wr)
    (fun v _ _ => (intOf v).toNat)
  case atStart => exact ⟨n, [], rfl, hn, rfl, World.ownsRow_nil _ _ _ _, Below.refl _ _⟩
  case round =>
    obtain ⟨m, xs, rfl, hm, HX, hown, hbel⟩ := hrel
    have hlen : xs.length ≤ 10 := by have := congrArg List.length HX.out; simp at this; omega
    have hsz := hbel.size
    by_cases h128 : m < 128
    · have e1 : IntKind.u8.wrap (m : Int) = (m : Int) := by rw [IntKind.wrap_u8]; omega
      have e2 : (m : Int) % 256 = (m : Int) := by omega
      go_wp2_with (at_builtin; refine wpList_append_own _ rfl _ _ 31 rfl w.heap.size 5 i0 (.int .u8 0) 1 1 Tryd.underlying31 hi hz0 hz1 hz2 rfl (by decide) u3 xs.length (xs.map (Value.int .u8)) rfl (hown.alloc _) ⟨wr.heap.size, 0, none⟩ 1 1 [.int .u8 m] rfl rfl (cell_one_new _ _ _) (by simp [Value.oneCell']) (by unfold maxLen; omega) (by omega) (by rw [World.size_alloc]; omega) ?_)
      intro v' w' hown' hgrow' _
      have HO := Lib.hid hown'
      have HG := Lib.hid ((hbel.alloc hsz (.cells #[.int .u8 (m : Int)] 5)).grown hgrow' (by rw [World.size_alloc]; omega) fun k hk => (hown.lt k hk).1)
      clear hown' hgrow'
      go_wp2
      go_ret
      have e : uv n = xs ++ [(m : Int)] := by rw [← HX.out, uv_lo h128]
      refine ⟨v', rfl, ?_, HG.out⟩
      rw [e]; simpa using HO.out
    · have e1 : IntKind.u8.wrap ((m : Int) % 128 + 128) = ((m % 128 + 128 : Nat) : Int) := by rw [IntKind.wrap_u8]; omega
      have e2 : ((m : Int) % 128 + 128) % 256 = ((m % 128 + 128 : Nat) : Int) := by omega
      obtain ⟨x, hx⟩ : ∃ x, x = m % 128 + 128 := ⟨_, rfl⟩
      rw [← hx] at e1 e2
      have HXx := Lib.hid hx; clear hx
      go_wp2_with (at_builtin; refine wpList_append_own _ rfl _ _ 31 rfl w.heap.size 5 i0 (.int .u8 0) 1 1 Tryd.underlying31 hi hz0 hz1 hz2 rfl (by decide) u3 xs.length (xs.map (Value.int .u8)) rfl (hown.alloc _) ⟨wr.heap.size, 0, none⟩ 1 1 [.int .u8 (x : Nat)] rfl rfl (cell_one_new _ _ _) (by simp [Value.oneCell']) (by unfold maxLen; omega) (by omega) (by rw [World.size_alloc]; omega) ?_)
      intro v' w' hown' hgrow' _
      have HO := Lib.hid hown'
      have HG := Lib.hid ((hbel.alloc hsz (.cells #[.int .u8 (x : Int)] 5)).grown hgrow' (by rw [World.size_alloc]; omega) fun k hk => (hown.lt k hk).1)
      clear hown' hgrow' e1 e2
      go_wp2
      go_roundw
      case rel =>
        refine ⟨m / 128, xs ++ [(x : Int)], by go_num, by omega, ?_, by simpa using HO.out, HG.out⟩
        have := HX.out; rw [uv_hi h128] at this; show _ = _; rw [HXx.out]; simpa using this
      case measure => simp [intOf]; omega
end Go.Proofs.YthlkckpadjjbdaaDoor
