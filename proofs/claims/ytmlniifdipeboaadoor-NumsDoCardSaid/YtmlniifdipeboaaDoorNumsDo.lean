/- flagonlaw07.NumsDo, walked. -/
import Derived.Test.YtmlniifdipeboaaDoorRef7i
namespace Go.Proofs.YtmlniifdipeboaaDoor
open Go Go.RowKit

set_option maxRecDepth 100000 in
set_option maxHeartbeats 6400000 in
theorem law_numsDo (w : World) (a b : Nat) (ha : a < 18446744073709551616) (hb : b < 18446744073709551616) (ht : Tb w) (hz : Tz w) :
    Calls Tryd.prog 8 #[.int .u64 a, .int .u64 b] w fun e w' => e = .returned (.bool true) ∧ Below w.heap.size w w' := by
  have HT := Lib.hid ht; clear ht
  have HZ := Lib.hid hz; clear hz
  go_enter Tryd.func8, Tryd.ntmps8
  go_wp2
  go_loopw [5] (fun i wr => ∃ k : Nat, k ≤ 256 ∧ i = .int .i64 k ∧ Below w.heap.size w wr) (fun i _ => 256 - (intOf i).toNat)
  case atStart => exact ⟨0, by omega, rfl, Below.refl _ _⟩
  case round =>
    obtain ⟨k, hk, rfl, hbr⟩ := hrel
    have HB := Lib.hid hbr; clear hbr
    by_cases hlt : k < 256
    · have e8 : IntKind.u8.wrap (k : Int) = (k : Int) := IntWalk.u8_in _ ⟨by omega, by omega⟩
      go_wp2_with fail
      refine (nums_DoF _ k a b hlt ha hb (HT.out.bel HB.out) (HZ.out.bel HB.out)).mono ?_
      rintro e w1 ⟨rfl, hb1⟩
      have HB1 := Lib.hid (below_next HB.out hb1); clear hb1 HB
      go_wp2_with fail
      refine (ref7_Do _ k a b hlt ha hb).mono ?_
      rintro e w2 ⟨rfl, hb2⟩
      have HB2 := Lib.hid (below_next HB1.out hb2); clear hb2 HB1
      generalize doF k a b = v at *
      go_wp2_with fail
      refine (nums_Of _ k hlt (HT.out.bel HB2.out)).mono ?_
      rintro e w3 ⟨rfl, hb3⟩
      have HB3 := Lib.hid (below_next HB2.out hb3); clear hb3 HB2
      go_wp2_with fail
      refine (ref7_Of _ k hlt).mono ?_
      rintro e w4 ⟨rfl, hb4⟩
      have HB4 := Lib.hid (below_next HB3.out hb4); clear hb4 HB3
      generalize numOf k = io at *
      go_wp2
      go_roundw
      case rel => exact ⟨k + 1, by omega, by go_num, HB4.out⟩
      case measure => simp [intOf]; omega
    · go_wp2_with fail
      refine (law_works07 w _ ⟨HT.out.bel HB.out, HB.out⟩).mono ?_
      rintro e w1 ⟨rfl, h1⟩
      go_wp2
      go_ret
      exact ⟨rfl, h1.bel⟩
end Go.Proofs.YtmlniifdipeboaaDoor
