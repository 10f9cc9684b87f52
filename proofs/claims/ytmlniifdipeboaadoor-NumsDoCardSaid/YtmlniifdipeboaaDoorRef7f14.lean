/- flagonref07.number: quotients, place 14. -/
import Derived.Test.YtmlniifdipeboaaDoorRef7f
namespace Go.Proofs.YtmlniifdipeboaaDoor
open Go Go.RowKit

set_option maxRecDepth 100000 in
set_option maxHeartbeats 3200000 in
theorem refn_14_z (w : World) (a b n : Nat) (hn : 2 ≤ n ∧ n ≤ 64) (_ha : a < 2 ^ n) (_hb : b < 2 ^ n) (h0 : b = 0) :
    Calls Tryd.prog 121 #[.string ⟨#[100, 105, 118, 117]⟩, .int .u64 a, .int .u64 b, .int .i64 n] w fun e w' => e = .returned (.tuple #[.int .u64 ((divN n 14 a b).1 : Nat), .int .i8 (divN n 14 a b).2]) ∧ ∃ m, w' = w.drewN m := by
  have HO := Lib.hid (ref_ones w a n ⟨by omega, hn.2⟩)
  have HV : Hid (divN n 14 a b = (0, 3)) := by show _ = _; rw [divN, if_pos h0]
  have f0 : ((b : Int) == 0) = true := by rw [beq_iff_eq]; omega
  go_enter Tryd.func121, Tryd.ntmps121
  go_wp2_with fail
  refine HO.out.mono ?_
  rintro e w1 ⟨rfl, rfl⟩
  go_wp2
  go_ret2
  rw [HV.out]
  exact ⟨rfl, 0, rfl⟩
set_option maxRecDepth 100000 in
set_option maxHeartbeats 3200000 in
theorem refn_14_c1 (w : World) (a b n : Nat) (hn : 2 ≤ n ∧ n ≤ 64) (ha : a < 2 ^ n) (hb : b < 2 ^ n) (h0 : b ≠ 0) (hl : a ≠ 2 ^ (n - 1)) :
    Calls Tryd.prog 121 #[.string ⟨#[100, 105, 118, 117]⟩, .int .u64 a, .int .u64 b, .int .i64 n] w fun e w' => e = .returned (.tuple #[.int .u64 ((divN n 14 a b).1 : Nat), .int .i8 (divN n 14 a b).2]) ∧ ∃ m, w' = w.drewN m := by
  have HO := Lib.hid (ref_ones w a n ⟨by omega, hn.2⟩)
  have HV : Hid (divN n 14 a b = (a / b, 0)) := by show _ = _; rw [divN, if_neg h0, if_pos rfl]
  have la := lt64 hn.2 ha; have lb := lt64 hn.2 hb
  obtain ⟨i1, i2, i3⟩ := least_iff hn.1 ha hb
  have HSz := Lib.hid (fun w' => ref_size w' a n ⟨by omega, hn.2⟩ ha)
  have HNg := Lib.hid (fun w' => ref_negative w' a n ⟨by omega, hn.2⟩)
  have HMi := Lib.hid (fun w' => ref_minus w' b n lb hn.2)
  have HQu := Lib.hid (fun w' => ref_quotient w' a b n ⟨by omega, hn.2⟩ ha hb h0)
  rw [minus_n hn.2 hb] at HMi
  rw [show decide (bitN a (n - 1) = 1) = decide (sg n a < 0) by rw [decide_eq_decide]; exact neg_sg (by omega) ha] at HNg
  obtain ⟨_, e3⟩ := shl1 (n := n - 1) (by omega)
  have e4 : IntKind.i64.wrap ((n : Int) - 1) = ((n - 1 : Nat) : Int) := by rw [IntWalk.i64_in _ ⟨by omega, by omega⟩]; omega
  have f0 : ((b : Int) == 0) = false := by rw [beq_eq_false_iff_ne]; omega
  have hbp : 0 < b := by omega
  have g1 : (((sg n a).natAbs : Int) == ((2 ^ (n - 1) : Nat) : Int)) = false := by rw [beq_eq_false_iff_ne]; intro c; exact hl (i1.1 (by omega))
  generalize (sg n a).natAbs = A at *
  generalize 2 ^ (n - 1) = T at *
  generalize (2 ^ n - b) % 2 ^ n = M at *
  generalize un n ((sg n a).tdiv (sg n b)) = Q at *
  generalize un n ((sg n a).tmod (sg n b)) = R at *
  generalize decide (sg n a < 0) = neg at *
  have u1 : (a : Int) / b = ((a / b : Nat) : Int) := (Int.natCast_ediv _ _).symm
  have HU := Lib.hid u1
  have u2 : IntKind.u64.wrap ((a : Int) / b) = ((a / b : Nat) : Int) := by
    have hq := Nat.div_le_self a b
    rw [u1]
    generalize a / b = q at hq ⊢
    exact IntWalk.u64_in _ ⟨by omega, by omega⟩
  have HU2 := Lib.hid u2
  clear u1 u2
  clear i1 i2 i3
  clear hl
  go_enter Tryd.func121, Tryd.ntmps121
  go_wp2_with fail
  refine HO.out.mono ?_
  rintro e w1 ⟨rfl, rfl⟩
  go_wp2
  go_quiet (first | (go_at_call 160; with_reducible exact Calls.quiet_of_same (HSz.out _)) | (go_at_call 154; with_reducible exact Calls.quiet_of_same (HNg.out _)) | (go_at_call 161; with_reducible exact Calls.quiet_of_same (HMi.out _)))
  go_wp2
  go_ret2
  rw [HV.out]
  exact ⟨rets2 (congrArg (Value.int .u64) (by first | rfl | exact HU2.out | exact HU.out)) rfl, _, rfl⟩
set_option maxRecDepth 100000 in
set_option maxHeartbeats 3200000 in
theorem refn_14_c2 (w : World) (a b n : Nat) (hn : 2 ≤ n ∧ n ≤ 64) (ha : a < 2 ^ n) (hb : b < 2 ^ n) (h0 : b ≠ 0) (hl : a = 2 ^ (n - 1)) (hm : b ≠ 2 ^ n - 1) :
    Calls Tryd.prog 121 #[.string ⟨#[100, 105, 118, 117]⟩, .int .u64 a, .int .u64 b, .int .i64 n] w fun e w' => e = .returned (.tuple #[.int .u64 ((divN n 14 a b).1 : Nat), .int .i8 (divN n 14 a b).2]) ∧ ∃ m, w' = w.drewN m := by
  have HO := Lib.hid (ref_ones w a n ⟨by omega, hn.2⟩)
  have HV : Hid (divN n 14 a b = (a / b, 0)) := by show _ = _; rw [divN, if_neg h0, if_pos rfl]
  have la := lt64 hn.2 ha; have lb := lt64 hn.2 hb
  obtain ⟨i1, i2, i3⟩ := least_iff hn.1 ha hb
  have HSz := Lib.hid (fun w' => ref_size w' a n ⟨by omega, hn.2⟩ ha)
  have HNg := Lib.hid (fun w' => ref_negative w' a n ⟨by omega, hn.2⟩)
  have HMi := Lib.hid (fun w' => ref_minus w' b n lb hn.2)
  have HQu := Lib.hid (fun w' => ref_quotient w' a b n ⟨by omega, hn.2⟩ ha hb h0)
  rw [minus_n hn.2 hb] at HMi
  rw [show decide (bitN a (n - 1) = 1) = decide (sg n a < 0) by rw [decide_eq_decide]; exact neg_sg (by omega) ha] at HNg
  obtain ⟨_, e3⟩ := shl1 (n := n - 1) (by omega)
  have e4 : IntKind.i64.wrap ((n : Int) - 1) = ((n - 1 : Nat) : Int) := by rw [IntWalk.i64_in _ ⟨by omega, by omega⟩]; omega
  have f0 : ((b : Int) == 0) = false := by rw [beq_eq_false_iff_ne]; omega
  have hbp : 0 < b := by omega
  have g1 : (((sg n a).natAbs : Int) == ((2 ^ (n - 1) : Nat) : Int)) = true := by rw [beq_iff_eq]; have := i1.2 hl; omega
  rw [decide_eq_true (i2 hl)] at HNg
  have g2 : ((((2 ^ n - b) % 2 ^ n : Nat) : Int) == 1) = false := by rw [beq_eq_false_iff_ne]; intro c; exact hm (i3.1 (by omega))
  generalize (sg n a).natAbs = A at *
  generalize 2 ^ (n - 1) = T at *
  generalize (2 ^ n - b) % 2 ^ n = M at *
  generalize un n ((sg n a).tdiv (sg n b)) = Q at *
  generalize un n ((sg n a).tmod (sg n b)) = R at *
  have u1 : (a : Int) / b = ((a / b : Nat) : Int) := (Int.natCast_ediv _ _).symm
  have HU := Lib.hid u1
  have u2 : IntKind.u64.wrap ((a : Int) / b) = ((a / b : Nat) : Int) := by
    have hq := Nat.div_le_self a b
    rw [u1]
    generalize a / b = q at hq ⊢
    exact IntWalk.u64_in _ ⟨by omega, by omega⟩
  have HU2 := Lib.hid u2
  clear u1 u2
  clear i1 i2 i3
  clear hl hm
  go_enter Tryd.func121, Tryd.ntmps121
  go_wp2_with fail
  refine HO.out.mono ?_
  rintro e w1 ⟨rfl, rfl⟩
  go_wp2
  go_quiet (first | (go_at_call 160; with_reducible exact Calls.quiet_of_same (HSz.out _)) | (go_at_call 154; with_reducible exact Calls.quiet_of_same (HNg.out _)) | (go_at_call 161; with_reducible exact Calls.quiet_of_same (HMi.out _)))
  go_wp2
  go_ret2
  rw [HV.out]
  exact ⟨rets2 (congrArg (Value.int .u64) (by first | rfl | exact HU2.out | exact HU.out)) rfl, _, rfl⟩
set_option maxRecDepth 100000 in
set_option maxHeartbeats 3200000 in
theorem refn_14_c3 (w : World) (a b n : Nat) (hn : 2 ≤ n ∧ n ≤ 64) (ha : a < 2 ^ n) (hb : b < 2 ^ n) (h0 : b ≠ 0) (hl : a = 2 ^ (n - 1)) (hm : b = 2 ^ n - 1) :
    Calls Tryd.prog 121 #[.string ⟨#[100, 105, 118, 117]⟩, .int .u64 a, .int .u64 b, .int .i64 n] w fun e w' => e = .returned (.tuple #[.int .u64 ((divN n 14 a b).1 : Nat), .int .i8 (divN n 14 a b).2]) ∧ ∃ m, w' = w.drewN m := by
  have HO := Lib.hid (ref_ones w a n ⟨by omega, hn.2⟩)
  have HV : Hid (divN n 14 a b = (a / b, 0)) := by show _ = _; rw [divN, if_neg h0, if_pos rfl]
  have la := lt64 hn.2 ha; have lb := lt64 hn.2 hb
  obtain ⟨i1, i2, i3⟩ := least_iff hn.1 ha hb
  have HSz := Lib.hid (fun w' => ref_size w' a n ⟨by omega, hn.2⟩ ha)
  have HNg := Lib.hid (fun w' => ref_negative w' a n ⟨by omega, hn.2⟩)
  have HMi := Lib.hid (fun w' => ref_minus w' b n lb hn.2)
  have HQu := Lib.hid (fun w' => ref_quotient w' a b n ⟨by omega, hn.2⟩ ha hb h0)
  rw [minus_n hn.2 hb] at HMi
  rw [show decide (bitN a (n - 1) = 1) = decide (sg n a < 0) by rw [decide_eq_decide]; exact neg_sg (by omega) ha] at HNg
  obtain ⟨_, e3⟩ := shl1 (n := n - 1) (by omega)
  have e4 : IntKind.i64.wrap ((n : Int) - 1) = ((n - 1 : Nat) : Int) := by rw [IntWalk.i64_in _ ⟨by omega, by omega⟩]; omega
  have f0 : ((b : Int) == 0) = false := by rw [beq_eq_false_iff_ne]; omega
  have hbp : 0 < b := by omega
  have g1 : (((sg n a).natAbs : Int) == ((2 ^ (n - 1) : Nat) : Int)) = true := by rw [beq_iff_eq]; have := i1.2 hl; omega
  rw [decide_eq_true (i2 hl)] at HNg
  have g2 : ((((2 ^ n - b) % 2 ^ n : Nat) : Int) == 1) = true := by rw [beq_iff_eq]; have := i3.2 hm; omega
  generalize (sg n a).natAbs = A at *
  generalize 2 ^ (n - 1) = T at *
  generalize (2 ^ n - b) % 2 ^ n = M at *
  generalize un n ((sg n a).tdiv (sg n b)) = Q at *
  generalize un n ((sg n a).tmod (sg n b)) = R at *
  have u1 : (a : Int) / b = ((a / b : Nat) : Int) := (Int.natCast_ediv _ _).symm
  have HU := Lib.hid u1
  have u2 : IntKind.u64.wrap ((a : Int) / b) = ((a / b : Nat) : Int) := by
    have hq := Nat.div_le_self a b
    rw [u1]
    generalize a / b = q at hq ⊢
    exact IntWalk.u64_in _ ⟨by omega, by omega⟩
  have HU2 := Lib.hid u2
  clear u1 u2
  clear i1 i2 i3
  clear hl hm
  go_enter Tryd.func121, Tryd.ntmps121
  go_wp2_with fail
  refine HO.out.mono ?_
  rintro e w1 ⟨rfl, rfl⟩
  go_wp2
  go_quiet (first | (go_at_call 160; with_reducible exact Calls.quiet_of_same (HSz.out _)) | (go_at_call 154; with_reducible exact Calls.quiet_of_same (HNg.out _)) | (go_at_call 161; with_reducible exact Calls.quiet_of_same (HMi.out _)))
  go_wp2
  go_ret2
  rw [HV.out]
  exact ⟨rets2 (congrArg (Value.int .u64) (by first | rfl | exact HU2.out | exact HU.out)) rfl, _, rfl⟩
end Go.Proofs.YtmlniifdipeboaaDoor
