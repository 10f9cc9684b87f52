/- nums.number at clz and ctz; nums.Do at every opcode, with what clz and ctz answer. -/
import Derived.Test.YtmlniifdipeboaaDoorDo
import Derived.Test.YtmlniifdipeboaaDoorTz
namespace Go.Proofs.YtmlniifdipeboaaDoor
open Go Go.RowKit

theorem lo_le (n v : Nat) : loN n v n ≤ n := by
  rcases lo_spec (n := n) (v := v) n (Nat.le_refl _) with ⟨_, h⟩ | ⟨k, h1, h2, _⟩ <;> omega
set_option maxRecDepth 100000 in
set_option maxHeartbeats 1600000 in
theorem num32_7 (w : World) (a b : Nat) (ha : a < 4294967296) (_hb : b < 4294967296) :
    Calls Tryd.prog 117 #[.int .i64 7, .int .u32 a, .int .u32 b, .int .u64 32] w fun e w' => e = .returned (.tuple #[.int .u64 (hiN 32 a 32 : Nat), .int .i8 0]) ∧ w' = w := by
  have HV : Hid (hiN 32 a 32 = 32 - Lib.bitLen a) := Lib.hid (hi_all (by omega) ha)
  have hc : Lib.bitLen a ≤ 32 := Lib.bitLen_le a 32 (by omega) ha
  have HL := Lib.hid (Tryd.bits_LeadingZeros64 a w (by omega) (by omega))
  rw [Int.toNat_natCast] at HL
  rw [HV.out]
  clear HV
  generalize Lib.bitLen a = c at *
  have e1 : IntKind.u64.wrap (64 - (c : Int)) = ((64 - c : Nat) : Int) := by rw [IntKind.wrap_u64]; omega
  have e2 : IntKind.u64.wrap (((64 - c : Nat) : Int) - 32) = ((32 - c : Nat) : Int) := by rw [IntKind.wrap_u64]; omega
  have e3 : IntKind.u64.wrap (64 - (c : Int) - 32) = ((32 - c : Nat) : Int) := by rw [IntKind.wrap_u64]; omega
  have HE := Lib.hid (And.intro e1 (And.intro e2 e3))
  go_enter Tryd.func117, Tryd.ntmps117
  go_wp2_with fail
  refine HL.out.mono ?_
  rintro e w1 ⟨rfl, rfl⟩
  go_wp2
  go_ret2
  refine ⟨rets2 (congrArg (Value.int .u64) ?_) rfl, by trivial⟩
  first | rfl | exact HE.out.2.1 | exact HE.out.2.2 | exact HE.out.1 | (simp only [IntKind.wrap_u64]; omega) | omega
set_option maxRecDepth 100000 in
set_option maxHeartbeats 1600000 in
theorem num32_8 (w : World) (a b : Nat) (ha : a < 4294967296) (_hb : b < 4294967296) (ht : Tz w) :
    Calls Tryd.prog 117 #[.int .i64 8, .int .u32 a, .int .u32 b, .int .u64 32] w fun e w' => e = .returned (.tuple #[.int .u64 (loN 32 a 32 : Nat), .int .i8 0]) ∧ w' = w := by
  have HL := Lib.hid (bits_TZ64 w a (by omega) ht)
  clear ht
  obtain ⟨c, hc, hv, h64⟩ : ∃ c, Lib.ctz 64 a = c ∧ loN 32 a 32 = min c 32 ∧ c ≤ 64 := by
    refine ⟨_, rfl, ?_⟩
    by_cases h0 : a = 0
    · subst h0; rw [lo_zero, show Lib.ctz 64 0 = 64 by decide]; exact ⟨rfl, by omega⟩
    · have h1 := lo_ctz (n := 32) (by omega) ha h0
      have h2 := (lo_ctz (n := 64) (by omega) (by omega) h0)
      have h3 : loN 32 a 32 ≤ 32 := lo_le _ _
      have h4 : loN 64 a 64 ≤ 64 := lo_le _ _
      rw [h1]; omega
  rw [hc] at HL
  rw [hv]
  clear hv hc
  have e1 : IntKind.u64.wrap (c : Int) = (c : Int) := by rw [IntKind.wrap_u64]; omega
  go_enter Tryd.func117, Tryd.ntmps117
  go_wp2_with fail
  refine HL.out.mono ?_
  rintro e w1 ⟨rfl, rfl⟩
  go_wp2
  all_goals go_ret2
  all_goals refine ⟨rets2 (congrArg (Value.int .u64) ?_) rfl, by trivial⟩
  all_goals first | rfl | omega | (split <;> omega) | (simp; omega)
set_option maxRecDepth 100000 in
set_option maxHeartbeats 1600000 in
theorem num64_7 (w : World) (a b : Nat) (ha : a < 18446744073709551616) (_hb : b < 18446744073709551616) :
    Calls Tryd.prog 116 #[.int .i64 7, .int .u64 a, .int .u64 b, .int .u64 64] w fun e w' => e = .returned (.tuple #[.int .u64 (hiN 64 a 64 : Nat), .int .i8 0]) ∧ w' = w := by
  have HV : Hid (hiN 64 a 64 = 64 - Lib.bitLen a) := Lib.hid (hi_all (by omega) ha)
  have hc : Lib.bitLen a ≤ 64 := Lib.bitLen_le a 64 (by omega) ha
  have HL := Lib.hid (Tryd.bits_LeadingZeros64 a w (by omega) (by omega))
  rw [Int.toNat_natCast] at HL
  rw [HV.out]
  clear HV
  generalize Lib.bitLen a = c at *
  have e1 : IntKind.u64.wrap (64 - (c : Int)) = ((64 - c : Nat) : Int) := by rw [IntKind.wrap_u64]; omega
  have e2 : IntKind.u64.wrap (((64 - c : Nat) : Int) - 0) = ((64 - c : Nat) : Int) := by rw [IntKind.wrap_u64]; omega
  have e3 : IntKind.u64.wrap (64 - (c : Int) - 0) = ((64 - c : Nat) : Int) := by rw [IntKind.wrap_u64]; omega
  have HE := Lib.hid (And.intro e1 (And.intro e2 e3))
  go_enter Tryd.func116, Tryd.ntmps116
  go_wp2_with fail
  refine HL.out.mono ?_
  rintro e w1 ⟨rfl, rfl⟩
  go_wp2
  go_ret2
  refine ⟨rets2 (congrArg (Value.int .u64) ?_) rfl, by trivial⟩
  first | rfl | exact HE.out.2.1 | exact HE.out.2.2 | exact HE.out.1 | (simp only [IntKind.wrap_u64]; omega) | omega
set_option maxRecDepth 100000 in
set_option maxHeartbeats 1600000 in
theorem num64_8 (w : World) (a b : Nat) (ha : a < 18446744073709551616) (_hb : b < 18446744073709551616) (ht : Tz w) :
    Calls Tryd.prog 116 #[.int .i64 8, .int .u64 a, .int .u64 b, .int .u64 64] w fun e w' => e = .returned (.tuple #[.int .u64 (loN 64 a 64 : Nat), .int .i8 0]) ∧ w' = w := by
  have HL := Lib.hid (bits_TZ64 w a (by omega) ht)
  clear ht
  obtain ⟨c, hc, hv, h64⟩ : ∃ c, Lib.ctz 64 a = c ∧ loN 64 a 64 = min c 64 ∧ c ≤ 64 := by
    refine ⟨_, rfl, ?_⟩
    by_cases h0 : a = 0
    · subst h0; rw [lo_zero, show Lib.ctz 64 0 = 64 by decide]; exact ⟨rfl, by omega⟩
    · have h1 := lo_ctz (n := 64) (by omega) ha h0
      have h2 := (lo_ctz (n := 64) (by omega) (by omega) h0)
      have h3 : loN 64 a 64 ≤ 64 := lo_le _ _
      have h4 : loN 64 a 64 ≤ 64 := lo_le _ _
      rw [h1]; omega
  rw [hc] at HL
  rw [hv]
  clear hv hc
  have e1 : IntKind.u64.wrap (c : Int) = (c : Int) := by rw [IntKind.wrap_u64]; omega
  go_enter Tryd.func116, Tryd.ntmps116
  go_wp2_with fail
  refine HL.out.mono ?_
  rintro e w1 ⟨rfl, rfl⟩
  go_wp2
  all_goals go_ret2
  all_goals refine ⟨rets2 (congrArg (Value.int .u64) ?_) rfl, by trivial⟩
  all_goals first | rfl | omega | (split <;> omega) | (simp; omega)

/-- The instruction at the place k, of n bits. -/
def numF (n k a b : Nat) : Nat × Int := numN n k a b (hiN n a n) (loN n a n)
/-- What an instruction of numbers answers. -/
def doF (op a b : Nat) : Nat × Int :=
  if numOf op = false then (0, 1) else if 112 ≤ op then (turnN op a, 0) else if 80 ≤ op then numF 64 (op - 80) a b else numF 32 (op - 48) (a % 4294967296) (b % 4294967296)
theorem numN_any {n k a b : Nat} (x y x' y' : Nat) (h7 : k ≠ 7) (h8 : k ≠ 8) : numN n k a b x y = numN n k a b x' y' := by
  unfold numN; split <;> first | rfl | (exfalso; omega)
theorem doF_doN {op a b : Nat} (h55 : op ≠ 55) (h56 : op ≠ 56) (h87 : op ≠ 87) (h88 : op ≠ 88) : doF op a b = doN op a b := by
  unfold doF doN
  split
  · rfl
  split
  · rfl
  split
  · exact numN_any _ _ _ _ (by omega) (by omega)
  · by_cases h : op < 48
    · rw [show op - 48 = 0 by omega]; rfl
    · exact numN_any _ _ _ _ (by omega) (by omega)
set_option maxRecDepth 100000 in
set_option maxHeartbeats 3200000 in
theorem do_87 (w : World) (a b : Nat) (ha : a < 18446744073709551616) (hb : b < 18446744073709551616) (ht : Tb w) (_hz : Tz w) :
    Calls Tryd.prog 49 #[.int .u8 87, .int .u64 a, .int .u64 b] w fun e w' => e = .returned (.tuple #[.int .u64 ((doF 87 a b).1 : Int), .int .i8 (doF 87 a b).2]) ∧ Below w.heap.size w w' := by
  have HT := Lib.hid ht; clear ht
  have HV : Hid (doF 87 a b = (hiN 64 a 64, 0)) := by show _ = _; rfl
  go_enter Tryd.func49, Tryd.ntmps49
  go_wp2_with fail
  refine (nums_Of _ 87 (by decide) HT.out).mono ?_
  rintro e w1 ⟨he, hb1⟩
  rw [show numOf 87 = true by decide +kernel] at he
  subst he
  have HB := Lib.hid hb1; clear hb1
  go_wp2_with fail
  refine (num64_7 _ a b ha hb).mono ?_
  rintro e w2 ⟨rfl, rfl⟩
  generalize hiN 64 a 64 = v at *
  go_wp2
  go_ret2
  rw [HV.out]
  exact ⟨rets2 rfl rfl, HB.out⟩
set_option maxRecDepth 100000 in
set_option maxHeartbeats 3200000 in
theorem do_88 (w : World) (a b : Nat) (ha : a < 18446744073709551616) (hb : b < 18446744073709551616) (ht : Tb w) (hz : Tz w) :
    Calls Tryd.prog 49 #[.int .u8 88, .int .u64 a, .int .u64 b] w fun e w' => e = .returned (.tuple #[.int .u64 ((doF 88 a b).1 : Int), .int .i8 (doF 88 a b).2]) ∧ Below w.heap.size w w' := by
  have HT := Lib.hid ht; clear ht
  have HZ := Lib.hid hz; clear hz
  have HV : Hid (doF 88 a b = (loN 64 a 64, 0)) := by show _ = _; rfl
  go_enter Tryd.func49, Tryd.ntmps49
  go_wp2_with fail
  refine (nums_Of _ 88 (by decide) HT.out).mono ?_
  rintro e w1 ⟨he, hb1⟩
  rw [show numOf 88 = true by decide +kernel] at he
  subst he
  have HB := Lib.hid hb1; clear hb1
  go_wp2_with fail
  refine (num64_8 _ a b ha hb (HZ.out.bel HB.out)).mono ?_
  rintro e w2 ⟨rfl, rfl⟩
  generalize loN 64 a 64 = v at *
  go_wp2
  go_ret2
  rw [HV.out]
  exact ⟨rets2 rfl rfl, HB.out⟩
set_option maxRecDepth 100000 in
set_option maxHeartbeats 3200000 in
theorem do_55 (w : World) (a b : Nat) (_ha : a < 18446744073709551616) (_hb : b < 18446744073709551616) (ht : Tb w) (_hz : Tz w) :
    Calls Tryd.prog 49 #[.int .u8 55, .int .u64 a, .int .u64 b] w fun e w' => e = .returned (.tuple #[.int .u64 ((doF 55 a b).1 : Int), .int .i8 (doF 55 a b).2]) ∧ Below w.heap.size w w' := by
  have HT := Lib.hid ht; clear ht
  obtain ⟨a', ha'⟩ : ∃ x : Nat, x = a % 4294967296 := ⟨_, rfl⟩
  obtain ⟨b', hb'⟩ : ∃ x : Nat, x = b % 4294967296 := ⟨_, rfl⟩
  have ea : (a : Int) % 4294967296 = (a' : Int) := by omega
  have eb : (b : Int) % 4294967296 = (b' : Int) := by omega
  have la : a' < 4294967296 := by omega
  have lb : b' < 4294967296 := by omega
  have HV : Hid (doF 55 a b = (hiN 32 a' 32, 0)) := by
    show _ = _
    rw [ha']; rfl
  clear ha' hb'
  go_enter Tryd.func49, Tryd.ntmps49
  go_wp2_with fail
  refine (nums_Of _ 55 (by decide) HT.out).mono ?_
  rintro e w1 ⟨he, hb1⟩
  rw [show numOf 55 = true by decide +kernel] at he
  subst he
  have HB := Lib.hid hb1; clear hb1
  go_wp2_with fail
  refine (num32_7 _ a' b' la lb).mono ?_
  rintro e w2 ⟨rfl, rfl⟩
  generalize hiN 32 a' 32 = v at *
  go_wp2
  go_ret2
  rw [HV.out]
  exact ⟨rets2 rfl rfl, HB.out⟩
set_option maxRecDepth 100000 in
set_option maxHeartbeats 3200000 in
theorem do_56 (w : World) (a b : Nat) (_ha : a < 18446744073709551616) (_hb : b < 18446744073709551616) (ht : Tb w) (hz : Tz w) :
    Calls Tryd.prog 49 #[.int .u8 56, .int .u64 a, .int .u64 b] w fun e w' => e = .returned (.tuple #[.int .u64 ((doF 56 a b).1 : Int), .int .i8 (doF 56 a b).2]) ∧ Below w.heap.size w w' := by
  have HT := Lib.hid ht; clear ht
  have HZ := Lib.hid hz; clear hz
  obtain ⟨a', ha'⟩ : ∃ x : Nat, x = a % 4294967296 := ⟨_, rfl⟩
  obtain ⟨b', hb'⟩ : ∃ x : Nat, x = b % 4294967296 := ⟨_, rfl⟩
  have ea : (a : Int) % 4294967296 = (a' : Int) := by omega
  have eb : (b : Int) % 4294967296 = (b' : Int) := by omega
  have la : a' < 4294967296 := by omega
  have lb : b' < 4294967296 := by omega
  have HV : Hid (doF 56 a b = (loN 32 a' 32, 0)) := by
    show _ = _
    rw [ha']; rfl
  clear ha' hb'
  go_enter Tryd.func49, Tryd.ntmps49
  go_wp2_with fail
  refine (nums_Of _ 56 (by decide) HT.out).mono ?_
  rintro e w1 ⟨he, hb1⟩
  rw [show numOf 56 = true by decide +kernel] at he
  subst he
  have HB := Lib.hid hb1; clear hb1
  go_wp2_with fail
  refine (num32_8 _ a' b' la lb (HZ.out.bel HB.out)).mono ?_
  rintro e w2 ⟨rfl, rfl⟩
  generalize loN 32 a' 32 = v at *
  go_wp2
  go_ret2
  rw [HV.out]
  exact ⟨rets2 rfl rfl, HB.out⟩
theorem nums_DoF (w : World) (op a b : Nat) (ho : op < 256) (ha : a < 18446744073709551616) (hb : b < 18446744073709551616) (ht : Tb w) (hz : Tz w) :
    Calls Tryd.prog 49 #[.int .u8 op, .int .u64 a, .int .u64 b] w fun e w' => e = .returned (.tuple #[.int .u64 ((doF op a b).1 : Int), .int .i8 (doF op a b).2]) ∧ Below w.heap.size w w' := by
  by_cases h55 : op = 55
  · subst h55; exact do_55 w a b ha hb ht hz
  by_cases h56 : op = 56
  · subst h56; exact do_56 w a b ha hb ht hz
  by_cases h87 : op = 87
  · subst h87; exact do_87 w a b ha hb ht hz
  by_cases h88 : op = 88
  · subst h88; exact do_88 w a b ha hb ht hz
  rw [doF_doN h55 h56 h87 h88]
  exact nums_Do w op a b ho ha hb ht h55 h56 h87 h88
end Go.Proofs.YtmlniifdipeboaaDoor
