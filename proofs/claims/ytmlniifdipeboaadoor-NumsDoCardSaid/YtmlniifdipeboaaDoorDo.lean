/- nums.number as one contract, nums.Do: all places but clz and ctz. -/
import Derived.Test.YtmlniifdipeboaaDoorOnes
import Derived.Test.YtmlniifdipeboaaDoorLib2
namespace Go.Proofs.YtmlniifdipeboaaDoor
open Go Go.RowKit


set_option maxRecDepth 100000 in
set_option maxHeartbeats 1600000 in
theorem num32_9 (w : World) (a b lz tz : Nat) (ha : a < 4294967296) (_hb : b < 4294967296) :
    Calls Tryd.prog 117 #[.int .i64 9, .int .u32 a, .int .u32 b, .int .u64 32] w fun e w' => e = .returned (.tuple #[.int .u64 ((numN 32 9 a b lz tz).1 : Int), .int .i8 (numN 32 9 a b lz tz).2]) ∧ w' = w := by
  have HV : Hid (numN 32 9 a b lz tz = (popN 32 a, 0)) := Lib.hid rfl
  have HP := Lib.hid (popN_le 32 a)
  have HQ : Hid (popN 64 a = popN 32 a) := (show popN 64 a = popN 32 a from pop_narrow ha)
  have w1 : IntKind.u64.wrap (a : Int) = a := by rw [IntKind.wrap_u64]; omega
  go_enter Tryd.func117, Tryd.ntmps117
  go_wp2_with fail
  refine (ones64 _ a (by omega)).mono ?_
  rintro e w1 ⟨rfl, rfl⟩
  rw [HQ.out]
  generalize popN 32 a = p at *
  have hp := HP.out
  go_wp2
  go_ret2
  rw [HV.out]
  exact ⟨rets2 (congrArg (Value.int .u64) (by first | rfl | (rw [IntKind.wrap_u64]; omega))) rfl, by trivial⟩

theorem number32 (w : World) (k : Nat) (a b lz tz : Nat) (hk : k ≤ 24) (h7 : k ≠ 7) (h8 : k ≠ 8) (ha : a < 4294967296) (hb : b < 4294967296) :
    Calls Tryd.prog 117 #[.int .i64 k, .int .u32 a, .int .u32 b, .int .u64 32] w fun e w' => e = .returned (.tuple #[.int .u64 ((numN 32 k a b lz tz).1 : Int), .int .i8 (numN 32 k a b lz tz).2]) ∧ w' = w := by
  have hd : k = 0 ∨ k = 1 ∨ k = 2 ∨ k = 3 ∨ k = 4 ∨ k = 5 ∨ k = 6 ∨ k = 9 ∨ k = 10 ∨ k = 11 ∨ k = 12 ∨ k = 13 ∨ k = 14 ∨ k = 15 ∨ k = 16 ∨ k = 17 ∨ k = 18 ∨ k = 19 ∨ k = 20 ∨ k = 21 ∨ k = 22 ∨ k = 23 ∨ k = 24 := by omega
  rcases hd with rfl | rfl | rfl | rfl | rfl | rfl | rfl | rfl | rfl | rfl | rfl | rfl | rfl | rfl | rfl | rfl | rfl | rfl | rfl | rfl | rfl | rfl | rfl
  · exact num32_0 w a b lz tz ha hb
  · exact num32_1 w a b lz tz ha hb
  · exact num32_2 w a b lz tz ha hb
  · exact num32_3 w a b lz tz ha hb
  · exact num32_4 w a b lz tz ha hb
  · exact num32_5 w a b lz tz ha hb
  · exact num32_6 w a b lz tz ha hb
  · exact num32_9 w a b lz tz ha hb
  · exact num32_10 w a b lz tz ha hb
  · exact num32_11 w a b lz tz ha hb
  · exact num32_12 w a b lz tz ha hb
  · by_cases h0 : b = 0
    · exact num32_13_z w a b lz tz ha hb h0
    by_cases h1 : a * 2 % 4294967296 = 0
    · by_cases h2 : a = 0
      · exact num32_13_b w a b lz tz ha hb h0 h2
      by_cases h3 : b = 4294967295
      · exact num32_13_d w a b lz tz ha hb (by omega) h3
      · exact num32_13_c w a b lz tz ha hb h0 h1 h3 h2
    · exact num32_13_a w a b lz tz ha hb h0 h1
  · by_cases h0 : b = 0
    · exact num32_14_z w a b lz tz ha hb h0
    by_cases h1 : a * 2 % 4294967296 = 0
    · by_cases h2 : a = 0
      · exact num32_14_b w a b lz tz ha hb h0 h2
      by_cases h3 : b = 4294967295
      · exact num32_14_d w a b lz tz ha hb (by omega) h3
      · exact num32_14_c w a b lz tz ha hb h0 h1 h3 h2
    · exact num32_14_a w a b lz tz ha hb h0 h1
  · by_cases h0 : b = 0
    · exact num32_15_z w a b lz tz ha hb h0
    by_cases h1 : a * 2 % 4294967296 = 0
    · by_cases h2 : a = 0
      · exact num32_15_b w a b lz tz ha hb h0 h2
      by_cases h3 : b = 4294967295
      · exact num32_15_d w a b lz tz ha hb (by omega) h3
      · exact num32_15_c w a b lz tz ha hb h0 h1 h3 h2
    · exact num32_15_a w a b lz tz ha hb h0 h1
  · by_cases h0 : b = 0
    · exact num32_16_z w a b lz tz ha hb h0
    by_cases h1 : a * 2 % 4294967296 = 0
    · by_cases h2 : a = 0
      · exact num32_16_b w a b lz tz ha hb h0 h2
      by_cases h3 : b = 4294967295
      · exact num32_16_d w a b lz tz ha hb (by omega) h3
      · exact num32_16_c w a b lz tz ha hb h0 h1 h3 h2
    · exact num32_16_a w a b lz tz ha hb h0 h1
  · exact num32_17 w a b lz tz ha hb
  · exact num32_18 w a b lz tz ha hb
  · exact num32_19 w a b lz tz ha hb
  · exact num32_20 w a b lz tz ha hb
  · exact num32_21 w a b lz tz ha hb
  · exact num32_22 w a b lz tz ha hb
  · exact num32_23 w a b lz tz ha hb
  · exact num32_24 w a b lz tz ha hb

set_option maxRecDepth 100000 in
set_option maxHeartbeats 1600000 in
theorem num64_9 (w : World) (a b lz tz : Nat) (ha : a < 18446744073709551616) (_hb : b < 18446744073709551616) :
    Calls Tryd.prog 116 #[.int .i64 9, .int .u64 a, .int .u64 b, .int .u64 64] w fun e w' => e = .returned (.tuple #[.int .u64 ((numN 64 9 a b lz tz).1 : Int), .int .i8 (numN 64 9 a b lz tz).2]) ∧ w' = w := by
  have HV : Hid (numN 64 9 a b lz tz = (popN 64 a, 0)) := Lib.hid rfl
  have HP := Lib.hid (popN_le 64 a)
  have HQ : Hid (popN 64 a = popN 64 a) := (show popN 64 a = popN 64 a from rfl)
  have w1 : IntKind.u64.wrap (a : Int) = a := by rw [IntKind.wrap_u64]; omega
  go_enter Tryd.func116, Tryd.ntmps116
  go_wp2_with fail
  refine (ones64 _ a (by omega)).mono ?_
  rintro e w1 ⟨rfl, rfl⟩
  clear HQ
  generalize popN 64 a = p at *
  have hp := HP.out
  go_wp2
  go_ret2
  rw [HV.out]
  exact ⟨rets2 (congrArg (Value.int .u64) (by first | rfl | (rw [IntKind.wrap_u64]; omega))) rfl, by trivial⟩

theorem number64 (w : World) (k : Nat) (a b lz tz : Nat) (hk : k ≤ 24) (h7 : k ≠ 7) (h8 : k ≠ 8) (ha : a < 18446744073709551616) (hb : b < 18446744073709551616) :
    Calls Tryd.prog 116 #[.int .i64 k, .int .u64 a, .int .u64 b, .int .u64 64] w fun e w' => e = .returned (.tuple #[.int .u64 ((numN 64 k a b lz tz).1 : Int), .int .i8 (numN 64 k a b lz tz).2]) ∧ w' = w := by
  have hd : k = 0 ∨ k = 1 ∨ k = 2 ∨ k = 3 ∨ k = 4 ∨ k = 5 ∨ k = 6 ∨ k = 9 ∨ k = 10 ∨ k = 11 ∨ k = 12 ∨ k = 13 ∨ k = 14 ∨ k = 15 ∨ k = 16 ∨ k = 17 ∨ k = 18 ∨ k = 19 ∨ k = 20 ∨ k = 21 ∨ k = 22 ∨ k = 23 ∨ k = 24 := by omega
  rcases hd with rfl | rfl | rfl | rfl | rfl | rfl | rfl | rfl | rfl | rfl | rfl | rfl | rfl | rfl | rfl | rfl | rfl | rfl | rfl | rfl | rfl | rfl | rfl
  · exact num64_0 w a b lz tz ha hb
  · exact num64_1 w a b lz tz ha hb
  · exact num64_2 w a b lz tz ha hb
  · exact num64_3 w a b lz tz ha hb
  · exact num64_4 w a b lz tz ha hb
  · exact num64_5 w a b lz tz ha hb
  · exact num64_6 w a b lz tz ha hb
  · exact num64_9 w a b lz tz ha hb
  · exact num64_10 w a b lz tz ha hb
  · exact num64_11 w a b lz tz ha hb
  · exact num64_12 w a b lz tz ha hb
  · by_cases h0 : b = 0
    · exact num64_13_z w a b lz tz ha hb h0
    by_cases h1 : a * 2 % 18446744073709551616 = 0
    · by_cases h2 : a = 0
      · exact num64_13_b w a b lz tz ha hb h0 h2
      by_cases h3 : b = 18446744073709551615
      · exact num64_13_d w a b lz tz ha hb (by omega) h3
      · exact num64_13_c w a b lz tz ha hb h0 h1 h3 h2
    · exact num64_13_a w a b lz tz ha hb h0 h1
  · by_cases h0 : b = 0
    · exact num64_14_z w a b lz tz ha hb h0
    by_cases h1 : a * 2 % 18446744073709551616 = 0
    · by_cases h2 : a = 0
      · exact num64_14_b w a b lz tz ha hb h0 h2
      by_cases h3 : b = 18446744073709551615
      · exact num64_14_d w a b lz tz ha hb (by omega) h3
      · exact num64_14_c w a b lz tz ha hb h0 h1 h3 h2
    · exact num64_14_a w a b lz tz ha hb h0 h1
  · by_cases h0 : b = 0
    · exact num64_15_z w a b lz tz ha hb h0
    by_cases h1 : a * 2 % 18446744073709551616 = 0
    · by_cases h2 : a = 0
      · exact num64_15_b w a b lz tz ha hb h0 h2
      by_cases h3 : b = 18446744073709551615
      · exact num64_15_d w a b lz tz ha hb (by omega) h3
      · exact num64_15_c w a b lz tz ha hb h0 h1 h3 h2
    · exact num64_15_a w a b lz tz ha hb h0 h1
  · by_cases h0 : b = 0
    · exact num64_16_z w a b lz tz ha hb h0
    by_cases h1 : a * 2 % 18446744073709551616 = 0
    · by_cases h2 : a = 0
      · exact num64_16_b w a b lz tz ha hb h0 h2
      by_cases h3 : b = 18446744073709551615
      · exact num64_16_d w a b lz tz ha hb (by omega) h3
      · exact num64_16_c w a b lz tz ha hb h0 h1 h3 h2
    · exact num64_16_a w a b lz tz ha hb h0 h1
  · exact num64_17 w a b lz tz ha hb
  · exact num64_18 w a b lz tz ha hb
  · exact num64_19 w a b lz tz ha hb
  · exact num64_20 w a b lz tz ha hb
  · exact num64_21 w a b lz tz ha hb
  · exact num64_22 w a b lz tz ha hb
  · exact num64_23 w a b lz tz ha hb
  · exact num64_24 w a b lz tz ha hb

/-- What an instruction of numbers answers. -/
def doN (op a b : Nat) : Nat × Int :=
  if numOf op = false then (0, 1) else if 112 ≤ op then (turnN op a, 0) else if 80 ≤ op then numN 64 (op - 80) a b 0 0 else numN 32 (op - 48) (a % 4294967296) (b % 4294967296) 0 0
theorem numOf_range : ∀ op : Fin 256, numOf op.val = true → 48 ≤ op.val ∧ op.val ≤ 117 ∧ (op.val < 112 → 80 ≤ op.val → op.val ≤ 104) ∧ (op.val < 80 → op.val ≤ 72) := by decide +kernel

set_option maxRecDepth 100000 in
set_option maxHeartbeats 3200000 in
theorem nums_Do (w : World) (op a b : Nat) (ho : op < 256) (ha : a < 18446744073709551616) (hb : b < 18446744073709551616) (ht : Tb w) (h55 : op ≠ 55) (h56 : op ≠ 56) (h87 : op ≠ 87) (h88 : op ≠ 88) :
    Calls Tryd.prog 49 #[.int .u8 op, .int .u64 a, .int .u64 b] w fun e w' => e = .returned (.tuple #[.int .u64 ((doN op a b).1 : Int), .int .i8 (doN op a b).2]) ∧ Below w.heap.size w w' := by
  have HT := Lib.hid ht; clear ht
  have HN := Lib.hid (numOf_range ⟨op, ho⟩)
  cases h : numOf op with
  | false =>
    have HV : Hid (doN op a b = (0, 1)) := by show _ = _; rw [doN, if_pos h]
    go_enter Tryd.func49, Tryd.ntmps49
    go_wp2_with fail
    refine (nums_Of _ op ho HT.out).mono ?_
    rintro e w1 ⟨rfl, hb1⟩
    have HB := Lib.hid hb1; clear hb1
    go_wp2
    go_ret2
    rw [HV.out]
    exact ⟨rets2 rfl rfl, HB.out⟩
  | true =>
    obtain ⟨n1, n2, n3, n4⟩ := HN.out h
    simp only at n1 n2 n3 n4
    by_cases c1 : 112 ≤ op
    · have HV : Hid (doN op a b = (turnN op a, 0)) := by show _ = _; rw [doN, if_neg (by simp [h]), if_pos c1]
      clear n3 n4
      go_enter Tryd.func49, Tryd.ntmps49
      go_wp2_with fail
      refine (nums_Of _ op ho HT.out).mono ?_
      rintro e w1 ⟨rfl, hb1⟩
      have HB := Lib.hid hb1; clear hb1
      rw [h]; clear h
      go_wp2_with fail
      refine (nums_turned _ op a ho ha).mono ?_
      rintro e w2 ⟨rfl, rfl⟩
      generalize turnN op a = v at *
      go_wp2
      go_ret2
      rw [HV.out]
      exact ⟨rets2 rfl rfl, HB.out⟩
    by_cases c2 : 80 ≤ op
    · have HV : Hid (doN op a b = numN 64 (op - 80) a b 0 0) := by show _ = _; rw [doN, if_neg (by simp [h]), if_neg c1, if_pos c2]
      have n5 := n3 (by omega) c2
      have s1 : op - 80 ≤ 24 ∧ op - 80 ≠ 7 ∧ op - 80 ≠ 8 := by omega
      have HS := Lib.hid s1; clear s1
      have e8 : IntKind.u8.wrap ((op : Int) - 80) = ((op - 80 : Nat) : Int) := by rw [IntWalk.u8_in _ (by omega)]; omega
      have e9 : (op : Int) - 80 = ((op - 80 : Nat) : Int) := by omega
      clear n3 n4
      go_enter Tryd.func49, Tryd.ntmps49
      go_wp2_with fail
      refine (nums_Of _ op ho HT.out).mono ?_
      rintro e w1 ⟨rfl, hb1⟩
      have HB := Lib.hid hb1; clear hb1
      rw [h]; clear h
      go_wp2_with fail
      refine (number64 _ (op - 80) a b 0 0 HS.out.1 HS.out.2.1 HS.out.2.2 ha hb).mono ?_
      rintro e w2 ⟨rfl, rfl⟩
      generalize numN 64 (op - 80) a b 0 0 = v at *
      go_wp2
      go_ret2
      rw [HV.out]
      exact ⟨rets2 rfl rfl, HB.out⟩
    · have HV : Hid (doN op a b = numN 32 (op - 48) (a % 4294967296) (b % 4294967296) 0 0) := by show _ = _; rw [doN, if_neg (by simp [h]), if_neg c1, if_neg c2]
      have n5 := n4 (by omega)
      have e8 : IntKind.u8.wrap ((op : Int) - 48) = ((op - 48 : Nat) : Int) := by rw [IntWalk.u8_in _ (by omega)]; omega
      have e9 : (op : Int) - 48 = ((op - 48 : Nat) : Int) := by omega
      obtain ⟨a', ha'⟩ : ∃ x : Nat, x = a % 4294967296 := ⟨_, rfl⟩
      obtain ⟨b', hb'⟩ : ∃ x : Nat, x = b % 4294967296 := ⟨_, rfl⟩
      have s1 : op - 48 ≤ 24 ∧ op - 48 ≠ 7 ∧ op - 48 ≠ 8 ∧ a' < 4294967296 ∧ b' < 4294967296 := by omega
      have HS := Lib.hid s1; clear s1
      have ea : (a : Int) % 4294967296 = (a' : Int) := by omega
      have eb : (b : Int) % 4294967296 = (b' : Int) := by omega
      rw [← ha', ← hb'] at HV
      clear ha' hb'
      clear n3 n4
      go_enter Tryd.func49, Tryd.ntmps49
      go_wp2_with fail
      refine (nums_Of _ op ho HT.out).mono ?_
      rintro e w1 ⟨rfl, hb1⟩
      have HB := Lib.hid hb1; clear hb1
      rw [h]; clear h
      go_wp2_with fail
      refine (number32 _ (op - 48) a' b' 0 0 HS.out.1 HS.out.2.1 HS.out.2.2.1 HS.out.2.2.2.1 HS.out.2.2.2.2).mono ?_
      rintro e w2 ⟨rfl, rfl⟩
      generalize numN 32 (op - 48) a' b' 0 0 = v at *
      go_wp2
      go_ret2
      rw [HV.out]
      exact ⟨rets2 rfl rfl, HB.out⟩
end Go.Proofs.YtmlniifdipeboaaDoor
