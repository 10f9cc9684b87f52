/- flagonlaw07.NumsTurn, walked. -/
import Derived.Test.YtmlniifdipeboaaDoorVal
namespace Go.Proofs.YtmlniifdipeboaaDoor
open Go Go.RowKit

theorem val_turn {op : Nat} (a b : Nat) (h : 112 ≤ op) (hn : numOf op = true) : val op a b = turnN op a := by
  rw [val, doN, if_neg (by simp [hn]), if_pos h]
theorem t112 (a b : Nat) : val 112 a b = a % 4294967296 := by rw [val_turn _ _ (by decide) (by decide), turnN]; rfl
theorem t114 (a b : Nat) : val 114 a b = a % 4294967296 := by rw [val_turn _ _ (by decide) (by decide), turnN]; rfl
theorem t113 (a b : Nat) : val 113 a b = un 64 (sg 32 (a % 4294967296)) := by rw [val_turn _ _ (by decide) (by decide), turnN]; rfl
theorem t117 (a b : Nat) : val 117 a b = un 64 (sg 32 (a % 4294967296)) := by rw [val_turn _ _ (by decide) (by decide), turnN]; rfl
theorem t115 (a b : Nat) : val 115 a b = un 32 (sg 8 (a % 256)) := by rw [val_turn _ _ (by decide) (by decide), turnN]; rfl
theorem t116 (a b : Nat) : val 116 a b = un 32 (sg 16 (a % 65536)) := by rw [val_turn _ _ (by decide) (by decide), turnN]; rfl
theorem ext32 {m : Nat} (h : m < 4294967296) : un 64 (sg 32 m) = if m < 2147483648 then m else m + 18446744069414584320 := by
  unfold un sg; split <;> (try split) <;> omega
theorem ext8 {m : Nat} (h : m < 256) : un 32 (sg 8 m) = if m < 128 then m else m + 4294967040 := by
  unfold un sg; split <;> (try split) <;> omega
theorem ext16 {m : Nat} (h : m < 65536) : un 32 (sg 16 m) = if m < 32768 then m else m + 4294901760 := by
  unfold un sg; split <;> (try split) <;> omega
theorem mask_and (a k : Nat) (ha : a < 18446744073709551616) (hk : k ≤ 64) (M : Int) (hM : ((2 ^ k - 1 : Nat) : Int) = M) : bits .and .u64 (a : Int) M = ((a % 2 ^ k : Nat) : Int) := by
  rw [← hM, bits_and_u64_nat a _ ha (by have : 2 ^ k ≤ 2 ^ 64 := Nat.pow_le_pow_right (by omega) hk; omega), Nat.and_two_pow_sub_one_eq_mod]

set_option maxRecDepth 100000 in
set_option maxHeartbeats 1600000 in
theorem law_alike (w : World) (v : Nat) (n : Int) (k : Nat) (hn : n = k + 1) (hk : k ≤ 30) (_hv : v < 4294967296) (h : v / 2 ^ k = 0 ∨ v / 2 ^ k = 4294967295 / 2 ^ k) :
    Calls Tryd.prog 57 #[.int .u64 v, .int .i64 n] w fun e w' => e = .returned (.bool true) ∧ w' = w := by
  subst hn
  obtain ⟨x, hx⟩ : ∃ x : Nat, x = v / 2 ^ k := ⟨_, rfl⟩
  have e1 : ((v : Int) / 2 ^ k) = (x : Int) := by rw [hx]; simp
  have H := Lib.hid h
  rw [← hx] at H
  clear h hx
  have hk0 : 0 ≤ (k : Int) := by omega
  go_enter Tryd.func57, Tryd.ntmps57
  have e2 : (4294967295 : Int) / 2 ^ k = ((4294967295 / 2 ^ k : Nat) : Int) := by simp
  have HE := Lib.hid e2; clear e2
  go_wp2
  all_goals
    go_ret
    refine ⟨ret_bool ?_, rfl⟩
    first
      | rfl
      | (rw [HE.out]; rcases H.out with h | h <;> simp [h])

set_option maxRecDepth 100000 in
set_option maxHeartbeats 6400000 in
theorem law_turn (w : World) (a : Nat) (ha : a < 18446744073709551616) (ht : Tb w) :
    Calls Tryd.prog 11 #[.int .u64 a] w fun e w' => e = .returned (.bool true) ∧ Below w.heap.size w w' := by
  obtain ⟨m, hm⟩ : ∃ m, m = a % 4294967296 := ⟨_, rfl⟩
  obtain ⟨b8, hb8⟩ : ∃ m, m = un 32 (sg 8 (a % 256)) := ⟨_, rfl⟩
  obtain ⟨h16, hh16⟩ : ∃ m, m = un 32 (sg 16 (a % 65536)) := ⟨_, rfl⟩
  have x8 := ext8 (m := a % 256) (by omega)
  have x16 := ext16 (m := a % 65536) (by omega)
  have lm : m < 4294967296 := by omega
  have q8 : b8 < 4294967296 ∧ b8 % 256 = a % 256 ∧ (b8 / 2 ^ 7 = 0 ∨ b8 / 2 ^ 7 = 4294967295 / 2 ^ 7) := by rw [hb8, x8]; split <;> omega
  have q16 : h16 < 4294967296 ∧ h16 % 65536 = a % 65536 ∧ (h16 / 2 ^ 15 = 0 ∨ h16 / 2 ^ 15 = 4294967295 / 2 ^ 15) := by rw [hh16, x16]; split <;> omega
  have l8 := q8.1; have l16 := q16.1
  have E1 : val 112 a 0 = m := by rw [t112, ← hm]
  have E2 : val 114 a 0 = m := by rw [t114, ← hm]
  have E3 : val 112 m 0 = m := by rw [t112]; exact Nat.mod_eq_of_lt lm
  have E4 : val 115 a 0 = b8 := by rw [t115, ← hb8]
  have E5 : val 116 a 0 = h16 := by rw [t116, ← hh16]
  have E6 : val 115 b8 0 = b8 := by rw [t115, q8.2.1, ← hb8]
  have E7 : val 116 h16 0 = h16 := by rw [t116, q16.2.1, ← hh16]
  have M1 := mask_and a 32 ha (by omega) 4294967295 rfl
  have M2 := mask_and a 8 ha (by omega) 255 rfl
  have M3 := mask_and b8 8 (by omega) (by omega) 255 rfl
  have M4 := mask_and a 16 ha (by omega) 65535 rfl
  have M5 := mask_and h16 16 (by omega) (by omega) 65535 rfl
  rw [show (2 : Nat) ^ 8 = 256 from rfl, q8.2.1, ← show (2 : Nat) ^ 8 = 256 from rfl] at M3
  rw [show (2 : Nat) ^ 16 = 65536 from rfl, q16.2.1, ← show (2 : Nat) ^ 16 = 65536 from rfl] at M5
  rw [show a % 2 ^ 32 = m from hm.symm] at M1
  generalize a % 2 ^ 8 = c8 at *
  generalize a % 2 ^ 16 = c16 at *
  have HT := Lib.hid (Wd.refl ht)
  have HQ := Lib.hid (And.intro q8 q16)
  have F1 : val 113 a 0 = un 64 (sg 32 m) := by rw [t113, ← hm]
  have F2 : val 117 a 0 = un 64 (sg 32 m) := by rw [t117, ← hm]
  have xm := ext32 lm
  clear q8 q16 x8 x16 hb8 hh16 hm ht
  by_cases hlo : m < 2147483648
  · rw [xm, if_pos hlo] at F1 F2
    have F3 : val 117 m 0 = m := by rw [t117, Nat.mod_eq_of_lt lm, xm, if_pos hlo]
    have F4 : (m : Int) / 2147483648 = 0 := by omega
    clear xm
    go_enter Tryd.func11, Tryd.ntmps11
    have hs := HT.out
    go_wp2_with (first
      | (go_at_call 56; refine (law_value w _ _ _ _ _ rfl (by decide) (by first | assumption | omega) (by first | assumption | omega | decide) (by assumption)).mono ?_; rintro e w' ⟨rfl, hs'⟩))
    refine (law_alike _ b8 8 7 rfl (by omega) l8 HQ.out.1.2.2).mono ?_
    rintro e w' ⟨rfl, rfl⟩
    go_wp2_with fail
    refine (law_alike _ h16 16 15 rfl (by omega) l16 HQ.out.2.2.2).mono ?_
    rintro e w' ⟨rfl, rfl⟩
    go_wp2_with fail
    refine (law_works07 w _ (by assumption)).mono ?_
    rintro e w' ⟨rfl, hsz⟩
    go_wp2
    go_ret
    exact ⟨rfl, hsz.bel⟩
  · have F3 : val 117 (m + 18446744069414584320) 0 = m + 18446744069414584320 := by rw [t117, show (m + 18446744069414584320) % 4294967296 = m by omega, xm, if_neg hlo]
    have F5 : val 112 (m + 18446744069414584320) 0 = m := by rw [t112]; omega
    rw [xm, if_neg hlo] at F1 F2
    have F4 : ((m : Int) / 2147483648 == 0) = false := by rw [beq_eq_false_iff_ne]; omega
    have ls : m + 18446744069414584320 < 18446744073709551616 := by omega
    have F6 : bits .or .u64 (m : Int) 18446744069414584320 = ((m + 18446744069414584320 : Nat) : Int) := by
      rw [show (18446744069414584320 : Int) = ((18446744069414584320 : Nat) : Int) from rfl, bits_or_u64_nat m _ (by omega) (by decide)]
      have := or_add (x := 4294967295) (y := m) (k := 32) lm
      rw [show 4294967295 * 2 ^ 32 = 18446744069414584320 from rfl] at this
      rw [Nat.or_comm, this, Nat.add_comm]
    have F7 : (((m + 18446744069414584320 : Nat) : Int) == (m : Int)) = false := by rw [beq_eq_false_iff_ne]; omega
    generalize m + 18446744069414584320 = s at *
    clear xm
    go_enter Tryd.func11, Tryd.ntmps11
    have hs := HT.out
    go_wp2_with (first
      | (go_at_call 56; refine (law_value w _ _ _ _ _ rfl (by decide) (by first | assumption | omega) (by first | assumption | omega | decide) (by assumption)).mono ?_; rintro e w' ⟨rfl, hs'⟩))
    refine (law_alike _ b8 8 7 rfl (by omega) l8 HQ.out.1.2.2).mono ?_
    rintro e w' ⟨rfl, rfl⟩
    go_wp2_with fail
    refine (law_alike _ h16 16 15 rfl (by omega) l16 HQ.out.2.2.2).mono ?_
    rintro e w' ⟨rfl, rfl⟩
    go_wp2_with fail
    refine (law_works07 w _ (by assumption)).mono ?_
    rintro e w' ⟨rfl, hsz⟩
    go_wp2
    go_ret
    exact ⟨rfl, hsz.bel⟩
end Go.Proofs.YtmlniifdipeboaaDoor
