/- ops.takes, ops.number, ops.plain. -/
import Derived.Test.YtmlniifdipeboaaDoorTab
namespace Go.Proofs.YtmlniifdipeboaaDoor
open Go Go.RowKit

def takesP (op : Nat) : Int :=
  if 2 ≤ op ∧ op ≤ 4 then 1 else if op = 7 ∨ op = 8 then 2 else if op = 9 then 3 else if op = 11 then 4 else if op = 12 then 5
  else if 18 ≤ op ∧ op ≤ 20 then 6 else if op = 21 ∨ op = 22 then 7 else if op = 24 ∨ op = 25 then 8 else if 32 ≤ op ∧ op ≤ 41 then 9 else 0

set_option maxRecDepth 100000 in
set_option maxHeartbeats 1600000 in
theorem ops_takes (w : World) (op : Nat) (ho : op < 256) :
    Calls Tryd.prog 80 #[.int .u8 op] w fun e w' => e = .returned (.int .i8 (takesP op)) ∧ w' = w := by
  go_enter Tryd.func80, Tryd.ntmps80
  go_wp2
  all_goals (go_ret; refine ⟨ret_int ?_, rfl⟩)
  all_goals
    (try simp only [beq_iff_eq, beq_eq_false_iff_ne, ne_eq] at *)
    first | (exfalso; omega) | (rw [takesP]; repeat (first | rfl | rw [if_pos (by omega)] | rw [if_neg (by omega)]))

def numberP (n : Nat) (l : List UInt8) : List UInt8 × List UInt8 :=
  if n = 0 then (l, [119]) else if 7 ≤ n ∧ n ≤ 9 then (l, l) else if n < 7 then (l ++ l, [119]) else (l ++ l, l)
def plainP (op : Nat) : List UInt8 × List UInt8 × Bool :=
  if op = 1 then ([], [], true) else if op = 24 ∨ op = 42 then ([], [119], true) else if op = 25 then ([], [108], true)
  else if 32 ≤ op ∧ op ≤ 36 ∨ op = 43 ∨ op = 115 ∨ op = 116 then ([119], [119], true) else if op = 37 ∨ op = 113 ∨ op = 114 then ([119], [108], true)
  else if 38 ≤ op ∧ op ≤ 40 then ([119, 119], [], true) else if op = 41 then ([119, 108], [], true) else if op = 112 then ([108], [119], true) else if op = 117 then ([108], [108], true)
  else if 80 ≤ op ∧ op < 112 then ((numberP (op - 80) [108]).1, (numberP (op - 80) [108]).2, true) else if 48 ≤ op ∧ op < 80 then ((numberP (op - 48) [119]).1, (numberP (op - 48) [119]).2, true) else ([], [], false)
theorem ret_str2 {a b c d : List UInt8} (h : (a, b) = (c, d)) : Ending.returned (.tuple #[.string ⟨a.toArray⟩, .string ⟨b.toArray⟩]) = .returned (.tuple #[.string ⟨c.toArray⟩, .string ⟨d.toArray⟩]) := by
  simp only [Prod.mk.injEq] at h; rw [h.1, h.2]

theorem rets2 {a b c d : Value} (h : a = c) (k : b = d) : Ending.returned (.tuple #[a, b]) = .returned (.tuple #[c, d]) := by rw [h, k]
theorem rets3 {a b c d e f : Value} (h : a = d) (k : b = e) (m : c = f) : Ending.returned (.tuple #[a, b, c]) = .returned (.tuple #[d, e, f]) := by rw [h, k, m]

set_option maxRecDepth 100000 in
set_option maxHeartbeats 1600000 in
theorem ops_number (w : World) (n : Nat) (hn : n < 256) (l : List UInt8) (hl : l = [108] ∨ l = [119]) :
    Calls Tryd.prog 138 #[.int .i64 n, .string ⟨l.toArray⟩] w fun e w' => e = .returned (.tuple #[.string ⟨(numberP n l).1.toArray⟩, .string ⟨(numberP n l).2.toArray⟩]) ∧ w' = w := by
  rcases hl with rfl | rfl
  all_goals
    go_enter Tryd.func138, Tryd.ntmps138
    go_wp2
    all_goals
      go_ret2
      refine ⟨rets2 ?_ ?_, rfl⟩
      all_goals
        (try simp only [beq_iff_eq, beq_eq_false_iff_ne, ne_eq] at *)
        first | (exfalso; omega) | (rw [numberP]; repeat (first | rfl | rw [if_pos (by omega)] | rw [if_neg (by omega)]))

set_option maxRecDepth 100000 in
set_option maxHeartbeats 6400000 in
theorem ops_plain (w : World) (op : Nat) (ho : op < 256) :
    Calls Tryd.prog 79 #[.int .u8 op] w fun e w' => e = .returned (.tuple #[.string ⟨(plainP op).1.toArray⟩, .string ⟨(plainP op).2.1.toArray⟩, .bool (plainP op).2.2]) ∧ w' = w := by
  by_cases h1 : 80 ≤ op ∧ op < 112
  · obtain ⟨h1, h2⟩ := h1
    have e : (((op : Int) - 80) : Int) = ((op - 80 : Nat) : Int) := by omega
    go_enter Tryd.func79, Tryd.ntmps79
    go_wp2_with (go_at_call 138; refine (ops_number _ _ (by omega) [108] (by simp)).mono ?_; rintro e w' ⟨rfl, rfl⟩)
    all_goals
      go_ret3
      refine ⟨rets3 ?_ ?_ ?_, rfl⟩
      all_goals
        (try simp only [beq_iff_eq, beq_eq_false_iff_ne, ne_eq] at *)
        first | (exfalso; omega) | (rw [plainP]; repeat (first | rfl | rw [if_pos (by omega)] | rw [if_neg (by omega)]))
  by_cases h2 : 48 ≤ op ∧ op < 80
  · obtain ⟨h3, h4⟩ := h2
    have e : (((op : Int) - 48) : Int) = ((op - 48 : Nat) : Int) := by omega
    go_enter Tryd.func79, Tryd.ntmps79
    go_wp2_with (go_at_call 138; refine (ops_number _ _ (by omega) [119] (by simp)).mono ?_; rintro e w' ⟨rfl, rfl⟩)
    all_goals
      go_ret3
      refine ⟨rets3 ?_ ?_ ?_, rfl⟩
      all_goals
        (try simp only [beq_iff_eq, beq_eq_false_iff_ne, ne_eq] at *)
        first | (exfalso; omega) | (rw [plainP]; repeat (first | rfl | rw [if_pos (by omega)] | rw [if_neg (by omega)]))
  · have h3 : op < 48 ∨ 112 ≤ op := by omega
    clear h1 h2
    rcases h3 with h3 | h3
    all_goals
      go_enter Tryd.func79, Tryd.ntmps79
      go_wp2_with fail
      all_goals
        go_ret3
        refine ⟨rets3 ?_ ?_ ?_, rfl⟩
        all_goals
          (try simp only [beq_iff_eq, beq_eq_false_iff_ne, ne_eq] at *)
          first | (exfalso; omega) | (rw [plainP]; repeat (first | rfl | rw [if_pos (by omega)] | rw [if_neg (by omega)]))
end Go.Proofs.YtmlniifdipeboaaDoor
