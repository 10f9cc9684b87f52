/- The table of instructions as plain data. ops.takes, ops.number, ops.plain. -/
import Derived.Test.YtfhkjahjenpbgaaDoorMLib
namespace Go.Proofs.YtfhkjahjenpbgaaDoor
open Go Go.RowKit

/-- A row: the word's bytes, which number, what it pops and pushes, plain. -/
structure RowD where
  word : List UInt8
  takes : Int
  pops : List UInt8
  pushes : List UInt8
  plain : Bool
deriving DecidableEq

def rowOf : Nat → Option RowD
  | 0 => some ⟨[116, 114, 97, 112], 0, [], [], false⟩
  | 1 => some ⟨[110, 111, 112], 0, [], [], true⟩
  | 2 => some ⟨[98, 108, 111, 99, 107], 1, [], [], false⟩
  | 3 => some ⟨[108, 111, 111, 112], 1, [], [], false⟩
  | 4 => some ⟨[105, 102], 1, [], [], false⟩
  | 5 => some ⟨[101, 108, 115, 101], 0, [], [], false⟩
  | 6 => some ⟨[101, 110, 100], 0, [], [], false⟩
  | 7 => some ⟨[98, 114], 2, [], [], false⟩
  | 8 => some ⟨[98, 114, 105, 102], 2, [], [], false⟩
  | 9 => some ⟨[98, 114, 116, 97, 98, 108, 101], 3, [], [], false⟩
  | 10 => some ⟨[114, 101, 116, 117, 114, 110], 0, [], [], false⟩
  | 11 => some ⟨[99, 97, 108, 108], 4, [], [], false⟩
  | 12 => some ⟨[104, 111, 115, 116], 5, [], [], false⟩
  | 16 => some ⟨[100, 114, 111, 112], 0, [], [], false⟩
  | 17 => some ⟨[115, 101, 108, 101, 99, 116], 0, [], [], false⟩
  | 18 => some ⟨[103, 101, 116], 6, [], [], false⟩
  | 19 => some ⟨[115, 101, 116], 6, [], [], false⟩
  | 20 => some ⟨[116, 101, 101], 6, [], [], false⟩
  | 21 => some ⟨[103, 103, 101, 116], 7, [], [], false⟩
  | 22 => some ⟨[103, 115, 101, 116], 7, [], [], false⟩
  | 24 => some ⟨[119, 46, 99, 111, 110, 115, 116], 8, [], [119], true⟩
  | 25 => some ⟨[108, 46, 99, 111, 110, 115, 116], 8, [], [108], true⟩
  | 32 => some ⟨[119, 46, 108, 111, 97, 100, 56, 117], 9, [119], [119], true⟩
  | 33 => some ⟨[119, 46, 108, 111, 97, 100, 56, 115], 9, [119], [119], true⟩
  | 34 => some ⟨[119, 46, 108, 111, 97, 100, 49, 54, 117], 9, [119], [119], true⟩
  | 35 => some ⟨[119, 46, 108, 111, 97, 100, 49, 54, 115], 9, [119], [119], true⟩
  | 36 => some ⟨[119, 46, 108, 111, 97, 100], 9, [119], [119], true⟩
  | 37 => some ⟨[108, 46, 108, 111, 97, 100], 9, [119], [108], true⟩
  | 38 => some ⟨[119, 46, 115, 116, 111, 114, 101, 56], 9, [119, 119], [], true⟩
  | 39 => some ⟨[119, 46, 115, 116, 111, 114, 101, 49, 54], 9, [119, 119], [], true⟩
  | 40 => some ⟨[119, 46, 115, 116, 111, 114, 101], 9, [119, 119], [], true⟩
  | 41 => some ⟨[108, 46, 115, 116, 111, 114, 101], 9, [119, 108], [], true⟩
  | 42 => some ⟨[115, 105, 122, 101], 0, [], [119], true⟩
  | 43 => some ⟨[103, 114, 111, 119], 0, [119], [119], true⟩
  | 48 => some ⟨[119, 46, 101, 113, 122], 0, [119], [119], true⟩
  | 49 => some ⟨[119, 46, 101, 113], 0, [119, 119], [119], true⟩
  | 50 => some ⟨[119, 46, 110, 101], 0, [119, 119], [119], true⟩
  | 51 => some ⟨[119, 46, 108, 116, 115], 0, [119, 119], [119], true⟩
  | 52 => some ⟨[119, 46, 108, 116, 117], 0, [119, 119], [119], true⟩
  | 53 => some ⟨[119, 46, 108, 101, 115], 0, [119, 119], [119], true⟩
  | 54 => some ⟨[119, 46, 108, 101, 117], 0, [119, 119], [119], true⟩
  | 55 => some ⟨[119, 46, 99, 108, 122], 0, [119], [119], true⟩
  | 56 => some ⟨[119, 46, 99, 116, 122], 0, [119], [119], true⟩
  | 57 => some ⟨[119, 46, 112, 111, 112], 0, [119], [119], true⟩
  | 58 => some ⟨[119, 46, 97, 100, 100], 0, [119, 119], [119], true⟩
  | 59 => some ⟨[119, 46, 115, 117, 98], 0, [119, 119], [119], true⟩
  | 60 => some ⟨[119, 46, 109, 117, 108], 0, [119, 119], [119], true⟩
  | 61 => some ⟨[119, 46, 100, 105, 118, 115], 0, [119, 119], [119], true⟩
  | 62 => some ⟨[119, 46, 100, 105, 118, 117], 0, [119, 119], [119], true⟩
  | 63 => some ⟨[119, 46, 114, 101, 109, 115], 0, [119, 119], [119], true⟩
  | 64 => some ⟨[119, 46, 114, 101, 109, 117], 0, [119, 119], [119], true⟩
  | 65 => some ⟨[119, 46, 97, 110, 100], 0, [119, 119], [119], true⟩
  | 66 => some ⟨[119, 46, 111, 114], 0, [119, 119], [119], true⟩
  | 67 => some ⟨[119, 46, 120, 111, 114], 0, [119, 119], [119], true⟩
  | 68 => some ⟨[119, 46, 115, 104, 108], 0, [119, 119], [119], true⟩
  | 69 => some ⟨[119, 46, 115, 104, 114, 115], 0, [119, 119], [119], true⟩
  | 70 => some ⟨[119, 46, 115, 104, 114, 117], 0, [119, 119], [119], true⟩
  | 71 => some ⟨[119, 46, 114, 111, 116, 108], 0, [119, 119], [119], true⟩
  | 72 => some ⟨[119, 46, 114, 111, 116, 114], 0, [119, 119], [119], true⟩
  | 80 => some ⟨[108, 46, 101, 113, 122], 0, [108], [119], true⟩
  | 81 => some ⟨[108, 46, 101, 113], 0, [108, 108], [119], true⟩
  | 82 => some ⟨[108, 46, 110, 101], 0, [108, 108], [119], true⟩
  | 83 => some ⟨[108, 46, 108, 116, 115], 0, [108, 108], [119], true⟩
  | 84 => some ⟨[108, 46, 108, 116, 117], 0, [108, 108], [119], true⟩
  | 85 => some ⟨[108, 46, 108, 101, 115], 0, [108, 108], [119], true⟩
  | 86 => some ⟨[108, 46, 108, 101, 117], 0, [108, 108], [119], true⟩
  | 87 => some ⟨[108, 46, 99, 108, 122], 0, [108], [108], true⟩
  | 88 => some ⟨[108, 46, 99, 116, 122], 0, [108], [108], true⟩
  | 89 => some ⟨[108, 46, 112, 111, 112], 0, [108], [108], true⟩
  | 90 => some ⟨[108, 46, 97, 100, 100], 0, [108, 108], [108], true⟩
  | 91 => some ⟨[108, 46, 115, 117, 98], 0, [108, 108], [108], true⟩
  | 92 => some ⟨[108, 46, 109, 117, 108], 0, [108, 108], [108], true⟩
  | 93 => some ⟨[108, 46, 100, 105, 118, 115], 0, [108, 108], [108], true⟩
  | 94 => some ⟨[108, 46, 100, 105, 118, 117], 0, [108, 108], [108], true⟩
  | 95 => some ⟨[108, 46, 114, 101, 109, 115], 0, [108, 108], [108], true⟩
  | 96 => some ⟨[108, 46, 114, 101, 109, 117], 0, [108, 108], [108], true⟩
  | 97 => some ⟨[108, 46, 97, 110, 100], 0, [108, 108], [108], true⟩
  | 98 => some ⟨[108, 46, 111, 114], 0, [108, 108], [108], true⟩
  | 99 => some ⟨[108, 46, 120, 111, 114], 0, [108, 108], [108], true⟩
  | 100 => some ⟨[108, 46, 115, 104, 108], 0, [108, 108], [108], true⟩
  | 101 => some ⟨[108, 46, 115, 104, 114, 115], 0, [108, 108], [108], true⟩
  | 102 => some ⟨[108, 46, 115, 104, 114, 117], 0, [108, 108], [108], true⟩
  | 103 => some ⟨[108, 46, 114, 111, 116, 108], 0, [108, 108], [108], true⟩
  | 104 => some ⟨[108, 46, 114, 111, 116, 114], 0, [108, 108], [108], true⟩
  | 112 => some ⟨[119, 46, 119, 114, 97, 112], 0, [108], [119], true⟩
  | 113 => some ⟨[108, 46, 101, 120, 116, 101, 110, 100, 115], 0, [119], [108], true⟩
  | 114 => some ⟨[108, 46, 101, 120, 116, 101, 110, 100, 117], 0, [119], [108], true⟩
  | 115 => some ⟨[119, 46, 101, 120, 116, 56], 0, [119], [119], true⟩
  | 116 => some ⟨[119, 46, 101, 120, 116, 49, 54], 0, [119], [119], true⟩
  | 117 => some ⟨[108, 46, 101, 120, 116, 51, 50], 0, [108], [108], true⟩
  | _ => none
def emptyRow : RowD := ⟨[], 0, [], [], false⟩
end Go.Proofs.YtfhkjahjenpbgaaDoor
namespace Go.Proofs.YtfhkjahjenpbgaaDoor
open Go Go.RowKit

def takesP (op : Nat) : Int :=
  if 2 ≤ op ∧ op ≤ 4 then 1 else if op = 7 ∨ op = 8 then 2 else if op = 9 then 3 else if op = 11 then 4 else if op = 12 then 5
  else if 18 ≤ op ∧ op ≤ 20 then 6 else if op = 21 ∨ op = 22 then 7 else if op = 24 ∨ op = 25 then 8 else if 32 ≤ op ∧ op ≤ 41 then 9 else 0

set_option maxRecDepth 100000 in
set_option maxHeartbeats 1600000 in
theorem ops_takes (w : World) (op : Nat) (ho : op < 256) :
    Calls Tryd.prog 68 #[.int .u8 op] w fun e w' => e = .returned (.int .i8 (takesP op)) ∧ w' = w := by
  go_enter Tryd.func68, Tryd.ntmps68
  go_wp2
  all_goals (go_ret; refine ⟨ret_int ?_, rfl⟩)
  all_goals
    (try simp only [beq_iff_eq, beq_eq_false_iff_ne, ne_eq] at *)
    first | (exfalso; omega) | (rw [takesP]; repeat (first | rfl | rw [if_pos (by omega)] | rw [if_neg (by omega)]))

def numberP (n : Nat) (l : List UInt8) : List UInt8 × List UInt8 :=
  if n = 0 then (l, [119]) else if 7 ≤ n ∧ n ≤ 9 then (l, l) else if n < 7 then (l ++ l, [119]) else (l ++ l, l)
def plainP (op : Nat) : List UInt8 × List UInt8 × Bool :=
  if op = 1 then ([], [], true) else if op = 24 ∨ op = 42 then ([], [119], true) else if op = 25 then ([], [108], true)
  else if 32 ≤ op ∧ op ≤ 36 ∨ op = 43 ∨ op = 115 ∨ op = 116 then ([119], [119], true) else if op = 37 ∨ op = 113 ∨ op = 114 then ([119], [108], true)
  else if 38 ≤ op ∧ op ≤ 40 then ([119, 119], [], true) else if op = 41 then ([119, 108], [], true) else if op = 112 then ([108], [119], true) else if op = 117 then ([108], [108], true)
  else if 80 ≤ op ∧ op < 112 then ((numberP (op - 80) [108]).1, (numberP (op - 80) [108]).2, true) else if 48 ≤ op ∧ op < 80 then ((numberP (op - 48) [119]).1, (numberP (op - 48) [119]).2, true) else ([], [], false)
theorem ret_str2 {a b c d : List UInt8} (h : (a, b) = (c, d)) : Ending.returned (.tuple #[.string ⟨a.toArray⟩, .string ⟨b.toArray⟩]) = .returned (.tuple #[.string ⟨c.toArray⟩, .string ⟨d.toArray⟩]) := by
  simp only [Prod.mk.injEq] at h; rw [h.1, h.2]

theorem rets2 {a b c d : Value} (h : a = c) (k : b = d) : Ending.returned (.tuple #[a, b]) = .returned (.tuple #[c, d]) := by rw [h, k]
theorem rets3 {a b c d e f : Value} (h : a = d) (k : b = e) (m : c = f) : Ending.returned (.tuple #[a, b, c]) = .returned (.tuple #[d, e, f]) := by rw [h, k, m]

set_option maxRecDepth 100000 in
set_option maxHeartbeats 1600000 in
theorem ops_number (w : World) (n : Nat) (hn : n < 256) (l : List UInt8) (hl : l = [108] ∨ l = [119]) :
    Calls Tryd.prog 75 #[.int .i64 n, .string ⟨l.toArray⟩] w fun e w' => e = .returned (.tuple #[.string ⟨(numberP n l).1.toArray⟩, .string ⟨(numberP n l).2.toArray⟩]) ∧ w' = w := by
  rcases hl with rfl | rfl
  all_goals
    go_enter Tryd.func75, Tryd.ntmps75
    go_wp2
    all_goals
      go_ret2
      refine ⟨rets2 ?_ ?_, rfl⟩
      all_goals
        (try simp only [beq_iff_eq, beq_eq_false_iff_ne, ne_eq] at *)
        first | (exfalso; omega) | (rw [numberP]; repeat (first | rfl | rw [if_pos (by omega)] | rw [if_neg (by omega)]))

set_option maxRecDepth 100000 in
set_option maxHeartbeats 6400000 in
theorem ops_plain (w : World) (op : Nat) (ho : op < 256) :
    Calls Tryd.prog 67 #[.int .u8 op] w fun e w' => e = .returned (.tuple #[.string ⟨(plainP op).1.toArray⟩, .string ⟨(plainP op).2.1.toArray⟩, .bool (plainP op).2.2]) ∧ w' = w := by
  by_cases h1 : 80 ≤ op ∧ op < 112
  · obtain ⟨h1, h2⟩ := h1
    have e : (((op : Int) - 80) : Int) = ((op - 80 : Nat) : Int) := by omega
    go_enter Tryd.func67, Tryd.ntmps67
    go_wp2_with (go_at_call 75; refine (ops_number _ _ (by omega) [108] (by simp)).mono ?_; rintro e w' ⟨rfl, rfl⟩)
    all_goals
      go_ret3
      refine ⟨rets3 ?_ ?_ ?_, rfl⟩
      all_goals
        (try simp only [beq_iff_eq, beq_eq_false_iff_ne, ne_eq] at *)
        first | (exfalso; omega) | (rw [plainP]; repeat (first | rfl | rw [if_pos (by omega)] | rw [if_neg (by omega)]))
  by_cases h2 : 48 ≤ op ∧ op < 80
  · obtain ⟨h3, h4⟩ := h2
    have e : (((op : Int) - 48) : Int) = ((op - 48 : Nat) : Int) := by omega
    go_enter Tryd.func67, Tryd.ntmps67
    go_wp2_with (go_at_call 75; refine (ops_number _ _ (by omega) [119] (by simp)).mono ?_; rintro e w' ⟨rfl, rfl⟩)
    all_goals
      go_ret3
      refine ⟨rets3 ?_ ?_ ?_, rfl⟩
      all_goals
        (try simp only [beq_iff_eq, beq_eq_false_iff_ne, ne_eq] at *)
        first | (exfalso; omega) | (rw [plainP]; repeat (first | rfl | rw [if_pos (by omega)] | rw [if_neg (by omega)]))
  · have h3 : op < 48 ∨ 112 ≤ op := by omega
    clear h1 h2
    rcases h3 with h3 | h3
    all_goals
      go_enter Tryd.func67, Tryd.ntmps67
      go_wp2_with fail
      all_goals
        go_ret3
        refine ⟨rets3 ?_ ?_ ?_, rfl⟩
        all_goals
          (try simp only [beq_iff_eq, beq_eq_false_iff_ne, ne_eq] at *)
          first | (exfalso; omega) | (rw [plainP]; repeat (first | rfl | rw [if_pos (by omega)] | rw [if_neg (by omega)]))
end Go.Proofs.YtfhkjahjenpbgaaDoor
