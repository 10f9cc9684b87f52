/- instr.bounds, within, Check; wire.Svar, ReadSvar. -/
import Derived.Test.YtmlniifdipeboaaDoorIns
import Derived.Test.YtmlniifdipeboaaDoorFindLaw
namespace Go.Proofs.YtmlniifdipeboaaDoor
open Go Go.RowKit

theorem word_const : ∀ op : Fin 256, takesP op.val = 8 → (op.val = 24 ↔ wordP op.val = [119, 46, 99, 111, 110, 115, 116]) := by decide +kernel
/-- An opcode's row, opened. -/
def irow (op : Nat) : Array Value := #[.int .u8 op, .string ⟨(wordP op).toArray⟩, .int .i8 (takesP op), .string ⟨(progRow op).pops.toArray⟩, .string ⟨(progRow op).pushes.toArray⟩, .bool (progRow op).plain]
theorem irow_eq (op : Nat) (h : isOp op = true) : (rowVal op).toArray = irow op := by
  rw [rowVal, if_pos h]; rfl
theorem rets2i {a b c d : Int} {k j : IntKind} (h : a = c) (e : b = d) : Ending.returned (.tuple #[.int k a, .int j b]) = .returned (.tuple #[.int k c, .int j d]) := by rw [h, e]

set_option maxRecDepth 100000 in
set_option maxHeartbeats 1600000 in
theorem instr_bounds (w : World) (op : Nat) (ho : op < 256) :
    Calls Tryd.prog 113 #[.agg (irow op)] w fun e w' => e = .returned (.tuple #[.int .i64 (boundsI op).1, .int .i64 (boundsI op).2]) ∧ Below w.heap.size w w' := by
  have hw := word_const ⟨op, ho⟩
  simp only at hw
  have HX : Hid (boundsI op = if takesP op = 1 ∨ takesP op = 2 ∨ takesP op = 4 ∨ takesP op = 5 ∨ takesP op = 6 ∨ takesP op = 7 then (0, 2147483647)
    else if takesP op = 9 then (0, 4294967295) else if takesP op = 8 then (if op = 24 then (-2147483648, 2147483647) else (-9223372036854775808, 9223372036854775807)) else (0, 0)) := Lib.hid rfl
  unfold irow
  generalize (progRow op).pops = pp at *
  generalize (progRow op).pushes = pu at *
  generalize (progRow op).plain = pl at *
  generalize wordP op = wd at *
  generalize takesP op = t at *
  by_cases h8 : t = 8
  · subst h8
    by_cases h24 : op = 24
    · have := (hw rfl).1 h24
      subst this
      have HY := HX.out; rw [if_neg (by omega), if_neg (by omega), if_pos rfl, if_pos h24] at HY
      clear HX hw
      go_enter Tryd.func113, Tryd.ntmps113
      go_wp2
      go_ret2
      exact ⟨rets2i (by rw [HY]) (by rw [HY]), below_alloc _ _⟩
    · have e3 : (wd == [119, 46, 99, 111, 110, 115, 116]) = false := by rw [beq_eq_false_iff_ne]; intro c; exact h24 ((hw rfl).2 c)
      have HY := HX.out; rw [if_neg (by omega), if_neg (by omega), if_pos rfl, if_neg h24] at HY
      clear HX hw
      go_enter Tryd.func113, Tryd.ntmps113
      go_wp2
      go_ret2
      exact ⟨rets2i (by rw [HY]) (by rw [HY]), below_alloc _ _⟩
  · have h8' : (t == 8) = false := by rw [beq_eq_false_iff_ne]; exact h8
    clear hw
    go_enter Tryd.func113, Tryd.ntmps113
    go_wp2
    all_goals go_ret2
    all_goals
      have HY := HX.out
      (try simp only [beq_iff_eq, beq_eq_false_iff_ne, ne_eq] at *)
      first
        | (rw [if_pos (by omega)] at HY; exact ⟨rets2i (by rw [HY]) (by rw [HY]), below_alloc _ _⟩)
        | (rw [if_neg (by omega), if_pos (by omega)] at HY; exact ⟨rets2i (by rw [HY]) (by rw [HY]), below_alloc _ _⟩)
        | (rw [if_neg (by omega), if_neg (by omega), if_neg (by omega)] at HY; exact ⟨rets2i (by rw [HY]) (by rw [HY]), below_alloc _ _⟩)

set_option maxRecDepth 100000 in
set_option maxHeartbeats 1600000 in
theorem instr_within (w : World) (op : Nat) (ho : op < 256) (n : Int) :
    Calls Tryd.prog 114 #[.agg (irow op), .int .i64 n] w fun e w' => e = .returned (.bool (inI op n)) ∧ Below w.heap.size w w' := by
  have H := fun w' : World => instr_bounds w' op ho
  have HH := Lib.hid H; clear H
  have HX : Hid (inI op n = decide ((boundsI op).1 ≤ n ∧ n ≤ (boundsI op).2)) := Lib.hid rfl
  generalize (boundsI op).1 = lo at *
  generalize (boundsI op).2 = hi at *
  have hsz : (irow op).size = 6 := rfl
  unfold irow at *
  generalize (progRow op).pops = pp at *
  generalize (progRow op).pushes = pu at *
  generalize (progRow op).plain = pl at *
  generalize wordP op = wd at *
  generalize takesP op = t at *
  go_enter Tryd.func114, Tryd.ntmps114
  have hb0 := below_alloc w (.cells #[.int .u8 op, .string ⟨wd.toArray⟩, .int .i8 t, .string ⟨pp.toArray⟩, .string ⟨pu.toArray⟩, .bool pl] 24)
  go_wp2_with fail
  refine (HH.out _).mono ?_
  rintro e w1 ⟨rfl, hb1⟩
  go_wp2
  all_goals
    go_ret
    exact ⟨ret_bool (by rw [HX.out]; simp; try omega), below_next hb0 hb1⟩
end Go.Proofs.YtmlniifdipeboaaDoor
