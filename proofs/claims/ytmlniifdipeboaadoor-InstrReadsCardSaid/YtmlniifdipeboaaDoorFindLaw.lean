/- All opcodes and their words: plain. -/
import Derived.Test.YtmlniifdipeboaaDoorNums
namespace Go.Proofs.YtmlniifdipeboaaDoor
open Go Go.RowKit

/-- All opcodes, rising. -/
def allOps : List Nat := (List.range 256).filter isOp
/-- Those below a place. -/
def opsTo (n : Nat) : List Nat := (List.range n).filter isOp
theorem opsTo_succ (n : Nat) : opsTo (n + 1) = if isOp n then opsTo n ++ [n] else opsTo n := by
  unfold opsTo; rw [List.range_succ, List.filter_append]
  cases h : isOp n <;> simp [List.filter, h]
theorem opsTo_len (n : Nat) : (opsTo n).length ≤ n := by
  unfold opsTo; have := List.length_filter_le isOp (List.range n); simpa using this
def wordP (op : Nat) : List UInt8 := (progRow op).word
def findP (word : List UInt8) : Option Nat := allOps.find? fun op => decide (wordP op = word)
theorem all_len : allOps.length = 90 := by decide +kernel
theorem all_byte : ∀ x ∈ allOps, x < 256 ∧ isOp x = true := by
  intro x hx
  have := List.mem_filter.1 hx
  exact ⟨List.mem_range.1 this.1, this.2⟩
theorem find_word : ∀ op : Fin 256, isOp op.val = true → findP (wordP op.val) = some op.val := by decide +kernel
theorem words_apart {op other : Nat} (h1 : op < 256) (h2 : other < 256) (i1 : isOp op = true) (i2 : isOp other = true) (hne : op ≠ other) : wordP op ≠ wordP other := by
  intro e
  have a := find_word ⟨op, h1⟩ i1
  have b := find_word ⟨other, h2⟩ i2
  simp only at a b
  rw [e, b] at a
  exact hne (Option.some.inj a).symm
theorem all_once : ∀ op : Fin 256, isOp op.val = true → allOps.countP (fun x => x == op.val) = 1 := by decide +kernel
theorem all_rising : ∀ i : Fin 89, allOps.getD i.val 0 < allOps.getD (i.val + 1) 0 := by decide +kernel
theorem row_short : ∀ op : Fin 256, isOp op.val = true → (progRow op.val).pops.length ≤ 2 ∧ (progRow op.val).pushes.length ≤ 1 ∧ ((progRow op.val).plain = true ∨ ((progRow op.val).pops = [] ∧ (progRow op.val).pushes = [])) := by decide +kernel
end Go.Proofs.YtmlniifdipeboaaDoor
