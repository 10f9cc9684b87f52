/- ops.Of: the row of an opcode. ops.Of: every byte's row. All opcodes and their words: plain. -/
import Derived.Test.YtfhkjahjenpbgaaDoorMLib
import Derived.Test.YtfhkjahjenpbgaaDoorMOps3
namespace Go.Proofs.YtfhkjahjenpbgaaDoor
open Go Go.RowKit

/-- The row as the program makes it. -/
def progRow (op : Nat) : RowD := ⟨(sect op).2.2 ++ (sect op).2.1.getD (op - (sect op).1) [], takesP op, (plainP op).1, (plainP op).2.1, (plainP op).2.2⟩
theorem progRow_eq : ∀ op : Fin 256, rowOf op.val = if isOp op.val then some (progRow op.val) else none := by decide +kernel
def rowCells (op : Nat) (r : RowD) : List Value := [.int .u8 op, .string ⟨r.word.toArray⟩, .int .i8 r.takes, .string ⟨r.pops.toArray⟩, .string ⟨r.pushes.toArray⟩, .bool r.plain]
def zeroRow : List Value := [.int .u8 0, .string ⟨#[]⟩, .int .i8 0, .string ⟨#[]⟩, .string ⟨#[]⟩, .bool false]

theorem set6_row {w : World} {g : Nat} {o0 o1 o2 o3 o4 o5 : Value} {T : Nat} {fr : Nat × Nat} (h : w.heap[g]? = some (.cells #[o0, o1, o2, o3, o4, o5] T fr)) (v0 v1 v2 v3 v4 v5 : Value) :
    ((((((w.setCell ⟨g, 0, none⟩ v0).setCell ⟨g, 1, none⟩ v1).setCell ⟨g, 2, none⟩ v2).setCell ⟨g, 3, none⟩ v3).setCell ⟨g, 4, none⟩ v4).setCell ⟨g, 5, none⟩ v5).heap[g]? = some (.cells #[v0, v1, v2, v3, v4, v5] T fr) := by
  have h0 := row_setCell h 0 v0
  simp only [List.setIfInBounds_toArray, List.set_cons_zero] at h0
  have h1 := row_setCell h0 1 v1
  simp only [List.setIfInBounds_toArray, List.set_cons_zero, List.set_cons_succ] at h1
  have h2 := row_setCell h1 2 v2
  simp only [List.setIfInBounds_toArray, List.set_cons_zero, List.set_cons_succ] at h2
  have h3 := row_setCell h2 3 v3
  simp only [List.setIfInBounds_toArray, List.set_cons_zero, List.set_cons_succ] at h3
  have h4 := row_setCell h3 4 v4
  simp only [List.setIfInBounds_toArray, List.set_cons_zero, List.set_cons_succ] at h4
  have h5 := row_setCell h4 5 v5
  simp only [List.setIfInBounds_toArray, List.set_cons_zero, List.set_cons_succ] at h5
  exact h5
theorem set6_rowD {w : World} {g : Nat} {o0 o1 o2 o3 o4 o5 : Value} {T : Nat} {fr : Nat × Nat} (h : w.heap[g]? = some (.cells #[o0, o1, o2, o3, o4, o5] T fr)) (v0 v1 v2 v3 v4 v5 : Value) :
    ((((((w.setCell ⟨g, 0, none⟩ v0).setCell ⟨g, 1, none⟩ v1).setCell ⟨g, 2, none⟩ v2).setCell ⟨g, 3, none⟩ v3).setCell ⟨g, 4, none⟩ v4).setCell ⟨g, 5, none⟩ v5).drew.heap[g]? = some (.cells #[v0, v1, v2, v3, v4, v5] T fr) := by rw [heap_drew]; exact set6_row h v0 v1 v2 v3 v4 v5
theorem set6_keeps (w : World) (g : Nat) (v0 v1 v2 v3 v4 v5 : Value) : Keeps (fun x => x ≠ g) w ((((((w.setCell ⟨g, 0, none⟩ v0).setCell ⟨g, 1, none⟩ v1).setCell ⟨g, 2, none⟩ v2).setCell ⟨g, 3, none⟩ v3).setCell ⟨g, 4, none⟩ v4).setCell ⟨g, 5, none⟩ v5) :=
  (((((((Keeps.refl _ w).setCell (a := ⟨g, 0, none⟩) (by simp) v0).setCell (a := ⟨g, 1, none⟩) (by simp) v1).setCell (a := ⟨g, 2, none⟩) (by simp) v2).setCell (a := ⟨g, 3, none⟩) (by simp) v3).setCell (a := ⟨g, 4, none⟩) (by simp) v4).setCell (a := ⟨g, 5, none⟩) (by simp) v5)
theorem Tryd.cRow : Tryd.prog.cellsOf 132 = 6 := by kernel_rfl
theorem of_results {a : Act} {w : World} (g : Nat) (cs : Array Value) (u3 : Value) (hrow : w.heap[g]? = some (.cells cs 132 (0, 0))) (hsz : cs.size = 6) (h2 : a.tmps.getD 2 undef = .pointer (some ⟨g, 0, none⟩)) (h3 : a.tmps.getD 3 undef = u3) :
    (results Tryd.f55 a.tmps).run Tryd.prog w = .ok (.tuple #[.agg cs, u3]) w := by
  have hl := run_loadVar_row (P := Tryd.prog) w g 132 132 cs (0, 0) _ hrow Tryd.underlying132 rfl (by rw [hsz]; kernel_rfl)
  have h2' : a.tmps[2]?.getD undef = .pointer (some ⟨g, 0, none⟩) := by simpa using h2
  have h3' : a.tmps[3]?.getD undef = u3 := by simpa using h3
  simp [results, Tryd.results55, asAddr, h2', h3', hl]
theorem sect_len (op : Nat) : (sect op).2.1.length ≤ 1000 := by
  rw [sect]; repeat' split
  all_goals decide
theorem word_len : ∀ op : Fin 256, (sect op.val).2.2.length + ((sect op.val).2.1.getD (op.val - (sect op.val).1) []).length ≤ 1000 := by decide +kernel
theorem strs_cell {w : World} {B : Nat} {l : List (List UInt8)} (h : w.heap[B]? = some (.cells (strs l) 9 (0, 0))) {n : Nat} (hn : n < l.length) : w.cell? ⟨B, n, none⟩ = some (.string ⟨(l.getD n []).toArray⟩) :=
  row_cell h n (by simp [strs, hn])
theorem bytes_add (a b : List UInt8) : (⟨a.toArray⟩ : ByteArray) ++ ⟨b.toArray⟩ = ⟨(a ++ b).toArray⟩ := by
  apply ByteArray.ext; simp

set_option maxRecDepth 100000 in
set_option maxHeartbeats 3200000 in
theorem ops_Of_yes (w : World) (op : Nat) (ho : op < 256) (ht : Tb w) (h : isOp op = true) :
    Calls Tryd.prog 55 #[.int .u8 op] w fun e w' => e = .returned (.tuple #[.agg (rowCells op (progRow op)).toArray, .bool true]) ∧ Below w.heap.size w w' := by
  have HT := Lib.hid ht; clear ht
  have HP := Lib.hid h; clear h
  have hb0 := below_alloc w (.cells #[.int .u8 0, .string ⟨#[]⟩, .int .i8 0, .string ⟨#[]⟩, .string ⟨#[]⟩, .bool false] 132)
  have hr0 := heap_alloc_new w (.cells #[.int .u8 0, .string ⟨#[]⟩, .int .i8 0, .string ⟨#[]⟩, .string ⟨#[]⟩, .bool false] 132)
  have HB0 := Lib.hid hb0; have HR0 := Lib.hid hr0; clear hb0 hr0
  go_enter Tryd.func55, Tryd.ntmps55
  go_wp2_with fail
  have HT1 := Lib.hid (HT.out.bel HB0.out)
  generalize w.alloc (.cells #[.int .u8 0, .string ⟨#[]⟩, .int .i8 0, .string ⟨#[]⟩, .string ⟨#[]⟩, .bool false] 132) = w1 at *
  refine (ops_run_yes _ op ho HT1.out HP.out).mono ?_
  rintro e w2 ⟨B, rfl, hrow, hB, hb2⟩
  have hd : op - (sect op).1 < (sect op).2.1.length := by have := HP.out; simpa [isOp] using this
  have hcell := strs_cell hrow hd
  have hk : Hid ((sect op).2.1.length ≤ 1000) := Lib.hid (sect_len op)
  have HR2 := Lib.hid ((hb2.block _ (row_lt HR0.out)).trans HR0.out)
  have HB2 := Lib.hid (below_next HB0.out hb2)
  clear hrow hb2 HR0 HB0
  have HX : Hid (progRow op = ⟨(sect op).2.2 ++ (sect op).2.1.getD (op - (sect op).1) [], takesP op, (plainP op).1, (plainP op).2.1, (plainP op).2.2⟩) := Lib.hid rfl
  have hk' := hk.out
  have hax := word_len ⟨op, ho⟩
  simp only at hax
  generalize (sect op).2.1.length = L at *
  generalize (sect op).2.1.getD (op - (sect op).1) [] = x at *
  generalize (sect op).2.2 = ah at *
  generalize op - (sect op).1 = n at *
  go_wp2_with fail
  refine (ops_plain _ op ho).mono ?_
  rintro e w3 ⟨rfl, rfl⟩
  generalize (plainP op).1 = pp at *
  generalize (plainP op).2.1 = pu at *
  generalize (plainP op).2.2 = pl at *
  have g0 := row_cell HR2.out 0 rfl; have g1 := row_cell HR2.out 1 rfl; have g2 := row_cell HR2.out 2 rfl; have g3 := row_cell HR2.out 3 rfl; have g4 := row_cell HR2.out 4 rfl; have g5 := row_cell HR2.out 5 rfl
  have f0 := row_free HR2.out 0; have f1 := row_free HR2.out 1; have f2 := row_free HR2.out 2; have f3 := row_free HR2.out 3; have f4 := row_free HR2.out 4; have f5 := row_free HR2.out 5
  simp only [List.getElem_toArray, List.getElem_cons_zero, List.getElem_cons_succ] at g0 g1 g2 g3 g4 g5
  have hadd := bytes_add ah x
  have hnl : ¬ 9223372036854775807 < ah.length + x.length := by omega
  go_wp2_with fail
  go_still_tail 13, (by kernel_rfl)
  still_call (ops_takes _ op ho)
  repeat still_step
  refine wpStill_nil ?_
  go_wp2
  refine bodyPost_ret (of_results w.heap.size #[.int .u8 op, .string ⟨(ah ++ x).toArray⟩, .int .i8 (takesP op), .string ⟨pp.toArray⟩, .string ⟨pu.toArray⟩, .bool pl] (.bool true) (set6_rowD HR2.out _ _ _ _ _ _) rfl rfl rfl) rfl ?_
  exact ⟨by rw [HX.out]; rfl, HB2.out.trans (((set6_keeps _ w.heap.size _ _ _ _ _ _).below HB2.out.size fun x hx => by omega).drew)⟩

set_option maxRecDepth 100000 in
set_option maxHeartbeats 3200000 in
theorem ops_Of_no (w : World) (op : Nat) (ho : op < 256) (ht : Tb w) (h : isOp op = false) :
    Calls Tryd.prog 55 #[.int .u8 op] w fun e w' => e = .returned (.tuple #[.agg zeroRow.toArray, .bool false]) ∧ Below w.heap.size w w' := by
  have HT := Lib.hid ht; clear ht
  have HP := Lib.hid h; clear h
  have hb0 := below_alloc w (.cells #[.int .u8 0, .string ⟨#[]⟩, .int .i8 0, .string ⟨#[]⟩, .string ⟨#[]⟩, .bool false] 132)
  have hr0 := heap_alloc_new w (.cells #[.int .u8 0, .string ⟨#[]⟩, .int .i8 0, .string ⟨#[]⟩, .string ⟨#[]⟩, .bool false] 132)
  have HB0 := Lib.hid hb0; have HR0 := Lib.hid hr0; clear hb0 hr0
  go_enter Tryd.func55, Tryd.ntmps55
  go_wp2_with fail
  have HT1 := Lib.hid (HT.out.bel HB0.out)
  generalize w.alloc (.cells #[.int .u8 0, .string ⟨#[]⟩, .int .i8 0, .string ⟨#[]⟩, .string ⟨#[]⟩, .bool false] 132) = w1 at *
  refine (ops_run_no _ op ho HT1.out HP.out).mono ?_
  rintro e w2 ⟨rfl, hb2⟩
  have HR2 := Lib.hid ((hb2.block _ (row_lt HR0.out)).trans HR0.out)
  have HB2 := Lib.hid (below_next HB0.out hb2)
  clear hb2 HR0 HB0
  have g0 := row_cell HR2.out 0 rfl; have g1 := row_cell HR2.out 1 rfl; have g2 := row_cell HR2.out 2 rfl; have g3 := row_cell HR2.out 3 rfl; have g4 := row_cell HR2.out 4 rfl; have g5 := row_cell HR2.out 5 rfl
  have f0 := row_free HR2.out 0; have f1 := row_free HR2.out 1; have f2 := row_free HR2.out 2; have f3 := row_free HR2.out 3; have f4 := row_free HR2.out 4; have f5 := row_free HR2.out 5
  simp only [List.getElem_toArray, List.getElem_cons_zero, List.getElem_cons_succ] at g0 g1 g2 g3 g4 g5
  go_wp2
  refine bodyPost_ret (of_results w.heap.size #[.int .u8 0, .string ⟨#[]⟩, .int .i8 0, .string ⟨#[]⟩, .string ⟨#[]⟩, .bool false] (.bool false) (set6_row HR2.out _ _ _ _ _ _) rfl rfl rfl) rfl ?_
  exact ⟨rfl, HB2.out.trans ((set6_keeps _ w.heap.size _ _ _ _ _ _).below HB2.out.size fun x hx => by omega)⟩
end Go.Proofs.YtfhkjahjenpbgaaDoor
namespace Go.Proofs.YtfhkjahjenpbgaaDoor
open Go Go.RowKit

def rowVal (op : Nat) : List Value := if isOp op then rowCells op (progRow op) else zeroRow
theorem ops_Of (w : World) (op : Nat) (ho : op < 256) (ht : Tb w) :
    Calls Tryd.prog 55 #[.int .u8 op] w fun e w' => e = .returned (.tuple #[.agg (rowVal op).toArray, .bool (isOp op)]) ∧ Below w.heap.size w w' := by
  cases h : isOp op with
  | true => rw [rowVal, if_pos h]; exact ops_Of_yes w op ho ht h
  | false => rw [rowVal, if_neg (by simp [h])]; exact ops_Of_no w op ho ht h
theorem rowVal_open (op : Nat) : ∃ (x : Int) (s : ByteArray) (t : Int) (p q : ByteArray) (b : Bool), rowVal op = [.int .u8 x, .string s, .int .i8 t, .string p, .string q, .bool b] := by
  unfold rowVal; split <;> exact ⟨_, _, _, _, _, _, rfl⟩
end Go.Proofs.YtfhkjahjenpbgaaDoor
namespace Go.Proofs.YtfhkjahjenpbgaaDoor
open Go Go.RowKit

/-- All opcodes, rising. -/
def allOps : List Nat := (List.range 256).filter isOp
/-- Those below a place. -/
def opsTo (n : Nat) : List Nat := (List.range n).filter isOp
theorem opsTo_succ (n : Nat) : opsTo (n + 1) = if isOp n then opsTo n ++ [n] else opsTo n := by
  unfold opsTo; rw [List.range_succ, List.filter_append]
  cases h : isOp n <;> simp [List.filter, h]
theorem opsTo_len (n : Nat) : (opsTo n).length ≤ n := by
  unfold opsTo; have := List.length_filter_le isOp (List.range n); simpa using this
def wordP (op : Nat) : List UInt8 := (progRow op).word
def findP (word : List UInt8) : Option Nat := allOps.find? fun op => decide (wordP op = word)
theorem all_len : allOps.length = 90 := by decide +kernel
theorem all_byte : ∀ x ∈ allOps, x < 256 ∧ isOp x = true := by
  intro x hx
  have := List.mem_filter.1 hx
  exact ⟨List.mem_range.1 this.1, this.2⟩
theorem find_word : ∀ op : Fin 256, isOp op.val = true → findP (wordP op.val) = some op.val := by decide +kernel
theorem words_apart {op other : Nat} (h1 : op < 256) (h2 : other < 256) (i1 : isOp op = true) (i2 : isOp other = true) (hne : op ≠ other) : wordP op ≠ wordP other := by
  intro e
  have a := find_word ⟨op, h1⟩ i1
  have b := find_word ⟨other, h2⟩ i2
  simp only at a b
  rw [e, b] at a
  exact hne (Option.some.inj a).symm
theorem all_once : ∀ op : Fin 256, isOp op.val = true → allOps.countP (fun x => x == op.val) = 1 := by decide +kernel
theorem all_rising : ∀ i : Fin 89, allOps.getD i.val 0 < allOps.getD (i.val + 1) 0 := by decide +kernel
theorem row_short : ∀ op : Fin 256, isOp op.val = true → (progRow op.val).pops.length ≤ 2 ∧ (progRow op.val).pushes.length ≤ 1 ∧ ((progRow op.val).plain = true ∨ ((progRow op.val).pops = [] ∧ (progRow op.val).pushes = [])) := by decide +kernel
end Go.Proofs.YtfhkjahjenpbgaaDoor
