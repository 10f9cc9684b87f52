/- ops.run and its closure. ops.run: the words of the run that an opcode lies in. -/
import Derived.Test.YtfhkjahjenpbgaaDoorMOps
import Derived.Test.YtfhkjahjenpbgaaDoorShelf
import Derived.Lib.LaidTab
namespace Go.Proofs.YtfhkjahjenpbgaaDoor
open Go Go.RowKit

/-- The library's table of blanks lies. -/
def Tb (w : World) : Prop := Lib.TabIs Tryd.prog w "strings.asciiSpace" .u8 Lib.asciiSpaceTab
theorem Tb.bel {w w' : World} (h : Tb w) (hb : Below w.heap.size w w') : Tb w' := by
  unfold Tb Lib.TabIs World.var? at *
  obtain ⟨g, hg, h1⟩ := Option.bind_eq_some_iff.1 h
  refine Option.bind_eq_some_iff.2 ⟨g, hg, ?_⟩
  split at h1
  · rename_i cs T fr hr
    rw [hb.block g (row_lt hr), hr]
    exact h1
  · simp at h1

theorem ret3 {a b c d e f : Value} (h : a = d) (k : b = e) (m : c = f) : Ending.returned (.tuple #[a, b, c]) = .returned (.tuple #[d, e, f]) := by rw [h, k, m]
def strs (l : List (List UInt8)) : Array Value := (l.map fun x => Value.string ⟨x.toArray⟩).toArray

set_option maxRecDepth 100000 in
set_option maxHeartbeats 1600000 in
theorem ops_find_yes (w : World) (b op frm : Nat) (s ahead : ByteArray) (l : List (List UInt8)) (ho : op < 256) (hf : frm ≤ op) (hc : w.cell? ⟨b, 0, none⟩ = some (.int .u8 op)) (ht : Tb w)
    (hs : s.size < 4294967281) (ha : ∀ (j : Nat) b, s.data.toList[j]? = some b → b.toNat < 128) (hl : Lib.fields s.data.toList = l) (hll : l.length ≤ 1000) (hd : op - frm < l.length) :
    Calls Tryd.prog 73 #[.int .u8 frm, .string s, .string ahead, .pointer (some ⟨b, 0, none⟩)] w fun e w' =>
      e = .returned (.tuple #[.slice (some ⟨w.heap.size, 0, none⟩) l.length l.length, .int .i64 ((op - frm : Nat) : Int), .string ahead]) ∧
      ∃ n, w' = (w.alloc (.cells (strs l) 9)).drewN n := by
  have HT := Lib.hid ht; have HA := Lib.hid ha; have HL := Lib.hid hl; clear ht ha hl
  have e8 : IntKind.u8.wrap ((op : Int) - frm) = ((op - frm : Nat) : Int) := by rw [IntWalk.u8_in _ (by omega)]; omega
  have e6 : IntKind.i64.wrap ((op - frm : Nat) : Int) = ((op - frm : Nat) : Int) := IntWalk.i64_in _ (by omega)
  go_enter Tryd.func73, Tryd.ntmps73
  go_wp2_with fail
  refine (Tryd.strings_Fields_laid s _ hs HA.out HT.out).mono ?_
  rintro e w1 ⟨rfl, rfl⟩
  rw [HL.out]
  have hc1 : (w.alloc (.cells (strs l) 9)).cell? ⟨b, 0, none⟩ = some (.int .u8 op) := cell_below (below_alloc _ _) hc
  change _
  have HS : Hid (w.alloc (.cells (l.map fun x => Value.string ⟨x.toArray⟩).toArray 9) = w.alloc (.cells (strs l) 9)) := rfl
  generalize w.alloc (.cells (l.map fun x => Value.string ⟨x.toArray⟩).toArray 9) = W1 at *
  rw [← HS.out] at hc1
  go_wp2_with fail
  go_quiet (fail)
  go_wp2
  go_ret3
  exact ⟨rfl, _, by rw [← HS.out]⟩
set_option maxRecDepth 100000 in
set_option maxHeartbeats 1600000 in
theorem ops_find_no (w : World) (b op frm : Nat) (s ahead : ByteArray) (l : List (List UInt8)) (ho : op < 256) (hf : frm ≤ op) (hc : w.cell? ⟨b, 0, none⟩ = some (.int .u8 op)) (ht : Tb w)
    (hs : s.size < 4294967281) (ha : ∀ (j : Nat) b, s.data.toList[j]? = some b → b.toNat < 128) (hl : Lib.fields s.data.toList = l) (_hll : l.length ≤ 1000) (hd : l.length ≤ op - frm) :
    Calls Tryd.prog 73 #[.int .u8 frm, .string s, .string ahead, .pointer (some ⟨b, 0, none⟩)] w fun e w' =>
      e = .returned (.tuple #[.slice none 0 0, .int .i64 (-1), .string ⟨#[]⟩]) ∧
      ∃ n, w' = (w.alloc (.cells (strs l) 9)).drewN n := by
  have HT := Lib.hid ht; have HA := Lib.hid ha; have HL := Lib.hid hl; clear ht ha hl
  have e8 : IntKind.u8.wrap ((op : Int) - frm) = ((op - frm : Nat) : Int) := by rw [IntWalk.u8_in _ (by omega)]; omega
  have e6 : IntKind.i64.wrap ((op - frm : Nat) : Int) = ((op - frm : Nat) : Int) := IntWalk.i64_in _ (by omega)
  go_enter Tryd.func73, Tryd.ntmps73
  go_wp2_with fail
  refine (Tryd.strings_Fields_laid s _ hs HA.out HT.out).mono ?_
  rintro e w1 ⟨rfl, rfl⟩
  rw [HL.out]
  have hc1 : (w.alloc (.cells (strs l) 9)).cell? ⟨b, 0, none⟩ = some (.int .u8 op) := cell_below (below_alloc _ _) hc
  change _
  have HS : Hid (w.alloc (.cells (l.map fun x => Value.string ⟨x.toArray⟩).toArray 9) = w.alloc (.cells (strs l) 9)) := rfl
  generalize w.alloc (.cells (l.map fun x => Value.string ⟨x.toArray⟩).toArray 9) = W1 at *
  rw [← HS.out] at hc1
  go_wp2_with fail
  go_ret3
  exact ⟨rfl, 0, by rw [← HS.out]; rfl⟩
end Go.Proofs.YtfhkjahjenpbgaaDoor
namespace Go.Proofs.YtfhkjahjenpbgaaDoor
open Go Go.RowKit

def w_low : List (List UInt8) := [[116, 114, 97, 112], [110, 111, 112], [98, 108, 111, 99, 107], [108, 111, 111, 112], [105, 102], [101, 108, 115, 101], [101, 110, 100], [98, 114], [98, 114, 105, 102], [98, 114, 116, 97, 98, 108, 101], [114, 101, 116, 117, 114, 110], [99, 97, 108, 108], [104, 111, 115, 116]]
def w_stack : List (List UInt8) := [[100, 114, 111, 112], [115, 101, 108, 101, 99, 116], [103, 101, 116], [115, 101, 116], [116, 101, 101], [103, 103, 101, 116], [103, 115, 101, 116]]
def w_consts : List (List UInt8) := [[119, 46, 99, 111, 110, 115, 116], [108, 46, 99, 111, 110, 115, 116]]
def w_memory : List (List UInt8) := [[119, 46, 108, 111, 97, 100, 56, 117], [119, 46, 108, 111, 97, 100, 56, 115], [119, 46, 108, 111, 97, 100, 49, 54, 117], [119, 46, 108, 111, 97, 100, 49, 54, 115], [119, 46, 108, 111, 97, 100], [108, 46, 108, 111, 97, 100], [119, 46, 115, 116, 111, 114, 101, 56], [119, 46, 115, 116, 111, 114, 101, 49, 54], [119, 46, 115, 116, 111, 114, 101], [108, 46, 115, 116, 111, 114, 101], [115, 105, 122, 101], [103, 114, 111, 119]]
def w_numbers : List (List UInt8) := [[101, 113, 122], [101, 113], [110, 101], [108, 116, 115], [108, 116, 117], [108, 101, 115], [108, 101, 117], [99, 108, 122], [99, 116, 122], [112, 111, 112], [97, 100, 100], [115, 117, 98], [109, 117, 108], [100, 105, 118, 115], [100, 105, 118, 117], [114, 101, 109, 115], [114, 101, 109, 117], [97, 110, 100], [111, 114], [120, 111, 114], [115, 104, 108], [115, 104, 114, 115], [115, 104, 114, 117], [114, 111, 116, 108], [114, 111, 116, 114]]
def w_turns : List (List UInt8) := [[119, 46, 119, 114, 97, 112], [108, 46, 101, 120, 116, 101, 110, 100, 115], [108, 46, 101, 120, 116, 101, 110, 100, 117], [119, 46, 101, 120, 116, 56], [119, 46, 101, 120, 116, 49, 54], [108, 46, 101, 120, 116, 51, 50]]
def sect (op : Nat) : Nat × List (List UInt8) × List UInt8 :=
  if op < 16 then (0, w_low, []) else if op < 24 then (16, w_stack, []) else if op < 32 then (24, w_consts, []) else if op < 48 then (32, w_memory, []) else if op < 80 then (48, w_numbers, [119, 46]) else if op < 112 then (80, w_numbers, [108, 46]) else (112, w_turns, [])
/-- Does an opcode stand for an instruction? -/
def isOp (op : Nat) : Bool := decide (op - (sect op).1 < (sect op).2.1.length)
theorem ascii_of {s : ByteArray} (h : s.data.toList.all (fun b => decide (b.toNat < 128)) = true) : ∀ (j : Nat) b, s.data.toList[j]? = some b → b.toNat < 128 := fun _ b hb =>
  of_decide_eq_true (List.all_eq_true.1 h b (List.mem_of_getElem? hb))
theorem drewN_alloc_row (w w' : World) (o o' : Obj) (n : Nat) (h : w' = ((w.alloc o).alloc o').drewN n) : w'.heap[w.heap.size + 1]? = some o' ∧ Below w.heap.size w w' := by
  subst h
  refine ⟨?_, below_step (below_alloc2 w o o') (Nat.le_refl _) ⟨rfl, rfl, rfl, Nat.le_refl _, fun _ _ => rfl⟩⟩
  have e : (w.alloc o).heap.size = w.heap.size + 1 := World.size_alloc ..
  show ((w.alloc o).alloc o').heap[w.heap.size + 1]? = some o'
  rw [← e, heap_alloc_new]

set_option maxRecDepth 100000 in
set_option maxHeartbeats 3200000 in
theorem ops_run_yes (w : World) (op : Nat) (ho : op < 256) (ht : Tb w) (h : isOp op = true) :
    Calls Tryd.prog 66 #[.int .u8 op] w fun e w' => ∃ B, e = .returned (.tuple #[.slice (some ⟨B, 0, none⟩) (sect op).2.1.length (sect op).2.1.length, .int .i64 ((op - (sect op).1 : Nat) : Int), .string ⟨(sect op).2.2.toArray⟩]) ∧ w'.heap[B]? = some (.cells (strs (sect op).2.1) 9 (0, 0)) ∧ w.heap.size ≤ B ∧ Below w.heap.size w w' := by
  have HT := Lib.hid ht; clear ht
  have HP := Lib.hid h; clear h
  have hc : (w.alloc (.cells #[.int .u8 op] 5)).cell? ⟨w.heap.size, 0, none⟩ = some (.int .u8 op) := (cell_of_row _ _ 0 #[.int .u8 op] 5 (0, 0) (heap_alloc_new _ _)).trans rfl
  by_cases h16 : op < 16
  · have e : sect op = (0, w_low, []) := by rw [sect]; rw [if_pos h16]
    have HE := Lib.hid e; clear e
    have hd : op - 0 < w_low.length := by have := HP.out; rw [isOp, HE.out] at this; simpa using this
    have HD := Lib.hid hd; clear hd
    have ho0 : 0 ≤ op := by omega
    go_enter Tryd.func66, Tryd.ntmps66
    go_wp2_with fail
    refine (ops_find_yes _ w.heap.size op 0 _ _ w_low ho (by omega) hc (HT.out.bel (below_alloc _ _)) (by decide +kernel) (ascii_of (by decide +kernel)) (by decide +kernel) (by decide) HD.out).mono ?_
    rintro e w1 ⟨rfl, n, hw⟩
    obtain ⟨hrow, hbel⟩ := drewN_alloc_row _ _ _ _ _ hw; clear hw
    have HR := Lib.hid hrow; have HB := Lib.hid hbel; clear hrow hbel
    go_wp2
    go_ret3
    exact ⟨w.heap.size + 1, by rw [HE.out]; exact ret3 rfl rfl rfl, by rw [HE.out]; exact HR.out, by omega, HB.out⟩
  by_cases h24 : op < 24
  · have e : sect op = (16, w_stack, []) := by rw [sect]; rw [if_neg h16]; rw [if_pos h24]
    have HE := Lib.hid e; clear e
    have hd : op - 16 < w_stack.length := by have := HP.out; rw [isOp, HE.out] at this; simpa using this
    have HD := Lib.hid hd; clear hd
    have ho16 : 16 ≤ op := by omega
    go_enter Tryd.func66, Tryd.ntmps66
    go_wp2_with fail
    refine (ops_find_yes _ w.heap.size op 16 _ _ w_stack ho (by omega) hc (HT.out.bel (below_alloc _ _)) (by decide +kernel) (ascii_of (by decide +kernel)) (by decide +kernel) (by decide) HD.out).mono ?_
    rintro e w1 ⟨rfl, n, hw⟩
    obtain ⟨hrow, hbel⟩ := drewN_alloc_row _ _ _ _ _ hw; clear hw
    have HR := Lib.hid hrow; have HB := Lib.hid hbel; clear hrow hbel
    go_wp2
    go_ret3
    exact ⟨w.heap.size + 1, by rw [HE.out]; exact ret3 rfl rfl rfl, by rw [HE.out]; exact HR.out, by omega, HB.out⟩
  by_cases h32 : op < 32
  · have e : sect op = (24, w_consts, []) := by rw [sect]; rw [if_neg h16]; rw [if_neg h24]; rw [if_pos h32]
    have HE := Lib.hid e; clear e
    have hd : op - 24 < w_consts.length := by have := HP.out; rw [isOp, HE.out] at this; simpa using this
    have HD := Lib.hid hd; clear hd
    have ho24 : 24 ≤ op := by omega
    go_enter Tryd.func66, Tryd.ntmps66
    go_wp2_with fail
    refine (ops_find_yes _ w.heap.size op 24 _ _ w_consts ho (by omega) hc (HT.out.bel (below_alloc _ _)) (by decide +kernel) (ascii_of (by decide +kernel)) (by decide +kernel) (by decide) HD.out).mono ?_
    rintro e w1 ⟨rfl, n, hw⟩
    obtain ⟨hrow, hbel⟩ := drewN_alloc_row _ _ _ _ _ hw; clear hw
    have HR := Lib.hid hrow; have HB := Lib.hid hbel; clear hrow hbel
    go_wp2
    go_ret3
    exact ⟨w.heap.size + 1, by rw [HE.out]; exact ret3 rfl rfl rfl, by rw [HE.out]; exact HR.out, by omega, HB.out⟩
  by_cases h48 : op < 48
  · have e : sect op = (32, w_memory, []) := by rw [sect]; rw [if_neg h16]; rw [if_neg h24]; rw [if_neg h32]; rw [if_pos h48]
    have HE := Lib.hid e; clear e
    have hd : op - 32 < w_memory.length := by have := HP.out; rw [isOp, HE.out] at this; simpa using this
    have HD := Lib.hid hd; clear hd
    have ho32 : 32 ≤ op := by omega
    go_enter Tryd.func66, Tryd.ntmps66
    go_wp2_with fail
    refine (ops_find_yes _ w.heap.size op 32 _ _ w_memory ho (by omega) hc (HT.out.bel (below_alloc _ _)) (by decide +kernel) (ascii_of (by decide +kernel)) (by decide +kernel) (by decide) HD.out).mono ?_
    rintro e w1 ⟨rfl, n, hw⟩
    obtain ⟨hrow, hbel⟩ := drewN_alloc_row _ _ _ _ _ hw; clear hw
    have HR := Lib.hid hrow; have HB := Lib.hid hbel; clear hrow hbel
    go_wp2
    go_ret3
    exact ⟨w.heap.size + 1, by rw [HE.out]; exact ret3 rfl rfl rfl, by rw [HE.out]; exact HR.out, by omega, HB.out⟩
  by_cases h80 : op < 80
  · have e : sect op = (48, w_numbers, [119, 46]) := by rw [sect]; rw [if_neg h16]; rw [if_neg h24]; rw [if_neg h32]; rw [if_neg h48]; rw [if_pos h80]
    have HE := Lib.hid e; clear e
    have hd : op - 48 < w_numbers.length := by have := HP.out; rw [isOp, HE.out] at this; simpa using this
    have HD := Lib.hid hd; clear hd
    have ho48 : 48 ≤ op := by omega
    go_enter Tryd.func66, Tryd.ntmps66
    go_wp2_with fail
    refine (ops_find_yes _ w.heap.size op 48 _ _ w_numbers ho (by omega) hc (HT.out.bel (below_alloc _ _)) (by decide +kernel) (ascii_of (by decide +kernel)) (by decide +kernel) (by decide) HD.out).mono ?_
    rintro e w1 ⟨rfl, n, hw⟩
    obtain ⟨hrow, hbel⟩ := drewN_alloc_row _ _ _ _ _ hw; clear hw
    have HR := Lib.hid hrow; have HB := Lib.hid hbel; clear hrow hbel
    go_wp2
    go_ret3
    exact ⟨w.heap.size + 1, by rw [HE.out]; exact ret3 rfl rfl rfl, by rw [HE.out]; exact HR.out, by omega, HB.out⟩
  by_cases h112 : op < 112
  · have e : sect op = (80, w_numbers, [108, 46]) := by rw [sect]; rw [if_neg h16]; rw [if_neg h24]; rw [if_neg h32]; rw [if_neg h48]; rw [if_neg h80]; rw [if_pos h112]
    have HE := Lib.hid e; clear e
    have hd : op - 80 < w_numbers.length := by have := HP.out; rw [isOp, HE.out] at this; simpa using this
    have HD := Lib.hid hd; clear hd
    have ho80 : 80 ≤ op := by omega
    go_enter Tryd.func66, Tryd.ntmps66
    go_wp2_with fail
    refine (ops_find_yes _ w.heap.size op 80 _ _ w_numbers ho (by omega) hc (HT.out.bel (below_alloc _ _)) (by decide +kernel) (ascii_of (by decide +kernel)) (by decide +kernel) (by decide) HD.out).mono ?_
    rintro e w1 ⟨rfl, n, hw⟩
    obtain ⟨hrow, hbel⟩ := drewN_alloc_row _ _ _ _ _ hw; clear hw
    have HR := Lib.hid hrow; have HB := Lib.hid hbel; clear hrow hbel
    go_wp2
    go_ret3
    exact ⟨w.heap.size + 1, by rw [HE.out]; exact ret3 rfl rfl rfl, by rw [HE.out]; exact HR.out, by omega, HB.out⟩
  have e : sect op = (112, w_turns, []) := by rw [sect]; rw [if_neg h16]; rw [if_neg h24]; rw [if_neg h32]; rw [if_neg h48]; rw [if_neg h80]; rw [if_neg h112]
  have HE := Lib.hid e; clear e
  have hd : op - 112 < w_turns.length := by have := HP.out; rw [isOp, HE.out] at this; simpa using this
  have HD := Lib.hid hd; clear hd
  have ho112 : 112 ≤ op := by omega
  go_enter Tryd.func66, Tryd.ntmps66
  go_wp2_with fail
  refine (ops_find_yes _ w.heap.size op 112 _ _ w_turns ho (by omega) hc (HT.out.bel (below_alloc _ _)) (by decide +kernel) (ascii_of (by decide +kernel)) (by decide +kernel) (by decide) HD.out).mono ?_
  rintro e w1 ⟨rfl, n, hw⟩
  obtain ⟨hrow, hbel⟩ := drewN_alloc_row _ _ _ _ _ hw; clear hw
  have HR := Lib.hid hrow; have HB := Lib.hid hbel; clear hrow hbel
  go_wp2
  go_ret3
  exact ⟨w.heap.size + 1, by rw [HE.out]; exact ret3 rfl rfl rfl, by rw [HE.out]; exact HR.out, by omega, HB.out⟩

set_option maxRecDepth 100000 in
set_option maxHeartbeats 3200000 in
theorem ops_run_no (w : World) (op : Nat) (ho : op < 256) (ht : Tb w) (h : isOp op = false) :
    Calls Tryd.prog 66 #[.int .u8 op] w fun e w' => e = .returned (.tuple #[.slice none 0 0, .int .i64 (-1), .string ⟨#[]⟩]) ∧ Below w.heap.size w w' := by
  have HT := Lib.hid ht; clear ht
  have HP := Lib.hid h; clear h
  have hc : (w.alloc (.cells #[.int .u8 op] 5)).cell? ⟨w.heap.size, 0, none⟩ = some (.int .u8 op) := (cell_of_row _ _ 0 #[.int .u8 op] 5 (0, 0) (heap_alloc_new _ _)).trans rfl
  by_cases h16 : op < 16
  · have e : sect op = (0, w_low, []) := by rw [sect]; rw [if_pos h16]
    have HE := Lib.hid e; clear e
    have hd : w_low.length ≤ op - 0 := by have := HP.out; rw [isOp, HE.out] at this; simpa using this
    have HD := Lib.hid hd; clear hd
    have ho0 : 0 ≤ op := by omega
    go_enter Tryd.func66, Tryd.ntmps66
    go_wp2_with fail
    refine (ops_find_no _ w.heap.size op 0 _ _ w_low ho (by omega) hc (HT.out.bel (below_alloc _ _)) (by decide +kernel) (ascii_of (by decide +kernel)) (by decide +kernel) (by decide) HD.out).mono ?_
    rintro e w1 ⟨rfl, n, hw⟩
    obtain ⟨hrow, hbel⟩ := drewN_alloc_row _ _ _ _ _ hw; clear hw hrow
    have HB := Lib.hid hbel; clear hbel
    go_wp2
    go_ret3
    exact ⟨ret3 rfl rfl rfl, HB.out⟩
  by_cases h24 : op < 24
  · have e : sect op = (16, w_stack, []) := by rw [sect]; rw [if_neg h16]; rw [if_pos h24]
    have HE := Lib.hid e; clear e
    have hd : w_stack.length ≤ op - 16 := by have := HP.out; rw [isOp, HE.out] at this; simpa using this
    have HD := Lib.hid hd; clear hd
    have ho16 : 16 ≤ op := by omega
    go_enter Tryd.func66, Tryd.ntmps66
    go_wp2_with fail
    refine (ops_find_no _ w.heap.size op 16 _ _ w_stack ho (by omega) hc (HT.out.bel (below_alloc _ _)) (by decide +kernel) (ascii_of (by decide +kernel)) (by decide +kernel) (by decide) HD.out).mono ?_
    rintro e w1 ⟨rfl, n, hw⟩
    obtain ⟨hrow, hbel⟩ := drewN_alloc_row _ _ _ _ _ hw; clear hw hrow
    have HB := Lib.hid hbel; clear hbel
    go_wp2
    go_ret3
    exact ⟨ret3 rfl rfl rfl, HB.out⟩
  by_cases h32 : op < 32
  · have e : sect op = (24, w_consts, []) := by rw [sect]; rw [if_neg h16]; rw [if_neg h24]; rw [if_pos h32]
    have HE := Lib.hid e; clear e
    have hd : w_consts.length ≤ op - 24 := by have := HP.out; rw [isOp, HE.out] at this; simpa using this
    have HD := Lib.hid hd; clear hd
    have ho24 : 24 ≤ op := by omega
    go_enter Tryd.func66, Tryd.ntmps66
    go_wp2_with fail
    refine (ops_find_no _ w.heap.size op 24 _ _ w_consts ho (by omega) hc (HT.out.bel (below_alloc _ _)) (by decide +kernel) (ascii_of (by decide +kernel)) (by decide +kernel) (by decide) HD.out).mono ?_
    rintro e w1 ⟨rfl, n, hw⟩
    obtain ⟨hrow, hbel⟩ := drewN_alloc_row _ _ _ _ _ hw; clear hw hrow
    have HB := Lib.hid hbel; clear hbel
    go_wp2
    go_ret3
    exact ⟨ret3 rfl rfl rfl, HB.out⟩
  by_cases h48 : op < 48
  · have e : sect op = (32, w_memory, []) := by rw [sect]; rw [if_neg h16]; rw [if_neg h24]; rw [if_neg h32]; rw [if_pos h48]
    have HE := Lib.hid e; clear e
    have hd : w_memory.length ≤ op - 32 := by have := HP.out; rw [isOp, HE.out] at this; simpa using this
    have HD := Lib.hid hd; clear hd
    have ho32 : 32 ≤ op := by omega
    go_enter Tryd.func66, Tryd.ntmps66
    go_wp2_with fail
    refine (ops_find_no _ w.heap.size op 32 _ _ w_memory ho (by omega) hc (HT.out.bel (below_alloc _ _)) (by decide +kernel) (ascii_of (by decide +kernel)) (by decide +kernel) (by decide) HD.out).mono ?_
    rintro e w1 ⟨rfl, n, hw⟩
    obtain ⟨hrow, hbel⟩ := drewN_alloc_row _ _ _ _ _ hw; clear hw hrow
    have HB := Lib.hid hbel; clear hbel
    go_wp2
    go_ret3
    exact ⟨ret3 rfl rfl rfl, HB.out⟩
  by_cases h80 : op < 80
  · have e : sect op = (48, w_numbers, [119, 46]) := by rw [sect]; rw [if_neg h16]; rw [if_neg h24]; rw [if_neg h32]; rw [if_neg h48]; rw [if_pos h80]
    have HE := Lib.hid e; clear e
    have hd : w_numbers.length ≤ op - 48 := by have := HP.out; rw [isOp, HE.out] at this; simpa using this
    have HD := Lib.hid hd; clear hd
    have ho48 : 48 ≤ op := by omega
    go_enter Tryd.func66, Tryd.ntmps66
    go_wp2_with fail
    refine (ops_find_no _ w.heap.size op 48 _ _ w_numbers ho (by omega) hc (HT.out.bel (below_alloc _ _)) (by decide +kernel) (ascii_of (by decide +kernel)) (by decide +kernel) (by decide) HD.out).mono ?_
    rintro e w1 ⟨rfl, n, hw⟩
    obtain ⟨hrow, hbel⟩ := drewN_alloc_row _ _ _ _ _ hw; clear hw hrow
    have HB := Lib.hid hbel; clear hbel
    go_wp2
    go_ret3
    exact ⟨ret3 rfl rfl rfl, HB.out⟩
  by_cases h112 : op < 112
  · have e : sect op = (80, w_numbers, [108, 46]) := by rw [sect]; rw [if_neg h16]; rw [if_neg h24]; rw [if_neg h32]; rw [if_neg h48]; rw [if_neg h80]; rw [if_pos h112]
    have HE := Lib.hid e; clear e
    have hd : w_numbers.length ≤ op - 80 := by have := HP.out; rw [isOp, HE.out] at this; simpa using this
    have HD := Lib.hid hd; clear hd
    have ho80 : 80 ≤ op := by omega
    go_enter Tryd.func66, Tryd.ntmps66
    go_wp2_with fail
    refine (ops_find_no _ w.heap.size op 80 _ _ w_numbers ho (by omega) hc (HT.out.bel (below_alloc _ _)) (by decide +kernel) (ascii_of (by decide +kernel)) (by decide +kernel) (by decide) HD.out).mono ?_
    rintro e w1 ⟨rfl, n, hw⟩
    obtain ⟨hrow, hbel⟩ := drewN_alloc_row _ _ _ _ _ hw; clear hw hrow
    have HB := Lib.hid hbel; clear hbel
    go_wp2
    go_ret3
    exact ⟨ret3 rfl rfl rfl, HB.out⟩
  have e : sect op = (112, w_turns, []) := by rw [sect]; rw [if_neg h16]; rw [if_neg h24]; rw [if_neg h32]; rw [if_neg h48]; rw [if_neg h80]; rw [if_neg h112]
  have HE := Lib.hid e; clear e
  have hd : w_turns.length ≤ op - 112 := by have := HP.out; rw [isOp, HE.out] at this; simpa using this
  have HD := Lib.hid hd; clear hd
  have ho112 : 112 ≤ op := by omega
  go_enter Tryd.func66, Tryd.ntmps66
  go_wp2_with fail
  refine (ops_find_no _ w.heap.size op 112 _ _ w_turns ho (by omega) hc (HT.out.bel (below_alloc _ _)) (by decide +kernel) (ascii_of (by decide +kernel)) (by decide +kernel) (by decide) HD.out).mono ?_
  rintro e w1 ⟨rfl, n, hw⟩
  obtain ⟨hrow, hbel⟩ := drewN_alloc_row _ _ _ _ _ hw; clear hw hrow
  have HB := Lib.hid hbel; clear hbel
  go_wp2
  go_ret3
  exact ⟨ret3 rfl rfl rfl, HB.out⟩
end Go.Proofs.YtfhkjahjenpbgaaDoor
