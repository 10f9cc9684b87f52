/- ops.run and its closure. -/
import Derived.Test.YtmlniifdipeboaaDoorOps
import Derived.Test.YtmlniifdipeboaaDoorShelf
import Derived.Lib.LaidTab
namespace Go.Proofs.YtmlniifdipeboaaDoor
open Go Go.RowKit

/-- The library's table of blanks lies. -/
def Tb (w : World) : Prop := Lib.TabIs Tryd.prog w "strings.asciiSpace" .u8 Lib.asciiSpaceTab
theorem Tb.bel {w w' : World} (h : Tb w) (hb : Below w.heap.size w w') : Tb w' := by
  unfold Tb Lib.TabIs World.var? at *
  obtain ⟨g, hg, h1⟩ := Option.bind_eq_some_iff.1 h
  refine Option.bind_eq_some_iff.2 ⟨g, hg, ?_⟩
  split at h1
  · rename_i cs T fr hr
    rw [hb.block g (row_lt hr), hr]
    exact h1
  · simp at h1

theorem ret3 {a b c d e f : Value} (h : a = d) (k : b = e) (m : c = f) : Ending.returned (.tuple #[a, b, c]) = .returned (.tuple #[d, e, f]) := by rw [h, k, m]
def strs (l : List (List UInt8)) : Array Value := (l.map fun x => Value.string ⟨x.toArray⟩).toArray

set_option maxRecDepth 100000 in
set_option maxHeartbeats 1600000 in
theorem ops_find_yes (w : World) (b op frm : Nat) (s ahead : ByteArray) (l : List (List UInt8)) (ho : op < 256) (hf : frm ≤ op) (hc : w.cell? ⟨b, 0, none⟩ = some (.int .u8 op)) (ht : Tb w)
    (hs : s.size < 4294967281) (ha : ∀ (j : Nat) b, s.data.toList[j]? = some b → b.toNat < 128) (hl : Lib.fields s.data.toList = l) (hll : l.length ≤ 1000) (hd : op - frm < l.length) :
    Calls Tryd.prog 136 #[.int .u8 frm, .string s, .string ahead, .pointer (some ⟨b, 0, none⟩)] w fun e w' =>
      e = .returned (.tuple #[.slice (some ⟨w.heap.size, 0, none⟩) l.length l.length, .int .i64 ((op - frm : Nat) : Int), .string ahead]) ∧
      ∃ n, w' = (w.alloc (.cells (strs l) 9)).drewN n := by
  have HT := Lib.hid ht; have HA := Lib.hid ha; have HL := Lib.hid hl; clear ht ha hl
  have e8 : IntKind.u8.wrap ((op : Int) - frm) = ((op - frm : Nat) : Int) := by rw [IntWalk.u8_in _ (by omega)]; omega
  have e6 : IntKind.i64.wrap ((op - frm : Nat) : Int) = ((op - frm : Nat) : Int) := IntWalk.i64_in _ (by omega)
  go_enter Tryd.func136, Tryd.ntmps136
  go_wp2_with fail
  refine (Tryd.strings_Fields_laid s _ hs HA.out HT.out).mono ?_
  rintro e w1 ⟨rfl, rfl⟩
  rw [HL.out]
  have hc1 : (w.alloc (.cells (strs l) 9)).cell? ⟨b, 0, none⟩ = some (.int .u8 op) := cell_below (below_alloc _ _) hc
  change _
  have HS : Hid (w.alloc (.cells (l.map fun x => Value.string ⟨x.toArray⟩).toArray 9) = w.alloc (.cells (strs l) 9)) := rfl
  generalize w.alloc (.cells (l.map fun x => Value.string ⟨x.toArray⟩).toArray 9) = W1 at *
  rw [← HS.out] at hc1
  go_wp2_with fail
  go_quiet (fail)
  go_wp2
  go_ret3
  exact ⟨rfl, _, by rw [← HS.out]⟩
set_option maxRecDepth 100000 in
set_option maxHeartbeats 1600000 in
theorem ops_find_no (w : World) (b op frm : Nat) (s ahead : ByteArray) (l : List (List UInt8)) (ho : op < 256) (hf : frm ≤ op) (hc : w.cell? ⟨b, 0, none⟩ = some (.int .u8 op)) (ht : Tb w)
    (hs : s.size < 4294967281) (ha : ∀ (j : Nat) b, s.data.toList[j]? = some b → b.toNat < 128) (hl : Lib.fields s.data.toList = l) (_hll : l.length ≤ 1000) (hd : l.length ≤ op - frm) :
    Calls Tryd.prog 136 #[.int .u8 frm, .string s, .string ahead, .pointer (some ⟨b, 0, none⟩)] w fun e w' =>
      e = .returned (.tuple #[.slice none 0 0, .int .i64 (-1), .string ⟨#[]⟩]) ∧
      ∃ n, w' = (w.alloc (.cells (strs l) 9)).drewN n := by
  have HT := Lib.hid ht; have HA := Lib.hid ha; have HL := Lib.hid hl; clear ht ha hl
  have e8 : IntKind.u8.wrap ((op : Int) - frm) = ((op - frm : Nat) : Int) := by rw [IntWalk.u8_in _ (by omega)]; omega
  have e6 : IntKind.i64.wrap ((op - frm : Nat) : Int) = ((op - frm : Nat) : Int) := IntWalk.i64_in _ (by omega)
  go_enter Tryd.func136, Tryd.ntmps136
  go_wp2_with fail
  refine (Tryd.strings_Fields_laid s _ hs HA.out HT.out).mono ?_
  rintro e w1 ⟨rfl, rfl⟩
  rw [HL.out]
  have hc1 : (w.alloc (.cells (strs l) 9)).cell? ⟨b, 0, none⟩ = some (.int .u8 op) := cell_below (below_alloc _ _) hc
  change _
  have HS : Hid (w.alloc (.cells (l.map fun x => Value.string ⟨x.toArray⟩).toArray 9) = w.alloc (.cells (strs l) 9)) := rfl
  generalize w.alloc (.cells (l.map fun x => Value.string ⟨x.toArray⟩).toArray 9) = W1 at *
  rw [← HS.out] at hc1
  go_wp2_with fail
  go_ret3
  exact ⟨rfl, 0, by rw [← HS.out]; rfl⟩
end Go.Proofs.YtmlniifdipeboaaDoor
