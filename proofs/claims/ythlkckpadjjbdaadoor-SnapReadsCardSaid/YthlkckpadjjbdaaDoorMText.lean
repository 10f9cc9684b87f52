/- flagonref00.num. flagonref00.text; what a conversion of a text to bytes leaves. -/
import Derived.Test.YthlkckpadjjbdaaDoorLib2
import Derived.OwnWalk
import Derived.Test.YthlkckpadjjbdaaDoorShelf
import Derived.Lib.LaidTab
import Derived.Lib.ItoaLen
import Derived.WideShapes
import Derived.Lib.ConvBytes
import Derived.Lib.SlBytesRow
namespace Go.Proofs.YthlkckpadjjbdaaDoor
open Go Go.RowKit
set_option maxRecDepth 100000 in
theorem ref_num (w : World) (n i : Nat) (hn : n ≤ 1000000) (hi : i ≤ 1125899906842624) :
    Calls Tryd.prog 69 #[.int .i64 n, .int .i64 i] w fun e w' => e = .returned (.int .i64 ((1048576 * n + i + 1 : Nat))) ∧ w' = w := by
  go_enter Tryd.func69, Tryd.ntmps69
  go_wp2
  go_ret
  exact ⟨ret_int (by (try unfold wrap64); omega), rfl⟩
end Go.Proofs.YthlkckpadjjbdaaDoor
namespace Go.Proofs.YthlkckpadjjbdaaDoor
open Go Go.RowKit Go.Sort

/-- The library's table of powers of ten lies. -/
def Tp (w : World) : Prop := Lib.TabIs Tryd.prog w "internal/strconv.uint64pow10" .u64 Lib.pow10Tab
theorem Tp.bel {w w' : World} (h : Tp w) (hb : Below w.heap.size w w') : Tp w' := by
  unfold Tp Lib.TabIs World.var? at *
  obtain ⟨g, hg, h1⟩ := Option.bind_eq_some_iff.1 h
  refine Option.bind_eq_some_iff.2 ⟨g, hg, ?_⟩
  split at h1
  · rename_i cs T fr hr
    rw [hb.block g (row_lt hr), hr]
    exact h1
  · simp at h1
def txtB (n i : Nat) : ByteArray := ⟨(33 :: Lib.itoa ((1048576 * n + i + 1 : Nat) : Int)).toArray⟩
theorem below_grow (w : World) (k : Nat) (os : Array Obj) : Below w.heap.size w (grow (w.drewN k) os) :=
  ⟨rfl, rfl, rfl, by show w.heap.size ≤ (w.heap ++ os).size; simp, fun b hb => by show (w.heap ++ os)[b]? = _; rw [Array.getElem?_append_left hb]⟩
theorem txt_app (l : List UInt8) : (⟨#[33]⟩ ++ ⟨l.toArray⟩ : ByteArray) = ⟨(33 :: l).toArray⟩ := by
  apply Go.WideShapes.bytes_inj
  simp [ByteArray.data_append]
set_option maxRecDepth 100000 in
set_option maxHeartbeats 1600000 in
theorem ref_text (w : World) (n i : Nat) (hn : n ≤ 1000000) (hi : i ≤ 1125899906842624) (ht : Tp w) :
    Calls Tryd.prog 70 #[.int .i64 n, .int .i64 i] w fun e w' => e = .returned (.string (txtB n i)) ∧ Below w.heap.size w w' := by
  have HN := Lib.hid (ref_num w n i hn hi)
  have HT := Lib.hid ht
  have HI := Lib.hid (Tryd.strconv_Itoa ((1048576 * n + i + 1 : Nat) : Int) (by omega) (by omega) w ht)
  have HL := Lib.hid (Lib.itoa_length_le ((1048576 * n + i + 1 : Nat) : Int) (by omega) (by omega))
  have HX : Hid (txtB n i = ⟨(33 :: Lib.itoa ((1048576 * n + i + 1 : Nat) : Int)).toArray⟩) := Lib.hid rfl
  clear ht hn hi
  go_enter Tryd.func70, Tryd.ntmps70
  go_wp2_with fail
  refine HN.out.mono ?_
  rintro e w' ⟨rfl, hw'⟩
  obtain rfl : w = w' := hw'.symm
  generalize 1048576 * n + i + 1 = x at *
  go_wp2_with fail
  refine HI.out.mono ?_
  rintro e w' ⟨rfl, k, os, hw⟩
  have HB : Hid (Below w.heap.size w w') := Lib.hid (by rw [hw]; exact below_grow w k os)
  clear hw
  have hl := HL.out
  go_wp2
  go_ret
  exact ⟨by rw [HX.out, txt_app]; rfl, HB.out⟩

/-- The block g holds the bytes of a text. -/
def TxtAt (w : World) (g : Nat) (s : ByteArray) : Prop := ∃ c T fr, w.heap[g]? = some (.cells c T fr) ∧ ∀ i (h : i < s.size), c[i]? = some (.int .u8 (s[i].toNat : Int))
theorem TxtAt.keeps {S : Nat → Prop} {w w' : World} {g : Nat} {s : ByteArray} (h : TxtAt w g s) (hk : Keeps S w w') (hg : S g) : TxtAt w' g s := by
  obtain ⟨c, T, fr, h1, h2⟩ := h
  exact ⟨c, T, fr, (hk.block g (row_lt h1) hg).trans h1, h2⟩
theorem TxtAt.lt {w : World} {g : Nat} {s : ByteArray} (h : TxtAt w g s) : g < w.heap.size := by obtain ⟨c, T, fr, h1, _⟩ := h; exact row_lt h1
theorem TxtAt.back {w : World} {g : Nat} {s : ByteArray} (h : TxtAt w g s) (cap : Nat) : (convert 31 9 (.slice (some ⟨g, 0, none⟩) s.size cap)).run Tryd.prog w = .ok (.string s) w := by
  obtain ⟨c, T, fr, h1, h2⟩ := h
  exact Lib.run_convert_whole w _ 5 _ Tryd.underlying31 Tryd.underlying5 Tryd.underlying9 g 0 s (fun i hi => row_cell h1 _ (by rw [Nat.zero_add]; exact h2 i hi)) cap
theorem txt_conv (w : World) (s : ByteArray) : (convert 9 31 (.string s)).run Tryd.prog w = .ok (.slice (some ⟨w.heap.size, 0, none⟩) s.size (grownCap w s.size 0 5)) (Lib.bytesWorld w 5 s) :=
  Lib.run_convert_string_bytes w _ _ _ s Tryd.underlying9 Tryd.underlying31 Tryd.underlying5
theorem txt_at (w : World) (s : ByteArray) : TxtAt (Lib.bytesWorld w 5 s) w.heap.size s :=
  ⟨_, _, _, Lib.bytesWorld_at_new w 5 s, fun i hi => by
    rw [Lib.bytesCells, Array.getElem?_append_left (by simpa using hi)]
    simp [Array.getElem?_eq_getElem (show i < s.data.size from hi)]
    rfl⟩
theorem txt_below (w : World) (s : ByteArray) : Below w.heap.size w (Lib.bytesWorld w 5 s) :=
  ⟨rfl, rfl, rfl, by rw [Lib.bytesWorld_size]; omega, fun b hb => Lib.bytesWorld_at_old w _ s b hb⟩
end Go.Proofs.YthlkckpadjjbdaaDoor
