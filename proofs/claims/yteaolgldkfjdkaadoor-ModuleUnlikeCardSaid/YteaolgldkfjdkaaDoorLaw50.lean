/- Modules in blocks of their own; what the laws of chapter 05 ask. -/
import Derived.Test.YteaolgldkfjdkaaDoorMWorks
import Derived.Test.YteaolgldkfjdkaaDoorMSize
import Derived.Test.YteaolgldkfjdkaaDoorMSmall
namespace Go.Proofs.YteaolgldkfjdkaaDoor
open Go Go.RowKit

/-- A module in a block of its own. -/
structure MdB (w : World) (g : Nat) (cs : List Value) (m : ModD) : Prop where
  row : w.heap[g]? = some (.cells cs.toArray 29 (0, 0))
  rd : RMod (· < w.heap.size) w cs m
theorem RMod.bel5 {w w' : World} {cs : List Value} {m : ModD} (h : RMod (· < w.heap.size) w cs m) (hb : Below w.heap.size w w') : RMod (· < w'.heap.size) w' cs m := (h.keeps (Keeps.all _ hb)).mono fun _ h _ => h
theorem RMod.any5 {S : Nat → Prop} {w : World} {cs : List Value} {m : ModD} (h : RMod S w cs m) : RMod (· < w.heap.size) w cs m := h.mono fun _ h _ => h
theorem MdB.bel {w w' : World} {g : Nat} {cs : List Value} {m : ModD} (h : MdB w g cs m) (hb : Below w.heap.size w w') : MdB w' g cs m := ⟨(hb.block _ (row_lt h.row)).trans h.row, h.rd.bel5 hb⟩
theorem MdB.new {w : World} {cs : List Value} {m : ModD} (h : RMod (· < w.heap.size) w cs m) : MdB (w.alloc (.cells cs.toArray 29)) w.heap.size cs m := ⟨heap_alloc_new _ _, h.bel5 (below_alloc _ _)⟩
theorem enc_len5 (m : ModD) : (encM m).1.length ≤ 65536 := by
  unfold encM
  split
  · simp
  · split
    · simp
    · simp only; omega
/-- What Encode has answered, read. -/
theorem enc_rd5 {w : World} {base : Nat} {v : Value} {m : ModD} (h : w.ownsRow base 5 1 v (encM m).1.length ((encM m).1.map (Value.int .u8))) : RdI .u8 (· < w.heap.size) w v (encM m).1 := (RdI.of_own h (by have := enc_len5 m; omega)).mono fun _ h _ => h
theorem RdI.bel5 {k : IntKind} {w w' : World} {v : Value} {l : List Int} (h : RdI k (· < w.heap.size) w v l) (hb : Below w.heap.size w w') : RdI k (· < w'.heap.size) w' v l := (h.keeps (Keeps.all _ hb)).mono fun _ h _ => h
end Go.Proofs.YteaolgldkfjdkaaDoor
