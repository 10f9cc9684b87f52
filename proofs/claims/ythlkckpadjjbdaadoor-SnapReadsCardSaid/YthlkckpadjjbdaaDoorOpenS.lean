/- Reading states. -/
import Derived.Test.YthlkckpadjjbdaaDoorOpen
import Derived.Test.YthlkckpadjjbdaaDoorWrite
import Derived.OpenShut
namespace Go.Proofs.YthlkckpadjjbdaaDoor
open Go Go.RowKit Go.Deep

theorem Tryd.cU64 : Tryd.prog.cellsOf 63 = 1 := by kernel_rfl
theorem Tryd.cU8 : Tryd.prog.cellsOf 5 = 1 := by kernel_rfl
theorem Tryd.cI8 : Tryd.prog.cellsOf 25 = 1 := by kernel_rfl
theorem Tryd.cInt : Tryd.prog.cellsOf 3 = 1 := by kernel_rfl
theorem Tryd.cI64 : Tryd.prog.cellsOf 2 = 1 := by kernel_rfl
theorem Tryd.cLU8 : Tryd.prog.cellsOf 31 = 1 := by kernel_rfl
theorem Tryd.cLU64 : Tryd.prog.cellsOf 23 = 1 := by kernel_rfl
theorem Tryd.cLLU8 : Tryd.prog.cellsOf 24 = 1 := by kernel_rfl
theorem Tryd.cLFrame : Tryd.prog.cellsOf 22 = 1 := by kernel_rfl
theorem Tryd.cFrame : Tryd.prog.cellsOf 66 = 4 := by kernel_rfl
theorem Tryd.cState : Tryd.prog.cellsOf 27 = 8 := by kernel_rfl
theorem Tryd.bU64 : Tryd.prog.bytesOf 63 = 8 := by kernel_rfl
theorem Tryd.bU8 : Tryd.prog.bytesOf 5 = 1 := by kernel_rfl
theorem Tryd.bLU8 : Tryd.prog.bytesOf 31 = 24 := by kernel_rfl
theorem Tryd.bFrame : Tryd.prog.bytesOf 66 = 64 := by kernel_rfl
section
variable {H : Type} {enc : TypeId × Value → H} {W : World}
theorem opens_words : Opens enc Tryd.prog W 23 (R1 fun w v xs => RdI .u64 (· < W.heap.size) w v xs ∧ U64s xs) :=
  (opens_ints Tryd.underlying23 Tryd.cU64 (by rw [Tryd.bU64]; omega) Tryd.underlying63).mono fun _ a ⟨v, e, h, hw⟩ => ⟨a, v, e, h, fun x hx => bounds_u64 (hw x hx)⟩
theorem opens_bytes : Opens enc Tryd.prog W 31 (R1 fun w v xs => RdI .u8 (· < W.heap.size) w v xs ∧ Bytes xs) :=
  (opens_ints Tryd.underlying31 Tryd.cU8 (by rw [Tryd.bU8]; omega) Tryd.underlying5).mono fun _ a ⟨v, e, h, hw⟩ => ⟨a, v, e, h, fun x hx => bounds_u8 (hw x hx)⟩
theorem opens_pages : Opens enc Tryd.prog W 24 (R1 fun w v xs => RdLL .u8 (· < W.heap.size) w v xs ∧ ∀ y ∈ xs, Bytes y) :=
  (opens_slice Tryd.underlying24 Tryd.cLU8 (by omega) (by rw [Tryd.bLU8]; omega) opens_bytes).mono fun _ a ⟨v, e, h⟩ => ⟨a, v, e, RdL.split h fun _ _ ⟨u, e, h1, h2⟩ => ⟨⟨u, e, h1⟩, h2⟩⟩
theorem len4 {l : List Value} (h : l.length = 4) : ∃ a b c d, l = [a, b, c, d] := by
  match l, h with
  | [a, b, c, d], _ => exact ⟨a, b, c, d, rfl⟩
theorem len8 {l : List Value} (h : l.length = 8) : ∃ a b c d e f g i, l = [a, b, c, d, e, f, g, i] := by
  match l, h with
  | [a, b, c, d, e, f, g, i], _ => exact ⟨a, b, c, d, e, f, g, i, rfl⟩
theorem opens_frame : Opens enc Tryd.prog W 66 (fun w cs f => RFrame (· < W.heap.size) w cs f ∧ WfFrame f) := by
  intro fuel cs x h hw
  obtain ⟨hl, hf⟩ := opens_struct Tryd.underlying66 h hw
  rw [Tryd.cFrame] at hl
  obtain ⟨a, b, c, d, rfl⟩ := len4 hl
  have f0 := hf 0 3 0 1 rfl Tryd.cInt (opens_int (k := .i64) Tryd.underlying3)
  have f1 := hf 1 3 1 1 rfl Tryd.cInt (opens_int (k := .i64) Tryd.underlying3)
  have f2 := hf 2 23 2 1 rfl Tryd.cLU64 opens_words
  have f3 := hf 3 23 3 1 rfl Tryd.cLU64 opens_words
  obtain ⟨n0, e0, w0⟩ := f0
  obtain ⟨n1, e1, w1⟩ := f1
  obtain ⟨l2, v2, e2, r2, w2⟩ := f2
  obtain ⟨l3, v3, e3, r3, w3⟩ := f3
  simp at e0 e1 e2 e3
  subst e0 e1 e2 e3
  exact ⟨⟨n0, n1, l2, l3⟩, ⟨_, _, rfl, r2, r3⟩, ⟨bounds_i64 w0, bounds_i64 w1, w2, w3⟩⟩
theorem opens_frames : Opens enc Tryd.prog W 22 (R1 fun w v xs => RdFrames (· < W.heap.size) w v xs ∧ ∀ f ∈ xs, WfFrame f) :=
  (opens_slice Tryd.underlying22 Tryd.cFrame (by omega) (by rw [Tryd.bFrame]; omega) opens_frame).mono fun _ a ⟨v, e, h⟩ => ⟨a, v, e, RdL.split h fun _ _ h => h⟩
theorem opens_state : Opens enc Tryd.prog W 27 (fun w cs s => RState (· < W.heap.size) w cs s ∧ WfState s) := by
  intro fuel cs x h hw
  obtain ⟨hl, hf⟩ := opens_struct Tryd.underlying27 h hw
  rw [Tryd.cState] at hl
  obtain ⟨a, b, c, d, e, f, g, i, rfl⟩ := len8 hl
  have f0 := hf 0 22 0 1 rfl Tryd.cLFrame opens_frames
  have f1 := hf 1 23 1 1 rfl Tryd.cLU64 opens_words
  have f2 := hf 2 24 2 1 rfl Tryd.cLLU8 opens_pages
  have f3 := hf 3 3 3 1 rfl Tryd.cInt (opens_int (k := .i64) Tryd.underlying3)
  have f4 := hf 4 25 4 1 rfl Tryd.cI8 (opens_int (k := .i8) Tryd.underlying25)
  have f5 := hf 5 23 5 1 rfl Tryd.cLU64 opens_words
  have f6 := hf 6 25 6 1 rfl Tryd.cI8 (opens_int (k := .i8) Tryd.underlying25)
  have f7 := hf 7 2 7 1 rfl Tryd.cI64 (opens_int (k := .i64) Tryd.underlying2)
  obtain ⟨l0, v0, e0, r0, w0⟩ := f0
  obtain ⟨l1, v1, e1, r1, w1⟩ := f1
  obtain ⟨l2, v2, e2, r2, w2⟩ := f2
  obtain ⟨n3, e3, w3⟩ := f3
  obtain ⟨n4, e4, w4⟩ := f4
  obtain ⟨l5, v5, e5, r5, w5⟩ := f5
  obtain ⟨n6, e6, w6⟩ := f6
  obtain ⟨n7, e7, w7⟩ := f7
  simp at e0 e1 e2 e3 e4 e5 e6 e7
  subst e0 e1 e2 e3 e4 e5 e6 e7
  exact ⟨⟨l0, l1, l2, n3, n4, l5, n6, n7⟩, ⟨_, _, _, _, rfl, r0, r1, r2, r5⟩, ⟨bounds_i64 w7, bounds_i64 w3, bounds_i8 w4, bounds_i8 w6, w5, w1, w2, w0⟩⟩
end
end Go.Proofs.YthlkckpadjjbdaaDoor
