/- Reading modules. -/
import Derived.Test.YteaolgldkfjdkaaDoorMOpen
import Derived.Test.YteaolgldkfjdkaaDoorMMod
import Derived.Test.YteaolgldkfjdkaaDoorHead5
namespace Go.Proofs.YteaolgldkfjdkaaDoor
open Go Go.RowKit Go.Deep

theorem Tryd.kStr : Tryd.prog.cellsOf 9 = 1 := by kernel_rfl
theorem Tryd.kBool : Tryd.prog.cellsOf 4 = 1 := by kernel_rfl
theorem Tryd.kU64 : Tryd.prog.cellsOf 84 = 1 := by kernel_rfl
theorem Tryd.kLBy : Tryd.prog.cellsOf 30 = 1 := by kernel_rfl
theorem Tryd.kbU8 : Tryd.prog.bytesOf 5 = 1 := by kernel_rfl
theorem Tryd.kSig : Tryd.prog.cellsOf 46 = 2 := by kernel_rfl
theorem Tryd.kGlob : Tryd.prog.cellsOf 86 = 3 := by kernel_rfl
theorem Tryd.kFunc : Tryd.prog.cellsOf 49 = 3 := by kernel_rfl
theorem Tryd.kData : Tryd.prog.cellsOf 52 = 2 := by kernel_rfl
theorem Tryd.kExpo : Tryd.prog.cellsOf 54 = 2 := by kernel_rfl
theorem Tryd.kModu : Tryd.prog.cellsOf 29 = 8 := by kernel_rfl
theorem Tryd.kbSig : Tryd.prog.bytesOf 46 = 32 := by kernel_rfl
theorem Tryd.kbGlob : Tryd.prog.bytesOf 86 = 16 := by kernel_rfl
theorem Tryd.kbFunc : Tryd.prog.bytesOf 49 = 48 := by kernel_rfl
theorem Tryd.kbData : Tryd.prog.bytesOf 52 = 32 := by kernel_rfl
theorem Tryd.kbExpo : Tryd.prog.bytesOf 54 = 24 := by kernel_rfl
theorem Tryd.kLCode : Tryd.prog.cellsOf 47 = 1 := by kernel_rfl
theorem Tryd.kLSig : Tryd.prog.cellsOf 22 = 1 := by kernel_rfl
theorem Tryd.kLGlob : Tryd.prog.cellsOf 24 = 1 := by kernel_rfl
theorem Tryd.kLFunc : Tryd.prog.cellsOf 25 = 1 := by kernel_rfl
theorem Tryd.kLData : Tryd.prog.cellsOf 26 = 1 := by kernel_rfl
theorem Tryd.kLExpo : Tryd.prog.cellsOf 27 = 1 := by kernel_rfl
theorem len2m {l : List Value} (h : l.length = 2) : ∃ a b, l = [a, b] := by
  match l, h with
  | [a, b], _ => exact ⟨a, b, rfl⟩
theorem len8m {l : List Value} (h : l.length = 8) : ∃ a b c d e f g k, l = [a, b, c, d, e, f, g, k] := by
  match l, h with
  | [a, b, c, d, e, f, g, k], _ => exact ⟨a, b, c, d, e, f, g, k, rfl⟩
section
variable {H : Type} {enc : TypeId × Value → H} {W : World}
theorem opens_bytes5 : Opens enc Tryd.prog W 30 (R1 fun w v xs => RdI .u8 (· < W.heap.size) w v xs ∧ ∀ x ∈ xs, 0 ≤ x ∧ x ≤ 255) :=
  (opens_ints Tryd.underlying30 Tryd.kU8 (by rw [Tryd.kbU8]; omega) Tryd.underlying5).mono fun _ a ⟨v, e, h, hw⟩ => ⟨a, v, e, h, fun x hx => bounds_u8 (hw x hx)⟩
theorem opens_sig : Opens enc Tryd.prog W 46 (fun w cs (x : SigD) => RSig w cs x ∧ (x.1.size ≤ 140737488355328 ∧ x.2.size ≤ 140737488355328)) := by
  intro fuel cs x h hw
  obtain ⟨hl, hf⟩ := opens_struct Tryd.underlying46 h hw
  rw [Tryd.kSig] at hl
  obtain ⟨a, b, rfl⟩ := len2m hl
  obtain ⟨s0, e0, w0⟩ := hf 0 9 0 1 rfl Tryd.kStr (opens_string Tryd.underlying9)
  obtain ⟨s1, e1, w1⟩ := hf 1 9 1 1 rfl Tryd.kStr (opens_string Tryd.underlying9)
  simp at e0 e1
  subst e0 e1
  exact ⟨(s0, s1), rfl, w0, w1⟩
theorem opens_glob : Opens enc Tryd.prog W 86 (fun w cs (x : GlobD) => RGlob w cs x ∧ (x.letter < 256 ∧ x.v < 18446744073709551616)) := by
  intro fuel cs x h hw
  obtain ⟨hl, hf⟩ := opens_struct Tryd.underlying86 h hw
  rw [Tryd.kGlob] at hl
  obtain ⟨a, b, c, rfl⟩ := len3 hl
  obtain ⟨n0, e0, w0⟩ := hf 0 5 0 1 rfl Tryd.kU8 (opens_int (k := .u8) Tryd.underlying5)
  obtain ⟨b1, e1⟩ := hf 1 4 1 1 rfl Tryd.kBool (opens_bool Tryd.underlying4)
  obtain ⟨n2, e2, w2⟩ := hf 2 84 2 1 rfl Tryd.kU64 (opens_int (k := .u64) Tryd.underlying84)
  simp [RBool] at e0 e1 e2
  subst e0 e1 e2
  have h0 := bounds_u8 w0
  have h2 := bounds_u64 w2
  obtain ⟨m0, rfl⟩ := Int.eq_ofNat_of_zero_le h0.1
  obtain ⟨m2, rfl⟩ := Int.eq_ofNat_of_zero_le h2.1
  exact ⟨⟨m0, b1, m2⟩, rfl, by simp only; omega, by simp only; omega⟩
theorem opens_fun : Opens enc Tryd.prog W 49 (fun w cs (x : FunD) => RFun (· < W.heap.size) w cs x ∧ (i64P x.t ∧ x.locals.size ≤ 140737488355328 ∧ ∀ i ∈ x.code, WfIns i)) := by
  intro fuel cs x h hw
  obtain ⟨hl, hf⟩ := opens_struct Tryd.underlying49 h hw
  rw [Tryd.kFunc] at hl
  obtain ⟨a, b, c, rfl⟩ := len3 hl
  obtain ⟨n0, e0, w0⟩ := hf 0 3 0 1 rfl Tryd.kInt (opens_int (k := .i64) Tryd.underlying3)
  obtain ⟨s1, e1, w1⟩ := hf 1 9 1 1 rfl Tryd.kStr (opens_string Tryd.underlying9)
  obtain ⟨l2, v2, e2, r2, w2⟩ := hf 2 47 2 1 rfl Tryd.kLCode opens_code
  simp at e0 e1 e2
  subst e0 e1 e2
  exact ⟨⟨n0, s1, l2⟩, ⟨_, rfl, r2⟩, bounds_i64 w0, w1, w2⟩
theorem opens_data : Opens enc Tryd.prog W 52 (fun w cs (x : DatD) => RDat (· < W.heap.size) w cs x ∧ (i64P x.at_ ∧ Bytes x.b)) := by
  intro fuel cs x h hw
  obtain ⟨hl, hf⟩ := opens_struct Tryd.underlying52 h hw
  rw [Tryd.kData] at hl
  obtain ⟨a, b, rfl⟩ := len2m hl
  obtain ⟨n0, e0, w0⟩ := hf 0 3 0 1 rfl Tryd.kInt (opens_int (k := .i64) Tryd.underlying3)
  obtain ⟨l1, v1, e1, r1, w1⟩ := hf 1 30 1 1 rfl Tryd.kLBy (opens_ints (k := .u8) Tryd.underlying30 Tryd.kU8 (by rw [Tryd.kbU8]; omega) Tryd.underlying5)
  simp at e0 e1
  subst e0 e1
  exact ⟨⟨n0, l1⟩, ⟨_, rfl, r1⟩, bounds_i64 w0, fun y hy => bounds_u8 (w1 y hy)⟩
theorem opens_expo : Opens enc Tryd.prog W 54 (fun w cs (x : ExpD) => RExp w cs x ∧ (x.name.size ≤ 140737488355328 ∧ i64P x.f)) := by
  intro fuel cs x h hw
  obtain ⟨hl, hf⟩ := opens_struct Tryd.underlying54 h hw
  rw [Tryd.kExpo] at hl
  obtain ⟨a, b, rfl⟩ := len2m hl
  obtain ⟨s0, e0, w0⟩ := hf 0 9 0 1 rfl Tryd.kStr (opens_string Tryd.underlying9)
  obtain ⟨n1, e1, w1⟩ := hf 1 3 1 1 rfl Tryd.kInt (opens_int (k := .i64) Tryd.underlying3)
  simp at e0 e1
  subst e0 e1
  exact ⟨⟨s0, n1⟩, rfl, w0, bounds_i64 w1⟩
theorem opens_mod : Opens enc Tryd.prog W 29 (fun w cs (m : ModD) => RMod (· < W.heap.size) w cs m ∧ WfM m ∧ SmM m) := by
  intro fuel cs x h hw
  obtain ⟨hl, hf⟩ := opens_struct Tryd.underlying29 h hw
  rw [Tryd.kModu] at hl
  obtain ⟨a, b, c, d, e, f, g, k, rfl⟩ := len8m hl
  obtain ⟨l0, v0, e0, r0⟩ := hf 0 22 0 1 rfl Tryd.kLSig (opens_slice Tryd.underlying22 Tryd.kSig (by omega) (by rw [Tryd.kbSig]; omega) opens_sig)
  obtain ⟨l1, v1, e1, r1, w1⟩ := hf 1 23 1 1 rfl Tryd.kLInt opens_intl
  obtain ⟨l2, v2, e2, r2⟩ := hf 2 24 2 1 rfl Tryd.kLGlob (opens_slice Tryd.underlying24 Tryd.kGlob (by omega) (by rw [Tryd.kbGlob]; omega) opens_glob)
  obtain ⟨n3, e3, w3⟩ := hf 3 3 3 1 rfl Tryd.kInt (opens_int (k := .i64) Tryd.underlying3)
  obtain ⟨n4, e4, w4⟩ := hf 4 3 4 1 rfl Tryd.kInt (opens_int (k := .i64) Tryd.underlying3)
  obtain ⟨l5, v5, e5, r5⟩ := hf 5 25 5 1 rfl Tryd.kLFunc (opens_slice Tryd.underlying25 Tryd.kFunc (by omega) (by rw [Tryd.kbFunc]; omega) opens_fun)
  obtain ⟨l6, v6, e6, r6⟩ := hf 6 26 6 1 rfl Tryd.kLData (opens_slice Tryd.underlying26 Tryd.kData (by omega) (by rw [Tryd.kbData]; omega) opens_data)
  obtain ⟨l7, v7, e7, r7⟩ := hf 7 27 7 1 rfl Tryd.kLExpo (opens_slice Tryd.underlying27 Tryd.kExpo (by omega) (by rw [Tryd.kbExpo]; omega) opens_expo)
  simp at e0 e1 e2 e3 e4 e5 e6 e7
  subst e0 e1 e2 e3 e4 e5 e6 e7
  have s0 := RdL.split (R' := RSig) r0 fun _ _ h => h
  have s2 := RdL.split (R' := RGlob) r2 fun _ _ h => h
  have s5 := RdL.split (R' := RFun (· < W.heap.size)) r5 fun _ _ h => h
  have s6 := RdL.split (R' := RDat (· < W.heap.size)) r6 fun _ _ h => h
  have s7 := RdL.split (R' := RExp) r7 fun _ _ h => h
  exact ⟨⟨l0, l1, l2, n3, n4, l5, l6, l7⟩, ⟨_, _, _, _, _, _, rfl, s0.1, r1, s2.1, s5.1, s6.1, s7.1⟩,
    ⟨fun x hx => (s2.2 x hx).2, fun x hx => (s5.2 x hx).2.2, fun x hx => (s6.2 x hx).2⟩,
    ⟨s0.2, fun x hx => (s5.2 x hx).2.1, fun x hx => (s7.2 x hx).1, w1, fun x hx => (s5.2 x hx).1, fun x hx => (s6.2 x hx).1, fun x hx => (s7.2 x hx).2, bounds_i64 w3, bounds_i64 w4, fun x hx => (s2.2 x hx).1⟩⟩
end
end Go.Proofs.YteaolgldkfjdkaaDoor
