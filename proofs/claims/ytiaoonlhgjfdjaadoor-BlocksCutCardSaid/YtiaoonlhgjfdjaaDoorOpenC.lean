/- Reading codes. -/
import Derived.Test.YtiaoonlhgjfdjaaDoorOpen
import Derived.Test.YtiaoonlhgjfdjaaDoorInsD
import Derived.OpenShut
namespace Go.Proofs.YtiaoonlhgjfdjaaDoor
open Go Go.RowKit Go.Deep

theorem Tryd.kU8 : Tryd.prog.cellsOf 5 = 1 := by kernel_rfl
theorem Tryd.kInt : Tryd.prog.cellsOf 3 = 1 := by kernel_rfl
theorem Tryd.kI64 : Tryd.prog.cellsOf 2 = 1 := by kernel_rfl
theorem Tryd.kLInt : Tryd.prog.cellsOf 24 = 1 := by kernel_rfl
theorem Tryd.kbInt : Tryd.prog.bytesOf 3 = 8 := by kernel_rfl
theorem Tryd.kbIns : Tryd.prog.bytesOf 74 = 40 := by kernel_rfl
section
variable {H : Type} {enc : TypeId × Value → H} {W : World}
theorem opens_intl : Opens enc Tryd.prog W 24 (R1 fun w v xs => RdI .i64 (· < W.heap.size) w v xs ∧ ∀ x ∈ xs, i64P x) :=
  (opens_ints Tryd.underlying24 Tryd.kInt (by rw [Tryd.kbInt]; omega) Tryd.underlying3).mono fun _ a ⟨v, e, h, hw⟩ => ⟨a, v, e, h, fun x hx => bounds_i64 (hw x hx)⟩
theorem len3 {l : List Value} (h : l.length = 3) : ∃ a b c, l = [a, b, c] := by
  match l, h with
  | [a, b, c], _ => exact ⟨a, b, c, rfl⟩
theorem opens_ins : Opens enc Tryd.prog W 74 (fun w cs x => RIns (· < W.heap.size) w cs x ∧ WfIns x) := by
  intro fuel cs x h hw
  obtain ⟨hl, hf⟩ := opens_struct Tryd.underlying74 h hw
  rw [Tryd.cIns] at hl
  obtain ⟨a, b, c, rfl⟩ := len3 hl
  have f0 := hf 0 5 0 1 rfl Tryd.kU8 (opens_int (k := .u8) Tryd.underlying5)
  have f1 := hf 1 2 1 1 rfl Tryd.kI64 (opens_int (k := .i64) Tryd.underlying2)
  have f2 := hf 2 24 2 1 rfl Tryd.kLInt opens_intl
  obtain ⟨n0, e0, w0⟩ := f0
  obtain ⟨n1, e1, w1⟩ := f1
  obtain ⟨l2, v2, e2, r2, w2⟩ := f2
  simp at e0 e1 e2
  subst e0 e1 e2
  have hb := bounds_u8 w0
  obtain ⟨m, rfl⟩ := Int.eq_ofNat_of_zero_le hb.1
  exact ⟨⟨m, n1, l2⟩, ⟨_, rfl, r2⟩, ⟨by simp only; omega, bounds_i64 w1, w2⟩⟩
theorem opens_code : Opens enc Tryd.prog W 22 (R1 fun w v xs => RdL 3 (RIns (· < W.heap.size)) (· < W.heap.size) w v xs ∧ ∀ x ∈ xs, WfIns x) :=
  (opens_slice Tryd.underlying22 Tryd.cIns (by omega) (by rw [Tryd.kbIns]; omega) opens_ins).mono fun _ a ⟨v, e, h⟩ => ⟨a, v, e, RdL.split h fun _ _ h => h⟩
end
end Go.Proofs.YtiaoonlhgjfdjaaDoor
