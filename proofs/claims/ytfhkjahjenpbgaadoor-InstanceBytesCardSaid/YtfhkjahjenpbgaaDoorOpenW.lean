/- Reading lists of words. -/
import Derived.Test.YtfhkjahjenpbgaaDoorMOpen
import Derived.OpenShut
namespace Go.Proofs.YtfhkjahjenpbgaaDoor
open Go Go.RowKit Go.Deep

theorem Tryd.wcU64 : Tryd.prog.cellsOf 46 = 1 := by kernel_rfl
theorem Tryd.wbU64 : Tryd.prog.bytesOf 46 = 8 := by kernel_rfl
section
variable {H : Type} {enc : TypeId × Value → H} {W : World}
theorem opens_words0 : Opens enc Tryd.prog W 30 (R1 fun w v xs => RdI .u64 (· < W.heap.size) w v xs ∧ ∀ x ∈ xs, 0 ≤ x) :=
  (opens_ints Tryd.underlying30 Tryd.wcU64 (by rw [Tryd.wbU64]; omega) Tryd.underlying46).mono fun _ a ⟨v, e, h, hw⟩ => ⟨a, v, e, h, fun x hx => (bounds_u64 (hw x hx)).1⟩
end
end Go.Proofs.YtfhkjahjenpbgaaDoor
