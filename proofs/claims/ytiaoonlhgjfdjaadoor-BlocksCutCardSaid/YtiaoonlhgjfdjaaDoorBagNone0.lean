/- One kind more: the bag's looks at kinds of which nothing was gathered. -/
import Derived.Test.YtiaoonlhgjfdjaaDoorLib2
namespace Go.Proofs.YtiaoonlhgjfdjaaDoor
open Go Go.RowKit

set_option maxRecDepth 100000 in
set_option maxHeartbeats 1600000 in
theorem none_Bytes (w : World) (gb : Nat) (hd : w.cell? ⟨gb, 0, none⟩ = some (.slice none 0 0)) :
    Calls Tryd.prog 42 #[.pointer (some ⟨gb, 0, none⟩)] w fun e w' => e = .returned (.bool true) ∧ w' = w := by
  go_enter Tryd.func42, Tryd.ntmps42
  go_wp2
  go_loopw [3] (fun n wr => n = .int .i64 0 ∧ wr = w) (fun _ _ => 0)
  case atStart => exact ⟨rfl, rfl⟩
  case round =>
    obtain ⟨rfl, rfl⟩ := hrel
    go_wp2
    go_loopw [5, 6, 7] (fun o m n wr' => o = .slice none 0 0 ∧ m = .slice none 0 0 ∧ n = .int .i64 0 ∧ wr' = wr) (fun _ _ _ _ => 0)
    case atStart => exact ⟨rfl, rfl, rfl, rfl⟩
    case round =>
      obtain ⟨rfl, rfl, rfl, rfl⟩ := hrel
      go_wp2
      go_loopw [10] (fun n wr'' => n = .int .i64 0 ∧ wr'' = wr) (fun _ _ => 0)
      case atStart => exact ⟨rfl, rfl⟩
      case round =>
        obtain ⟨rfl, rfl⟩ := hrel
        go_wp2
        go_ret
        exact ⟨rfl, rfl⟩
end Go.Proofs.YtiaoonlhgjfdjaaDoor
