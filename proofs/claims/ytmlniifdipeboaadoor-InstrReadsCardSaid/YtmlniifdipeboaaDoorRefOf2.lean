/- flagonref03.Of: opcodes 50 to 86. -/
import Derived.Test.YtmlniifdipeboaaDoorRefOf0
namespace Go.Proofs.YtmlniifdipeboaaDoor
open Go Go.RowKit

set_option maxRecDepth 100000 in
set_option maxHeartbeats 6400000 in
theorem ref_Of_50 (w : World) : Calls Tryd.prog 20 #[.int .u8 50] w fun e w' => e = .returned (.tuple #[.agg #[.int .u8 50, .string ⟨#[119, 46, 110, 101]⟩, .int .i8 0, .string ⟨#[119, 119]⟩, .string ⟨#[119]⟩, .bool true], .bool true]) ∧ Below w.heap.size w w' := by
  go_enter Tryd.func20, Tryd.ntmps20
  go_wp2_with fail
  refine bodyPost_ret (ref_results w.heap.size _ (.bool true) (heap_alloc_new _ _) rfl rfl rfl) rfl ?_
  exact ⟨rfl, below_alloc _ _⟩
set_option maxRecDepth 100000 in
set_option maxHeartbeats 6400000 in
theorem ref_Of_51 (w : World) : Calls Tryd.prog 20 #[.int .u8 51] w fun e w' => e = .returned (.tuple #[.agg #[.int .u8 51, .string ⟨#[119, 46, 108, 116, 115]⟩, .int .i8 0, .string ⟨#[119, 119]⟩, .string ⟨#[119]⟩, .bool true], .bool true]) ∧ Below w.heap.size w w' := by
  go_enter Tryd.func20, Tryd.ntmps20
  go_wp2_with fail
  refine bodyPost_ret (ref_results w.heap.size _ (.bool true) (heap_alloc_new _ _) rfl rfl rfl) rfl ?_
  exact ⟨rfl, below_alloc _ _⟩
set_option maxRecDepth 100000 in
set_option maxHeartbeats 6400000 in
theorem ref_Of_52 (w : World) : Calls Tryd.prog 20 #[.int .u8 52] w fun e w' => e = .returned (.tuple #[.agg #[.int .u8 52, .string ⟨#[119, 46, 108, 116, 117]⟩, .int .i8 0, .string ⟨#[119, 119]⟩, .string ⟨#[119]⟩, .bool true], .bool true]) ∧ Below w.heap.size w w' := by
  go_enter Tryd.func20, Tryd.ntmps20
  go_wp2_with fail
  refine bodyPost_ret (ref_results w.heap.size _ (.bool true) (heap_alloc_new _ _) rfl rfl rfl) rfl ?_
  exact ⟨rfl, below_alloc _ _⟩
set_option maxRecDepth 100000 in
set_option maxHeartbeats 6400000 in
theorem ref_Of_53 (w : World) : Calls Tryd.prog 20 #[.int .u8 53] w fun e w' => e = .returned (.tuple #[.agg #[.int .u8 53, .string ⟨#[119, 46, 108, 101, 115]⟩, .int .i8 0, .string ⟨#[119, 119]⟩, .string ⟨#[119]⟩, .bool true], .bool true]) ∧ Below w.heap.size w w' := by
  go_enter Tryd.func20, Tryd.ntmps20
  go_wp2_with fail
  refine bodyPost_ret (ref_results w.heap.size _ (.bool true) (heap_alloc_new _ _) rfl rfl rfl) rfl ?_
  exact ⟨rfl, below_alloc _ _⟩
set_option maxRecDepth 100000 in
set_option maxHeartbeats 6400000 in
theorem ref_Of_54 (w : World) : Calls Tryd.prog 20 #[.int .u8 54] w fun e w' => e = .returned (.tuple #[.agg #[.int .u8 54, .string ⟨#[119, 46, 108, 101, 117]⟩, .int .i8 0, .string ⟨#[119, 119]⟩, .string ⟨#[119]⟩, .bool true], .bool true]) ∧ Below w.heap.size w w' := by
  go_enter Tryd.func20, Tryd.ntmps20
  go_wp2_with fail
  refine bodyPost_ret (ref_results w.heap.size _ (.bool true) (heap_alloc_new _ _) rfl rfl rfl) rfl ?_
  exact ⟨rfl, below_alloc _ _⟩
set_option maxRecDepth 100000 in
set_option maxHeartbeats 6400000 in
theorem ref_Of_55 (w : World) : Calls Tryd.prog 20 #[.int .u8 55] w fun e w' => e = .returned (.tuple #[.agg #[.int .u8 55, .string ⟨#[119, 46, 99, 108, 122]⟩, .int .i8 0, .string ⟨#[119]⟩, .string ⟨#[119]⟩, .bool true], .bool true]) ∧ Below w.heap.size w w' := by
  go_enter Tryd.func20, Tryd.ntmps20
  go_wp2_with fail
  refine bodyPost_ret (ref_results w.heap.size _ (.bool true) (heap_alloc_new _ _) rfl rfl rfl) rfl ?_
  exact ⟨rfl, below_alloc _ _⟩
set_option maxRecDepth 100000 in
set_option maxHeartbeats 6400000 in
theorem ref_Of_56 (w : World) : Calls Tryd.prog 20 #[.int .u8 56] w fun e w' => e = .returned (.tuple #[.agg #[.int .u8 56, .string ⟨#[119, 46, 99, 116, 122]⟩, .int .i8 0, .string ⟨#[119]⟩, .string ⟨#[119]⟩, .bool true], .bool true]) ∧ Below w.heap.size w w' := by
  go_enter Tryd.func20, Tryd.ntmps20
  go_wp2_with fail
  refine bodyPost_ret (ref_results w.heap.size _ (.bool true) (heap_alloc_new _ _) rfl rfl rfl) rfl ?_
  exact ⟨rfl, below_alloc _ _⟩
set_option maxRecDepth 100000 in
set_option maxHeartbeats 6400000 in
theorem ref_Of_57 (w : World) : Calls Tryd.prog 20 #[.int .u8 57] w fun e w' => e = .returned (.tuple #[.agg #[.int .u8 57, .string ⟨#[119, 46, 112, 111, 112]⟩, .int .i8 0, .string ⟨#[119]⟩, .string ⟨#[119]⟩, .bool true], .bool true]) ∧ Below w.heap.size w w' := by
  go_enter Tryd.func20, Tryd.ntmps20
  go_wp2_with fail
  refine bodyPost_ret (ref_results w.heap.size _ (.bool true) (heap_alloc_new _ _) rfl rfl rfl) rfl ?_
  exact ⟨rfl, below_alloc _ _⟩
set_option maxRecDepth 100000 in
set_option maxHeartbeats 6400000 in
theorem ref_Of_58 (w : World) : Calls Tryd.prog 20 #[.int .u8 58] w fun e w' => e = .returned (.tuple #[.agg #[.int .u8 58, .string ⟨#[119, 46, 97, 100, 100]⟩, .int .i8 0, .string ⟨#[119, 119]⟩, .string ⟨#[119]⟩, .bool true], .bool true]) ∧ Below w.heap.size w w' := by
  go_enter Tryd.func20, Tryd.ntmps20
  go_wp2_with fail
  refine bodyPost_ret (ref_results w.heap.size _ (.bool true) (heap_alloc_new _ _) rfl rfl rfl) rfl ?_
  exact ⟨rfl, below_alloc _ _⟩
set_option maxRecDepth 100000 in
set_option maxHeartbeats 6400000 in
theorem ref_Of_59 (w : World) : Calls Tryd.prog 20 #[.int .u8 59] w fun e w' => e = .returned (.tuple #[.agg #[.int .u8 59, .string ⟨#[119, 46, 115, 117, 98]⟩, .int .i8 0, .string ⟨#[119, 119]⟩, .string ⟨#[119]⟩, .bool true], .bool true]) ∧ Below w.heap.size w w' := by
  go_enter Tryd.func20, Tryd.ntmps20
  go_wp2_with fail
  refine bodyPost_ret (ref_results w.heap.size _ (.bool true) (heap_alloc_new _ _) rfl rfl rfl) rfl ?_
  exact ⟨rfl, below_alloc _ _⟩
set_option maxRecDepth 100000 in
set_option maxHeartbeats 6400000 in
theorem ref_Of_60 (w : World) : Calls Tryd.prog 20 #[.int .u8 60] w fun e w' => e = .returned (.tuple #[.agg #[.int .u8 60, .string ⟨#[119, 46, 109, 117, 108]⟩, .int .i8 0, .string ⟨#[119, 119]⟩, .string ⟨#[119]⟩, .bool true], .bool true]) ∧ Below w.heap.size w w' := by
  go_enter Tryd.func20, Tryd.ntmps20
  go_wp2_with fail
  refine bodyPost_ret (ref_results w.heap.size _ (.bool true) (heap_alloc_new _ _) rfl rfl rfl) rfl ?_
  exact ⟨rfl, below_alloc _ _⟩
set_option maxRecDepth 100000 in
set_option maxHeartbeats 6400000 in
theorem ref_Of_61 (w : World) : Calls Tryd.prog 20 #[.int .u8 61] w fun e w' => e = .returned (.tuple #[.agg #[.int .u8 61, .string ⟨#[119, 46, 100, 105, 118, 115]⟩, .int .i8 0, .string ⟨#[119, 119]⟩, .string ⟨#[119]⟩, .bool true], .bool true]) ∧ Below w.heap.size w w' := by
  go_enter Tryd.func20, Tryd.ntmps20
  go_wp2_with fail
  refine bodyPost_ret (ref_results w.heap.size _ (.bool true) (heap_alloc_new _ _) rfl rfl rfl) rfl ?_
  exact ⟨rfl, below_alloc _ _⟩
set_option maxRecDepth 100000 in
set_option maxHeartbeats 6400000 in
theorem ref_Of_62 (w : World) : Calls Tryd.prog 20 #[.int .u8 62] w fun e w' => e = .returned (.tuple #[.agg #[.int .u8 62, .string ⟨#[119, 46, 100, 105, 118, 117]⟩, .int .i8 0, .string ⟨#[119, 119]⟩, .string ⟨#[119]⟩, .bool true], .bool true]) ∧ Below w.heap.size w w' := by
  go_enter Tryd.func20, Tryd.ntmps20
  go_wp2_with fail
  refine bodyPost_ret (ref_results w.heap.size _ (.bool true) (heap_alloc_new _ _) rfl rfl rfl) rfl ?_
  exact ⟨rfl, below_alloc _ _⟩
set_option maxRecDepth 100000 in
set_option maxHeartbeats 6400000 in
theorem ref_Of_63 (w : World) : Calls Tryd.prog 20 #[.int .u8 63] w fun e w' => e = .returned (.tuple #[.agg #[.int .u8 63, .string ⟨#[119, 46, 114, 101, 109, 115]⟩, .int .i8 0, .string ⟨#[119, 119]⟩, .string ⟨#[119]⟩, .bool true], .bool true]) ∧ Below w.heap.size w w' := by
  go_enter Tryd.func20, Tryd.ntmps20
  go_wp2_with fail
  refine bodyPost_ret (ref_results w.heap.size _ (.bool true) (heap_alloc_new _ _) rfl rfl rfl) rfl ?_
  exact ⟨rfl, below_alloc _ _⟩
set_option maxRecDepth 100000 in
set_option maxHeartbeats 6400000 in
theorem ref_Of_64 (w : World) : Calls Tryd.prog 20 #[.int .u8 64] w fun e w' => e = .returned (.tuple #[.agg #[.int .u8 64, .string ⟨#[119, 46, 114, 101, 109, 117]⟩, .int .i8 0, .string ⟨#[119, 119]⟩, .string ⟨#[119]⟩, .bool true], .bool true]) ∧ Below w.heap.size w w' := by
  go_enter Tryd.func20, Tryd.ntmps20
  go_wp2_with fail
  refine bodyPost_ret (ref_results w.heap.size _ (.bool true) (heap_alloc_new _ _) rfl rfl rfl) rfl ?_
  exact ⟨rfl, below_alloc _ _⟩
set_option maxRecDepth 100000 in
set_option maxHeartbeats 6400000 in
theorem ref_Of_65 (w : World) : Calls Tryd.prog 20 #[.int .u8 65] w fun e w' => e = .returned (.tuple #[.agg #[.int .u8 65, .string ⟨#[119, 46, 97, 110, 100]⟩, .int .i8 0, .string ⟨#[119, 119]⟩, .string ⟨#[119]⟩, .bool true], .bool true]) ∧ Below w.heap.size w w' := by
  go_enter Tryd.func20, Tryd.ntmps20
  go_wp2_with fail
  refine bodyPost_ret (ref_results w.heap.size _ (.bool true) (heap_alloc_new _ _) rfl rfl rfl) rfl ?_
  exact ⟨rfl, below_alloc _ _⟩
set_option maxRecDepth 100000 in
set_option maxHeartbeats 6400000 in
theorem ref_Of_66 (w : World) : Calls Tryd.prog 20 #[.int .u8 66] w fun e w' => e = .returned (.tuple #[.agg #[.int .u8 66, .string ⟨#[119, 46, 111, 114]⟩, .int .i8 0, .string ⟨#[119, 119]⟩, .string ⟨#[119]⟩, .bool true], .bool true]) ∧ Below w.heap.size w w' := by
  go_enter Tryd.func20, Tryd.ntmps20
  go_wp2_with fail
  refine bodyPost_ret (ref_results w.heap.size _ (.bool true) (heap_alloc_new _ _) rfl rfl rfl) rfl ?_
  exact ⟨rfl, below_alloc _ _⟩
set_option maxRecDepth 100000 in
set_option maxHeartbeats 6400000 in
theorem ref_Of_67 (w : World) : Calls Tryd.prog 20 #[.int .u8 67] w fun e w' => e = .returned (.tuple #[.agg #[.int .u8 67, .string ⟨#[119, 46, 120, 111, 114]⟩, .int .i8 0, .string ⟨#[119, 119]⟩, .string ⟨#[119]⟩, .bool true], .bool true]) ∧ Below w.heap.size w w' := by
  go_enter Tryd.func20, Tryd.ntmps20
  go_wp2_with fail
  refine bodyPost_ret (ref_results w.heap.size _ (.bool true) (heap_alloc_new _ _) rfl rfl rfl) rfl ?_
  exact ⟨rfl, below_alloc _ _⟩
set_option maxRecDepth 100000 in
set_option maxHeartbeats 6400000 in
theorem ref_Of_68 (w : World) : Calls Tryd.prog 20 #[.int .u8 68] w fun e w' => e = .returned (.tuple #[.agg #[.int .u8 68, .string ⟨#[119, 46, 115, 104, 108]⟩, .int .i8 0, .string ⟨#[119, 119]⟩, .string ⟨#[119]⟩, .bool true], .bool true]) ∧ Below w.heap.size w w' := by
  go_enter Tryd.func20, Tryd.ntmps20
  go_wp2_with fail
  refine bodyPost_ret (ref_results w.heap.size _ (.bool true) (heap_alloc_new _ _) rfl rfl rfl) rfl ?_
  exact ⟨rfl, below_alloc _ _⟩
set_option maxRecDepth 100000 in
set_option maxHeartbeats 6400000 in
theorem ref_Of_69 (w : World) : Calls Tryd.prog 20 #[.int .u8 69] w fun e w' => e = .returned (.tuple #[.agg #[.int .u8 69, .string ⟨#[119, 46, 115, 104, 114, 115]⟩, .int .i8 0, .string ⟨#[119, 119]⟩, .string ⟨#[119]⟩, .bool true], .bool true]) ∧ Below w.heap.size w w' := by
  go_enter Tryd.func20, Tryd.ntmps20
  go_wp2_with fail
  refine bodyPost_ret (ref_results w.heap.size _ (.bool true) (heap_alloc_new _ _) rfl rfl rfl) rfl ?_
  exact ⟨rfl, below_alloc _ _⟩
set_option maxRecDepth 100000 in
set_option maxHeartbeats 6400000 in
theorem ref_Of_70 (w : World) : Calls Tryd.prog 20 #[.int .u8 70] w fun e w' => e = .returned (.tuple #[.agg #[.int .u8 70, .string ⟨#[119, 46, 115, 104, 114, 117]⟩, .int .i8 0, .string ⟨#[119, 119]⟩, .string ⟨#[119]⟩, .bool true], .bool true]) ∧ Below w.heap.size w w' := by
  go_enter Tryd.func20, Tryd.ntmps20
  go_wp2_with fail
  refine bodyPost_ret (ref_results w.heap.size _ (.bool true) (heap_alloc_new _ _) rfl rfl rfl) rfl ?_
  exact ⟨rfl, below_alloc _ _⟩
set_option maxRecDepth 100000 in
set_option maxHeartbeats 6400000 in
theorem ref_Of_71 (w : World) : Calls Tryd.prog 20 #[.int .u8 71] w fun e w' => e = .returned (.tuple #[.agg #[.int .u8 71, .string ⟨#[119, 46, 114, 111, 116, 108]⟩, .int .i8 0, .string ⟨#[119, 119]⟩, .string ⟨#[119]⟩, .bool true], .bool true]) ∧ Below w.heap.size w w' := by
  go_enter Tryd.func20, Tryd.ntmps20
  go_wp2_with fail
  refine bodyPost_ret (ref_results w.heap.size _ (.bool true) (heap_alloc_new _ _) rfl rfl rfl) rfl ?_
  exact ⟨rfl, below_alloc _ _⟩
set_option maxRecDepth 100000 in
set_option maxHeartbeats 6400000 in
theorem ref_Of_72 (w : World) : Calls Tryd.prog 20 #[.int .u8 72] w fun e w' => e = .returned (.tuple #[.agg #[.int .u8 72, .string ⟨#[119, 46, 114, 111, 116, 114]⟩, .int .i8 0, .string ⟨#[119, 119]⟩, .string ⟨#[119]⟩, .bool true], .bool true]) ∧ Below w.heap.size w w' := by
  go_enter Tryd.func20, Tryd.ntmps20
  go_wp2_with fail
  refine bodyPost_ret (ref_results w.heap.size _ (.bool true) (heap_alloc_new _ _) rfl rfl rfl) rfl ?_
  exact ⟨rfl, below_alloc _ _⟩
set_option maxRecDepth 100000 in
set_option maxHeartbeats 6400000 in
theorem ref_Of_80 (w : World) : Calls Tryd.prog 20 #[.int .u8 80] w fun e w' => e = .returned (.tuple #[.agg #[.int .u8 80, .string ⟨#[108, 46, 101, 113, 122]⟩, .int .i8 0, .string ⟨#[108]⟩, .string ⟨#[119]⟩, .bool true], .bool true]) ∧ Below w.heap.size w w' := by
  go_enter Tryd.func20, Tryd.ntmps20
  go_wp2_with fail
  refine bodyPost_ret (ref_results w.heap.size _ (.bool true) (heap_alloc_new _ _) rfl rfl rfl) rfl ?_
  exact ⟨rfl, below_alloc _ _⟩
set_option maxRecDepth 100000 in
set_option maxHeartbeats 6400000 in
theorem ref_Of_81 (w : World) : Calls Tryd.prog 20 #[.int .u8 81] w fun e w' => e = .returned (.tuple #[.agg #[.int .u8 81, .string ⟨#[108, 46, 101, 113]⟩, .int .i8 0, .string ⟨#[108, 108]⟩, .string ⟨#[119]⟩, .bool true], .bool true]) ∧ Below w.heap.size w w' := by
  go_enter Tryd.func20, Tryd.ntmps20
  go_wp2_with fail
  refine bodyPost_ret (ref_results w.heap.size _ (.bool true) (heap_alloc_new _ _) rfl rfl rfl) rfl ?_
  exact ⟨rfl, below_alloc _ _⟩
set_option maxRecDepth 100000 in
set_option maxHeartbeats 6400000 in
theorem ref_Of_82 (w : World) : Calls Tryd.prog 20 #[.int .u8 82] w fun e w' => e = .returned (.tuple #[.agg #[.int .u8 82, .string ⟨#[108, 46, 110, 101]⟩, .int .i8 0, .string ⟨#[108, 108]⟩, .string ⟨#[119]⟩, .bool true], .bool true]) ∧ Below w.heap.size w w' := by
  go_enter Tryd.func20, Tryd.ntmps20
  go_wp2_with fail
  refine bodyPost_ret (ref_results w.heap.size _ (.bool true) (heap_alloc_new _ _) rfl rfl rfl) rfl ?_
  exact ⟨rfl, below_alloc _ _⟩
set_option maxRecDepth 100000 in
set_option maxHeartbeats 6400000 in
theorem ref_Of_83 (w : World) : Calls Tryd.prog 20 #[.int .u8 83] w fun e w' => e = .returned (.tuple #[.agg #[.int .u8 83, .string ⟨#[108, 46, 108, 116, 115]⟩, .int .i8 0, .string ⟨#[108, 108]⟩, .string ⟨#[119]⟩, .bool true], .bool true]) ∧ Below w.heap.size w w' := by
  go_enter Tryd.func20, Tryd.ntmps20
  go_wp2_with fail
  refine bodyPost_ret (ref_results w.heap.size _ (.bool true) (heap_alloc_new _ _) rfl rfl rfl) rfl ?_
  exact ⟨rfl, below_alloc _ _⟩
set_option maxRecDepth 100000 in
set_option maxHeartbeats 6400000 in
theorem ref_Of_84 (w : World) : Calls Tryd.prog 20 #[.int .u8 84] w fun e w' => e = .returned (.tuple #[.agg #[.int .u8 84, .string ⟨#[108, 46, 108, 116, 117]⟩, .int .i8 0, .string ⟨#[108, 108]⟩, .string ⟨#[119]⟩, .bool true], .bool true]) ∧ Below w.heap.size w w' := by
  go_enter Tryd.func20, Tryd.ntmps20
  go_wp2_with fail
  refine bodyPost_ret (ref_results w.heap.size _ (.bool true) (heap_alloc_new _ _) rfl rfl rfl) rfl ?_
  exact ⟨rfl, below_alloc _ _⟩
set_option maxRecDepth 100000 in
set_option maxHeartbeats 6400000 in
theorem ref_Of_85 (w : World) : Calls Tryd.prog 20 #[.int .u8 85] w fun e w' => e = .returned (.tuple #[.agg #[.int .u8 85, .string ⟨#[108, 46, 108, 101, 115]⟩, .int .i8 0, .string ⟨#[108, 108]⟩, .string ⟨#[119]⟩, .bool true], .bool true]) ∧ Below w.heap.size w w' := by
  go_enter Tryd.func20, Tryd.ntmps20
  go_wp2_with fail
  refine bodyPost_ret (ref_results w.heap.size _ (.bool true) (heap_alloc_new _ _) rfl rfl rfl) rfl ?_
  exact ⟨rfl, below_alloc _ _⟩
set_option maxRecDepth 100000 in
set_option maxHeartbeats 6400000 in
theorem ref_Of_86 (w : World) : Calls Tryd.prog 20 #[.int .u8 86] w fun e w' => e = .returned (.tuple #[.agg #[.int .u8 86, .string ⟨#[108, 46, 108, 101, 117]⟩, .int .i8 0, .string ⟨#[108, 108]⟩, .string ⟨#[119]⟩, .bool true], .bool true]) ∧ Below w.heap.size w w' := by
  go_enter Tryd.func20, Tryd.ntmps20
  go_wp2_with fail
  refine bodyPost_ret (ref_results w.heap.size _ (.bool true) (heap_alloc_new _ _) rfl rfl rfl) rfl ?_
  exact ⟨rfl, below_alloc _ _⟩
end Go.Proofs.YtmlniifdipeboaaDoor
