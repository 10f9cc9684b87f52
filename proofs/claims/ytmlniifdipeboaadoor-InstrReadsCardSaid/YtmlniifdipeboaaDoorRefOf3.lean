/- flagonref03.Of: opcodes 87 to 117. -/
import Derived.Test.YtmlniifdipeboaaDoorRefOf0
namespace Go.Proofs.YtmlniifdipeboaaDoor
open Go Go.RowKit

set_option maxRecDepth 100000 in
set_option maxHeartbeats 6400000 in
theorem ref_Of_87 (w : World) : Calls Tryd.prog 20 #[.int .u8 87] w fun e w' => e = .returned (.tuple #[.agg #[.int .u8 87, .string ⟨#[108, 46, 99, 108, 122]⟩, .int .i8 0, .string ⟨#[108]⟩, .string ⟨#[108]⟩, .bool true], .bool true]) ∧ Below w.heap.size w w' := by
  go_enter Tryd.func20, Tryd.ntmps20
  go_wp2_with fail
  refine bodyPost_ret (ref_results w.heap.size _ (.bool true) (heap_alloc_new _ _) rfl rfl rfl) rfl ?_
  exact ⟨rfl, below_alloc _ _⟩
set_option maxRecDepth 100000 in
set_option maxHeartbeats 6400000 in
theorem ref_Of_88 (w : World) : Calls Tryd.prog 20 #[.int .u8 88] w fun e w' => e = .returned (.tuple #[.agg #[.int .u8 88, .string ⟨#[108, 46, 99, 116, 122]⟩, .int .i8 0, .string ⟨#[108]⟩, .string ⟨#[108]⟩, .bool true], .bool true]) ∧ Below w.heap.size w w' := by
  go_enter Tryd.func20, Tryd.ntmps20
  go_wp2_with fail
  refine bodyPost_ret (ref_results w.heap.size _ (.bool true) (heap_alloc_new _ _) rfl rfl rfl) rfl ?_
  exact ⟨rfl, below_alloc _ _⟩
set_option maxRecDepth 100000 in
set_option maxHeartbeats 6400000 in
theorem ref_Of_89 (w : World) : Calls Tryd.prog 20 #[.int .u8 89] w fun e w' => e = .returned (.tuple #[.agg #[.int .u8 89, .string ⟨#[108, 46, 112, 111, 112]⟩, .int .i8 0, .string ⟨#[108]⟩, .string ⟨#[108]⟩, .bool true], .bool true]) ∧ Below w.heap.size w w' := by
  go_enter Tryd.func20, Tryd.ntmps20
  go_wp2_with fail
  refine bodyPost_ret (ref_results w.heap.size _ (.bool true) (heap_alloc_new _ _) rfl rfl rfl) rfl ?_
  exact ⟨rfl, below_alloc _ _⟩
set_option maxRecDepth 100000 in
set_option maxHeartbeats 6400000 in
theorem ref_Of_90 (w : World) : Calls Tryd.prog 20 #[.int .u8 90] w fun e w' => e = .returned (.tuple #[.agg #[.int .u8 90, .string ⟨#[108, 46, 97, 100, 100]⟩, .int .i8 0, .string ⟨#[108, 108]⟩, .string ⟨#[108]⟩, .bool true], .bool true]) ∧ Below w.heap.size w w' := by
  go_enter Tryd.func20, Tryd.ntmps20
  go_wp2_with fail
  refine bodyPost_ret (ref_results w.heap.size _ (.bool true) (heap_alloc_new _ _) rfl rfl rfl) rfl ?_
  exact ⟨rfl, below_alloc _ _⟩
set_option maxRecDepth 100000 in
set_option maxHeartbeats 6400000 in
theorem ref_Of_91 (w : World) : Calls Tryd.prog 20 #[.int .u8 91] w fun e w' => e = .returned (.tuple #[.agg #[.int .u8 91, .string ⟨#[108, 46, 115, 117, 98]⟩, .int .i8 0, .string ⟨#[108, 108]⟩, .string ⟨#[108]⟩, .bool true], .bool true]) ∧ Below w.heap.size w w' := by
  go_enter Tryd.func20, Tryd.ntmps20
  go_wp2_with fail
  refine bodyPost_ret (ref_results w.heap.size _ (.bool true) (heap_alloc_new _ _) rfl rfl rfl) rfl ?_
  exact ⟨rfl, below_alloc _ _⟩
set_option maxRecDepth 100000 in
set_option maxHeartbeats 6400000 in
theorem ref_Of_92 (w : World) : Calls Tryd.prog 20 #[.int .u8 92] w fun e w' => e = .returned (.tuple #[.agg #[.int .u8 92, .string ⟨#[108, 46, 109, 117, 108]⟩, .int .i8 0, .string ⟨#[108, 108]⟩, .string ⟨#[108]⟩, .bool true], .bool true]) ∧ Below w.heap.size w w' := by
  go_enter Tryd.func20, Tryd.ntmps20
  go_wp2_with fail
  refine bodyPost_ret (ref_results w.heap.size _ (.bool true) (heap_alloc_new _ _) rfl rfl rfl) rfl ?_
  exact ⟨rfl, below_alloc _ _⟩
set_option maxRecDepth 100000 in
set_option maxHeartbeats 6400000 in
theorem ref_Of_93 (w : World) : Calls Tryd.prog 20 #[.int .u8 93] w fun e w' => e = .returned (.tuple #[.agg #[.int .u8 93, .string ⟨#[108, 46, 100, 105, 118, 115]⟩, .int .i8 0, .string ⟨#[108, 108]⟩, .string ⟨#[108]⟩, .bool true], .bool true]) ∧ Below w.heap.size w w' := by
  go_enter Tryd.func20, Tryd.ntmps20
  go_wp2_with fail
  refine bodyPost_ret (ref_results w.heap.size _ (.bool true) (heap_alloc_new _ _) rfl rfl rfl) rfl ?_
  exact ⟨rfl, below_alloc _ _⟩
set_option maxRecDepth 100000 in
set_option maxHeartbeats 6400000 in
theorem ref_Of_94 (w : World) : Calls Tryd.prog 20 #[.int .u8 94] w fun e w' => e = .returned (.tuple #[.agg #[.int .u8 94, .string ⟨#[108, 46, 100, 105, 118, 117]⟩, .int .i8 0, .string ⟨#[108, 108]⟩, .string ⟨#[108]⟩, .bool true], .bool true]) ∧ Below w.heap.size w w' := by
  go_enter Tryd.func20, Tryd.ntmps20
  go_wp2_with fail
  refine bodyPost_ret (ref_results w.heap.size _ (.bool true) (heap_alloc_new _ _) rfl rfl rfl) rfl ?_
  exact ⟨rfl, below_alloc _ _⟩
set_option maxRecDepth 100000 in
set_option maxHeartbeats 6400000 in
theorem ref_Of_95 (w : World) : Calls Tryd.prog 20 #[.int .u8 95] w fun e w' => e = .returned (.tuple #[.agg #[.int .u8 95, .string ⟨#[108, 46, 114, 101, 109, 115]⟩, .int .i8 0, .string ⟨#[108, 108]⟩, .string ⟨#[108]⟩, .bool true], .bool true]) ∧ Below w.heap.size w w' := by
  go_enter Tryd.func20, Tryd.ntmps20
  go_wp2_with fail
  refine bodyPost_ret (ref_results w.heap.size _ (.bool true) (heap_alloc_new _ _) rfl rfl rfl) rfl ?_
  exact ⟨rfl, below_alloc _ _⟩
set_option maxRecDepth 100000 in
set_option maxHeartbeats 6400000 in
theorem ref_Of_96 (w : World) : Calls Tryd.prog 20 #[.int .u8 96] w fun e w' => e = .returned (.tuple #[.agg #[.int .u8 96, .string ⟨#[108, 46, 114, 101, 109, 117]⟩, .int .i8 0, .string ⟨#[108, 108]⟩, .string ⟨#[108]⟩, .bool true], .bool true]) ∧ Below w.heap.size w w' := by
  go_enter Tryd.func20, Tryd.ntmps20
  go_wp2_with fail
  refine bodyPost_ret (ref_results w.heap.size _ (.bool true) (heap_alloc_new _ _) rfl rfl rfl) rfl ?_
  exact ⟨rfl, below_alloc _ _⟩
set_option maxRecDepth 100000 in
set_option maxHeartbeats 6400000 in
theorem ref_Of_97 (w : World) : Calls Tryd.prog 20 #[.int .u8 97] w fun e w' => e = .returned (.tuple #[.agg #[.int .u8 97, .string ⟨#[108, 46, 97, 110, 100]⟩, .int .i8 0, .string ⟨#[108, 108]⟩, .string ⟨#[108]⟩, .bool true], .bool true]) ∧ Below w.heap.size w w' := by
  go_enter Tryd.func20, Tryd.ntmps20
  go_wp2_with fail
  refine bodyPost_ret (ref_results w.heap.size _ (.bool true) (heap_alloc_new _ _) rfl rfl rfl) rfl ?_
  exact ⟨rfl, below_alloc _ _⟩
set_option maxRecDepth 100000 in
set_option maxHeartbeats 6400000 in
theorem ref_Of_98 (w : World) : Calls Tryd.prog 20 #[.int .u8 98] w fun e w' => e = .returned (.tuple #[.agg #[.int .u8 98, .string ⟨#[108, 46, 111, 114]⟩, .int .i8 0, .string ⟨#[108, 108]⟩, .string ⟨#[108]⟩, .bool true], .bool true]) ∧ Below w.heap.size w w' := by
  go_enter Tryd.func20, Tryd.ntmps20
  go_wp2_with fail
  refine bodyPost_ret (ref_results w.heap.size _ (.bool true) (heap_alloc_new _ _) rfl rfl rfl) rfl ?_
  exact ⟨rfl, below_alloc _ _⟩
set_option maxRecDepth 100000 in
set_option maxHeartbeats 6400000 in
theorem ref_Of_99 (w : World) : Calls Tryd.prog 20 #[.int .u8 99] w fun e w' => e = .returned (.tuple #[.agg #[.int .u8 99, .string ⟨#[108, 46, 120, 111, 114]⟩, .int .i8 0, .string ⟨#[108, 108]⟩, .string ⟨#[108]⟩, .bool true], .bool true]) ∧ Below w.heap.size w w' := by
  go_enter Tryd.func20, Tryd.ntmps20
  go_wp2_with fail
  refine bodyPost_ret (ref_results w.heap.size _ (.bool true) (heap_alloc_new _ _) rfl rfl rfl) rfl ?_
  exact ⟨rfl, below_alloc _ _⟩
set_option maxRecDepth 100000 in
set_option maxHeartbeats 6400000 in
theorem ref_Of_100 (w : World) : Calls Tryd.prog 20 #[.int .u8 100] w fun e w' => e = .returned (.tuple #[.agg #[.int .u8 100, .string ⟨#[108, 46, 115, 104, 108]⟩, .int .i8 0, .string ⟨#[108, 108]⟩, .string ⟨#[108]⟩, .bool true], .bool true]) ∧ Below w.heap.size w w' := by
  go_enter Tryd.func20, Tryd.ntmps20
  go_wp2_with fail
  refine bodyPost_ret (ref_results w.heap.size _ (.bool true) (heap_alloc_new _ _) rfl rfl rfl) rfl ?_
  exact ⟨rfl, below_alloc _ _⟩
set_option maxRecDepth 100000 in
set_option maxHeartbeats 6400000 in
theorem ref_Of_101 (w : World) : Calls Tryd.prog 20 #[.int .u8 101] w fun e w' => e = .returned (.tuple #[.agg #[.int .u8 101, .string ⟨#[108, 46, 115, 104, 114, 115]⟩, .int .i8 0, .string ⟨#[108, 108]⟩, .string ⟨#[108]⟩, .bool true], .bool true]) ∧ Below w.heap.size w w' := by
  go_enter Tryd.func20, Tryd.ntmps20
  go_wp2_with fail
  refine bodyPost_ret (ref_results w.heap.size _ (.bool true) (heap_alloc_new _ _) rfl rfl rfl) rfl ?_
  exact ⟨rfl, below_alloc _ _⟩
set_option maxRecDepth 100000 in
set_option maxHeartbeats 6400000 in
theorem ref_Of_102 (w : World) : Calls Tryd.prog 20 #[.int .u8 102] w fun e w' => e = .returned (.tuple #[.agg #[.int .u8 102, .string ⟨#[108, 46, 115, 104, 114, 117]⟩, .int .i8 0, .string ⟨#[108, 108]⟩, .string ⟨#[108]⟩, .bool true], .bool true]) ∧ Below w.heap.size w w' := by
  go_enter Tryd.func20, Tryd.ntmps20
  go_wp2_with fail
  refine bodyPost_ret (ref_results w.heap.size _ (.bool true) (heap_alloc_new _ _) rfl rfl rfl) rfl ?_
  exact ⟨rfl, below_alloc _ _⟩
set_option maxRecDepth 100000 in
set_option maxHeartbeats 6400000 in
theorem ref_Of_103 (w : World) : Calls Tryd.prog 20 #[.int .u8 103] w fun e w' => e = .returned (.tuple #[.agg #[.int .u8 103, .string ⟨#[108, 46, 114, 111, 116, 108]⟩, .int .i8 0, .string ⟨#[108, 108]⟩, .string ⟨#[108]⟩, .bool true], .bool true]) ∧ Below w.heap.size w w' := by
  go_enter Tryd.func20, Tryd.ntmps20
  go_wp2_with fail
  refine bodyPost_ret (ref_results w.heap.size _ (.bool true) (heap_alloc_new _ _) rfl rfl rfl) rfl ?_
  exact ⟨rfl, below_alloc _ _⟩
set_option maxRecDepth 100000 in
set_option maxHeartbeats 6400000 in
theorem ref_Of_104 (w : World) : Calls Tryd.prog 20 #[.int .u8 104] w fun e w' => e = .returned (.tuple #[.agg #[.int .u8 104, .string ⟨#[108, 46, 114, 111, 116, 114]⟩, .int .i8 0, .string ⟨#[108, 108]⟩, .string ⟨#[108]⟩, .bool true], .bool true]) ∧ Below w.heap.size w w' := by
  go_enter Tryd.func20, Tryd.ntmps20
  go_wp2_with fail
  refine bodyPost_ret (ref_results w.heap.size _ (.bool true) (heap_alloc_new _ _) rfl rfl rfl) rfl ?_
  exact ⟨rfl, below_alloc _ _⟩
set_option maxRecDepth 100000 in
set_option maxHeartbeats 6400000 in
theorem ref_Of_112 (w : World) : Calls Tryd.prog 20 #[.int .u8 112] w fun e w' => e = .returned (.tuple #[.agg #[.int .u8 112, .string ⟨#[119, 46, 119, 114, 97, 112]⟩, .int .i8 0, .string ⟨#[108]⟩, .string ⟨#[119]⟩, .bool true], .bool true]) ∧ Below w.heap.size w w' := by
  go_enter Tryd.func20, Tryd.ntmps20
  go_wp2_with fail
  refine bodyPost_ret (ref_results w.heap.size _ (.bool true) (heap_alloc_new _ _) rfl rfl rfl) rfl ?_
  exact ⟨rfl, below_alloc _ _⟩
set_option maxRecDepth 100000 in
set_option maxHeartbeats 6400000 in
theorem ref_Of_113 (w : World) : Calls Tryd.prog 20 #[.int .u8 113] w fun e w' => e = .returned (.tuple #[.agg #[.int .u8 113, .string ⟨#[108, 46, 101, 120, 116, 101, 110, 100, 115]⟩, .int .i8 0, .string ⟨#[119]⟩, .string ⟨#[108]⟩, .bool true], .bool true]) ∧ Below w.heap.size w w' := by
  go_enter Tryd.func20, Tryd.ntmps20
  go_wp2_with fail
  refine bodyPost_ret (ref_results w.heap.size _ (.bool true) (heap_alloc_new _ _) rfl rfl rfl) rfl ?_
  exact ⟨rfl, below_alloc _ _⟩
set_option maxRecDepth 100000 in
set_option maxHeartbeats 6400000 in
theorem ref_Of_114 (w : World) : Calls Tryd.prog 20 #[.int .u8 114] w fun e w' => e = .returned (.tuple #[.agg #[.int .u8 114, .string ⟨#[108, 46, 101, 120, 116, 101, 110, 100, 117]⟩, .int .i8 0, .string ⟨#[119]⟩, .string ⟨#[108]⟩, .bool true], .bool true]) ∧ Below w.heap.size w w' := by
  go_enter Tryd.func20, Tryd.ntmps20
  go_wp2_with fail
  refine bodyPost_ret (ref_results w.heap.size _ (.bool true) (heap_alloc_new _ _) rfl rfl rfl) rfl ?_
  exact ⟨rfl, below_alloc _ _⟩
set_option maxRecDepth 100000 in
set_option maxHeartbeats 6400000 in
theorem ref_Of_115 (w : World) : Calls Tryd.prog 20 #[.int .u8 115] w fun e w' => e = .returned (.tuple #[.agg #[.int .u8 115, .string ⟨#[119, 46, 101, 120, 116, 56]⟩, .int .i8 0, .string ⟨#[119]⟩, .string ⟨#[119]⟩, .bool true], .bool true]) ∧ Below w.heap.size w w' := by
  go_enter Tryd.func20, Tryd.ntmps20
  go_wp2_with fail
  refine bodyPost_ret (ref_results w.heap.size _ (.bool true) (heap_alloc_new _ _) rfl rfl rfl) rfl ?_
  exact ⟨rfl, below_alloc _ _⟩
set_option maxRecDepth 100000 in
set_option maxHeartbeats 6400000 in
theorem ref_Of_116 (w : World) : Calls Tryd.prog 20 #[.int .u8 116] w fun e w' => e = .returned (.tuple #[.agg #[.int .u8 116, .string ⟨#[119, 46, 101, 120, 116, 49, 54]⟩, .int .i8 0, .string ⟨#[119]⟩, .string ⟨#[119]⟩, .bool true], .bool true]) ∧ Below w.heap.size w w' := by
  go_enter Tryd.func20, Tryd.ntmps20
  go_wp2_with fail
  refine bodyPost_ret (ref_results w.heap.size _ (.bool true) (heap_alloc_new _ _) rfl rfl rfl) rfl ?_
  exact ⟨rfl, below_alloc _ _⟩
set_option maxRecDepth 100000 in
set_option maxHeartbeats 6400000 in
theorem ref_Of_117 (w : World) : Calls Tryd.prog 20 #[.int .u8 117] w fun e w' => e = .returned (.tuple #[.agg #[.int .u8 117, .string ⟨#[108, 46, 101, 120, 116, 51, 50]⟩, .int .i8 0, .string ⟨#[108]⟩, .string ⟨#[108]⟩, .bool true], .bool true]) ∧ Below w.heap.size w w' := by
  go_enter Tryd.func20, Tryd.ntmps20
  go_wp2_with fail
  refine bodyPost_ret (ref_results w.heap.size _ (.bool true) (heap_alloc_new _ _) rfl rfl rfl) rfl ?_
  exact ⟨rfl, below_alloc _ _⟩
end Go.Proofs.YtmlniifdipeboaaDoor
