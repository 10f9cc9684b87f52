/- flagonref03.Of: opcodes 0 to 49. -/
import Derived.Test.YtmlniifdipeboaaDoorRefOf0
namespace Go.Proofs.YtmlniifdipeboaaDoor
open Go Go.RowKit

set_option maxRecDepth 100000 in
set_option maxHeartbeats 6400000 in
theorem ref_Of_0 (w : World) : Calls Tryd.prog 20 #[.int .u8 0] w fun e w' => e = .returned (.tuple #[.agg #[.int .u8 0, .string ⟨#[116, 114, 97, 112]⟩, .int .i8 0, .string ⟨#[]⟩, .string ⟨#[]⟩, .bool false], .bool true]) ∧ Below w.heap.size w w' := by
  go_enter Tryd.func20, Tryd.ntmps20
  go_wp2_with fail
  refine bodyPost_ret (ref_results w.heap.size _ (.bool true) (heap_alloc_new _ _) rfl rfl rfl) rfl ?_
  exact ⟨rfl, below_alloc _ _⟩
set_option maxRecDepth 100000 in
set_option maxHeartbeats 6400000 in
theorem ref_Of_1 (w : World) : Calls Tryd.prog 20 #[.int .u8 1] w fun e w' => e = .returned (.tuple #[.agg #[.int .u8 1, .string ⟨#[110, 111, 112]⟩, .int .i8 0, .string ⟨#[]⟩, .string ⟨#[]⟩, .bool true], .bool true]) ∧ Below w.heap.size w w' := by
  go_enter Tryd.func20, Tryd.ntmps20
  go_wp2_with fail
  refine bodyPost_ret (ref_results w.heap.size _ (.bool true) (heap_alloc_new _ _) rfl rfl rfl) rfl ?_
  exact ⟨rfl, below_alloc _ _⟩
set_option maxRecDepth 100000 in
set_option maxHeartbeats 6400000 in
theorem ref_Of_2 (w : World) : Calls Tryd.prog 20 #[.int .u8 2] w fun e w' => e = .returned (.tuple #[.agg #[.int .u8 2, .string ⟨#[98, 108, 111, 99, 107]⟩, .int .i8 1, .string ⟨#[]⟩, .string ⟨#[]⟩, .bool false], .bool true]) ∧ Below w.heap.size w w' := by
  go_enter Tryd.func20, Tryd.ntmps20
  go_wp2_with fail
  refine bodyPost_ret (ref_results w.heap.size _ (.bool true) (heap_alloc_new _ _) rfl rfl rfl) rfl ?_
  exact ⟨rfl, below_alloc _ _⟩
set_option maxRecDepth 100000 in
set_option maxHeartbeats 6400000 in
theorem ref_Of_3 (w : World) : Calls Tryd.prog 20 #[.int .u8 3] w fun e w' => e = .returned (.tuple #[.agg #[.int .u8 3, .string ⟨#[108, 111, 111, 112]⟩, .int .i8 1, .string ⟨#[]⟩, .string ⟨#[]⟩, .bool false], .bool true]) ∧ Below w.heap.size w w' := by
  go_enter Tryd.func20, Tryd.ntmps20
  go_wp2_with fail
  refine bodyPost_ret (ref_results w.heap.size _ (.bool true) (heap_alloc_new _ _) rfl rfl rfl) rfl ?_
  exact ⟨rfl, below_alloc _ _⟩
set_option maxRecDepth 100000 in
set_option maxHeartbeats 6400000 in
theorem ref_Of_4 (w : World) : Calls Tryd.prog 20 #[.int .u8 4] w fun e w' => e = .returned (.tuple #[.agg #[.int .u8 4, .string ⟨#[105, 102]⟩, .int .i8 1, .string ⟨#[]⟩, .string ⟨#[]⟩, .bool false], .bool true]) ∧ Below w.heap.size w w' := by
  go_enter Tryd.func20, Tryd.ntmps20
  go_wp2_with fail
  refine bodyPost_ret (ref_results w.heap.size _ (.bool true) (heap_alloc_new _ _) rfl rfl rfl) rfl ?_
  exact ⟨rfl, below_alloc _ _⟩
set_option maxRecDepth 100000 in
set_option maxHeartbeats 6400000 in
theorem ref_Of_5 (w : World) : Calls Tryd.prog 20 #[.int .u8 5] w fun e w' => e = .returned (.tuple #[.agg #[.int .u8 5, .string ⟨#[101, 108, 115, 101]⟩, .int .i8 0, .string ⟨#[]⟩, .string ⟨#[]⟩, .bool false], .bool true]) ∧ Below w.heap.size w w' := by
  go_enter Tryd.func20, Tryd.ntmps20
  go_wp2_with fail
  refine bodyPost_ret (ref_results w.heap.size _ (.bool true) (heap_alloc_new _ _) rfl rfl rfl) rfl ?_
  exact ⟨rfl, below_alloc _ _⟩
set_option maxRecDepth 100000 in
set_option maxHeartbeats 6400000 in
theorem ref_Of_6 (w : World) : Calls Tryd.prog 20 #[.int .u8 6] w fun e w' => e = .returned (.tuple #[.agg #[.int .u8 6, .string ⟨#[101, 110, 100]⟩, .int .i8 0, .string ⟨#[]⟩, .string ⟨#[]⟩, .bool false], .bool true]) ∧ Below w.heap.size w w' := by
  go_enter Tryd.func20, Tryd.ntmps20
  go_wp2_with fail
  refine bodyPost_ret (ref_results w.heap.size _ (.bool true) (heap_alloc_new _ _) rfl rfl rfl) rfl ?_
  exact ⟨rfl, below_alloc _ _⟩
set_option maxRecDepth 100000 in
set_option maxHeartbeats 6400000 in
theorem ref_Of_7 (w : World) : Calls Tryd.prog 20 #[.int .u8 7] w fun e w' => e = .returned (.tuple #[.agg #[.int .u8 7, .string ⟨#[98, 114]⟩, .int .i8 2, .string ⟨#[]⟩, .string ⟨#[]⟩, .bool false], .bool true]) ∧ Below w.heap.size w w' := by
  go_enter Tryd.func20, Tryd.ntmps20
  go_wp2_with fail
  refine bodyPost_ret (ref_results w.heap.size _ (.bool true) (heap_alloc_new _ _) rfl rfl rfl) rfl ?_
  exact ⟨rfl, below_alloc _ _⟩
set_option maxRecDepth 100000 in
set_option maxHeartbeats 6400000 in
theorem ref_Of_8 (w : World) : Calls Tryd.prog 20 #[.int .u8 8] w fun e w' => e = .returned (.tuple #[.agg #[.int .u8 8, .string ⟨#[98, 114, 105, 102]⟩, .int .i8 2, .string ⟨#[]⟩, .string ⟨#[]⟩, .bool false], .bool true]) ∧ Below w.heap.size w w' := by
  go_enter Tryd.func20, Tryd.ntmps20
  go_wp2_with fail
  refine bodyPost_ret (ref_results w.heap.size _ (.bool true) (heap_alloc_new _ _) rfl rfl rfl) rfl ?_
  exact ⟨rfl, below_alloc _ _⟩
set_option maxRecDepth 100000 in
set_option maxHeartbeats 6400000 in
theorem ref_Of_9 (w : World) : Calls Tryd.prog 20 #[.int .u8 9] w fun e w' => e = .returned (.tuple #[.agg #[.int .u8 9, .string ⟨#[98, 114, 116, 97, 98, 108, 101]⟩, .int .i8 3, .string ⟨#[]⟩, .string ⟨#[]⟩, .bool false], .bool true]) ∧ Below w.heap.size w w' := by
  go_enter Tryd.func20, Tryd.ntmps20
  go_wp2_with fail
  refine bodyPost_ret (ref_results w.heap.size _ (.bool true) (heap_alloc_new _ _) rfl rfl rfl) rfl ?_
  exact ⟨rfl, below_alloc _ _⟩
set_option maxRecDepth 100000 in
set_option maxHeartbeats 6400000 in
theorem ref_Of_10 (w : World) : Calls Tryd.prog 20 #[.int .u8 10] w fun e w' => e = .returned (.tuple #[.agg #[.int .u8 10, .string ⟨#[114, 101, 116, 117, 114, 110]⟩, .int .i8 0, .string ⟨#[]⟩, .string ⟨#[]⟩, .bool false], .bool true]) ∧ Below w.heap.size w w' := by
  go_enter Tryd.func20, Tryd.ntmps20
  go_wp2_with fail
  refine bodyPost_ret (ref_results w.heap.size _ (.bool true) (heap_alloc_new _ _) rfl rfl rfl) rfl ?_
  exact ⟨rfl, below_alloc _ _⟩
set_option maxRecDepth 100000 in
set_option maxHeartbeats 6400000 in
theorem ref_Of_11 (w : World) : Calls Tryd.prog 20 #[.int .u8 11] w fun e w' => e = .returned (.tuple #[.agg #[.int .u8 11, .string ⟨#[99, 97, 108, 108]⟩, .int .i8 4, .string ⟨#[]⟩, .string ⟨#[]⟩, .bool false], .bool true]) ∧ Below w.heap.size w w' := by
  go_enter Tryd.func20, Tryd.ntmps20
  go_wp2_with fail
  refine bodyPost_ret (ref_results w.heap.size _ (.bool true) (heap_alloc_new _ _) rfl rfl rfl) rfl ?_
  exact ⟨rfl, below_alloc _ _⟩
set_option maxRecDepth 100000 in
set_option maxHeartbeats 6400000 in
theorem ref_Of_12 (w : World) : Calls Tryd.prog 20 #[.int .u8 12] w fun e w' => e = .returned (.tuple #[.agg #[.int .u8 12, .string ⟨#[104, 111, 115, 116]⟩, .int .i8 5, .string ⟨#[]⟩, .string ⟨#[]⟩, .bool false], .bool true]) ∧ Below w.heap.size w w' := by
  go_enter Tryd.func20, Tryd.ntmps20
  go_wp2_with fail
  refine bodyPost_ret (ref_results w.heap.size _ (.bool true) (heap_alloc_new _ _) rfl rfl rfl) rfl ?_
  exact ⟨rfl, below_alloc _ _⟩
set_option maxRecDepth 100000 in
set_option maxHeartbeats 6400000 in
theorem ref_Of_16 (w : World) : Calls Tryd.prog 20 #[.int .u8 16] w fun e w' => e = .returned (.tuple #[.agg #[.int .u8 16, .string ⟨#[100, 114, 111, 112]⟩, .int .i8 0, .string ⟨#[]⟩, .string ⟨#[]⟩, .bool false], .bool true]) ∧ Below w.heap.size w w' := by
  go_enter Tryd.func20, Tryd.ntmps20
  go_wp2_with fail
  refine bodyPost_ret (ref_results w.heap.size _ (.bool true) (heap_alloc_new _ _) rfl rfl rfl) rfl ?_
  exact ⟨rfl, below_alloc _ _⟩
set_option maxRecDepth 100000 in
set_option maxHeartbeats 6400000 in
theorem ref_Of_17 (w : World) : Calls Tryd.prog 20 #[.int .u8 17] w fun e w' => e = .returned (.tuple #[.agg #[.int .u8 17, .string ⟨#[115, 101, 108, 101, 99, 116]⟩, .int .i8 0, .string ⟨#[]⟩, .string ⟨#[]⟩, .bool false], .bool true]) ∧ Below w.heap.size w w' := by
  go_enter Tryd.func20, Tryd.ntmps20
  go_wp2_with fail
  refine bodyPost_ret (ref_results w.heap.size _ (.bool true) (heap_alloc_new _ _) rfl rfl rfl) rfl ?_
  exact ⟨rfl, below_alloc _ _⟩
set_option maxRecDepth 100000 in
set_option maxHeartbeats 6400000 in
theorem ref_Of_18 (w : World) : Calls Tryd.prog 20 #[.int .u8 18] w fun e w' => e = .returned (.tuple #[.agg #[.int .u8 18, .string ⟨#[103, 101, 116]⟩, .int .i8 6, .string ⟨#[]⟩, .string ⟨#[]⟩, .bool false], .bool true]) ∧ Below w.heap.size w w' := by
  go_enter Tryd.func20, Tryd.ntmps20
  go_wp2_with fail
  refine bodyPost_ret (ref_results w.heap.size _ (.bool true) (heap_alloc_new _ _) rfl rfl rfl) rfl ?_
  exact ⟨rfl, below_alloc _ _⟩
set_option maxRecDepth 100000 in
set_option maxHeartbeats 6400000 in
theorem ref_Of_19 (w : World) : Calls Tryd.prog 20 #[.int .u8 19] w fun e w' => e = .returned (.tuple #[.agg #[.int .u8 19, .string ⟨#[115, 101, 116]⟩, .int .i8 6, .string ⟨#[]⟩, .string ⟨#[]⟩, .bool false], .bool true]) ∧ Below w.heap.size w w' := by
  go_enter Tryd.func20, Tryd.ntmps20
  go_wp2_with fail
  refine bodyPost_ret (ref_results w.heap.size _ (.bool true) (heap_alloc_new _ _) rfl rfl rfl) rfl ?_
  exact ⟨rfl, below_alloc _ _⟩
set_option maxRecDepth 100000 in
set_option maxHeartbeats 6400000 in
theorem ref_Of_20 (w : World) : Calls Tryd.prog 20 #[.int .u8 20] w fun e w' => e = .returned (.tuple #[.agg #[.int .u8 20, .string ⟨#[116, 101, 101]⟩, .int .i8 6, .string ⟨#[]⟩, .string ⟨#[]⟩, .bool false], .bool true]) ∧ Below w.heap.size w w' := by
  go_enter Tryd.func20, Tryd.ntmps20
  go_wp2_with fail
  refine bodyPost_ret (ref_results w.heap.size _ (.bool true) (heap_alloc_new _ _) rfl rfl rfl) rfl ?_
  exact ⟨rfl, below_alloc _ _⟩
set_option maxRecDepth 100000 in
set_option maxHeartbeats 6400000 in
theorem ref_Of_21 (w : World) : Calls Tryd.prog 20 #[.int .u8 21] w fun e w' => e = .returned (.tuple #[.agg #[.int .u8 21, .string ⟨#[103, 103, 101, 116]⟩, .int .i8 7, .string ⟨#[]⟩, .string ⟨#[]⟩, .bool false], .bool true]) ∧ Below w.heap.size w w' := by
  go_enter Tryd.func20, Tryd.ntmps20
  go_wp2_with fail
  refine bodyPost_ret (ref_results w.heap.size _ (.bool true) (heap_alloc_new _ _) rfl rfl rfl) rfl ?_
  exact ⟨rfl, below_alloc _ _⟩
set_option maxRecDepth 100000 in
set_option maxHeartbeats 6400000 in
theorem ref_Of_22 (w : World) : Calls Tryd.prog 20 #[.int .u8 22] w fun e w' => e = .returned (.tuple #[.agg #[.int .u8 22, .string ⟨#[103, 115, 101, 116]⟩, .int .i8 7, .string ⟨#[]⟩, .string ⟨#[]⟩, .bool false], .bool true]) ∧ Below w.heap.size w w' := by
  go_enter Tryd.func20, Tryd.ntmps20
  go_wp2_with fail
  refine bodyPost_ret (ref_results w.heap.size _ (.bool true) (heap_alloc_new _ _) rfl rfl rfl) rfl ?_
  exact ⟨rfl, below_alloc _ _⟩
set_option maxRecDepth 100000 in
set_option maxHeartbeats 6400000 in
theorem ref_Of_24 (w : World) : Calls Tryd.prog 20 #[.int .u8 24] w fun e w' => e = .returned (.tuple #[.agg #[.int .u8 24, .string ⟨#[119, 46, 99, 111, 110, 115, 116]⟩, .int .i8 8, .string ⟨#[]⟩, .string ⟨#[119]⟩, .bool true], .bool true]) ∧ Below w.heap.size w w' := by
  go_enter Tryd.func20, Tryd.ntmps20
  go_wp2_with fail
  refine bodyPost_ret (ref_results w.heap.size _ (.bool true) (heap_alloc_new _ _) rfl rfl rfl) rfl ?_
  exact ⟨rfl, below_alloc _ _⟩
set_option maxRecDepth 100000 in
set_option maxHeartbeats 6400000 in
theorem ref_Of_25 (w : World) : Calls Tryd.prog 20 #[.int .u8 25] w fun e w' => e = .returned (.tuple #[.agg #[.int .u8 25, .string ⟨#[108, 46, 99, 111, 110, 115, 116]⟩, .int .i8 8, .string ⟨#[]⟩, .string ⟨#[108]⟩, .bool true], .bool true]) ∧ Below w.heap.size w w' := by
  go_enter Tryd.func20, Tryd.ntmps20
  go_wp2_with fail
  refine bodyPost_ret (ref_results w.heap.size _ (.bool true) (heap_alloc_new _ _) rfl rfl rfl) rfl ?_
  exact ⟨rfl, below_alloc _ _⟩
set_option maxRecDepth 100000 in
set_option maxHeartbeats 6400000 in
theorem ref_Of_32 (w : World) : Calls Tryd.prog 20 #[.int .u8 32] w fun e w' => e = .returned (.tuple #[.agg #[.int .u8 32, .string ⟨#[119, 46, 108, 111, 97, 100, 56, 117]⟩, .int .i8 9, .string ⟨#[119]⟩, .string ⟨#[119]⟩, .bool true], .bool true]) ∧ Below w.heap.size w w' := by
  go_enter Tryd.func20, Tryd.ntmps20
  go_wp2_with fail
  refine bodyPost_ret (ref_results w.heap.size _ (.bool true) (heap_alloc_new _ _) rfl rfl rfl) rfl ?_
  exact ⟨rfl, below_alloc _ _⟩
set_option maxRecDepth 100000 in
set_option maxHeartbeats 6400000 in
theorem ref_Of_33 (w : World) : Calls Tryd.prog 20 #[.int .u8 33] w fun e w' => e = .returned (.tuple #[.agg #[.int .u8 33, .string ⟨#[119, 46, 108, 111, 97, 100, 56, 115]⟩, .int .i8 9, .string ⟨#[119]⟩, .string ⟨#[119]⟩, .bool true], .bool true]) ∧ Below w.heap.size w w' := by
  go_enter Tryd.func20, Tryd.ntmps20
  go_wp2_with fail
  refine bodyPost_ret (ref_results w.heap.size _ (.bool true) (heap_alloc_new _ _) rfl rfl rfl) rfl ?_
  exact ⟨rfl, below_alloc _ _⟩
set_option maxRecDepth 100000 in
set_option maxHeartbeats 6400000 in
theorem ref_Of_34 (w : World) : Calls Tryd.prog 20 #[.int .u8 34] w fun e w' => e = .returned (.tuple #[.agg #[.int .u8 34, .string ⟨#[119, 46, 108, 111, 97, 100, 49, 54, 117]⟩, .int .i8 9, .string ⟨#[119]⟩, .string ⟨#[119]⟩, .bool true], .bool true]) ∧ Below w.heap.size w w' := by
  go_enter Tryd.func20, Tryd.ntmps20
  go_wp2_with fail
  refine bodyPost_ret (ref_results w.heap.size _ (.bool true) (heap_alloc_new _ _) rfl rfl rfl) rfl ?_
  exact ⟨rfl, below_alloc _ _⟩
set_option maxRecDepth 100000 in
set_option maxHeartbeats 6400000 in
theorem ref_Of_35 (w : World) : Calls Tryd.prog 20 #[.int .u8 35] w fun e w' => e = .returned (.tuple #[.agg #[.int .u8 35, .string ⟨#[119, 46, 108, 111, 97, 100, 49, 54, 115]⟩, .int .i8 9, .string ⟨#[119]⟩, .string ⟨#[119]⟩, .bool true], .bool true]) ∧ Below w.heap.size w w' := by
  go_enter Tryd.func20, Tryd.ntmps20
  go_wp2_with fail
  refine bodyPost_ret (ref_results w.heap.size _ (.bool true) (heap_alloc_new _ _) rfl rfl rfl) rfl ?_
  exact ⟨rfl, below_alloc _ _⟩
set_option maxRecDepth 100000 in
set_option maxHeartbeats 6400000 in
theorem ref_Of_36 (w : World) : Calls Tryd.prog 20 #[.int .u8 36] w fun e w' => e = .returned (.tuple #[.agg #[.int .u8 36, .string ⟨#[119, 46, 108, 111, 97, 100]⟩, .int .i8 9, .string ⟨#[119]⟩, .string ⟨#[119]⟩, .bool true], .bool true]) ∧ Below w.heap.size w w' := by
  go_enter Tryd.func20, Tryd.ntmps20
  go_wp2_with fail
  refine bodyPost_ret (ref_results w.heap.size _ (.bool true) (heap_alloc_new _ _) rfl rfl rfl) rfl ?_
  exact ⟨rfl, below_alloc _ _⟩
set_option maxRecDepth 100000 in
set_option maxHeartbeats 6400000 in
theorem ref_Of_37 (w : World) : Calls Tryd.prog 20 #[.int .u8 37] w fun e w' => e = .returned (.tuple #[.agg #[.int .u8 37, .string ⟨#[108, 46, 108, 111, 97, 100]⟩, .int .i8 9, .string ⟨#[119]⟩, .string ⟨#[108]⟩, .bool true], .bool true]) ∧ Below w.heap.size w w' := by
  go_enter Tryd.func20, Tryd.ntmps20
  go_wp2_with fail
  refine bodyPost_ret (ref_results w.heap.size _ (.bool true) (heap_alloc_new _ _) rfl rfl rfl) rfl ?_
  exact ⟨rfl, below_alloc _ _⟩
set_option maxRecDepth 100000 in
set_option maxHeartbeats 6400000 in
theorem ref_Of_38 (w : World) : Calls Tryd.prog 20 #[.int .u8 38] w fun e w' => e = .returned (.tuple #[.agg #[.int .u8 38, .string ⟨#[119, 46, 115, 116, 111, 114, 101, 56]⟩, .int .i8 9, .string ⟨#[119, 119]⟩, .string ⟨#[]⟩, .bool true], .bool true]) ∧ Below w.heap.size w w' := by
  go_enter Tryd.func20, Tryd.ntmps20
  go_wp2_with fail
  refine bodyPost_ret (ref_results w.heap.size _ (.bool true) (heap_alloc_new _ _) rfl rfl rfl) rfl ?_
  exact ⟨rfl, below_alloc _ _⟩
set_option maxRecDepth 100000 in
set_option maxHeartbeats 6400000 in
theorem ref_Of_39 (w : World) : Calls Tryd.prog 20 #[.int .u8 39] w fun e w' => e = .returned (.tuple #[.agg #[.int .u8 39, .string ⟨#[119, 46, 115, 116, 111, 114, 101, 49, 54]⟩, .int .i8 9, .string ⟨#[119, 119]⟩, .string ⟨#[]⟩, .bool true], .bool true]) ∧ Below w.heap.size w w' := by
  go_enter Tryd.func20, Tryd.ntmps20
  go_wp2_with fail
  refine bodyPost_ret (ref_results w.heap.size _ (.bool true) (heap_alloc_new _ _) rfl rfl rfl) rfl ?_
  exact ⟨rfl, below_alloc _ _⟩
set_option maxRecDepth 100000 in
set_option maxHeartbeats 6400000 in
theorem ref_Of_40 (w : World) : Calls Tryd.prog 20 #[.int .u8 40] w fun e w' => e = .returned (.tuple #[.agg #[.int .u8 40, .string ⟨#[119, 46, 115, 116, 111, 114, 101]⟩, .int .i8 9, .string ⟨#[119, 119]⟩, .string ⟨#[]⟩, .bool true], .bool true]) ∧ Below w.heap.size w w' := by
  go_enter Tryd.func20, Tryd.ntmps20
  go_wp2_with fail
  refine bodyPost_ret (ref_results w.heap.size _ (.bool true) (heap_alloc_new _ _) rfl rfl rfl) rfl ?_
  exact ⟨rfl, below_alloc _ _⟩
set_option maxRecDepth 100000 in
set_option maxHeartbeats 6400000 in
theorem ref_Of_41 (w : World) : Calls Tryd.prog 20 #[.int .u8 41] w fun e w' => e = .returned (.tuple #[.agg #[.int .u8 41, .string ⟨#[108, 46, 115, 116, 111, 114, 101]⟩, .int .i8 9, .string ⟨#[119, 108]⟩, .string ⟨#[]⟩, .bool true], .bool true]) ∧ Below w.heap.size w w' := by
  go_enter Tryd.func20, Tryd.ntmps20
  go_wp2_with fail
  refine bodyPost_ret (ref_results w.heap.size _ (.bool true) (heap_alloc_new _ _) rfl rfl rfl) rfl ?_
  exact ⟨rfl, below_alloc _ _⟩
set_option maxRecDepth 100000 in
set_option maxHeartbeats 6400000 in
theorem ref_Of_42 (w : World) : Calls Tryd.prog 20 #[.int .u8 42] w fun e w' => e = .returned (.tuple #[.agg #[.int .u8 42, .string ⟨#[115, 105, 122, 101]⟩, .int .i8 0, .string ⟨#[]⟩, .string ⟨#[119]⟩, .bool true], .bool true]) ∧ Below w.heap.size w w' := by
  go_enter Tryd.func20, Tryd.ntmps20
  go_wp2_with fail
  refine bodyPost_ret (ref_results w.heap.size _ (.bool true) (heap_alloc_new _ _) rfl rfl rfl) rfl ?_
  exact ⟨rfl, below_alloc _ _⟩
set_option maxRecDepth 100000 in
set_option maxHeartbeats 6400000 in
theorem ref_Of_43 (w : World) : Calls Tryd.prog 20 #[.int .u8 43] w fun e w' => e = .returned (.tuple #[.agg #[.int .u8 43, .string ⟨#[103, 114, 111, 119]⟩, .int .i8 0, .string ⟨#[119]⟩, .string ⟨#[119]⟩, .bool true], .bool true]) ∧ Below w.heap.size w w' := by
  go_enter Tryd.func20, Tryd.ntmps20
  go_wp2_with fail
  refine bodyPost_ret (ref_results w.heap.size _ (.bool true) (heap_alloc_new _ _) rfl rfl rfl) rfl ?_
  exact ⟨rfl, below_alloc _ _⟩
set_option maxRecDepth 100000 in
set_option maxHeartbeats 6400000 in
theorem ref_Of_48 (w : World) : Calls Tryd.prog 20 #[.int .u8 48] w fun e w' => e = .returned (.tuple #[.agg #[.int .u8 48, .string ⟨#[119, 46, 101, 113, 122]⟩, .int .i8 0, .string ⟨#[119]⟩, .string ⟨#[119]⟩, .bool true], .bool true]) ∧ Below w.heap.size w w' := by
  go_enter Tryd.func20, Tryd.ntmps20
  go_wp2_with fail
  refine bodyPost_ret (ref_results w.heap.size _ (.bool true) (heap_alloc_new _ _) rfl rfl rfl) rfl ?_
  exact ⟨rfl, below_alloc _ _⟩
set_option maxRecDepth 100000 in
set_option maxHeartbeats 6400000 in
theorem ref_Of_49 (w : World) : Calls Tryd.prog 20 #[.int .u8 49] w fun e w' => e = .returned (.tuple #[.agg #[.int .u8 49, .string ⟨#[119, 46, 101, 113]⟩, .int .i8 0, .string ⟨#[119, 119]⟩, .string ⟨#[119]⟩, .bool true], .bool true]) ∧ Below w.heap.size w w' := by
  go_enter Tryd.func20, Tryd.ntmps20
  go_wp2_with fail
  refine bodyPost_ret (ref_results w.heap.size _ (.bool true) (heap_alloc_new _ _) rfl rfl rfl) rfl ?_
  exact ⟨rfl, below_alloc _ _⟩
end Go.Proofs.YtmlniifdipeboaaDoor
