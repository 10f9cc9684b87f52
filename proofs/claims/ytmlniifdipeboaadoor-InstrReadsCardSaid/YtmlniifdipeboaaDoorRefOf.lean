/- flagonref03.Of: all opcodes. -/
import Derived.Test.YtmlniifdipeboaaDoorRefOf1
import Derived.Test.YtmlniifdipeboaaDoorRefOf2
import Derived.Test.YtmlniifdipeboaaDoorRefOf3
namespace Go.Proofs.YtmlniifdipeboaaDoor
open Go Go.RowKit

set_option maxRecDepth 100000 in
set_option maxHeartbeats 6400000 in
theorem ref_Of_none (w : World) (op : Nat) (_ho : op < 256) (h : Hid (∀ k ∈ ([0, 1, 2, 3, 4, 5, 6, 7, 8, 9, 10, 11, 12, 16, 17, 18, 19, 20, 21, 22, 24, 25, 32, 33, 34, 35, 36, 37, 38, 39, 40, 41, 42, 43, 48, 49, 50, 51, 52, 53, 54, 55, 56, 57, 58, 59, 60, 61, 62, 63, 64, 65, 66, 67, 68, 69, 70, 71, 72, 80, 81, 82, 83, 84, 85, 86, 87, 88, 89, 90, 91, 92, 93, 94, 95, 96, 97, 98, 99, 100, 101, 102, 103, 104, 112, 113, 114, 115, 116, 117] : List Nat), op ≠ k)) : Calls Tryd.prog 20 #[.int .u8 op] w fun e w' => e = .returned (.tuple #[.agg #[.int .u8 0, .string ⟨#[]⟩, .int .i8 0, .string ⟨#[]⟩, .string ⟨#[]⟩, .bool false], .bool false]) ∧ Below w.heap.size w w' := by
  have f0 : ((op : Int) == 0) = false := by rw [beq_eq_false_iff_ne]; have := h.out 0 (by decide); omega
  have f1 : ((op : Int) == 1) = false := by rw [beq_eq_false_iff_ne]; have := h.out 1 (by decide); omega
  have f2 : ((op : Int) == 2) = false := by rw [beq_eq_false_iff_ne]; have := h.out 2 (by decide); omega
  have f3 : ((op : Int) == 3) = false := by rw [beq_eq_false_iff_ne]; have := h.out 3 (by decide); omega
  have f4 : ((op : Int) == 4) = false := by rw [beq_eq_false_iff_ne]; have := h.out 4 (by decide); omega
  have f5 : ((op : Int) == 5) = false := by rw [beq_eq_false_iff_ne]; have := h.out 5 (by decide); omega
  have f6 : ((op : Int) == 6) = false := by rw [beq_eq_false_iff_ne]; have := h.out 6 (by decide); omega
  have f7 : ((op : Int) == 7) = false := by rw [beq_eq_false_iff_ne]; have := h.out 7 (by decide); omega
  have f8 : ((op : Int) == 8) = false := by rw [beq_eq_false_iff_ne]; have := h.out 8 (by decide); omega
  have f9 : ((op : Int) == 9) = false := by rw [beq_eq_false_iff_ne]; have := h.out 9 (by decide); omega
  have f10 : ((op : Int) == 10) = false := by rw [beq_eq_false_iff_ne]; have := h.out 10 (by decide); omega
  have f11 : ((op : Int) == 11) = false := by rw [beq_eq_false_iff_ne]; have := h.out 11 (by decide); omega
  have f12 : ((op : Int) == 12) = false := by rw [beq_eq_false_iff_ne]; have := h.out 12 (by decide); omega
  have f16 : ((op : Int) == 16) = false := by rw [beq_eq_false_iff_ne]; have := h.out 16 (by decide); omega
  have f17 : ((op : Int) == 17) = false := by rw [beq_eq_false_iff_ne]; have := h.out 17 (by decide); omega
  have f18 : ((op : Int) == 18) = false := by rw [beq_eq_false_iff_ne]; have := h.out 18 (by decide); omega
  have f19 : ((op : Int) == 19) = false := by rw [beq_eq_false_iff_ne]; have := h.out 19 (by decide); omega
  have f20 : ((op : Int) == 20) = false := by rw [beq_eq_false_iff_ne]; have := h.out 20 (by decide); omega
  have f21 : ((op : Int) == 21) = false := by rw [beq_eq_false_iff_ne]; have := h.out 21 (by decide); omega
  have f22 : ((op : Int) == 22) = false := by rw [beq_eq_false_iff_ne]; have := h.out 22 (by decide); omega
  have f24 : ((op : Int) == 24) = false := by rw [beq_eq_false_iff_ne]; have := h.out 24 (by decide); omega
  have f25 : ((op : Int) == 25) = false := by rw [beq_eq_false_iff_ne]; have := h.out 25 (by decide); omega
  have f32 : ((op : Int) == 32) = false := by rw [beq_eq_false_iff_ne]; have := h.out 32 (by decide); omega
  have f33 : ((op : Int) == 33) = false := by rw [beq_eq_false_iff_ne]; have := h.out 33 (by decide); omega
  have f34 : ((op : Int) == 34) = false := by rw [beq_eq_false_iff_ne]; have := h.out 34 (by decide); omega
  have f35 : ((op : Int) == 35) = false := by rw [beq_eq_false_iff_ne]; have := h.out 35 (by decide); omega
  have f36 : ((op : Int) == 36) = false := by rw [beq_eq_false_iff_ne]; have := h.out 36 (by decide); omega
  have f37 : ((op : Int) == 37) = false := by rw [beq_eq_false_iff_ne]; have := h.out 37 (by decide); omega
  have f38 : ((op : Int) == 38) = false := by rw [beq_eq_false_iff_ne]; have := h.out 38 (by decide); omega
  have f39 : ((op : Int) == 39) = false := by rw [beq_eq_false_iff_ne]; have := h.out 39 (by decide); omega
  have f40 : ((op : Int) == 40) = false := by rw [beq_eq_false_iff_ne]; have := h.out 40 (by decide); omega
  have f41 : ((op : Int) == 41) = false := by rw [beq_eq_false_iff_ne]; have := h.out 41 (by decide); omega
  have f42 : ((op : Int) == 42) = false := by rw [beq_eq_false_iff_ne]; have := h.out 42 (by decide); omega
  have f43 : ((op : Int) == 43) = false := by rw [beq_eq_false_iff_ne]; have := h.out 43 (by decide); omega
  have f48 : ((op : Int) == 48) = false := by rw [beq_eq_false_iff_ne]; have := h.out 48 (by decide); omega
  have f49 : ((op : Int) == 49) = false := by rw [beq_eq_false_iff_ne]; have := h.out 49 (by decide); omega
  have f50 : ((op : Int) == 50) = false := by rw [beq_eq_false_iff_ne]; have := h.out 50 (by decide); omega
  have f51 : ((op : Int) == 51) = false := by rw [beq_eq_false_iff_ne]; have := h.out 51 (by decide); omega
  have f52 : ((op : Int) == 52) = false := by rw [beq_eq_false_iff_ne]; have := h.out 52 (by decide); omega
  have f53 : ((op : Int) == 53) = false := by rw [beq_eq_false_iff_ne]; have := h.out 53 (by decide); omega
  have f54 : ((op : Int) == 54) = false := by rw [beq_eq_false_iff_ne]; have := h.out 54 (by decide); omega
  have f55 : ((op : Int) == 55) = false := by rw [beq_eq_false_iff_ne]; have := h.out 55 (by decide); omega
  have f56 : ((op : Int) == 56) = false := by rw [beq_eq_false_iff_ne]; have := h.out 56 (by decide); omega
  have f57 : ((op : Int) == 57) = false := by rw [beq_eq_false_iff_ne]; have := h.out 57 (by decide); omega
  have f58 : ((op : Int) == 58) = false := by rw [beq_eq_false_iff_ne]; have := h.out 58 (by decide); omega
  have f59 : ((op : Int) == 59) = false := by rw [beq_eq_false_iff_ne]; have := h.out 59 (by decide); omega
  have f60 : ((op : Int) == 60) = false := by rw [beq_eq_false_iff_ne]; have := h.out 60 (by decide); omega
  have f61 : ((op : Int) == 61) = false := by rw [beq_eq_false_iff_ne]; have := h.out 61 (by decide); omega
  have f62 : ((op : Int) == 62) = false := by rw [beq_eq_false_iff_ne]; have := h.out 62 (by decide); omega
  have f63 : ((op : Int) == 63) = false := by rw [beq_eq_false_iff_ne]; have := h.out 63 (by decide); omega
  have f64 : ((op : Int) == 64) = false := by rw [beq_eq_false_iff_ne]; have := h.out 64 (by decide); omega
  have f65 : ((op : Int) == 65) = false := by rw [beq_eq_false_iff_ne]; have := h.out 65 (by decide); omega
  have f66 : ((op : Int) == 66) = false := by rw [beq_eq_false_iff_ne]; have := h.out 66 (by decide); omega
  have f67 : ((op : Int) == 67) = false := by rw [beq_eq_false_iff_ne]; have := h.out 67 (by decide); omega
  have f68 : ((op : Int) == 68) = false := by rw [beq_eq_false_iff_ne]; have := h.out 68 (by decide); omega
  have f69 : ((op : Int) == 69) = false := by rw [beq_eq_false_iff_ne]; have := h.out 69 (by decide); omega
  have f70 : ((op : Int) == 70) = false := by rw [beq_eq_false_iff_ne]; have := h.out 70 (by decide); omega
  have f71 : ((op : Int) == 71) = false := by rw [beq_eq_false_iff_ne]; have := h.out 71 (by decide); omega
  have f72 : ((op : Int) == 72) = false := by rw [beq_eq_false_iff_ne]; have := h.out 72 (by decide); omega
  have f80 : ((op : Int) == 80) = false := by rw [beq_eq_false_iff_ne]; have := h.out 80 (by decide); omega
  have f81 : ((op : Int) == 81) = false := by rw [beq_eq_false_iff_ne]; have := h.out 81 (by decide); omega
  have f82 : ((op : Int) == 82) = false := by rw [beq_eq_false_iff_ne]; have := h.out 82 (by decide); omega
  have f83 : ((op : Int) == 83) = false := by rw [beq_eq_false_iff_ne]; have := h.out 83 (by decide); omega
  have f84 : ((op : Int) == 84) = false := by rw [beq_eq_false_iff_ne]; have := h.out 84 (by decide); omega
  have f85 : ((op : Int) == 85) = false := by rw [beq_eq_false_iff_ne]; have := h.out 85 (by decide); omega
  have f86 : ((op : Int) == 86) = false := by rw [beq_eq_false_iff_ne]; have := h.out 86 (by decide); omega
  have f87 : ((op : Int) == 87) = false := by rw [beq_eq_false_iff_ne]; have := h.out 87 (by decide); omega
  have f88 : ((op : Int) == 88) = false := by rw [beq_eq_false_iff_ne]; have := h.out 88 (by decide); omega
  have f89 : ((op : Int) == 89) = false := by rw [beq_eq_false_iff_ne]; have := h.out 89 (by decide); omega
  have f90 : ((op : Int) == 90) = false := by rw [beq_eq_false_iff_ne]; have := h.out 90 (by decide); omega
  have f91 : ((op : Int) == 91) = false := by rw [beq_eq_false_iff_ne]; have := h.out 91 (by decide); omega
  have f92 : ((op : Int) == 92) = false := by rw [beq_eq_false_iff_ne]; have := h.out 92 (by decide); omega
  have f93 : ((op : Int) == 93) = false := by rw [beq_eq_false_iff_ne]; have := h.out 93 (by decide); omega
  have f94 : ((op : Int) == 94) = false := by rw [beq_eq_false_iff_ne]; have := h.out 94 (by decide); omega
  have f95 : ((op : Int) == 95) = false := by rw [beq_eq_false_iff_ne]; have := h.out 95 (by decide); omega
  have f96 : ((op : Int) == 96) = false := by rw [beq_eq_false_iff_ne]; have := h.out 96 (by decide); omega
  have f97 : ((op : Int) == 97) = false := by rw [beq_eq_false_iff_ne]; have := h.out 97 (by decide); omega
  have f98 : ((op : Int) == 98) = false := by rw [beq_eq_false_iff_ne]; have := h.out 98 (by decide); omega
  have f99 : ((op : Int) == 99) = false := by rw [beq_eq_false_iff_ne]; have := h.out 99 (by decide); omega
  have f100 : ((op : Int) == 100) = false := by rw [beq_eq_false_iff_ne]; have := h.out 100 (by decide); omega
  have f101 : ((op : Int) == 101) = false := by rw [beq_eq_false_iff_ne]; have := h.out 101 (by decide); omega
  have f102 : ((op : Int) == 102) = false := by rw [beq_eq_false_iff_ne]; have := h.out 102 (by decide); omega
  have f103 : ((op : Int) == 103) = false := by rw [beq_eq_false_iff_ne]; have := h.out 103 (by decide); omega
  have f104 : ((op : Int) == 104) = false := by rw [beq_eq_false_iff_ne]; have := h.out 104 (by decide); omega
  have f112 : ((op : Int) == 112) = false := by rw [beq_eq_false_iff_ne]; have := h.out 112 (by decide); omega
  have f113 : ((op : Int) == 113) = false := by rw [beq_eq_false_iff_ne]; have := h.out 113 (by decide); omega
  have f114 : ((op : Int) == 114) = false := by rw [beq_eq_false_iff_ne]; have := h.out 114 (by decide); omega
  have f115 : ((op : Int) == 115) = false := by rw [beq_eq_false_iff_ne]; have := h.out 115 (by decide); omega
  have f116 : ((op : Int) == 116) = false := by rw [beq_eq_false_iff_ne]; have := h.out 116 (by decide); omega
  have f117 : ((op : Int) == 117) = false := by rw [beq_eq_false_iff_ne]; have := h.out 117 (by decide); omega
  clear h
  go_enter Tryd.func20, Tryd.ntmps20
  go_wp2_with fail
  refine bodyPost_ret (ref_results w.heap.size _ (.bool false) (heap_alloc_new _ _) rfl rfl rfl) rfl ?_
  exact ⟨rfl, below_alloc _ _⟩
theorem ops_list : ∀ op : Fin 256, isOp op.val = decide (op.val ∈ ([0, 1, 2, 3, 4, 5, 6, 7, 8, 9, 10, 11, 12, 16, 17, 18, 19, 20, 21, 22, 24, 25, 32, 33, 34, 35, 36, 37, 38, 39, 40, 41, 42, 43, 48, 49, 50, 51, 52, 53, 54, 55, 56, 57, 58, 59, 60, 61, 62, 63, 64, 65, 66, 67, 68, 69, 70, 71, 72, 80, 81, 82, 83, 84, 85, 86, 87, 88, 89, 90, 91, 92, 93, 94, 95, 96, 97, 98, 99, 100, 101, 102, 103, 104, 112, 113, 114, 115, 116, 117] : List Nat)) := by decide +kernel
theorem ref_Of (w : World) (op : Nat) (ho : op < 256) : Calls Tryd.prog 20 #[.int .u8 op] w fun e w' => e = .returned (.tuple #[.agg (rowVal op).toArray, .bool (isOp op)]) ∧ Below w.heap.size w w' := by
  have hl := ops_list ⟨op, ho⟩
  simp only at hl
  by_cases h : op ∈ ([0, 1, 2, 3, 4, 5, 6, 7, 8, 9, 10, 11, 12, 16, 17, 18, 19, 20, 21, 22, 24, 25, 32, 33, 34, 35, 36, 37, 38, 39, 40, 41, 42, 43, 48, 49, 50, 51, 52, 53, 54, 55, 56, 57, 58, 59, 60, 61, 62, 63, 64, 65, 66, 67, 68, 69, 70, 71, 72, 80, 81, 82, 83, 84, 85, 86, 87, 88, 89, 90, 91, 92, 93, 94, 95, 96, 97, 98, 99, 100, 101, 102, 103, 104, 112, 113, 114, 115, 116, 117] : List Nat)
  · simp only [List.mem_cons, List.not_mem_nil, or_false] at h
    clear hl ho
    rcases h with rfl | rfl | rfl | rfl | rfl | rfl | rfl | rfl | rfl | rfl | rfl | rfl | rfl | rfl | rfl | rfl | rfl | rfl | rfl | rfl | rfl | rfl | rfl | rfl | rfl | rfl | rfl | rfl | rfl | rfl | rfl | rfl | rfl | rfl | rfl | rfl | rfl | rfl | rfl | rfl | rfl | rfl | rfl | rfl | rfl | rfl | rfl | rfl | rfl | rfl | rfl | rfl | rfl | rfl | rfl | rfl | rfl | rfl | rfl | rfl | rfl | rfl | rfl | rfl | rfl | rfl | rfl | rfl | rfl | rfl | rfl | rfl | rfl | rfl | rfl | rfl | rfl | rfl | rfl | rfl | rfl | rfl | rfl | rfl | rfl | rfl | rfl | rfl | rfl | rfl
    · exact ref_Of_0 w
    · exact ref_Of_1 w
    · exact ref_Of_2 w
    · exact ref_Of_3 w
    · exact ref_Of_4 w
    · exact ref_Of_5 w
    · exact ref_Of_6 w
    · exact ref_Of_7 w
    · exact ref_Of_8 w
    · exact ref_Of_9 w
    · exact ref_Of_10 w
    · exact ref_Of_11 w
    · exact ref_Of_12 w
    · exact ref_Of_16 w
    · exact ref_Of_17 w
    · exact ref_Of_18 w
    · exact ref_Of_19 w
    · exact ref_Of_20 w
    · exact ref_Of_21 w
    · exact ref_Of_22 w
    · exact ref_Of_24 w
    · exact ref_Of_25 w
    · exact ref_Of_32 w
    · exact ref_Of_33 w
    · exact ref_Of_34 w
    · exact ref_Of_35 w
    · exact ref_Of_36 w
    · exact ref_Of_37 w
    · exact ref_Of_38 w
    · exact ref_Of_39 w
    · exact ref_Of_40 w
    · exact ref_Of_41 w
    · exact ref_Of_42 w
    · exact ref_Of_43 w
    · exact ref_Of_48 w
    · exact ref_Of_49 w
    · exact ref_Of_50 w
    · exact ref_Of_51 w
    · exact ref_Of_52 w
    · exact ref_Of_53 w
    · exact ref_Of_54 w
    · exact ref_Of_55 w
    · exact ref_Of_56 w
    · exact ref_Of_57 w
    · exact ref_Of_58 w
    · exact ref_Of_59 w
    · exact ref_Of_60 w
    · exact ref_Of_61 w
    · exact ref_Of_62 w
    · exact ref_Of_63 w
    · exact ref_Of_64 w
    · exact ref_Of_65 w
    · exact ref_Of_66 w
    · exact ref_Of_67 w
    · exact ref_Of_68 w
    · exact ref_Of_69 w
    · exact ref_Of_70 w
    · exact ref_Of_71 w
    · exact ref_Of_72 w
    · exact ref_Of_80 w
    · exact ref_Of_81 w
    · exact ref_Of_82 w
    · exact ref_Of_83 w
    · exact ref_Of_84 w
    · exact ref_Of_85 w
    · exact ref_Of_86 w
    · exact ref_Of_87 w
    · exact ref_Of_88 w
    · exact ref_Of_89 w
    · exact ref_Of_90 w
    · exact ref_Of_91 w
    · exact ref_Of_92 w
    · exact ref_Of_93 w
    · exact ref_Of_94 w
    · exact ref_Of_95 w
    · exact ref_Of_96 w
    · exact ref_Of_97 w
    · exact ref_Of_98 w
    · exact ref_Of_99 w
    · exact ref_Of_100 w
    · exact ref_Of_101 w
    · exact ref_Of_102 w
    · exact ref_Of_103 w
    · exact ref_Of_104 w
    · exact ref_Of_112 w
    · exact ref_Of_113 w
    · exact ref_Of_114 w
    · exact ref_Of_115 w
    · exact ref_Of_116 w
    · exact ref_Of_117 w
  · have hn : isOp op = false := by rw [hl]; exact decide_eq_false h
    rw [rowVal, if_neg (by simp [hn]), hn]
    exact ref_Of_none w op ho (Lib.hid fun k hk e => h (e ▸ hk))
end Go.Proofs.YtmlniifdipeboaaDoor
