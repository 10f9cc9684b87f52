/- flagonref07.Do. -/
import Derived.Test.YtmlniifdipeboaaDoorRef7h
import Derived.Test.YtmlniifdipeboaaDoorRef7g
namespace Go.Proofs.YtmlniifdipeboaaDoor
open Go Go.RowKit

theorem words_w : ∀ k : Fin 25, isOp (48 + k.val) = true ∧ wordP (48 + k.val) = 119 :: 46 :: numW k.val := by decide +kernel
theorem words_l : ∀ k : Fin 25, isOp (80 + k.val) = true ∧ wordP (80 + k.val) = 108 :: 46 :: numW k.val := by decide +kernel
theorem words_no : ∀ k : Fin 25, (numW k.val == ([119, 114, 97, 112] : List UInt8)) = false ∧ (numW k.val == ([101, 120, 116, 101, 110, 100, 117] : List UInt8)) = false ∧ (numW k.val == ([101, 120, 116, 101, 110, 100, 115] : List UInt8)) = false ∧ (numW k.val == ([101, 120, 116, 51, 50] : List UInt8)) = false ∧ (numW k.val == ([101, 120, 116, 56] : List UInt8)) = false ∧ (numW k.val == ([101, 120, 116, 49, 54] : List UInt8)) = false := by decide +kernel
theorem words_t : isOp 112 = true ∧ wordP 112 = [119, 46, 119, 114, 97, 112] ∧ isOp 113 = true ∧ wordP 113 = [108, 46, 101, 120, 116, 101, 110, 100, 115] ∧ isOp 114 = true ∧ wordP 114 = [108, 46, 101, 120, 116, 101, 110, 100, 117] ∧ isOp 115 = true ∧ wordP 115 = [119, 46, 101, 120, 116, 56] ∧ isOp 116 = true ∧ wordP 116 = [119, 46, 101, 120, 116, 49, 54] ∧ isOp 117 = true ∧ wordP 117 = [108, 46, 101, 120, 116, 51, 50] := by decide +kernel
theorem num_w {k : Nat} (hk : k < 25) : numOf (48 + k) = true := by rw [numOf, (words_w ⟨k, hk⟩).1, Bool.true_and]; exact decide_eq_true (by omega)
theorem num_l {k : Nat} (hk : k < 25) : numOf (80 + k) = true := by rw [numOf, (words_l ⟨k, hk⟩).1, Bool.true_and]; exact decide_eq_true (by omega)
theorem str_apart {a b : List UInt8} (h : a ≠ b) : ¬ (⟨a.toArray⟩ : ByteArray) = ⟨b.toArray⟩ := by
  intro e; apply h; have := congrArg (fun x : ByteArray => x.data.toList) e; simpa using this
theorem drop2 (x y : UInt8) (l : List UInt8) : (⟨(x :: y :: l).toArray⟩ : ByteArray).extract 2 (l.length + 1 + 1) = ⟨l.toArray⟩ := by
  apply ByteArray.ext
  apply Array.ext'
  rw [ByteArray.data_extract]
  simp
set_option maxRecDepth 100000 in
set_option maxHeartbeats 3200000 in
theorem ref7_no (w : World) (op a b : Nat) (_ha : a < 18446744073709551616) (_hb : b < 18446744073709551616) (ho : op < 256) (h : numOf op = false) :
    Calls Tryd.prog 50 #[.int .u8 op, .int .u64 a, .int .u64 b] w fun e w' => e = .returned (.tuple #[.int .u64 ((doF op a b).1 : Nat), .int .i8 (doF op a b).2]) ∧ Below w.heap.size w w' := by
  have HV : Hid (doF op a b = (0, 1)) := by show _ = _; rw [doF, if_pos h]
  have HO := Lib.hid (ref7_Of w op ho)
  rw [h] at HO
  clear h
  go_enter Tryd.func50, Tryd.ntmps50
  go_wp2_with fail
  refine HO.out.mono ?_
  rintro e w1 ⟨rfl, hb1⟩
  have HB := Lib.hid hb1; clear hb1
  go_wp2
  go_ret2
  rw [HV.out]
  exact ⟨rets2 rfl rfl, HB.out⟩
set_option maxRecDepth 100000 in
set_option maxHeartbeats 3200000 in
theorem ref7_112 (w : World) (a b : Nat) (ha : a < 18446744073709551616) (_hb : b < 18446744073709551616) :
    Calls Tryd.prog 50 #[.int .u8 112, .int .u64 a, .int .u64 b] w fun e w' => e = .returned (.tuple #[.int .u64 ((doF 112 a b).1 : Nat), .int .i8 (doF 112 a b).2]) ∧ Below w.heap.size w w' := by
  have HV : Hid (doF 112 a b = (turnN 112 a, 0)) := by show _ = _; rw [doF, if_neg (by decide), if_pos (by decide)]
  have HO := Lib.hid (ref7_Of w 112 (by decide))
  rw [show numOf 112 = true by decide +kernel] at HO
  have HW := Lib.hid (fun w' => ref_Word w' 112 (by decide))
  rw [show (if isOp 112 then wordP 112 else []) = [119, 46, 119, 114, 97, 112] by decide +kernel] at HW
  go_enter Tryd.func50, Tryd.ntmps50
  go_wp2_with fail
  refine HO.out.mono ?_
  rintro e w1 ⟨rfl, hb1⟩
  have HB := Lib.hid hb1; clear hb1
  go_wp2_with fail
  refine (HW.out _).mono ?_
  rintro e w2 ⟨rfl, hb2⟩
  have HB2 := Lib.hid (below_next HB.out hb2); clear hb2 HB
  go_wp2_with fail
  refine (ref_low _ a 32 ha (by omega)).mono ?_
  rintro e w3 ⟨rfl, rfl⟩
  go_wp2
  go_ret2
  rw [HV.out]
  exact ⟨rets2 (congrArg (Value.int .u64) (by first | rfl | (simp [turnN]))) rfl, HB2.out⟩
set_option maxRecDepth 100000 in
set_option maxHeartbeats 3200000 in
theorem ref7_113 (w : World) (a b : Nat) (ha : a < 18446744073709551616) (_hb : b < 18446744073709551616) :
    Calls Tryd.prog 50 #[.int .u8 113, .int .u64 a, .int .u64 b] w fun e w' => e = .returned (.tuple #[.int .u64 ((doF 113 a b).1 : Nat), .int .i8 (doF 113 a b).2]) ∧ Below w.heap.size w w' := by
  have HV : Hid (doF 113 a b = (turnN 113 a, 0)) := by show _ = _; rw [doF, if_neg (by decide), if_pos (by decide)]
  have HO := Lib.hid (ref7_Of w 113 (by decide))
  rw [show numOf 113 = true by decide +kernel] at HO
  have HW := Lib.hid (fun w' => ref_Word w' 113 (by decide))
  rw [show (if isOp 113 then wordP 113 else []) = [108, 46, 101, 120, 116, 101, 110, 100, 115] by decide +kernel] at HW
  go_enter Tryd.func50, Tryd.ntmps50
  go_wp2_with fail
  refine HO.out.mono ?_
  rintro e w1 ⟨rfl, hb1⟩
  have HB := Lib.hid hb1; clear hb1
  go_wp2_with fail
  refine (HW.out _).mono ?_
  rintro e w2 ⟨rfl, hb2⟩
  have HB2 := Lib.hid (below_next HB.out hb2); clear hb2 HB
  go_wp2_with fail
  refine (ref_signed _ a 32 64 (by omega) (by omega) ha).mono ?_
  rintro e w3 ⟨rfl, rfl⟩
  go_wp2
  go_ret2
  rw [HV.out]
  exact ⟨rets2 (congrArg (Value.int .u64) (by first | rfl | (simp [turnN]))) rfl, HB2.out⟩
set_option maxRecDepth 100000 in
set_option maxHeartbeats 3200000 in
theorem ref7_114 (w : World) (a b : Nat) (ha : a < 18446744073709551616) (_hb : b < 18446744073709551616) :
    Calls Tryd.prog 50 #[.int .u8 114, .int .u64 a, .int .u64 b] w fun e w' => e = .returned (.tuple #[.int .u64 ((doF 114 a b).1 : Nat), .int .i8 (doF 114 a b).2]) ∧ Below w.heap.size w w' := by
  have HV : Hid (doF 114 a b = (turnN 114 a, 0)) := by show _ = _; rw [doF, if_neg (by decide), if_pos (by decide)]
  have HO := Lib.hid (ref7_Of w 114 (by decide))
  rw [show numOf 114 = true by decide +kernel] at HO
  have HW := Lib.hid (fun w' => ref_Word w' 114 (by decide))
  rw [show (if isOp 114 then wordP 114 else []) = [108, 46, 101, 120, 116, 101, 110, 100, 117] by decide +kernel] at HW
  go_enter Tryd.func50, Tryd.ntmps50
  go_wp2_with fail
  refine HO.out.mono ?_
  rintro e w1 ⟨rfl, hb1⟩
  have HB := Lib.hid hb1; clear hb1
  go_wp2_with fail
  refine (HW.out _).mono ?_
  rintro e w2 ⟨rfl, hb2⟩
  have HB2 := Lib.hid (below_next HB.out hb2); clear hb2 HB
  go_wp2_with fail
  refine (ref_low _ a 32 ha (by omega)).mono ?_
  rintro e w3 ⟨rfl, rfl⟩
  go_wp2
  go_ret2
  rw [HV.out]
  exact ⟨rets2 (congrArg (Value.int .u64) (by first | rfl | (simp [turnN]))) rfl, HB2.out⟩
set_option maxRecDepth 100000 in
set_option maxHeartbeats 3200000 in
theorem ref7_115 (w : World) (a b : Nat) (ha : a < 18446744073709551616) (_hb : b < 18446744073709551616) :
    Calls Tryd.prog 50 #[.int .u8 115, .int .u64 a, .int .u64 b] w fun e w' => e = .returned (.tuple #[.int .u64 ((doF 115 a b).1 : Nat), .int .i8 (doF 115 a b).2]) ∧ Below w.heap.size w w' := by
  have HV : Hid (doF 115 a b = (turnN 115 a, 0)) := by show _ = _; rw [doF, if_neg (by decide), if_pos (by decide)]
  have HO := Lib.hid (ref7_Of w 115 (by decide))
  rw [show numOf 115 = true by decide +kernel] at HO
  have HW := Lib.hid (fun w' => ref_Word w' 115 (by decide))
  rw [show (if isOp 115 then wordP 115 else []) = [119, 46, 101, 120, 116, 56] by decide +kernel] at HW
  go_enter Tryd.func50, Tryd.ntmps50
  go_wp2_with fail
  refine HO.out.mono ?_
  rintro e w1 ⟨rfl, hb1⟩
  have HB := Lib.hid hb1; clear hb1
  go_wp2_with fail
  refine (HW.out _).mono ?_
  rintro e w2 ⟨rfl, hb2⟩
  have HB2 := Lib.hid (below_next HB.out hb2); clear hb2 HB
  go_wp2_with fail
  refine (ref_signed _ a 8 32 (by omega) (by omega) ha).mono ?_
  rintro e w3 ⟨rfl, rfl⟩
  go_wp2
  go_ret2
  rw [HV.out]
  exact ⟨rets2 (congrArg (Value.int .u64) (by first | rfl | (simp [turnN]))) rfl, HB2.out⟩
set_option maxRecDepth 100000 in
set_option maxHeartbeats 3200000 in
theorem ref7_116 (w : World) (a b : Nat) (ha : a < 18446744073709551616) (_hb : b < 18446744073709551616) :
    Calls Tryd.prog 50 #[.int .u8 116, .int .u64 a, .int .u64 b] w fun e w' => e = .returned (.tuple #[.int .u64 ((doF 116 a b).1 : Nat), .int .i8 (doF 116 a b).2]) ∧ Below w.heap.size w w' := by
  have HV : Hid (doF 116 a b = (turnN 116 a, 0)) := by show _ = _; rw [doF, if_neg (by decide), if_pos (by decide)]
  have HO := Lib.hid (ref7_Of w 116 (by decide))
  rw [show numOf 116 = true by decide +kernel] at HO
  have HW := Lib.hid (fun w' => ref_Word w' 116 (by decide))
  rw [show (if isOp 116 then wordP 116 else []) = [119, 46, 101, 120, 116, 49, 54] by decide +kernel] at HW
  go_enter Tryd.func50, Tryd.ntmps50
  go_wp2_with fail
  refine HO.out.mono ?_
  rintro e w1 ⟨rfl, hb1⟩
  have HB := Lib.hid hb1; clear hb1
  go_wp2_with fail
  refine (HW.out _).mono ?_
  rintro e w2 ⟨rfl, hb2⟩
  have HB2 := Lib.hid (below_next HB.out hb2); clear hb2 HB
  go_wp2_with fail
  refine (ref_signed _ a 16 32 (by omega) (by omega) ha).mono ?_
  rintro e w3 ⟨rfl, rfl⟩
  go_wp2
  go_ret2
  rw [HV.out]
  exact ⟨rets2 (congrArg (Value.int .u64) (by first | rfl | (simp [turnN]))) rfl, HB2.out⟩
set_option maxRecDepth 100000 in
set_option maxHeartbeats 3200000 in
theorem ref7_117 (w : World) (a b : Nat) (ha : a < 18446744073709551616) (_hb : b < 18446744073709551616) :
    Calls Tryd.prog 50 #[.int .u8 117, .int .u64 a, .int .u64 b] w fun e w' => e = .returned (.tuple #[.int .u64 ((doF 117 a b).1 : Nat), .int .i8 (doF 117 a b).2]) ∧ Below w.heap.size w w' := by
  have HV : Hid (doF 117 a b = (turnN 117 a, 0)) := by show _ = _; rw [doF, if_neg (by decide), if_pos (by decide)]
  have HO := Lib.hid (ref7_Of w 117 (by decide))
  rw [show numOf 117 = true by decide +kernel] at HO
  have HW := Lib.hid (fun w' => ref_Word w' 117 (by decide))
  rw [show (if isOp 117 then wordP 117 else []) = [108, 46, 101, 120, 116, 51, 50] by decide +kernel] at HW
  go_enter Tryd.func50, Tryd.ntmps50
  go_wp2_with fail
  refine HO.out.mono ?_
  rintro e w1 ⟨rfl, hb1⟩
  have HB := Lib.hid hb1; clear hb1
  go_wp2_with fail
  refine (HW.out _).mono ?_
  rintro e w2 ⟨rfl, hb2⟩
  have HB2 := Lib.hid (below_next HB.out hb2); clear hb2 HB
  go_wp2_with fail
  refine (ref_signed _ a 32 64 (by omega) (by omega) ha).mono ?_
  rintro e w3 ⟨rfl, rfl⟩
  go_wp2
  go_ret2
  rw [HV.out]
  exact ⟨rets2 (congrArg (Value.int .u64) (by first | rfl | (simp [turnN]))) rfl, HB2.out⟩
set_option maxRecDepth 100000 in
set_option maxHeartbeats 3200000 in
theorem ref7_80 (w : World) (k a b : Nat) (ha : a < 18446744073709551616) (hb : b < 18446744073709551616) (hk : k < 25) :
    Calls Tryd.prog 50 #[.int .u8 ((80 + k : Nat) : Int), .int .u64 a, .int .u64 b] w fun e w' => e = .returned (.tuple #[.int .u64 ((doF (80 + k) a b).1 : Nat), .int .i8 (doF (80 + k) a b).2]) ∧ Below w.heap.size w w' := by
  have HV : Hid (doF (80 + k) a b = numF 64 k a b) := by show _ = _; rw [doF, if_neg (by simp [num_l hk]), if_neg (by omega), if_pos (by omega), show 80 + k - 80 = k by omega]
  have HO := Lib.hid (ref7_Of w (80 + k) (by omega))
  rw [num_l hk] at HO
  have HW := Lib.hid (fun w' => ref_Word w' (80 + k) (by omega))
  rw [(words_l ⟨k, hk⟩).1, if_pos rfl, (words_l ⟨k, hk⟩).2] at HW
  have HN := Lib.hid (fun w' => ref_number w' k a b 64 hk (by omega) ha hb)
  obtain ⟨p0, p1, p2, p3, p4, p5⟩ := words_no ⟨k, hk⟩
  simp only at p0 p1 p2 p3 p4 p5
  have HF := Lib.hid (And.intro p0 (And.intro p1 (And.intro p2 (And.intro p3 (And.intro p4 p5)))))
  clear p0 p1 p2 p3 p4 p5
  have HD := Lib.hid (drop2 108 46 (numW k))
  generalize numW k = nw at *
  obtain ⟨p0, p1, p2, p3, p4, p5⟩ := HF.out
  go_enter Tryd.func50, Tryd.ntmps50
  go_wp2_with fail
  refine HO.out.mono ?_
  rintro e w1 ⟨rfl, hb1⟩
  have HB := Lib.hid hb1; clear hb1
  go_wp2_with fail
  refine (HW.out _).mono ?_
  rintro e w2 ⟨rfl, hb2⟩
  have HB2 := Lib.hid (below_next HB.out hb2); clear hb2 HB
  go_wp2_with fail
  rw [HD.out]
  refine (HN.out _).mono ?_
  rintro e w3 ⟨rfl, m, rfl⟩
  generalize numF 64 k a b = v at *
  go_wp2
  go_ret2
  rw [HV.out]
  exact ⟨rets2 rfl rfl, below_next HB2.out (drewN_below _ _)⟩
set_option maxRecDepth 100000 in
set_option maxHeartbeats 3200000 in
theorem ref7_48 (w : World) (k a b : Nat) (ha : a < 18446744073709551616) (hb : b < 18446744073709551616) (hk : k < 25) :
    Calls Tryd.prog 50 #[.int .u8 ((48 + k : Nat) : Int), .int .u64 a, .int .u64 b] w fun e w' => e = .returned (.tuple #[.int .u64 ((doF (48 + k) a b).1 : Nat), .int .i8 (doF (48 + k) a b).2]) ∧ Below w.heap.size w w' := by
  obtain ⟨a', ha'⟩ : ∃ x : Nat, x = a % 4294967296 := ⟨_, rfl⟩
  obtain ⟨b', hb'⟩ : ∃ x : Nat, x = b % 4294967296 := ⟨_, rfl⟩
  have HV : Hid (doF (48 + k) a b = numF 32 k a' b') := by show _ = _; rw [doF, if_neg (by simp [num_w hk]), if_neg (by omega), if_neg (by omega), show 48 + k - 48 = k by omega, ← ha', ← hb']
  have HA := Lib.hid (fun w' => ref_low w' a 32 ha (by omega))
  have HB0 := Lib.hid (fun w' => ref_low w' b 32 hb (by omega))
  rw [show a % 2 ^ 32 = a' from ha'.symm] at HA
  rw [show b % 2 ^ 32 = b' from hb'.symm] at HB0
  have la : a' < 2 ^ 32 := by omega
  have lb : b' < 2 ^ 32 := by omega
  have HO := Lib.hid (ref7_Of w (48 + k) (by omega))
  rw [num_w hk] at HO
  have HW := Lib.hid (fun w' => ref_Word w' (48 + k) (by omega))
  rw [(words_w ⟨k, hk⟩).1, if_pos rfl, (words_w ⟨k, hk⟩).2] at HW
  have HN := Lib.hid (fun w' => ref_number w' k a' b' 32 hk (by omega) la lb)
  obtain ⟨p0, p1, p2, p3, p4, p5⟩ := words_no ⟨k, hk⟩
  simp only at p0 p1 p2 p3 p4 p5
  have HF := Lib.hid (And.intro p0 (And.intro p1 (And.intro p2 (And.intro p3 (And.intro p4 p5)))))
  clear p0 p1 p2 p3 p4 p5
  have HD := Lib.hid (drop2 119 46 (numW k))
  generalize numW k = nw at *
  obtain ⟨p0, p1, p2, p3, p4, p5⟩ := HF.out
  go_enter Tryd.func50, Tryd.ntmps50
  go_wp2_with fail
  refine HO.out.mono ?_
  rintro e w1 ⟨rfl, hb1⟩
  have HB := Lib.hid hb1; clear hb1
  go_wp2_with fail
  refine (HW.out _).mono ?_
  rintro e w2 ⟨rfl, hb2⟩
  have HB2 := Lib.hid (below_next HB.out hb2); clear hb2 HB
  have h2 : (2 : Int) ≤ (nw.length : Int) + 1 + 1 := by omega
  clear ha' hb'
  go_wp2
  generalize numF 32 k a' b' = v at *
  have hd := HD.out
  refine wp_region_quiet_lit (by kernel_rfl) (by kernel_rfl) ?_
  go_big_quiet_step (fail)
  go_big_quiet_step (fail)
  go_big_quiet_step (fail)
  go_big_quiet_step ((go_at_call 119; exact Calls.quiet_of_same (HA.out _)))
  go_big_quiet_step (fail)
  go_big_quiet_step ((go_at_call 119; exact Calls.quiet_of_same (HB0.out _)))
  go_big_quiet_step ((go_at_call 121; exact Calls.quiet_of (HN.out _)))
  repeat go_big_quiet_step (fail)
  refine wpQuiet_nil ?_
  rintro _ ⟨nq, rfl⟩
  go_wp2
  go_ret2
  rw [HV.out]
  exact ⟨rets2 rfl rfl, below_next HB2.out (drewN_below _ _)⟩
theorem ref7_Do (w : World) (op a b : Nat) (ho : op < 256) (ha : a < 18446744073709551616) (hb : b < 18446744073709551616) :
    Calls Tryd.prog 50 #[.int .u8 op, .int .u64 a, .int .u64 b] w fun e w' => e = .returned (.tuple #[.int .u64 ((doF op a b).1 : Nat), .int .i8 (doF op a b).2]) ∧ Below w.heap.size w w' := by
  cases h : numOf op with
  | false => exact ref7_no w op a b ha hb ho h
  | true =>
    obtain ⟨h1, h2, h3, h4⟩ := numOf_range ⟨op, ho⟩ h
    simp only at h1 h2 h3 h4
    have hd : (∃ k, k < 25 ∧ op = 48 + k) ∨ (∃ k, k < 25 ∧ op = 80 + k) ∨ op = 112 ∨ op = 113 ∨ op = 114 ∨ op = 115 ∨ op = 116 ∨ op = 117 := by
      by_cases c1 : 112 ≤ op
      · omega
      by_cases c2 : 80 ≤ op
      · exact .inr (.inl ⟨op - 80, by have := h3 (by omega) c2; omega, by omega⟩)
      · exact .inl ⟨op - 48, by have := h4 (by omega); omega, by omega⟩
    rcases hd with ⟨k, hk, rfl⟩ | ⟨k, hk, rfl⟩ | rfl | rfl | rfl | rfl | rfl | rfl
    · exact ref7_48 w k a b ha hb hk
    · exact ref7_80 w k a b ha hb hk
    · exact ref7_112 w a b ha hb
    · exact ref7_113 w a b ha hb
    · exact ref7_114 w a b ha hb
    · exact ref7_115 w a b ha hb
    · exact ref7_116 w a b ha hb
    · exact ref7_117 w a b ha hb
end Go.Proofs.YtmlniifdipeboaaDoor
