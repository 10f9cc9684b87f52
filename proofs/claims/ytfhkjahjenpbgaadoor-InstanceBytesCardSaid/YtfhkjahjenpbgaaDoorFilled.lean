/- control.filled. -/
import Derived.Test.YtfhkjahjenpbgaaDoorMCtl
import Derived.Test.YtfhkjahjenpbgaaDoorMLib
import Derived.OwnWalk
namespace Go.Proofs.YtfhkjahjenpbgaaDoor
open Go Go.RowKit

theorem Tryd.infoIntF : (Tryd.prog.info? 3).map (fun i => (i.zero, i.size, i.bytes)) = some (some (.int .i64 0), 1, 8) := by kernel_rfl
/-- How far the list is filled. -/
def fillP (n k : Nat) : List Int := List.replicate k (-1) ++ List.replicate (n - k) 0
theorem fillP_len {n k : Nat} (h : k ≤ n) : (fillP n k).length = n := by simp [fillP]; omega
theorem fillP_end (n : Nat) : fillP n n = List.replicate n (-1) := by simp [fillP]
theorem fillP_step {n k : Nat} (h : k < n) : (fillP n k).set k (-1) = fillP n (k + 1) := by
  unfold fillP
  rw [List.set_append_right _ _ (by simp), List.length_replicate, Nat.sub_self, show n - k = (n - (k + 1)) + 1 by omega, List.replicate_succ, List.set_cons_zero, List.replicate_succ', List.append_assoc]
  rfl
theorem fill_zero (n : Nat) : (madeCells #[Value.int .i64 0] n).toList = ints (fillP n 0) := by
  rw [toList_madeCells_one]
  simp [fillP, ints]
set_option maxRecDepth 100000 in
set_option maxHeartbeats 1600000 in
theorem control_filled (w : World) (n : Nat) (hn : n ≤ 1073741824) :
    Calls Tryd.prog 31 #[.int .i64 n] w fun e w' => ∃ v, e = .returned v ∧ Below w.heap.size w w' ∧ OwnI w.heap.size 3 w' v (List.replicate n (-1)) := by
  obtain ⟨i0, hi, hz0, hz1, hz2⟩ := info_parts Tryd.infoIntF
  go_enter Tryd.func31, Tryd.ntmps31
  go_wp2_with (at_make; refine wpList_make_full _ rfl _ _ 23 rfl w.heap.size 3 i0 (.int .i64 0) 1 Tryd.underlying23 hi hz0 hz1 _ _ _ _ n rfl rfl rfl rfl ?b1 ?b2 (Nat.le_refl _) ?_)
  case b1 => rw [hz2]; omega
  case b2 => unfold maxLen; omega
  intro w1 hown hgrow
  have hb1 : Below w.heap.size w w1 := (Below.refl _ _).grown hgrow (Nat.le_refl _) (fun k hk => by cases hk)
  have HO : Hid (OwnI w.heap.size 3 w1 (.slice (some ⟨w.heap.size, 0, none⟩) n n) (fillP n 0)) := Lib.hid (by rw [fill_zero] at hown; unfold OwnI; rw [fillP_len (Nat.zero_le _)]; exact hown)
  have HB := Lib.hid hb1
  clear hown hgrow hb1
  go_wp2
  go_loopw [4, 9] (fun _ i wr => ∃ k : Nat, k ≤ n ∧ i = .int .i64 k ∧ Hid (OwnI w.heap.size 3 wr (.slice (some ⟨w.heap.size, 0, none⟩) n n) (fillP n k)) ∧ Hid (Below w.heap.size w wr)) (fun _ i _ => n - (intOf i).toNat)
  case atStart => exact ⟨0, by omega, rfl, HO, HB⟩
  case round =>
    obtain ⟨k, hk, rfl, HOk, HBk⟩ := hrel
    by_cases hlt : k < n
    · obtain ⟨g, c, e, _, _, hcell, hfree⟩ := HOk.out.at_ (k := k) (by rw [fillP_len hk]; exact hlt)
      simp only [Value.slice.injEq, Option.some.injEq, Addr.mk.injEq, and_true] at e
      obtain ⟨rfl, e2, rfl⟩ := e
      clear e2
      have HON := Lib.hid (HOk.out.set (k := k) (-1))
      rw [fillP_step hlt] at HON
      have HBN := Lib.hid (HBk.out.setCell (p := ⟨w.heap.size, k, none⟩) (Nat.le_refl _) (.int .i64 (-1)))
      clear HOk HBk
      go_wp2
      go_roundw
      case rel => exact ⟨k + 1, by omega, by go_num, HON, HBN⟩
      case measure => simp [intOf]; omega
    · obtain rfl : k = n := by omega
      have HE := HOk.out
      rw [fillP_end] at HE
      go_wp2
      go_ret
      exact ⟨_, rfl, HBk.out, HE⟩
end Go.Proofs.YtfhkjahjenpbgaaDoor
