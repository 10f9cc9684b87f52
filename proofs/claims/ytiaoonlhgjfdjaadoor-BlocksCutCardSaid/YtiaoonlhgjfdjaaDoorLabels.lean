/- control.labels, control.Labels, flagonref09.Labels. -/
import Derived.Test.YtiaoonlhgjfdjaaDoorMapC
import Derived.Test.YtiaoonlhgjfdjaaDoorCtl4
namespace Go.Proofs.YtiaoonlhgjfdjaaDoor
open Go Go.RowKit

theorem labels_len (x : Int) (acc : List Int) : (acc ++ [x]).length = acc.length + 1 := by simp
set_option maxRecDepth 100000 in
set_option maxHeartbeats 3200000 in
theorem control_labels (w : World) (S) (v : Value) (o : List Int) (pc : Nat) (hr : RdI .i64 S w v o) (hp : pc < o.length) (ho : ∀ (j : Nat) (v : Int), o[j]? = some v → -1 ≤ v ∧ v < j) (hl : o.length ≤ 1048576) :
    Calls Tryd.prog 66 #[v, .int .i64 pc] w fun e w' => ∃ v', e = .returned v' ∧ Below w.heap.size w w' ∧ OwnI w.heap.size 3 w' v' (labP o pc) := by
  obtain ⟨i0, hi, hz0, hz1, hz2⟩ := info_parts Tryd.infoIntF
  have HL := Lib.hid hr.any
  have HO := Lib.hid ho
  obtain ⟨va, vc, rfl, _⟩ := hr.lenc
  clear hr ho
  go_enter Tryd.func66, Tryd.ntmps66
  go_wp2
  go_loopw [5, 6] (fun lv at_ wr => ∃ (acc : List Int) (a : Nat), at_ = .int .i64 a ∧ a < o.length ∧ acc.length + a ≤ pc ∧ Hid (acc ++ labL o (o.getD a (-1)) = labP o pc) ∧ Hid (OwnI w.heap.size 3 wr lv acc) ∧ Hid (Below w.heap.size w wr)) (fun _ at_ _ => (intOf at_).toNat)
  case atStart => exact ⟨[], pc, rfl, hp, by simp, Lib.hid rfl, Lib.hid (World.ownsRow_nil _ _ _ _), Lib.hid (Below.refl _ _)⟩
  case round =>
    obtain ⟨acc, a, rfl, ha, hk, HP, HA, HB⟩ := hrel
    obtain ⟨va', vc', e, _, _, hce⟩ := HL.out.keeps (Keeps.of_below HB.out)
    simp only [Value.slice.injEq] at e
    obtain ⟨rfl, _, rfl⟩ := e
    obtain ⟨bb, off, rfl, _, hcl⟩ := hce a ha
    have hx := HO.out a o[a] (List.getElem?_eq_getElem ha)
    have hg : o.getD a (-1) = o[a] := by rw [List.getD_eq_getElem?_getD, List.getElem?_eq_getElem ha]; rfl
    have HG : Hid (acc ++ labL o o[a] = labP o pc) := Lib.hid (by rw [← hg]; exact HP.out)
    clear hce hg HP
    generalize o[a] = x at *
    have hb6 := below_alloc wr (.cells #[.int .i64 x] 3)
    have hA6 : (wr.alloc (.cells #[.int .i64 x] 3)).ownsRow w.heap.size 3 1 _ acc.length (ints acc) := own_below HA.out hb6
    have HA6 := Lib.hid hA6
    have hB6 := (below_next HB.out hb6).size
    have HB6 := Lib.hid (below_next HB.out hb6)
    clear hb6 hA6 HA
    go_wp2_with (at_builtin; refine wpList_append_kept _ rfl _ _ 24 rfl w.heap.size 3 i0 (.int .i64 0) 1 8 Tryd.underlying24 hi hz0 hz1 hz2 rfl (by decide) _ acc.length (ints acc) rfl HA6.out ⟨wr.heap.size, 0, none⟩ 1 1 [.int .i64 x] rfl rfl (cell_one_new _ _ _) (by simp [Value.oneCell']) (by unfold maxLen; omega) (by omega) hB6 ?_)
    intro v' w7 ho hkk hn
    have HO7 : Hid (OwnI w.heap.size 3 w7 v' (acc ++ [x])) := Lib.hid (by simpa [OwnI, ints] using ho)
    have HB7 := Lib.hid (HB6.out.grown hkk.grown hB6 fun j hj => (HA6.out.lt j hj).1)
    clear ho hkk hn HA6 HB6
    by_cases h0 : x < 0
    · obtain rfl : x = -1 := by omega
      have HE := HG.out
      rw [labL_end] at HE
      go_wp2
      go_ret
      exact ⟨_, rfl, HB7.out, by rw [← HE]; exact HO7.out⟩
    · obtain ⟨y, rfl⟩ : ∃ y : Nat, x = y := ⟨x.toNat, by omega⟩
      have HE := HG.out
      rw [labL_next HO.out (by omega), Int.toNat_natCast, List.append_cons] at HE
      have HE := Lib.hid HE
      go_wp2
      go_roundw
      case rel => exact ⟨acc ++ [(y : Int)], y, rfl, by omega, by rw [labels_len]; omega, HE, HO7, HB7⟩
      case measure => simp [intOf]; omega
end Go.Proofs.YtiaoonlhgjfdjaaDoor
