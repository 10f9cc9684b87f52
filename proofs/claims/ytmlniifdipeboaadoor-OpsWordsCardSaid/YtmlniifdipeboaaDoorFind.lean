/- ops.All, ops.Find. -/
import Derived.Test.YtmlniifdipeboaaDoorFindLaw
import Derived.Test.YtmlniifdipeboaaDoorUvar
namespace Go.Proofs.YtmlniifdipeboaaDoor
open Go Go.RowKit

def u8s (l : List Nat) : List Value := l.map fun n : Nat => Value.int .u8 (n : Int)
theorem u8s_len (l : List Nat) : (u8s l).length = l.length := by simp [u8s]

set_option maxRecDepth 100000 in
set_option maxHeartbeats 1600000 in
theorem ops_All (w : World) (ht : Tb w) :
    Calls Tryd.prog 24 #[] w fun e w' => ∃ v', e = .returned v' ∧ w'.ownsRow w.heap.size 5 1 v' 90 (u8s allOps) ∧ Below w.heap.size w w' := by
  obtain ⟨i0, hi, hz0, hz1, hz2⟩ := info_parts Tryd.infoU8
  have HT := Lib.hid ht; clear ht
  go_enter Tryd.func24, Tryd.ntmps24
  go_wp2
  go_loopw [1, 6] (fun l i wr => ∃ k : Nat, k ≤ 256 ∧ i = .int .i64 k ∧ wr.ownsRow w.heap.size 5 1 l (opsTo k).length (u8s (opsTo k)) ∧ Below w.heap.size w wr) (fun _ i _ => 256 - (intOf i).toNat)
  case atStart => exact ⟨0, by omega, rfl, by simpa [opsTo, u8s] using World.ownsRow_nil w w.heap.size 5 1, Below.refl _ _⟩
  case round =>
    obtain ⟨k, hk, rfl, hown, hbel⟩ := hrel
    have HO := Lib.hid hown; have HB := Lib.hid hbel
    clear hown hbel
    by_cases hlt : k < 256
    · have HTr := Lib.hid (HT.out.bel HB.out)
      have HL := Lib.hid (opsTo_len k)
      have HS := Lib.hid (opsTo_succ k)
      have e8 : IntKind.u8.wrap (k : Int) = (k : Int) := IntWalk.u8_in _ ⟨by omega, by omega⟩
      cases hop : isOp k with
      | true =>
        rw [hop] at HS
        go_wp2_with fail
        refine (ops_run_yes _ k hlt HTr.out hop).mono ?_
        rintro e w2 ⟨B, rfl, _, _, hb2⟩
        have HB2 := Lib.hid (below_next HB.out hb2)
        have hown2 := own_below HO.out hb2
        have hsz := HB2.out.size
        have hn0 : (0 : Int) ≤ ((k - (sect k).1 : Nat) : Int) := by omega
        generalize (sect k).2.1.length = L at *
        generalize (sect k).2.2 = ah at *
        generalize k - (sect k).1 = n at *
        clear hb2 hop
        go_wp2_with (at_builtin; refine wpList_append_own _ rfl _ _ 34 rfl w.heap.size 5 i0 (.int .u8 0) 1 1 Tryd.underlying34 hi hz0 hz1 hz2 rfl (by decide) _ _ _ rfl (hown2.alloc _) ⟨w2.heap.size, 0, none⟩ 1 1 [.int .u8 k] rfl rfl (cell_one_new _ _ _) (by simp [Value.oneCell']) ?c3 ?c4 ?c5 ?_)
        case c3 => unfold maxLen; have := HL.out; omega
        case c4 => have := HL.out; omega
        case c5 => rw [World.size_alloc]; omega
        intro v' w3 hown' hgrow _
        go_wp2
        go_roundw
        case rel =>
          refine ⟨k + 1, by omega, by go_num, ?_, (HB2.out.alloc hsz _).grown hgrow (by rw [World.size_alloc]; omega) fun j hj => ((HO.out).lt j hj).1⟩
          rw [HS.out]
          simpa [u8s] using hown'
        case measure => simp [intOf]; omega
      | false =>
        rw [hop] at HS
        go_wp2_with fail
        refine (ops_run_no _ k hlt HTr.out hop).mono ?_
        rintro e w2 ⟨rfl, hb2⟩
        go_wp2
        go_roundw
        case rel =>
          refine ⟨k + 1, by omega, by go_num, ?_, below_next HB.out hb2⟩
          rw [HS.out]
          simpa using own_below HO.out hb2
        case measure => simp [intOf]; omega
    · obtain rfl : k = 256 := by omega
      have HO2 : Hid (wr.ownsRow w.heap.size 5 1 u1 90 (u8s allOps)) := by have := HO.out; rw [show opsTo 256 = allOps from rfl, all_len] at this; exact this
      go_wp2
      go_ret
      exact ⟨_, rfl, HO2.out, HB.out⟩

def findN (word : List UInt8) : Nat := (findP word).getD 0
theorem find_step {word : List UInt8} {k : Nat} (h : k < allOps.length) : (allOps.drop k).find? (fun op => decide (wordP op = word)) = if wordP allOps[k] = word then some allOps[k] else (allOps.drop (k + 1)).find? (fun op => decide (wordP op = word)) := by
  rw [List.drop_eq_getElem_cons h, List.find?_cons]
  by_cases hw : wordP allOps[k] = word <;> simp [hw]
theorem all_at {k : Nat} (h : k < 90) : ∃ n, allOps[k]? = some n ∧ n < 256 ∧ isOp n = true := by
  have hl : k < allOps.length := by rw [all_len]; exact h
  exact ⟨allOps[k], List.getElem?_eq_getElem hl, all_byte _ (List.getElem_mem hl)⟩
theorem str_ne {a b : List UInt8} (h : a ≠ b) : ¬ (⟨a.toArray⟩ : ByteArray) = ⟨b.toArray⟩ := by
  intro e; apply h; have := congrArg (fun x : ByteArray => x.data.toList) e; simpa using this

set_option maxRecDepth 100000 in
set_option maxHeartbeats 3200000 in
theorem ops_Find (w : World) (word : List UInt8) (ht : Tb w) :
    Calls Tryd.prog 23 #[.string ⟨word.toArray⟩] w fun e w' => e = .returned (.tuple #[.int .u8 (findN word), .bool (findP word).isSome]) ∧ Below w.heap.size w w' := by
  have HT := Lib.hid ht; clear ht
  go_enter Tryd.func23, Tryd.ntmps23
  go_wp2_with fail
  refine (ops_All _ HT.out).mono ?_
  rintro e w1 ⟨v1, rfl, hown, hb1⟩
  have HR : Hid (RdI .u8 (fun b => v1.ownBlock = some b) w1 v1 (allOps.map fun n : Nat => (n : Int))) := RdI.of_own (by rw [List.map_map, List.length_map, all_len]; exact hown) (by simp [all_len])
  obtain ⟨a, cap, rfl, _⟩ := HR.out.lenc
  have H1 : Hid (∀ k, k < 90 → ∃ n b off, allOps[k]? = some n ∧ n < 256 ∧ isOp n = true ∧ a = some ⟨b, off, none⟩ ∧ w1.cell? ⟨b, off + k, none⟩ = some (.int .u8 (n : Nat))) := by
    intro k hk
    obtain ⟨n, hn, h2, h3⟩ := all_at hk
    obtain ⟨a', c', e, _, _, h⟩ := HR.out
    simp only [Value.slice.injEq] at e
    obtain ⟨rfl, _, rfl⟩ := e
    obtain ⟨b, off, ha, _, hc⟩ := h k (by simp [all_len, hk])
    refine ⟨n, b, off, hn, h2, h3, ha, ?_⟩
    rw [hc, List.getElem_map, (List.getElem?_eq_some_iff.1 hn).2]
  have HB1 := Lib.hid hb1; have HT1 := Lib.hid (HT.out.bel hb1)
  have hl : (allOps.map fun n : Nat => (n : Int)).length = 90 := by simp [all_len]
  rw [hl]
  clear hown hb1 HR hl
  go_wp2
  go_loopw [10] (fun i wr => ∃ k : Nat, k ≤ 90 ∧ i = .int .i64 k ∧ Hid (findP word = (allOps.drop k).find? (fun op => decide (wordP op = word))) ∧ Below w1.heap.size w1 wr) (fun i _ => 90 - (intOf i).toNat)
  case atStart => exact ⟨0, by omega, rfl, Lib.hid rfl, Below.refl _ _⟩
  case round =>
    obtain ⟨k, hk, rfl, HF, hbr⟩ := hrel
    have HBr := Lib.hid hbr; have HTr := Lib.hid (HT1.out.bel hbr)
    by_cases hlt : k < 90
    · obtain ⟨n, b, off, hn, hn2, hn3, rfl, hc⟩ := H1.out k hlt
      have hc := cell_below hbr hc
      have HE := Lib.hid (HF.out.trans (find_step (word := word) (k := k) (by rw [all_len]; exact hlt)))
      rw [(List.getElem?_eq_some_iff.1 hn).2] at HE
      have HN := Lib.hid (And.intro hn2 hn3)
      clear hbr hn hn2 hn3
      go_wp2_with fail
      refine (ops_Of_yes _ n HN.out.1 HTr.out HN.out.2).mono ?_
      rintro e w2 ⟨rfl, hb2⟩
      have HW : Hid (wordP n = (progRow n).word) := Lib.hid rfl
      have HB2 := Lib.hid (below_next HBr.out hb2)
      clear hb2
      unfold rowCells
      generalize (progRow n).word = wd at *
      by_cases he : wordP n = word
      · have e1 : wd = word := by rw [← HW.out]; exact he
        subst e1
        have HX : Hid (findP wd = some n) := by have := HE.out; rw [if_pos he] at this; exact this
        clear HE HF HW he
        go_wp2
        go_ret2
        exact ⟨rets2 (by rw [findN, HX.out]; rfl) (by rw [HX.out]; rfl), below_next HB1.out (HB2.out.alloc HB2.out.size _)⟩
      · have e1 : ¬ (⟨wd.toArray⟩ : ByteArray) = ⟨word.toArray⟩ := str_ne (by rw [← HW.out]; exact he)
        have HX : Hid (findP word = (allOps.drop (k + 1)).find? (fun op => decide (wordP op = word))) := by have := HE.out; rw [if_neg he] at this; exact this
        clear HE HF HW he
        go_wp2
        · exfalso
          simp_all
        go_roundw
        case rel => exact ⟨k + 1, by omega, by go_num, HX, HB2.out.alloc HB2.out.size _⟩
        case measure => simp [intOf]; omega
    · have HX : Hid (findP word = none) := by have := HF.out; rw [List.drop_of_length_le (by rw [all_len]; omega)] at this; exact this
      go_wp2
      go_ret2
      exact ⟨rets2 (by rw [findN, HX.out]; rfl) (by rw [HX.out]; rfl), below_next HB1.out HBr.out⟩
end Go.Proofs.YtmlniifdipeboaaDoor
