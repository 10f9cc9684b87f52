/- flagonref03.All, flagonref03.Find. -/
import Derived.Test.YtmlniifdipeboaaDoorFind
import Derived.Test.YtmlniifdipeboaaDoorRef7g
namespace Go.Proofs.YtmlniifdipeboaaDoor
open Go Go.RowKit

theorem one_new2 (w : World) (o : Obj) (T : Nat) (u : Value) : ∀ j v, [u][j]? = some v → ((w.alloc o).alloc (.cells #[u] T)).cell? ((⟨w.heap.size + 1, 0, none⟩ : Addr).add j) = some v := by
  have := cell_one_new (w.alloc o) u T
  rw [World.size_alloc] at this
  exact this
set_option maxRecDepth 100000 in
set_option maxHeartbeats 1600000 in
theorem ref_All (w : World) :
    Calls Tryd.prog 60 #[] w fun e w' => ∃ v', e = .returned v' ∧ w'.ownsRow w.heap.size 5 1 v' 90 (u8s allOps) ∧ Below w.heap.size w w' := by
  obtain ⟨i0, hi, hz0, hz1, hz2⟩ := info_parts Tryd.infoU8
  go_enter Tryd.func60, Tryd.ntmps60
  go_wp2
  go_loopw [1, 2] (fun l i wr => ∃ k : Nat, k ≤ 256 ∧ i = .int .i64 k ∧ wr.ownsRow w.heap.size 5 1 l (opsTo k).length (u8s (opsTo k)) ∧ Below w.heap.size w wr) (fun _ i _ => 256 - (intOf i).toNat)
  case atStart => exact ⟨0, by omega, rfl, by simpa [opsTo, u8s] using World.ownsRow_nil w w.heap.size 5 1, Below.refl _ _⟩
  case round =>
    obtain ⟨k, hk, rfl, hown, hbel⟩ := hrel
    have HO := Lib.hid hown; have HB := Lib.hid hbel
    clear hown hbel
    by_cases hlt : k < 256
    · have HL := Lib.hid (opsTo_len k)
      have HS := Lib.hid (opsTo_succ k)
      have e8 : IntKind.u8.wrap (k : Int) = (k : Int) := IntWalk.u8_in _ ⟨by omega, by omega⟩
      obtain ⟨x, s, t, p, q, b, hrow⟩ := rowVal_open k
      have HR := Lib.hid (fun w' => ref_Of w' k hlt)
      rw [hrow] at HR
      clear hrow
      cases hop : isOp k with
      | true =>
        rw [hop] at HS HR
        clear hop
        go_wp2_with fail
        refine (HR.out _).mono ?_
        rintro e w2 ⟨rfl, hb2⟩
        have HB2 := Lib.hid (below_next HB.out hb2)
        have hown2 := own_below HO.out hb2
        have hsz := HB2.out.size
        clear hb2
        go_wp2_with (at_builtin; refine wpList_append_own _ rfl _ _ 34 rfl w.heap.size 5 i0 (.int .u8 0) 1 1 Tryd.underlying34 hi hz0 hz1 hz2 rfl (by decide) _ _ _ rfl ((hown2.alloc _).alloc _) ⟨w2.heap.size + 1, 0, none⟩ 1 1 [.int .u8 k] rfl rfl (one_new2 _ _ _ _) (by simp [Value.oneCell']) ?c3 ?c4 ?c5 ?_)
        case c3 => unfold maxLen; have := HL.out; omega
        case c4 => have := HL.out; omega
        case c5 => rw [World.size_alloc, World.size_alloc]; omega
        intro v' w3 hown' hgrow _
        go_wp2
        go_roundw
        case rel =>
          refine ⟨k + 1, by omega, by go_num, ?_, ((HB2.out.alloc hsz _).alloc (by rw [World.size_alloc]; omega) _).grown hgrow (by rw [World.size_alloc, World.size_alloc]; omega) fun j hj => ((HO.out).lt j hj).1⟩
          rw [HS.out]
          simpa [u8s] using hown'
        case measure => simp [intOf]; omega
      | false =>
        rw [hop] at HS HR
        clear hop
        go_wp2_with fail
        refine (HR.out _).mono ?_
        rintro e w2 ⟨rfl, hb2⟩
        have hb3 := (below_next HB.out hb2).alloc (below_next HB.out hb2).size
        have HX : Hid (∀ o, (w2.alloc o).ownsRow w.heap.size 5 1 u1 (opsTo k).length (u8s (opsTo k))) := Lib.hid fun o => (own_below HO.out hb2).alloc o
        have HB3 := Lib.hid hb3
        clear hb2 hb3
        go_wp2
        go_roundw
        case rel =>
          refine ⟨k + 1, by omega, by go_num, ?_, HB3.out _⟩
          rw [HS.out]
          simpa using HX.out _
        case measure => simp [intOf]; omega
    · obtain rfl : k = 256 := by omega
      have HO2 : Hid (wr.ownsRow w.heap.size 5 1 u1 90 (u8s allOps)) := by have := HO.out; rw [show opsTo 256 = allOps from rfl, all_len] at this; exact this
      go_wp2
      go_ret
      exact ⟨_, rfl, HO2.out, HB.out⟩

theorem find_hit {word : List UInt8} {k : Nat} (hk : k < 256) (ho : isOp k = true) (hw : wordP k = word) : findP word = some k := by rw [← hw]; exact find_word ⟨k, hk⟩ ho
theorem find_miss {word : List UInt8} (h : ∀ j, j < 256 → isOp j = true → wordP j ≠ word) : findP word = none := by
  unfold findP
  rw [List.find?_eq_none]
  intro x hx
  obtain ⟨h1, h2⟩ := all_byte x hx
  simpa using h x h1 h2
set_option maxRecDepth 100000 in
set_option maxHeartbeats 3200000 in
theorem ref_Find (w : World) (word : List UInt8) :
    Calls Tryd.prog 58 #[.string ⟨word.toArray⟩] w fun e w' => e = .returned (.tuple #[.int .u8 (findN word), .bool (findP word).isSome]) ∧ Below w.heap.size w w' := by
  go_enter Tryd.func58, Tryd.ntmps58
  go_wp2
  go_loopw [4] (fun i wr => ∃ k : Nat, k ≤ 256 ∧ i = .int .i64 k ∧ Hid (∀ j, j < k → isOp j = true → wordP j ≠ word) ∧ Below w.heap.size w wr) (fun i _ => 256 - (intOf i).toNat)
  case atStart => exact ⟨0, by omega, rfl, Lib.hid (fun j h => absurd h (by omega)), Below.refl _ _⟩
  case round =>
    obtain ⟨k, hk, rfl, HF, hbr⟩ := hrel
    have HB := Lib.hid hbr; clear hbr
    by_cases hlt : k < 256
    · have e8 : IntKind.u8.wrap (k : Int) = (k : Int) := IntWalk.u8_in _ ⟨by omega, by omega⟩
      obtain ⟨x, p, q, b, hrow⟩ := rowVal_shape k
      have HR := Lib.hid (fun w' => ref_Of w' k hlt)
      rw [hrow] at HR
      clear hrow
      generalize (if isOp k then takesP k else 0) = t at *
      cases hop : isOp k with
      | true =>
        rw [hop, if_pos rfl] at HR
        by_cases hw : wordP k = word
        · have HX := Lib.hid (find_hit hlt hop hw)
          rw [hw] at HR
          clear hw hop HF
          go_wp2_with fail
          refine (HR.out _).mono ?_
          rintro e w2 ⟨rfl, hb2⟩
          have HB2 := Lib.hid (below_next HB.out hb2)
          clear hb2
          go_wp2
          go_ret2
          exact ⟨rets2 (by rw [findN, HX.out]; rfl) (by rw [HX.out]; rfl), HB2.out.alloc HB2.out.size _⟩
        · have e1 : ¬ (⟨(wordP k).toArray⟩ : ByteArray) = ⟨word.toArray⟩ := str_ne hw
          have HX : Hid (∀ j, j < k + 1 → isOp j = true → wordP j ≠ word) := Lib.hid fun j hj ho => by
            by_cases hjk : j = k
            · rw [hjk]; exact hw
            · exact HF.out j (by omega) ho
          clear hw hop HF
          generalize wordP k = wd at *
          go_wp2_with fail
          refine (HR.out _).mono ?_
          rintro e w2 ⟨rfl, hb2⟩
          have HB2 := Lib.hid (below_next HB.out hb2)
          clear hb2
          go_wp2
          · exfalso
            simp_all
          go_roundw
          case rel => exact ⟨k + 1, by omega, by go_num, HX, HB2.out.alloc HB2.out.size _⟩
          case measure => simp [intOf]; omega
      | false =>
        rw [hop, if_neg (by simp)] at HR
        have HX : Hid (∀ j, j < k + 1 → isOp j = true → wordP j ≠ word) := Lib.hid fun j hj ho => by
          by_cases hjk : j = k
          · rw [hjk, hop] at ho; cases ho
          · exact HF.out j (by omega) ho
        clear hop HF
        go_wp2_with fail
        refine (HR.out _).mono ?_
        rintro e w2 ⟨rfl, hb2⟩
        have HB2 := Lib.hid (below_next HB.out hb2)
        clear hb2
        go_wp2
        go_roundw
        case rel => exact ⟨k + 1, by omega, by go_num, HX, HB2.out.alloc HB2.out.size _⟩
        case measure => simp [intOf]; omega
    · have HX := Lib.hid (find_miss fun j hj => HF.out j (by omega))
      go_wp2
      go_ret2
      exact ⟨rets2 (by rw [findN, HX.out]; rfl) (by rw [HX.out]; rfl), HB.out⟩
end Go.Proofs.YtmlniifdipeboaaDoor
