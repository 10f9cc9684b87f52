/- What is made wide or narrow stays what it is: 'flagonlaw07.NumsTurn' answers true for every number. The listed tables of Go's library lie as the program's text lays them. -/
import Derived.Test.YtmlniifdipeboaaDoorTurn
import Derived.Test.YtmlniifdipeboaaDoorLaidnums
import Derived.Test.YtmlniifdipeboaaDoorCards
import Derived.SevenTiedAt
import Derived.ShutString
import Derived.ChangeOld
import Derived.Below
namespace Go.Proofs.YtmlniifdipeboaaDoor
open Go Go.ChangeShapes Go.WideShapes Go.ChangeAt Go.RowKit

set_option maxRecDepth 100000 in
theorem lifted_numsTurn (os : Os) (started : os.Started) (H : Type) (enc : TypeId × Value → H) :
    ReturnsInHanded {} Tryd.checked os 11 .any (fun w args => (Rows.numsTurnSpec.pre enc Tryd.prog Tryd.f11 [] false w args ∧ laidMetH Tryd.prog laid_nums w) ∧ sizedMet enc Tryd.prog Tryd.f11 (OpenSpec.ofChange Rows.numsTurnSpec) false w args)
      (Rows.numsTurnSpec.post enc Tryd.prog Tryd.f11 false true false false) := by
  refine returnsInHanded_of_change_and (C := Tryd.checked) (X := fun w _ => laidMetH Tryd.prog laid_nums w) (fun _ _ _ hh h => h.of_heap hh) own_nums started (by kernel_rfl) Tryd.func11
    (ChangeSpec.witness_shaped (enc := enc) (C := Tryd.checked) (os := os) (X := fun w _ => laidMetH Tryd.prog laid_nums w) false (World.doorLaid Tryd.prog 400 os) #[.int .u64 0] 8 rfl (World.shaped_of_RefB (by kernel_rfl) (by kernel_rfl)) (by kernel_rfl) (by kernel_rfl) (by kernel_rfl) (door_nums os _)) ?_
  intro W base args ds gs before hval0 hW hcnd hsz0 hL _
  have hval : ∀ (j : Nat) t v, Tryd.f11.params[j]? = some t → args[j]? = some v → Value.okWide Tryd.prog W .any base t v := hval0
  have hW' := hW
  obtain ⟨p, q, hA0, hV, rfl, hfz, hnd⟩ := hW
  have hA : DataW.TrodAll enc Tryd.prog W 0 (fun _ => true) true Tryd.f11.params.toList args.toList ds p := hA0
  have hsz : (DataW.weightsEach Tryd.prog (Tryd.f11.params.toList ++ []) (ds ++ gs)).all (· ≤ reachBytes) = true := hsz0
  rw [Tryd.params11] at hA hval hsz
  obtain ⟨v0, vs0, d0, ds0, p0, q0, hargs, rfl, rfl, h0, r0⟩ := trodAll_cons hA
  obtain ⟨rfl, rfl, rfl⟩ := trodAll_nil r0
  obtain rfl : args = #[v0] := by cases args; simp_all
  obtain ⟨rfl, rfl⟩ := trodVars_none hV
  obtain ⟨a0, rfl, rfl, rfl, ha0⟩ := open_int Tryd.underlying91 (hval 0 91 v0 rfl rfl) h0
  have hb0 := bounds_u64 ha0
  obtain ⟨n0, rfl⟩ := Int.eq_ofNat_of_zero_le hb0.1
  clear hA0 hval0
  have ht := tb_nums hL
  refine (law_turn W n0 (by omega) ht).mono fun e W' ⟨he, bel⟩ => ?_
  subst he
  exact ⟨_, rfl, _, _, _, [], _, [], hW', trodAll_mk1 (shut_bool Tryd.underlying4 _), (trodAll_cons_mk (shut_int Tryd.underlying91 ha0) trodAll_mk0), rfl, bel.frame _, fun h => by cases h⟩

theorem named_numsTurn : Tryd.pinned.checked.prog.funcNamed Rows.numsTurnRow.func = some 11 := by kernel_rfl
theorem facts_numsTurn : joinedFacts Tryd.pinned.checked.prog 11 Tryd.f11 Rows.numsTurnSpec Rows.numsTurnRow = true := by kernel_rfl
theorem inst_numsTurn : Func.isInstance Tryd.pinned.checked.prog Tryd.f11 Rows.numsTurnRow.origin Rows.numsTurnRow.targs := of_decide_eq_true (by kernel_rfl)
theorem wrap_numsTurn : Func.isWrapper Tryd.pinned.checked.prog Tryd.f11 Rows.numsTurnRow.wrapper Rows.numsTurnRow.mainSum := by unfold Func.isWrapper; rw [if_neg (of_decide_eq_false (by kernel_rfl))]; exact ⟨rfl, rfl⟩
theorem over_numsTurn : Rows.numsTurnRow.holds Tryd.pinned (OpenSpec.ofChange Rows.numsTurnSpec) :=
  OpenClaim.holds_of_wide 11 Tryd.f11 rfl rfl rfl rfl rfl rfl rfl ⟨rfl, rfl, rfl, rfl, rfl⟩ rfl rfl rfl rfl rfl named_numsTurn Tryd.func11 facts_numsTurn inst_numsTurn wrap_numsTurn
    (fun os started H enc _ => lifted_numsTurn os started H enc)

/-- The tied card. -/
theorem numsTurn_card : Rows.NumsTurnCardSaid :=
  Claim7.holds_tied_plain_at .later [] [.data, .listed, .data] true Rows.numsTurnCard.stood.harness false
    over_numsTurn (fun _ h => by cases h) (by kernel_rfl) (fun _ h => by cases h) numsTurn_row_tie rfl ⟨rfl, rfl⟩ (by kernel_rfl) rfl
    (fun f fn hf hfn => by
      obtain rfl : f = 11 := Option.some.inj ((show Tryd.prog.funcNamed "flagon/flagonlaw07.NumsTurn" = some 11 by kernel_rfl).symm.trans hf) |>.symm
      obtain rfl : fn = Tryd.f11 := (Option.some.inj (Tryd.func11.symm.trans hfn)).symm
      exact ⟨by kernel_rfl, fun j t ht => by
        rw [Tryd.params11] at ht
        have hm : t ∈ [91] := by simpa using Array.mem_of_getElem? ht
        have hall : (([91] : List TypeId).all fun u => !Tryd.prog.wantsStandIn u) = true := by kernel_rfl
        exact (show Tryd.prog.wantsStandIn t = false by simpa using List.all_eq_true.1 hall t hm)⟩)
    (by kernel_rfl)
end Go.Proofs.YtmlniifdipeboaaDoor
