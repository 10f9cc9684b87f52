/- Instructions that lie one behind the other are read one by one, as they were: 'flagonlaw04.InstrList' answers true for every list of instructions. The listed tables of Go's library lie as the program's text lays them. -/
import Derived.Test.YtmlniifdipeboaaDoorOpenI
import Derived.Test.YtmlniifdipeboaaDoorList04
import Derived.Test.YtmlniifdipeboaaDoorLaidops
import Derived.Test.YtmlniifdipeboaaDoorCards
import Derived.SevenTiedAt
import Derived.ShutString
import Derived.ChangeOld
import Derived.Below
namespace Go.Proofs.YtmlniifdipeboaaDoor
open Go Go.ChangeShapes Go.WideShapes Go.ChangeAt Go.RowKit

set_option maxRecDepth 100000 in
theorem lifted_instrList (os : Os) (started : os.Started) (H : Type) (enc : TypeId × Value → H) :
    ReturnsInHanded {} Tryd.checked os 7 .any (fun w args => (Rows.instrListSpec.pre enc Tryd.prog Tryd.f7 [] false w args ∧ laidMetH Tryd.prog laid_ops w) ∧ sizedMet enc Tryd.prog Tryd.f7 (OpenSpec.ofChange Rows.instrListSpec) false w args)
      (Rows.instrListSpec.post enc Tryd.prog Tryd.f7 false true false false) := by
  refine returnsInHanded_of_change_and (C := Tryd.checked) (X := fun w _ => laidMetH Tryd.prog laid_ops w) (fun _ _ _ hh h => h.of_heap hh) own_ops started (by kernel_rfl) Tryd.func7
    (ChangeSpec.witness_shaped (enc := enc) (C := Tryd.checked) (os := os) (X := fun w _ => laidMetH Tryd.prog laid_ops w) false (World.doorLaid Tryd.prog 400 os) #[.slice none 0 0] 8 rfl (World.shaped_of_RefB (by kernel_rfl) (by kernel_rfl)) (by kernel_rfl) (by kernel_rfl) (by kernel_rfl) (door_ops os _)) ?_
  intro W base args ds gs before hval0 hW hcnd hsz0 hL _
  have hval : ∀ (j : Nat) t v, Tryd.f7.params[j]? = some t → args[j]? = some v → Value.okWide Tryd.prog W .any base t v := hval0
  have hW' := hW
  obtain ⟨p, q, hA0, hV, rfl, hfz, hnd⟩ := hW
  have hA : DataW.TrodAll enc Tryd.prog W 0 (fun _ => true) true Tryd.f7.params.toList args.toList ds p := hA0
  have hsz : (DataW.weightsEach Tryd.prog (Tryd.f7.params.toList ++ []) (ds ++ gs)).all (· ≤ reachBytes) = true := hsz0
  rw [Tryd.params7] at hA hval hsz
  obtain ⟨v0, vs0, d0, ds0, p0, q0, hargs, rfl, rfl, h0, r0⟩ := trodAll_cons hA
  obtain ⟨rfl, rfl, rfl⟩ := trodAll_nil r0
  obtain rfl : args = #[v0] := by cases args; simp_all
  obtain ⟨rfl, rfl⟩ := trodVars_none hV
  have k0 := h0
  have lt0 : ∀ x ∈ p0, x.block < W.heap.size := by obtain ⟨m, hm⟩ := k0; exact DataW.trod_lt m _ _ _ hm
  obtain ⟨a0, ha0⟩ := opens_arg hsz 0 rfl rfl h0 (opens_code (enc := enc) (W := W))
  obtain ⟨sa0, sl0, sc0, rfl⟩ := okWide_slice Tryd.underlying37 (hval 0 37 v0 rfl rfl)
  obtain ⟨x0, e0, ha0⟩ := ha0
  obtain rfl : x0 = .slice sa0 sl0 sc0 := by simpa [Value.cells] using e0.symm
  clear hA0 hval0
  have ht := tb_ops hL
  refine (law_list04 W _ a0 ha0.2 ha0.1 ht).mono fun e W' ⟨he, bel⟩ => ?_
  subst he
  exact ⟨_, rfl, _, _, _, [], _, [], hW', trodAll_mk1 (shut_bool Tryd.underlying4 _), (trodAll_cons_mk (Below.trod laidOut_ops (by kernel_rfl) (of_decide_eq_true (by kernel_rfl)) k0 bel lt0) trodAll_mk0), rfl, bel.frame _, fun h => by cases h⟩

theorem named_instrList : Tryd.pinned.checked.prog.funcNamed Rows.instrListRow.func = some 7 := by kernel_rfl
theorem facts_instrList : joinedFacts Tryd.pinned.checked.prog 7 Tryd.f7 Rows.instrListSpec Rows.instrListRow = true := by kernel_rfl
theorem inst_instrList : Func.isInstance Tryd.pinned.checked.prog Tryd.f7 Rows.instrListRow.origin Rows.instrListRow.targs := of_decide_eq_true (by kernel_rfl)
theorem wrap_instrList : Func.isWrapper Tryd.pinned.checked.prog Tryd.f7 Rows.instrListRow.wrapper Rows.instrListRow.mainSum := by unfold Func.isWrapper; rw [if_neg (of_decide_eq_false (by kernel_rfl))]; exact ⟨rfl, rfl⟩
theorem over_instrList : Rows.instrListRow.holds Tryd.pinned (OpenSpec.ofChange Rows.instrListSpec) :=
  OpenClaim.holds_of_wide 7 Tryd.f7 rfl rfl rfl rfl rfl rfl rfl ⟨rfl, rfl, rfl, rfl, rfl⟩ rfl rfl rfl rfl rfl named_instrList Tryd.func7 facts_instrList inst_instrList wrap_instrList
    (fun os started H enc _ => lifted_instrList os started H enc)

/-- The tied card. -/
theorem instrList_card : Rows.InstrListCardSaid :=
  Claim7.holds_tied_plain_at .later [] [.listed, .data] true Rows.instrListCard.stood.harness false
    over_instrList (fun _ h => by cases h) (by kernel_rfl) (fun _ h => by cases h) instrList_row_tie rfl ⟨rfl, rfl⟩ (by kernel_rfl) rfl
    (fun f fn hf hfn => by
      obtain rfl : f = 7 := Option.some.inj ((show Tryd.prog.funcNamed "flagon/flagonlaw04.InstrList" = some 7 by kernel_rfl).symm.trans hf) |>.symm
      obtain rfl : fn = Tryd.f7 := (Option.some.inj (Tryd.func7.symm.trans hfn)).symm
      exact ⟨by kernel_rfl, fun j t ht => by
        rw [Tryd.params7] at ht
        have hm : t ∈ [37] := by simpa using Array.mem_of_getElem? ht
        have hall : (([37] : List TypeId).all fun u => !Tryd.prog.wantsStandIn u) = true := by kernel_rfl
        exact (show Tryd.prog.wantsStandIn t = false by simpa using List.all_eq_true.1 hall t hm)⟩)
    (by kernel_rfl)
end Go.Proofs.YtmlniifdipeboaaDoor
