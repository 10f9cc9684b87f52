/- Every text finds the opcode of that word, or none; all opcodes are told, in new memory: 'flagonlaw03.OpsWords' answers true for every text. The listed tables of Go's library lie as the program's text lays them. -/
import Derived.Test.YtmlniifdipeboaaDoorOpsWords
import Derived.Test.YtmlniifdipeboaaDoorLaidbag
import Derived.Test.YtmlniifdipeboaaDoorCards
import Derived.SevenTiedAt
import Derived.ChangeMaps5
import Derived.ShutString
import Derived.ChangeOld
import Derived.Below
namespace Go.Proofs.YtmlniifdipeboaaDoor
open Go Go.ChangeShapes Go.WideShapes Go.ChangeAt Go.RowKit

set_option maxRecDepth 100000 in
theorem lifted_opsWords (os : Os) (started : os.Started) (H : Type) (enc : TypeId × Value → H) :
    ReturnsInHanded {} Tryd.checked os 14 .any (fun w args => (Rows.opsWordsSpec.pre enc Tryd.prog Tryd.f14 [] false w args ∧ laidMetH Tryd.prog laid_bag w) ∧ sizedMet enc Tryd.prog Tryd.f14 (OpenSpec.ofChange Rows.opsWordsSpec) false w args)
      (Rows.opsWordsSpec.post enc Tryd.prog Tryd.f14 false true false false) := by
  refine returnsInHanded_of_change_and (C := Tryd.checked) (X := fun w _ => laidMetH Tryd.prog laid_bag w) (fun _ _ _ hh h => h.of_heap hh) own_bag started (by kernel_rfl) Tryd.func14
    (ChangeSpec.witness_shaped (enc := enc) (C := Tryd.checked) (os := os) (X := fun w _ => laidMetH Tryd.prog laid_bag w) false (World.doorLaid Tryd.prog 400 os) #[.string ByteArray.empty] 8 rfl (World.shaped_of_RefB (by kernel_rfl) (by kernel_rfl)) (by kernel_rfl) (by kernel_rfl) (by kernel_rfl) (door_bag os _)) ?_
  intro W base args ds gs before hval0 hW hcnd hsz0 hL _
  have hval : ∀ (j : Nat) t v, Tryd.f14.params[j]? = some t → args[j]? = some v → Value.okWide Tryd.prog W .any base t v := hval0
  have hW' := hW
  obtain ⟨p, q, hA0, hV, rfl, hfz, hnd⟩ := hW
  have hA : DataW.TrodAll enc Tryd.prog W 0 (fun _ => true) true Tryd.f14.params.toList args.toList ds p := hA0
  have hsz : (DataW.weightsEach Tryd.prog (Tryd.f14.params.toList ++ []) (ds ++ gs)).all (· ≤ reachBytes) = true := hsz0
  rw [Tryd.params14] at hA hval hsz
  obtain ⟨v0, vs0, d0, ds0, p0, q0, hargs, rfl, rfl, h0, r0⟩ := trodAll_cons hA
  obtain ⟨rfl, rfl, rfl⟩ := trodAll_nil r0
  obtain rfl : args = #[v0] := by cases args; simp_all
  obtain ⟨rfl, rfl⟩ := trodVars_none hV
  obtain ⟨a0, rfl, rfl, rfl, hs0⟩ := Go.ChangeMaps.open_string Tryd.underlying9 (hval 0 9 v0 rfl rfl) h0
  clear hA0 hval0
  have ht := tb_bag hL
  refine (law_wordsS W a0 ht).mono fun e W' ⟨he, bel⟩ => ?_
  subst he
  exact ⟨_, rfl, _, _, _, [], _, [], hW', trodAll_mk1 (shut_bool Tryd.underlying4 _), (trodAll_cons_mk (Go.ChangeMaps.shut_string Tryd.underlying9 hs0) trodAll_mk0), rfl, bel.frame _, fun h => by cases h⟩

theorem named_opsWords : Tryd.pinned.checked.prog.funcNamed Rows.opsWordsRow.func = some 14 := by kernel_rfl
theorem facts_opsWords : joinedFacts Tryd.pinned.checked.prog 14 Tryd.f14 Rows.opsWordsSpec Rows.opsWordsRow = true := by kernel_rfl
theorem inst_opsWords : Func.isInstance Tryd.pinned.checked.prog Tryd.f14 Rows.opsWordsRow.origin Rows.opsWordsRow.targs := of_decide_eq_true (by kernel_rfl)
theorem wrap_opsWords : Func.isWrapper Tryd.pinned.checked.prog Tryd.f14 Rows.opsWordsRow.wrapper Rows.opsWordsRow.mainSum := by unfold Func.isWrapper; rw [if_neg (of_decide_eq_false (by kernel_rfl))]; exact ⟨rfl, rfl⟩
theorem over_opsWords : Rows.opsWordsRow.holds Tryd.pinned (OpenSpec.ofChange Rows.opsWordsSpec) :=
  OpenClaim.holds_of_wide 14 Tryd.f14 rfl rfl rfl rfl rfl rfl rfl ⟨rfl, rfl, rfl, rfl, rfl⟩ rfl rfl rfl rfl rfl named_opsWords Tryd.func14 facts_opsWords inst_opsWords wrap_opsWords
    (fun os started H enc _ => lifted_opsWords os started H enc)

end Go.Proofs.YtmlniifdipeboaaDoor
