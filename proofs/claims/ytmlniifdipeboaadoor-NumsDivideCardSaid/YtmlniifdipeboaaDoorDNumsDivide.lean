/- Quotients and what is left make the number again: 'flagonlaw07.NumsDivide' answers true for every two numbers. The listed tables of Go's library lie as the program's text lays them. -/
import Derived.Test.YtmlniifdipeboaaDoorDivide
import Derived.Test.YtmlniifdipeboaaDoorLaidnums
import Derived.Test.YtmlniifdipeboaaDoorCards
import Derived.SevenTiedAt
import Derived.ShutString
import Derived.ChangeOld
import Derived.Below
namespace Go.Proofs.YtmlniifdipeboaaDoor
open Go Go.ChangeShapes Go.WideShapes Go.ChangeAt Go.RowKit

set_option maxRecDepth 100000 in
theorem lifted_numsDivide (os : Os) (started : os.Started) (H : Type) (enc : TypeId × Value → H) :
    ReturnsInHanded {} Tryd.checked os 9 .any (fun w args => (Rows.numsDivideSpec.pre enc Tryd.prog Tryd.f9 [] false w args ∧ laidMetH Tryd.prog laid_nums w) ∧ sizedMet enc Tryd.prog Tryd.f9 (OpenSpec.ofChange Rows.numsDivideSpec) false w args)
      (Rows.numsDivideSpec.post enc Tryd.prog Tryd.f9 false true false false) := by
  refine returnsInHanded_of_change_and (C := Tryd.checked) (X := fun w _ => laidMetH Tryd.prog laid_nums w) (fun _ _ _ hh h => h.of_heap hh) own_nums started (by kernel_rfl) Tryd.func9
    (ChangeSpec.witness_shaped (enc := enc) (C := Tryd.checked) (os := os) (X := fun w _ => laidMetH Tryd.prog laid_nums w) false (World.doorLaid Tryd.prog 400 os) #[.int .u64 0, .int .u64 0, .bool false] 8 rfl (World.shaped_of_RefB (by kernel_rfl) (by kernel_rfl)) (by kernel_rfl) (by kernel_rfl) (by kernel_rfl) (door_nums os _)) ?_
  intro W base args ds gs before hval0 hW hcnd hsz0 hL _
  have hval : ∀ (j : Nat) t v, Tryd.f9.params[j]? = some t → args[j]? = some v → Value.okWide Tryd.prog W .any base t v := hval0
  have hW' := hW
  obtain ⟨p, q, hA0, hV, rfl, hfz, hnd⟩ := hW
  have hA : DataW.TrodAll enc Tryd.prog W 0 (fun _ => true) true Tryd.f9.params.toList args.toList ds p := hA0
  have hsz : (DataW.weightsEach Tryd.prog (Tryd.f9.params.toList ++ []) (ds ++ gs)).all (· ≤ reachBytes) = true := hsz0
  rw [Tryd.params9] at hA hval hsz
  obtain ⟨v0, vs0, d0, ds0, p0, q0, hargs, rfl, rfl, h0, r0⟩ := trodAll_cons hA
  obtain ⟨v1, vs1, d1, ds1, p1, q1, rfl, rfl, rfl, h1, r1⟩ := trodAll_cons r0
  obtain ⟨v2, vs2, d2, ds2, p2, q2, rfl, rfl, rfl, h2, r2⟩ := trodAll_cons r1
  obtain ⟨rfl, rfl, rfl⟩ := trodAll_nil r2
  obtain rfl : args = #[v0, v1, v2] := by cases args; simp_all
  obtain ⟨rfl, rfl⟩ := trodVars_none hV
  obtain ⟨a0, rfl, rfl, rfl, ha0⟩ := open_int Tryd.underlying91 (hval 0 91 v0 rfl rfl) h0
  have hb0 := bounds_u64 ha0
  obtain ⟨n0, rfl⟩ := Int.eq_ofNat_of_zero_le hb0.1
  obtain ⟨a1, rfl, rfl, rfl, ha1⟩ := open_int Tryd.underlying91 (hval 1 91 v1 rfl rfl) h1
  have hb1 := bounds_u64 ha1
  obtain ⟨n1, rfl⟩ := Int.eq_ofNat_of_zero_le hb1.1
  obtain ⟨a2, rfl, rfl, rfl⟩ := open_bool Tryd.underlying4 (hval 2 4 v2 rfl rfl) h2
  clear hA0 hval0
  have ht := tb_nums hL
  refine (law_divide W n0 n1 a2 (by omega) (by omega) ht).mono fun e W' ⟨he, bel⟩ => ?_
  subst he
  exact ⟨_, rfl, _, _, _, [], _, [], hW', trodAll_mk1 (shut_bool Tryd.underlying4 _), (trodAll_cons_mk (shut_int Tryd.underlying91 ha0) (trodAll_cons_mk (shut_int Tryd.underlying91 ha1) (trodAll_cons_mk (shut_bool Tryd.underlying4 _) trodAll_mk0))), rfl, bel.frame _, fun h => by cases h⟩

theorem named_numsDivide : Tryd.pinned.checked.prog.funcNamed Rows.numsDivideRow.func = some 9 := by kernel_rfl
theorem facts_numsDivide : joinedFacts Tryd.pinned.checked.prog 9 Tryd.f9 Rows.numsDivideSpec Rows.numsDivideRow = true := by kernel_rfl
theorem inst_numsDivide : Func.isInstance Tryd.pinned.checked.prog Tryd.f9 Rows.numsDivideRow.origin Rows.numsDivideRow.targs := of_decide_eq_true (by kernel_rfl)
theorem wrap_numsDivide : Func.isWrapper Tryd.pinned.checked.prog Tryd.f9 Rows.numsDivideRow.wrapper Rows.numsDivideRow.mainSum := by unfold Func.isWrapper; rw [if_neg (of_decide_eq_false (by kernel_rfl))]; exact ⟨rfl, rfl⟩
theorem over_numsDivide : Rows.numsDivideRow.holds Tryd.pinned (OpenSpec.ofChange Rows.numsDivideSpec) :=
  OpenClaim.holds_of_wide 9 Tryd.f9 rfl rfl rfl rfl rfl rfl rfl ⟨rfl, rfl, rfl, rfl, rfl⟩ rfl rfl rfl rfl rfl named_numsDivide Tryd.func9 facts_numsDivide inst_numsDivide wrap_numsDivide
    (fun os started H enc _ => lifted_numsDivide os started H enc)

/-- The tied card. -/
theorem numsDivide_card : Rows.NumsDivideCardSaid :=
  Claim7.holds_tied_plain_at .later [] [.data, .listed, .data] true Rows.numsDivideCard.stood.harness false
    over_numsDivide (fun _ h => by cases h) (by kernel_rfl) (fun _ h => by cases h) numsDivide_row_tie rfl ⟨rfl, rfl⟩ (by kernel_rfl) rfl
    (fun f fn hf hfn => by
      obtain rfl : f = 9 := Option.some.inj ((show Tryd.prog.funcNamed "flagon/flagonlaw07.NumsDivide" = some 9 by kernel_rfl).symm.trans hf) |>.symm
      obtain rfl : fn = Tryd.f9 := (Option.some.inj (Tryd.func9.symm.trans hfn)).symm
      exact ⟨by kernel_rfl, fun j t ht => by
        rw [Tryd.params9] at ht
        have hm : t ∈ [91, 91, 4] := by simpa using Array.mem_of_getElem? ht
        have hall : (([91, 91, 4] : List TypeId).all fun u => !Tryd.prog.wantsStandIn u) = true := by kernel_rfl
        exact (show Tryd.prog.wantsStandIn t = false by simpa using List.all_eq_true.1 hall t hm)⟩)
    (by kernel_rfl)
end Go.Proofs.YtmlniifdipeboaaDoor
