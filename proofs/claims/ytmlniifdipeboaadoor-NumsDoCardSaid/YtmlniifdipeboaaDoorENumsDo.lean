/- Every instruction of numbers answers what the document says, by bits: 'flagonlaw07.NumsDo' answers true for every two numbers. The listed tables of Go's library lie as the program's text lays them. -/
import Derived.Test.YtmlniifdipeboaaDoorNumsDo
import Derived.Test.YtmlniifdipeboaaDoorLaidTz
import Derived.Test.YtmlniifdipeboaaDoorLaidnums
import Derived.Test.YtmlniifdipeboaaDoorCards
import Derived.SevenTiedAt
import Derived.ShutString
import Derived.ChangeOld
import Derived.Below
namespace Go.Proofs.YtmlniifdipeboaaDoor
open Go Go.ChangeShapes Go.WideShapes Go.ChangeAt Go.RowKit

set_option maxRecDepth 100000 in
theorem lifted_numsDo (os : Os) (started : os.Started) (H : Type) (enc : TypeId × Value → H) :
    ReturnsInHanded {} Tryd.checked os 8 .any (fun w args => (Rows.numsDoSpec.pre enc Tryd.prog Tryd.f8 [] false w args ∧ laidMetH Tryd.prog laid_nums w) ∧ sizedMet enc Tryd.prog Tryd.f8 (OpenSpec.ofChange Rows.numsDoSpec) false w args)
      (Rows.numsDoSpec.post enc Tryd.prog Tryd.f8 false true false false) := by
  refine returnsInHanded_of_change_and (C := Tryd.checked) (X := fun w _ => laidMetH Tryd.prog laid_nums w) (fun _ _ _ hh h => h.of_heap hh) own_nums started (by kernel_rfl) Tryd.func8
    (ChangeSpec.witness_shaped (enc := enc) (C := Tryd.checked) (os := os) (X := fun w _ => laidMetH Tryd.prog laid_nums w) false (World.doorLaid Tryd.prog 400 os) #[.int .u64 0, .int .u64 0] 8 rfl (World.shaped_of_RefB (by kernel_rfl) (by kernel_rfl)) (by kernel_rfl) (by kernel_rfl) (by kernel_rfl) (door_nums os _)) ?_
  intro W base args ds gs before hval0 hW hcnd hsz0 hL _
  have hval : ∀ (j : Nat) t v, Tryd.f8.params[j]? = some t → args[j]? = some v → Value.okWide Tryd.prog W .any base t v := hval0
  have hW' := hW
  obtain ⟨p, q, hA0, hV, rfl, hfz, hnd⟩ := hW
  have hA : DataW.TrodAll enc Tryd.prog W 0 (fun _ => true) true Tryd.f8.params.toList args.toList ds p := hA0
  have hsz : (DataW.weightsEach Tryd.prog (Tryd.f8.params.toList ++ []) (ds ++ gs)).all (· ≤ reachBytes) = true := hsz0
  rw [Tryd.params8] at hA hval hsz
  obtain ⟨v0, vs0, d0, ds0, p0, q0, hargs, rfl, rfl, h0, r0⟩ := trodAll_cons hA
  obtain ⟨v1, vs1, d1, ds1, p1, q1, rfl, rfl, rfl, h1, r1⟩ := trodAll_cons r0
  obtain ⟨rfl, rfl, rfl⟩ := trodAll_nil r1
  obtain rfl : args = #[v0, v1] := by cases args; simp_all
  obtain ⟨rfl, rfl⟩ := trodVars_none hV
  obtain ⟨a0, rfl, rfl, rfl, ha0⟩ := open_int Tryd.underlying91 (hval 0 91 v0 rfl rfl) h0
  have hb0 := bounds_u64 ha0
  obtain ⟨n0, rfl⟩ := Int.eq_ofNat_of_zero_le hb0.1
  obtain ⟨a1, rfl, rfl, rfl, ha1⟩ := open_int Tryd.underlying91 (hval 1 91 v1 rfl rfl) h1
  have hb1 := bounds_u64 ha1
  obtain ⟨n1, rfl⟩ := Int.eq_ofNat_of_zero_le hb1.1
  clear hA0 hval0
  have ht := tb_nums hL
  refine (law_numsDo W n0 n1 (by omega) (by omega) ht (tz_nums hL)).mono fun e W' ⟨he, bel⟩ => ?_
  subst he
  exact ⟨_, rfl, _, _, _, [], _, [], hW', trodAll_mk1 (shut_bool Tryd.underlying4 _), (trodAll_cons_mk (shut_int Tryd.underlying91 ha0) (trodAll_cons_mk (shut_int Tryd.underlying91 ha1) trodAll_mk0)), rfl, bel.frame _, fun h => by cases h⟩

theorem named_numsDo : Tryd.pinned.checked.prog.funcNamed Rows.numsDoRow.func = some 8 := by kernel_rfl
theorem facts_numsDo : joinedFacts Tryd.pinned.checked.prog 8 Tryd.f8 Rows.numsDoSpec Rows.numsDoRow = true := by kernel_rfl
theorem inst_numsDo : Func.isInstance Tryd.pinned.checked.prog Tryd.f8 Rows.numsDoRow.origin Rows.numsDoRow.targs := of_decide_eq_true (by kernel_rfl)
theorem wrap_numsDo : Func.isWrapper Tryd.pinned.checked.prog Tryd.f8 Rows.numsDoRow.wrapper Rows.numsDoRow.mainSum := by unfold Func.isWrapper; rw [if_neg (of_decide_eq_false (by kernel_rfl))]; exact ⟨rfl, rfl⟩
theorem over_numsDo : Rows.numsDoRow.holds Tryd.pinned (OpenSpec.ofChange Rows.numsDoSpec) :=
  OpenClaim.holds_of_wide 8 Tryd.f8 rfl rfl rfl rfl rfl rfl rfl ⟨rfl, rfl, rfl, rfl, rfl⟩ rfl rfl rfl rfl rfl named_numsDo Tryd.func8 facts_numsDo inst_numsDo wrap_numsDo
    (fun os started H enc _ => lifted_numsDo os started H enc)

end Go.Proofs.YtmlniifdipeboaaDoor
