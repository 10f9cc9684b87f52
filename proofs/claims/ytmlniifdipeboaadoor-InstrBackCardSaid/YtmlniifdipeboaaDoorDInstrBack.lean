/- What is encoded is decoded as itself, and what is decoded is encoded as the same bytes: 'flagonlaw04.InstrBack' answers true for every input. The listed tables of Go's library lie as the program's text lays them. -/
import Derived.Test.YtmlniifdipeboaaDoorOpenI
import Derived.Test.YtmlniifdipeboaaDoorLaidops
import Derived.Test.YtmlniifdipeboaaDoorCards
import Derived.SevenTiedAt
import Derived.ShutString
import Derived.ChangeOld
import Derived.Below
namespace Go.Proofs.YtmlniifdipeboaaDoor
open Go Go.ChangeShapes Go.WideShapes Go.ChangeAt Go.RowKit

set_option maxRecDepth 100000 in
theorem lifted_instrBack (os : Os) (started : os.Started) (H : Type) (enc : TypeId × Value → H) :
    ReturnsInHanded {} Tryd.checked os 6 .any (fun w args => (Rows.instrBackSpec.pre enc Tryd.prog Tryd.f6 [] false w args ∧ laidMetH Tryd.prog laid_ops w) ∧ sizedMet enc Tryd.prog Tryd.f6 (OpenSpec.ofChange Rows.instrBackSpec) false w args)
      (Rows.instrBackSpec.post enc Tryd.prog Tryd.f6 false true false false) := by
  refine returnsInHanded_of_change_and (C := Tryd.checked) (X := fun w _ => laidMetH Tryd.prog laid_ops w) (fun _ _ _ hh h => h.of_heap hh) own_ops started (by kernel_rfl) Tryd.func6
    (ChangeSpec.witness_shaped (enc := enc) (C := Tryd.checked) (os := os) (X := fun w _ => laidMetH Tryd.prog laid_ops w) false (World.doorLaid Tryd.prog 400 os) #[.agg #[.int .u8 0, .int .i64 0, .slice none 0 0], .slice none 0 0, .slice none 0 0, .int .i64 0] 8 rfl (World.shaped_of_RefB (by kernel_rfl) (by kernel_rfl)) (by kernel_rfl) (by kernel_rfl) (by kernel_rfl) (door_ops os _)) ?_
  intro W base args ds gs before hval0 hW hcnd hsz0 hL _
  have hval : ∀ (j : Nat) t v, Tryd.f6.params[j]? = some t → args[j]? = some v → Value.okWide Tryd.prog W .any base t v := hval0
  have hW' := hW
  obtain ⟨p, q, hA0, hV, rfl, hfz, hnd⟩ := hW
  have hA : DataW.TrodAll enc Tryd.prog W 0 (fun _ => true) true Tryd.f6.params.toList args.toList ds p := hA0
  have hsz : (DataW.weightsEach Tryd.prog (Tryd.f6.params.toList ++ []) (ds ++ gs)).all (· ≤ reachBytes) = true := hsz0
  rw [Tryd.params6] at hA hval hsz
  obtain ⟨v0, vs0, d0, ds0, p0, q0, hargs, rfl, rfl, h0, r0⟩ := trodAll_cons hA
  obtain ⟨v1, vs1, d1, ds1, p1, q1, rfl, rfl, rfl, h1, r1⟩ := trodAll_cons r0
  obtain ⟨v2, vs2, d2, ds2, p2, q2, rfl, rfl, rfl, h2, r2⟩ := trodAll_cons r1
  obtain ⟨v3, vs3, d3, ds3, p3, q3, rfl, rfl, rfl, h3, r3⟩ := trodAll_cons r2
  obtain ⟨rfl, rfl, rfl⟩ := trodAll_nil r3
  obtain rfl : args = #[v0, v1, v2, v3] := by cases args; simp_all
  obtain ⟨rfl, rfl⟩ := trodVars_none hV
  have k0 := h0
  have lt0 : ∀ x ∈ p0, x.block < W.heap.size := by obtain ⟨m, hm⟩ := k0; exact DataW.trod_lt m _ _ _ hm
  obtain ⟨a0, ha0⟩ := opens_arg hsz 0 rfl rfl h0 (opens_ins (enc := enc) (W := W))
  obtain ⟨cs0, rfl, _⟩ := okWide_struct Tryd.underlying81 (hval 0 81 v0 rfl rfl)
  obtain ⟨vl0, el0, hv0⟩ := ha0.1
  obtain rfl : cs0 = #[.int .u8 a0.op, .int .i64 a0.a, vl0] := by apply Array.ext'; simpa [Value.cells] using el0
  have k1 := h1
  have lt1 : ∀ x ∈ p1, x.block < W.heap.size := by obtain ⟨m, hm⟩ := k1; exact DataW.trod_lt m _ _ _ hm
  obtain ⟨a1, ha1⟩ := opens_arg hsz 1 rfl rfl h1 (opens_bytes (enc := enc) (W := W))
  obtain ⟨sa1, sl1, sc1, rfl⟩ := okWide_slice Tryd.underlying34 (hval 1 34 v1 rfl rfl)
  obtain ⟨x1, e1, ha1⟩ := ha1
  obtain rfl : x1 = .slice sa1 sl1 sc1 := by simpa [Value.cells] using e1.symm
  obtain ⟨_, xn1, en1, hn1⟩ := opens_arg hsz 1 rfl rfl h1 (opens_nil (enc := enc) (W := W) Tryd.underlying34)
  obtain rfl : xn1 = .slice sa1 sl1 sc1 := by simpa [Value.cells] using en1.symm
  have k2 := h2
  have lt2 : ∀ x ∈ p2, x.block < W.heap.size := by obtain ⟨m, hm⟩ := k2; exact DataW.trod_lt m _ _ _ hm
  obtain ⟨a2, ha2⟩ := opens_arg hsz 2 rfl rfl h2 (opens_bytes (enc := enc) (W := W))
  obtain ⟨sa2, sl2, sc2, rfl⟩ := okWide_slice Tryd.underlying34 (hval 2 34 v2 rfl rfl)
  obtain ⟨x2, e2, ha2⟩ := ha2
  obtain rfl : x2 = .slice sa2 sl2 sc2 := by simpa [Value.cells] using e2.symm
  obtain ⟨_, xn2, en2, hn2⟩ := opens_arg hsz 2 rfl rfl h2 (opens_nil (enc := enc) (W := W) Tryd.underlying34)
  obtain rfl : xn2 = .slice sa2 sl2 sc2 := by simpa [Value.cells] using en2.symm
  obtain ⟨a3, rfl, rfl, rfl, ha3⟩ := open_int Tryd.underlying3 (hval 3 3 v3 rfl rfl) h3
  clear hA0 hval0
  have ht := tb_ops hL
  refine (law_back04 W a0 _ _ _ a1 a2 a3 ha0.2 hv0 ha1.1 ha2.1 ha1.2 ha2.2 hn1 hn2 ht).mono fun e W' ⟨he, bel⟩ => ?_
  subst he
  exact ⟨_, rfl, _, _, _, [], _, [], hW', trodAll_mk1 (shut_bool Tryd.underlying4 _), (trodAll_cons_mk (Below.trod laidOut_ops (by kernel_rfl) (of_decide_eq_true (by kernel_rfl)) k0 bel lt0) (trodAll_cons_mk (Below.trod laidOut_ops (by kernel_rfl) (of_decide_eq_true (by kernel_rfl)) k1 bel lt1) (trodAll_cons_mk (Below.trod laidOut_ops (by kernel_rfl) (of_decide_eq_true (by kernel_rfl)) k2 bel lt2) (trodAll_cons_mk (shut_int Tryd.underlying3 ha3) trodAll_mk0)))), rfl, bel.frame _, fun h => by cases h⟩

theorem named_instrBack : Tryd.pinned.checked.prog.funcNamed Rows.instrBackRow.func = some 6 := by kernel_rfl
theorem facts_instrBack : joinedFacts Tryd.pinned.checked.prog 6 Tryd.f6 Rows.instrBackSpec Rows.instrBackRow = true := by kernel_rfl
theorem inst_instrBack : Func.isInstance Tryd.pinned.checked.prog Tryd.f6 Rows.instrBackRow.origin Rows.instrBackRow.targs := of_decide_eq_true (by kernel_rfl)
theorem wrap_instrBack : Func.isWrapper Tryd.pinned.checked.prog Tryd.f6 Rows.instrBackRow.wrapper Rows.instrBackRow.mainSum := by unfold Func.isWrapper; rw [if_neg (of_decide_eq_false (by kernel_rfl))]; exact ⟨rfl, rfl⟩
theorem over_instrBack : Rows.instrBackRow.holds Tryd.pinned (OpenSpec.ofChange Rows.instrBackSpec) :=
  OpenClaim.holds_of_wide 6 Tryd.f6 rfl rfl rfl rfl rfl rfl rfl ⟨rfl, rfl, rfl, rfl, rfl⟩ rfl rfl rfl rfl rfl named_instrBack Tryd.func6 facts_instrBack inst_instrBack wrap_instrBack
    (fun os started H enc _ => lifted_instrBack os started H enc)

/-- The tied card. -/
theorem instrBack_card : Rows.InstrBackCardSaid :=
  Claim7.holds_tied_plain_at .later [] [.listed, .data] true Rows.instrBackCard.stood.harness false
    over_instrBack (fun _ h => by cases h) (by kernel_rfl) (fun _ h => by cases h) instrBack_row_tie rfl ⟨rfl, rfl⟩ (by kernel_rfl) rfl
    (fun f fn hf hfn => by
      obtain rfl : f = 6 := Option.some.inj ((show Tryd.prog.funcNamed "flagon/flagonlaw04.InstrBack" = some 6 by kernel_rfl).symm.trans hf) |>.symm
      obtain rfl : fn = Tryd.f6 := (Option.some.inj (Tryd.func6.symm.trans hfn)).symm
      exact ⟨by kernel_rfl, fun j t ht => by
        rw [Tryd.params6] at ht
        have hm : t ∈ [81, 34, 34, 3] := by simpa using Array.mem_of_getElem? ht
        have hall : (([81, 34, 34, 3] : List TypeId).all fun u => !Tryd.prog.wantsStandIn u) = true := by kernel_rfl
        exact (show Tryd.prog.wantsStandIn t = false by simpa using List.all_eq_true.1 hall t hm)⟩)
    (by kernel_rfl)
end Go.Proofs.YtmlniifdipeboaaDoor
