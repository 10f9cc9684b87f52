/- Bytes are read as instructions, or refused, as the document says; the answers are new memory: 'flagonlaw04.InstrReads' answers true for all bytes, every place. The listed tables of Go's library lie as the program's text lays them. -/
import Derived.Test.YtmlniifdipeboaaDoorMFInstrReads
import Derived.Test.YtmlniifdipeboaaDoorGInstrReads
namespace Go.Proofs.YtmlniifdipeboaaDoor
open Go Go.ChangeShapes Go.WideShapes Go.ChangeAt Go.RowKit

theorem over_instrReads : Rows.instrReadsRow.holds Tryd.pinned (OpenSpec.ofChange Rows.instrReadsSpec) :=
  OpenClaim.holds_of_wide 16 Tryd.f16 rfl rfl rfl rfl rfl rfl rfl ⟨rfl, rfl, rfl, rfl, rfl⟩ rfl rfl rfl rfl rfl named_instrReads Tryd.func16 facts_instrReads inst_instrReads wrap_instrReads
    (fun os started H enc _ => lifted_instrReads os started H enc)

/-- The tied card. -/
theorem instrReads_card : Rows.InstrReadsCardSaid :=
  Claim7.holds_tied_plain_at .later [] [.data, .data, .data, .listed, .data] true Rows.instrReadsCard.stood.harness false
    over_instrReads (fun _ h => by cases h) (by kernel_rfl) (fun _ h => by cases h) instrReads_row_tie rfl ⟨rfl, rfl⟩ (by kernel_rfl) rfl
    (fun f fn hf hfn => by
      obtain rfl : f = 16 := Option.some.inj ((show Tryd.prog.funcNamed "flagon/flagonlaw04.InstrReads" = some 16 by kernel_rfl).symm.trans hf) |>.symm
      obtain rfl : fn = Tryd.f16 := (Option.some.inj (Tryd.func16.symm.trans hfn)).symm
      exact ⟨by kernel_rfl, fun j t ht => by
        rw [Tryd.params16] at ht
        have hm : t ∈ [34, 3] := by simpa using Array.mem_of_getElem? ht
        have hall : (([34, 3] : List TypeId).all fun u => !Tryd.prog.wantsStandIn u) = true := by kernel_rfl
        exact (show Tryd.prog.wantsStandIn t = false by simpa using List.all_eq_true.1 hall t hm)⟩)
    (by kernel_rfl)
end Go.Proofs.YtmlniifdipeboaaDoor
