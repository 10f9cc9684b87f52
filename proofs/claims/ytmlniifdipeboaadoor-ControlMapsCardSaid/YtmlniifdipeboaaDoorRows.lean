/-
  NARROWER THAN 'FOR EVERY INPUT', by the rows' own cells (each row's printed sentence says how): OpsRows: laid · OpsFind: laid · BlocksCut: laid · InstrBack: laid · InstrList: laid · NumsDo: laid · NumsDivide: laid · NumsAgree: laid · NumsTurn: laid · NumsNarrow: laid · NumsRing: laid · OpsWords: laid · InstrWrites: laid · InstrReads: laid · ControlMaps: laid · ControlGoes: laid.
  DERIVED. THE GIVEN ROWS OF THIS SEAT. 16 by the template 'for every input the law returns true; each argument reads behind the call as it read before'; 0 by the template 'total and deterministic' (their statements: YtmlniifdipeboaaDoorTotals.lean).
  GIVEN WITH THE SEED: the statements are not yours to turn. If you find one false, say at which input.
  Laid BY PROGRAM, IN A SANDBOX (cutbox-rows.mjs): the forced cells as the released guide's own fill.sh prints them over the translation dd48582c264fe5d6… (all of the seat's roots in one cut). By AI agents, Wed Nov 11 2026. No macro, syntax, notation, axiom, sorry.
-/
import Derived.Test.YtmlniifdipeboaaDoorChecked
import GoSem.Claim
import GoSem.ClaimJoined
import GoSem.ClaimMapViews
import Derived.JoinedTies
import Derived.KernelRfl
namespace Go.Proofs.YtmlniifdipeboaaDoor
/- THE CELL 'sum', in the pinned program and in every row, IS THE sha256 OF THE DUMP (.gsa) THAT YtmlniifdipeboaaDoorProg.lean LOADS. Nothing in Lean hashes anything: it is a label: what it is worth is what the hold of that sum in a sandbox is worth. -/
noncomputable def Tryd.pinned : Pinned := { name := "ytmlniifdipeboaadoor", sum := "dd48582c264fe5d68c8407591807cc54a86fdc1046b2ba6caf8834046a007268", checked := Tryd.checked }
namespace Rows
def none {H : Type} : Left H := { results := [], args := [] }

/- WHAT THE LISTED PACKAGE-LEVEL VARIABLES READ AS WHEN THE CALL BEGINS. Each datum BY PROGRAM (the guide's laid-datum.mjs) off the statement by which the dump's own 'gosem.cut.vars' lays the variable. In a bare row this is a premise. The card (YtmlniifdipeboaaDoorCards.lean) ties it to the program's text. -/
def laid_unicode_White_Space {H : Type} : DataW H := .ptr (.agg [.slice [.agg [.lit (.int .u16 9), .lit (.int .u16 13), .lit (.int .u16 1)], .agg [.lit (.int .u16 32), .lit (.int .u16 133), .lit (.int .u16 101)], .agg [.lit (.int .u16 160), .lit (.int .u16 5760), .lit (.int .u16 5600)], .agg [.lit (.int .u16 8192), .lit (.int .u16 8202), .lit (.int .u16 1)], .agg [.lit (.int .u16 8232), .lit (.int .u16 8233), .lit (.int .u16 1)], .agg [.lit (.int .u16 8239), .lit (.int .u16 8287), .lit (.int .u16 48)], .agg [.lit (.int .u16 12288), .lit (.int .u16 12288), .lit (.int .u16 1)]] [], .nil, .lit (.int .i64 2)])
def laid_strings_asciiSpace {H : Type} : DataW H := .agg [.lit (.int .u8 0), .lit (.int .u8 0), .lit (.int .u8 0), .lit (.int .u8 0), .lit (.int .u8 0), .lit (.int .u8 0), .lit (.int .u8 0), .lit (.int .u8 0), .lit (.int .u8 0), .lit (.int .u8 1), .lit (.int .u8 1), .lit (.int .u8 1), .lit (.int .u8 1), .lit (.int .u8 1), .lit (.int .u8 0), .lit (.int .u8 0), .lit (.int .u8 0), .lit (.int .u8 0), .lit (.int .u8 0), .lit (.int .u8 0), .lit (.int .u8 0), .lit (.int .u8 0), .lit (.int .u8 0), .lit (.int .u8 0), .lit (.int .u8 0), .lit (.int .u8 0), .lit (.int .u8 0), .lit (.int .u8 0), .lit (.int .u8 0), .lit (.int .u8 0), .lit (.int .u8 0), .lit (.int .u8 0), .lit (.int .u8 1), .lit (.int .u8 0), .lit (.int .u8 0), .lit (.int .u8 0), .lit (.int .u8 0), .lit (.int .u8 0), .lit (.int .u8 0), .lit (.int .u8 0), .lit (.int .u8 0), .lit (.int .u8 0), .lit (.int .u8 0), .lit (.int .u8 0), .lit (.int .u8 0), .lit (.int .u8 0), .lit (.int .u8 0), .lit (.int .u8 0), .lit (.int .u8 0), .lit (.int .u8 0), .lit (.int .u8 0), .lit (.int .u8 0), .lit (.int .u8 0), .lit (.int .u8 0), .lit (.int .u8 0), .lit (.int .u8 0), .lit (.int .u8 0), .lit (.int .u8 0), .lit (.int .u8 0), .lit (.int .u8 0), .lit (.int .u8 0), .lit (.int .u8 0), .lit (.int .u8 0), .lit (.int .u8 0), .lit (.int .u8 0), .lit (.int .u8 0), .lit (.int .u8 0), .lit (.int .u8 0), .lit (.int .u8 0), .lit (.int .u8 0), .lit (.int .u8 0), .lit (.int .u8 0), .lit (.int .u8 0), .lit (.int .u8 0), .lit (.int .u8 0), .lit (.int .u8 0), .lit (.int .u8 0), .lit (.int .u8 0), .lit (.int .u8 0), .lit (.int .u8 0), .lit (.int .u8 0), .lit (.int .u8 0), .lit (.int .u8 0), .lit (.int .u8 0), .lit (.int .u8 0), .lit (.int .u8 0), .lit (.int .u8 0), .lit (.int .u8 0), .lit (.int .u8 0), .lit (.int .u8 0), .lit (.int .u8 0), .lit (.int .u8 0), .lit (.int .u8 0), .lit (.int .u8 0), .lit (.int .u8 0), .lit (.int .u8 0), .lit (.int .u8 0), .lit (.int .u8 0), .lit (.int .u8 0), .lit (.int .u8 0), .lit (.int .u8 0), .lit (.int .u8 0), .lit (.int .u8 0), .lit (.int .u8 0), .lit (.int .u8 0), .lit (.int .u8 0), .lit (.int .u8 0), .lit (.int .u8 0), .lit (.int .u8 0), .lit (.int .u8 0), .lit (.int .u8 0), .lit (.int .u8 0), .lit (.int .u8 0), .lit (.int .u8 0), .lit (.int .u8 0), .lit (.int .u8 0), .lit (.int .u8 0), .lit (.int .u8 0), .lit (.int .u8 0), .lit (.int .u8 0), .lit (.int .u8 0), .lit (.int .u8 0), .lit (.int .u8 0), .lit (.int .u8 0), .lit (.int .u8 0), .lit (.int .u8 0), .lit (.int .u8 0), .lit (.int .u8 0), .lit (.int .u8 0), .lit (.int .u8 0), .lit (.int .u8 0), .lit (.int .u8 0), .lit (.int .u8 0), .lit (.int .u8 0), .lit (.int .u8 0), .lit (.int .u8 0), .lit (.int .u8 0), .lit (.int .u8 0), .lit (.int .u8 0), .lit (.int .u8 0), .lit (.int .u8 0), .lit (.int .u8 0), .lit (.int .u8 0), .lit (.int .u8 0), .lit (.int .u8 0), .lit (.int .u8 0), .lit (.int .u8 0), .lit (.int .u8 0), .lit (.int .u8 0), .lit (.int .u8 0), .lit (.int .u8 0), .lit (.int .u8 0), .lit (.int .u8 0), .lit (.int .u8 0), .lit (.int .u8 0), .lit (.int .u8 0), .lit (.int .u8 0), .lit (.int .u8 0), .lit (.int .u8 0), .lit (.int .u8 0), .lit (.int .u8 0), .lit (.int .u8 0), .lit (.int .u8 0), .lit (.int .u8 0), .lit (.int .u8 0), .lit (.int .u8 0), .lit (.int .u8 0), .lit (.int .u8 0), .lit (.int .u8 0), .lit (.int .u8 0), .lit (.int .u8 0), .lit (.int .u8 0), .lit (.int .u8 0), .lit (.int .u8 0), .lit (.int .u8 0), .lit (.int .u8 0), .lit (.int .u8 0), .lit (.int .u8 0), .lit (.int .u8 0), .lit (.int .u8 0), .lit (.int .u8 0), .lit (.int .u8 0), .lit (.int .u8 0), .lit (.int .u8 0), .lit (.int .u8 0), .lit (.int .u8 0), .lit (.int .u8 0), .lit (.int .u8 0), .lit (.int .u8 0), .lit (.int .u8 0), .lit (.int .u8 0), .lit (.int .u8 0), .lit (.int .u8 0), .lit (.int .u8 0), .lit (.int .u8 0), .lit (.int .u8 0), .lit (.int .u8 0), .lit (.int .u8 0), .lit (.int .u8 0), .lit (.int .u8 0), .lit (.int .u8 0), .lit (.int .u8 0), .lit (.int .u8 0), .lit (.int .u8 0), .lit (.int .u8 0), .lit (.int .u8 0), .lit (.int .u8 0), .lit (.int .u8 0), .lit (.int .u8 0), .lit (.int .u8 0), .lit (.int .u8 0), .lit (.int .u8 0), .lit (.int .u8 0), .lit (.int .u8 0), .lit (.int .u8 0), .lit (.int .u8 0), .lit (.int .u8 0), .lit (.int .u8 0), .lit (.int .u8 0), .lit (.int .u8 0), .lit (.int .u8 0), .lit (.int .u8 0), .lit (.int .u8 0), .lit (.int .u8 0), .lit (.int .u8 0), .lit (.int .u8 0), .lit (.int .u8 0), .lit (.int .u8 0), .lit (.int .u8 0), .lit (.int .u8 0), .lit (.int .u8 0), .lit (.int .u8 0), .lit (.int .u8 0), .lit (.int .u8 0), .lit (.int .u8 0), .lit (.int .u8 0), .lit (.int .u8 0), .lit (.int .u8 0), .lit (.int .u8 0), .lit (.int .u8 0), .lit (.int .u8 0), .lit (.int .u8 0), .lit (.int .u8 0), .lit (.int .u8 0), .lit (.int .u8 0), .lit (.int .u8 0), .lit (.int .u8 0), .lit (.int .u8 0), .lit (.int .u8 0), .lit (.int .u8 0), .lit (.int .u8 0), .lit (.int .u8 0), .lit (.int .u8 0), .lit (.int .u8 0), .lit (.int .u8 0), .lit (.int .u8 0)]
def laid_math_bits_deBruijn32tab {H : Type} : DataW H := .agg [.lit (.int .u8 0), .lit (.int .u8 1), .lit (.int .u8 28), .lit (.int .u8 2), .lit (.int .u8 29), .lit (.int .u8 14), .lit (.int .u8 24), .lit (.int .u8 3), .lit (.int .u8 30), .lit (.int .u8 22), .lit (.int .u8 20), .lit (.int .u8 15), .lit (.int .u8 25), .lit (.int .u8 17), .lit (.int .u8 4), .lit (.int .u8 8), .lit (.int .u8 31), .lit (.int .u8 27), .lit (.int .u8 13), .lit (.int .u8 23), .lit (.int .u8 21), .lit (.int .u8 19), .lit (.int .u8 16), .lit (.int .u8 7), .lit (.int .u8 26), .lit (.int .u8 12), .lit (.int .u8 18), .lit (.int .u8 6), .lit (.int .u8 11), .lit (.int .u8 5), .lit (.int .u8 10), .lit (.int .u8 9)]
def laid_math_bits_deBruijn64tab {H : Type} : DataW H := .agg [.lit (.int .u8 0), .lit (.int .u8 1), .lit (.int .u8 56), .lit (.int .u8 2), .lit (.int .u8 57), .lit (.int .u8 49), .lit (.int .u8 28), .lit (.int .u8 3), .lit (.int .u8 61), .lit (.int .u8 58), .lit (.int .u8 42), .lit (.int .u8 50), .lit (.int .u8 38), .lit (.int .u8 29), .lit (.int .u8 17), .lit (.int .u8 4), .lit (.int .u8 62), .lit (.int .u8 47), .lit (.int .u8 59), .lit (.int .u8 36), .lit (.int .u8 45), .lit (.int .u8 43), .lit (.int .u8 51), .lit (.int .u8 22), .lit (.int .u8 53), .lit (.int .u8 39), .lit (.int .u8 33), .lit (.int .u8 30), .lit (.int .u8 24), .lit (.int .u8 18), .lit (.int .u8 12), .lit (.int .u8 5), .lit (.int .u8 63), .lit (.int .u8 55), .lit (.int .u8 48), .lit (.int .u8 27), .lit (.int .u8 60), .lit (.int .u8 41), .lit (.int .u8 37), .lit (.int .u8 16), .lit (.int .u8 46), .lit (.int .u8 35), .lit (.int .u8 44), .lit (.int .u8 21), .lit (.int .u8 52), .lit (.int .u8 32), .lit (.int .u8 23), .lit (.int .u8 11), .lit (.int .u8 54), .lit (.int .u8 26), .lit (.int .u8 40), .lit (.int .u8 15), .lit (.int .u8 34), .lit (.int .u8 20), .lit (.int .u8 31), .lit (.int .u8 10), .lit (.int .u8 25), .lit (.int .u8 14), .lit (.int .u8 19), .lit (.int .u8 9), .lit (.int .u8 13), .lit (.int .u8 8), .lit (.int .u8 7), .lit (.int .u8 6)]
def laid_internal_strconv_uint64pow10 {H : Type} : DataW H := .agg [.lit (.int .u64 1), .lit (.int .u64 10), .lit (.int .u64 100), .lit (.int .u64 1000), .lit (.int .u64 10000), .lit (.int .u64 100000), .lit (.int .u64 1000000), .lit (.int .u64 10000000), .lit (.int .u64 100000000), .lit (.int .u64 1000000000), .lit (.int .u64 10000000000), .lit (.int .u64 100000000000), .lit (.int .u64 1000000000000), .lit (.int .u64 10000000000000), .lit (.int .u64 100000000000000), .lit (.int .u64 1000000000000000), .lit (.int .u64 10000000000000000), .lit (.int .u64 100000000000000000), .lit (.int .u64 1000000000000000000), .lit (.int .u64 10000000000000000000)]

/-- 'flagonlaw03.OpsRows': WHATEVER THE INPUT: true; the input reads as it did. -/
def opsRowsSpec : ChangeSpec := { name := "opsRows", fn := fun _ => fun
  | [] => { results := [.lit (.bool true)], args := [] }
  | _ => none }
def opsRowsRow : OpenClaim := { program := "ytmlniifdipeboaadoor", sum := "dd48582c264fe5d68c8407591807cc54a86fdc1046b2ba6caf8834046a007268", func := "flagon/flagonlaw03.OpsRows", spec := "opsRows", unfollowed := true, recurses := true, named := ["strings.asciiSpace", "unicode.White_Space"], apart := false, laid := [("unicode.White_Space", laid_unicode_White_Space), ("strings.asciiSpace", laid_strings_asciiSpace)] }
def OpsRowsSaid : Prop := opsRowsRow.holds Tryd.pinned (OpenSpec.ofChange opsRowsSpec)

/-- ITS FALSE NEIGHBOUR: 'it returns false'. Refute it at one input. -/
def opsRowsWrong : ChangeSpec := { name := "opsRows", fn := fun _ => fun
  | [] => { results := [.lit (.bool false)], args := [] }
  | _ => none }
def OpsRowsWrongFalsely : Prop := opsRowsRow.holds Tryd.pinned (OpenSpec.ofChange opsRowsWrong)

/-- 'flagonlaw03.OpsFind': WHATEVER THE INPUT: true; the input reads as it did. -/
def opsFindSpec : ChangeSpec := { name := "opsFind", fn := fun _ => fun
  | [d1, d2] => { results := [.lit (.bool true)], args := [d1, d2] }
  | _ => none }
def opsFindRow : OpenClaim := { program := "ytmlniifdipeboaadoor", sum := "dd48582c264fe5d68c8407591807cc54a86fdc1046b2ba6caf8834046a007268", func := "flagon/flagonlaw03.OpsFind", spec := "opsFind", unfollowed := true, recurses := true, named := ["strings.asciiSpace", "unicode.White_Space"], apart := false, laid := [("unicode.White_Space", laid_unicode_White_Space), ("strings.asciiSpace", laid_strings_asciiSpace)] }
def OpsFindSaid : Prop := opsFindRow.holds Tryd.pinned (OpenSpec.ofChange opsFindSpec)

/-- ITS FALSE NEIGHBOUR: 'it returns false'. Refute it at one input. -/
def opsFindWrong : ChangeSpec := { name := "opsFind", fn := fun _ => fun
  | [d1, d2] => { results := [.lit (.bool false)], args := [d1, d2] }
  | _ => none }
def OpsFindWrongFalsely : Prop := opsFindRow.holds Tryd.pinned (OpenSpec.ofChange opsFindWrong)

/-- 'flagonlaw12.BlocksCut': WHATEVER THE INPUT: true; the input reads as it did. -/
def blocksCutSpec : ChangeSpec := { name := "blocksCut", fn := fun _ => fun
  | [d1, d2] => { results := [.lit (.bool true)], args := [d1, d2] }
  | _ => none }
def blocksCutRow : OpenClaim := { program := "ytmlniifdipeboaadoor", sum := "dd48582c264fe5d68c8407591807cc54a86fdc1046b2ba6caf8834046a007268", func := "flagon/flagonlaw12.BlocksCut", spec := "blocksCut", unfollowed := true, recurses := true, named := ["internal/strconv.uint64pow10", "math/bits.deBruijn32tab", "math/bits.deBruijn64tab"], apart := false, laid := [("math/bits.deBruijn32tab", laid_math_bits_deBruijn32tab), ("math/bits.deBruijn64tab", laid_math_bits_deBruijn64tab), ("internal/strconv.uint64pow10", laid_internal_strconv_uint64pow10)] }
def BlocksCutSaid : Prop := blocksCutRow.holds Tryd.pinned (OpenSpec.ofChange blocksCutSpec)

/-- ITS FALSE NEIGHBOUR: 'it returns false'. Refute it at one input. -/
def blocksCutWrong : ChangeSpec := { name := "blocksCut", fn := fun _ => fun
  | [d1, d2] => { results := [.lit (.bool false)], args := [d1, d2] }
  | _ => none }
def BlocksCutWrongFalsely : Prop := blocksCutRow.holds Tryd.pinned (OpenSpec.ofChange blocksCutWrong)

/-- 'flagonlaw04.InstrBack': WHATEVER THE INPUT: true; the input reads as it did. -/
def instrBackSpec : ChangeSpec := { name := "instrBack", fn := fun _ => fun
  | [d1, d2, d3, d4] => { results := [.lit (.bool true)], args := [d1, d2, d3, d4] }
  | _ => none }
def instrBackRow : OpenClaim := { program := "ytmlniifdipeboaadoor", sum := "dd48582c264fe5d68c8407591807cc54a86fdc1046b2ba6caf8834046a007268", func := "flagon/flagonlaw04.InstrBack", spec := "instrBack", unfollowed := true, recurses := true, named := ["strings.asciiSpace", "unicode.White_Space"], apart := false, laid := [("unicode.White_Space", laid_unicode_White_Space), ("strings.asciiSpace", laid_strings_asciiSpace)] }
def InstrBackSaid : Prop := instrBackRow.holds Tryd.pinned (OpenSpec.ofChange instrBackSpec)

/-- ITS FALSE NEIGHBOUR: 'it returns false'. Refute it at one input. -/
def instrBackWrong : ChangeSpec := { name := "instrBack", fn := fun _ => fun
  | [d1, d2, d3, d4] => { results := [.lit (.bool false)], args := [d1, d2, d3, d4] }
  | _ => none }
def InstrBackWrongFalsely : Prop := instrBackRow.holds Tryd.pinned (OpenSpec.ofChange instrBackWrong)

/-- 'flagonlaw04.InstrList': WHATEVER THE INPUT: true; the input reads as it did. -/
def instrListSpec : ChangeSpec := { name := "instrList", fn := fun _ => fun
  | [d] => { results := [.lit (.bool true)], args := [d] }
  | _ => none }
def instrListRow : OpenClaim := { program := "ytmlniifdipeboaadoor", sum := "dd48582c264fe5d68c8407591807cc54a86fdc1046b2ba6caf8834046a007268", func := "flagon/flagonlaw04.InstrList", spec := "instrList", unfollowed := true, recurses := true, named := ["strings.asciiSpace", "unicode.White_Space"], apart := false, laid := [("unicode.White_Space", laid_unicode_White_Space), ("strings.asciiSpace", laid_strings_asciiSpace)] }
def InstrListSaid : Prop := instrListRow.holds Tryd.pinned (OpenSpec.ofChange instrListSpec)

/-- ITS FALSE NEIGHBOUR: 'it returns false'. Refute it at one input. -/
def instrListWrong : ChangeSpec := { name := "instrList", fn := fun _ => fun
  | [d] => { results := [.lit (.bool false)], args := [d] }
  | _ => none }
def InstrListWrongFalsely : Prop := instrListRow.holds Tryd.pinned (OpenSpec.ofChange instrListWrong)

/-- 'flagonlaw07.NumsDo': WHATEVER THE INPUT: true; the input reads as it did. -/
def numsDoSpec : ChangeSpec := { name := "numsDo", fn := fun _ => fun
  | [d1, d2] => { results := [.lit (.bool true)], args := [d1, d2] }
  | _ => none }
def numsDoRow : OpenClaim := { program := "ytmlniifdipeboaadoor", sum := "dd48582c264fe5d68c8407591807cc54a86fdc1046b2ba6caf8834046a007268", func := "flagon/flagonlaw07.NumsDo", spec := "numsDo", unfollowed := true, recurses := true, named := ["strings.asciiSpace", "unicode.White_Space", "math/bits.deBruijn64tab"], apart := false, laid := [("math/bits.deBruijn64tab", laid_math_bits_deBruijn64tab), ("unicode.White_Space", laid_unicode_White_Space), ("strings.asciiSpace", laid_strings_asciiSpace)] }
def NumsDoSaid : Prop := numsDoRow.holds Tryd.pinned (OpenSpec.ofChange numsDoSpec)

/-- ITS FALSE NEIGHBOUR: 'it returns false'. Refute it at one input. -/
def numsDoWrong : ChangeSpec := { name := "numsDo", fn := fun _ => fun
  | [d1, d2] => { results := [.lit (.bool false)], args := [d1, d2] }
  | _ => none }
def NumsDoWrongFalsely : Prop := numsDoRow.holds Tryd.pinned (OpenSpec.ofChange numsDoWrong)

/-- 'flagonlaw07.NumsDivide': WHATEVER THE INPUT: true; the input reads as it did. -/
def numsDivideSpec : ChangeSpec := { name := "numsDivide", fn := fun _ => fun
  | [d1, d2, d3] => { results := [.lit (.bool true)], args := [d1, d2, d3] }
  | _ => none }
def numsDivideRow : OpenClaim := { program := "ytmlniifdipeboaadoor", sum := "dd48582c264fe5d68c8407591807cc54a86fdc1046b2ba6caf8834046a007268", func := "flagon/flagonlaw07.NumsDivide", spec := "numsDivide", unfollowed := true, recurses := true, named := ["strings.asciiSpace", "unicode.White_Space", "math/bits.deBruijn64tab"], apart := false, laid := [("math/bits.deBruijn64tab", laid_math_bits_deBruijn64tab), ("unicode.White_Space", laid_unicode_White_Space), ("strings.asciiSpace", laid_strings_asciiSpace)] }
def NumsDivideSaid : Prop := numsDivideRow.holds Tryd.pinned (OpenSpec.ofChange numsDivideSpec)

/-- ITS FALSE NEIGHBOUR: 'it returns false'. Refute it at one input. -/
def numsDivideWrong : ChangeSpec := { name := "numsDivide", fn := fun _ => fun
  | [d1, d2, d3] => { results := [.lit (.bool false)], args := [d1, d2, d3] }
  | _ => none }
def NumsDivideWrongFalsely : Prop := numsDivideRow.holds Tryd.pinned (OpenSpec.ofChange numsDivideWrong)

/-- 'flagonlaw07.NumsAgree': WHATEVER THE INPUT: true; the input reads as it did. -/
def numsAgreeSpec : ChangeSpec := { name := "numsAgree", fn := fun _ => fun
  | [d1, d2, d3] => { results := [.lit (.bool true)], args := [d1, d2, d3] }
  | _ => none }
def numsAgreeRow : OpenClaim := { program := "ytmlniifdipeboaadoor", sum := "dd48582c264fe5d68c8407591807cc54a86fdc1046b2ba6caf8834046a007268", func := "flagon/flagonlaw07.NumsAgree", spec := "numsAgree", unfollowed := true, recurses := true, named := ["strings.asciiSpace", "unicode.White_Space", "math/bits.deBruijn64tab"], apart := false, laid := [("math/bits.deBruijn64tab", laid_math_bits_deBruijn64tab), ("unicode.White_Space", laid_unicode_White_Space), ("strings.asciiSpace", laid_strings_asciiSpace)] }
def NumsAgreeSaid : Prop := numsAgreeRow.holds Tryd.pinned (OpenSpec.ofChange numsAgreeSpec)

/-- ITS FALSE NEIGHBOUR: 'it returns false'. Refute it at one input. -/
def numsAgreeWrong : ChangeSpec := { name := "numsAgree", fn := fun _ => fun
  | [d1, d2, d3] => { results := [.lit (.bool false)], args := [d1, d2, d3] }
  | _ => none }
def NumsAgreeWrongFalsely : Prop := numsAgreeRow.holds Tryd.pinned (OpenSpec.ofChange numsAgreeWrong)

/-- 'flagonlaw07.NumsTurn': WHATEVER THE INPUT: true; the input reads as it did. -/
def numsTurnSpec : ChangeSpec := { name := "numsTurn", fn := fun _ => fun
  | [d] => { results := [.lit (.bool true)], args := [d] }
  | _ => none }
def numsTurnRow : OpenClaim := { program := "ytmlniifdipeboaadoor", sum := "dd48582c264fe5d68c8407591807cc54a86fdc1046b2ba6caf8834046a007268", func := "flagon/flagonlaw07.NumsTurn", spec := "numsTurn", unfollowed := true, recurses := true, named := ["strings.asciiSpace", "unicode.White_Space", "math/bits.deBruijn64tab"], apart := false, laid := [("math/bits.deBruijn64tab", laid_math_bits_deBruijn64tab), ("unicode.White_Space", laid_unicode_White_Space), ("strings.asciiSpace", laid_strings_asciiSpace)] }
def NumsTurnSaid : Prop := numsTurnRow.holds Tryd.pinned (OpenSpec.ofChange numsTurnSpec)

/-- ITS FALSE NEIGHBOUR: 'it returns false'. Refute it at one input. -/
def numsTurnWrong : ChangeSpec := { name := "numsTurn", fn := fun _ => fun
  | [d] => { results := [.lit (.bool false)], args := [d] }
  | _ => none }
def NumsTurnWrongFalsely : Prop := numsTurnRow.holds Tryd.pinned (OpenSpec.ofChange numsTurnWrong)

/-- 'flagonlaw07.NumsNarrow': WHATEVER THE INPUT: true; the input reads as it did. -/
def numsNarrowSpec : ChangeSpec := { name := "numsNarrow", fn := fun _ => fun
  | [d1, d2] => { results := [.lit (.bool true)], args := [d1, d2] }
  | _ => none }
def numsNarrowRow : OpenClaim := { program := "ytmlniifdipeboaadoor", sum := "dd48582c264fe5d68c8407591807cc54a86fdc1046b2ba6caf8834046a007268", func := "flagon/flagonlaw07.NumsNarrow", spec := "numsNarrow", unfollowed := true, recurses := true, named := ["strings.asciiSpace", "unicode.White_Space", "math/bits.deBruijn64tab"], apart := false, laid := [("math/bits.deBruijn64tab", laid_math_bits_deBruijn64tab), ("unicode.White_Space", laid_unicode_White_Space), ("strings.asciiSpace", laid_strings_asciiSpace)] }
def NumsNarrowSaid : Prop := numsNarrowRow.holds Tryd.pinned (OpenSpec.ofChange numsNarrowSpec)

/-- ITS FALSE NEIGHBOUR: 'it returns false'. Refute it at one input. -/
def numsNarrowWrong : ChangeSpec := { name := "numsNarrow", fn := fun _ => fun
  | [d1, d2] => { results := [.lit (.bool false)], args := [d1, d2] }
  | _ => none }
def NumsNarrowWrongFalsely : Prop := numsNarrowRow.holds Tryd.pinned (OpenSpec.ofChange numsNarrowWrong)

/-- 'flagonlaw07.NumsRing': WHATEVER THE INPUT: true; the input reads as it did. -/
def numsRingSpec : ChangeSpec := { name := "numsRing", fn := fun _ => fun
  | [d1, d2, d3, d4] => { results := [.lit (.bool true)], args := [d1, d2, d3, d4] }
  | _ => none }
def numsRingRow : OpenClaim := { program := "ytmlniifdipeboaadoor", sum := "dd48582c264fe5d68c8407591807cc54a86fdc1046b2ba6caf8834046a007268", func := "flagon/flagonlaw07.NumsRing", spec := "numsRing", unfollowed := true, recurses := true, named := ["strings.asciiSpace", "unicode.White_Space", "math/bits.deBruijn64tab"], apart := false, laid := [("math/bits.deBruijn64tab", laid_math_bits_deBruijn64tab), ("unicode.White_Space", laid_unicode_White_Space), ("strings.asciiSpace", laid_strings_asciiSpace)] }
def NumsRingSaid : Prop := numsRingRow.holds Tryd.pinned (OpenSpec.ofChange numsRingSpec)

/-- ITS FALSE NEIGHBOUR: 'it returns false'. Refute it at one input. -/
def numsRingWrong : ChangeSpec := { name := "numsRing", fn := fun _ => fun
  | [d1, d2, d3, d4] => { results := [.lit (.bool false)], args := [d1, d2, d3, d4] }
  | _ => none }
def NumsRingWrongFalsely : Prop := numsRingRow.holds Tryd.pinned (OpenSpec.ofChange numsRingWrong)

/-- 'flagonlaw03.OpsWords': WHATEVER THE INPUT: true; the input reads as it did. -/
def opsWordsSpec : ChangeSpec := { name := "opsWords", fn := fun _ => fun
  | [d] => { results := [.lit (.bool true)], args := [d] }
  | _ => none }
def opsWordsRow : OpenClaim := { program := "ytmlniifdipeboaadoor", sum := "dd48582c264fe5d68c8407591807cc54a86fdc1046b2ba6caf8834046a007268", func := "flagon/flagonlaw03.OpsWords", spec := "opsWords", unfollowed := true, recurses := true, named := ["strings.asciiSpace", "unicode.White_Space", "internal/strconv.uint64pow10", "math/bits.deBruijn32tab", "math/bits.deBruijn64tab"], apart := false, laid := [("math/bits.deBruijn32tab", laid_math_bits_deBruijn32tab), ("math/bits.deBruijn64tab", laid_math_bits_deBruijn64tab), ("internal/strconv.uint64pow10", laid_internal_strconv_uint64pow10), ("unicode.White_Space", laid_unicode_White_Space), ("strings.asciiSpace", laid_strings_asciiSpace)] }
def OpsWordsSaid : Prop := opsWordsRow.holds Tryd.pinned (OpenSpec.ofChange opsWordsSpec)

/-- ITS FALSE NEIGHBOUR: 'it returns false'. Refute it at one input. -/
def opsWordsWrong : ChangeSpec := { name := "opsWords", fn := fun _ => fun
  | [d] => { results := [.lit (.bool false)], args := [d] }
  | _ => none }
def OpsWordsWrongFalsely : Prop := opsWordsRow.holds Tryd.pinned (OpenSpec.ofChange opsWordsWrong)

/-- 'flagonlaw04.InstrWrites': WHATEVER THE INPUT: true; the input reads as it did. -/
def instrWritesSpec : ChangeSpec := { name := "instrWrites", fn := fun _ => fun
  | [d] => { results := [.lit (.bool true)], args := [d] }
  | _ => none }
def instrWritesRow : OpenClaim := { program := "ytmlniifdipeboaadoor", sum := "dd48582c264fe5d68c8407591807cc54a86fdc1046b2ba6caf8834046a007268", func := "flagon/flagonlaw04.InstrWrites", spec := "instrWrites", unfollowed := true, recurses := true, named := ["strings.asciiSpace", "unicode.White_Space", "internal/strconv.uint64pow10", "math/bits.deBruijn32tab", "math/bits.deBruijn64tab"], apart := false, laid := [("math/bits.deBruijn32tab", laid_math_bits_deBruijn32tab), ("math/bits.deBruijn64tab", laid_math_bits_deBruijn64tab), ("internal/strconv.uint64pow10", laid_internal_strconv_uint64pow10), ("unicode.White_Space", laid_unicode_White_Space), ("strings.asciiSpace", laid_strings_asciiSpace)] }
def InstrWritesSaid : Prop := instrWritesRow.holds Tryd.pinned (OpenSpec.ofChange instrWritesSpec)

/-- ITS FALSE NEIGHBOUR: 'it returns false'. Refute it at one input. -/
def instrWritesWrong : ChangeSpec := { name := "instrWrites", fn := fun _ => fun
  | [d] => { results := [.lit (.bool false)], args := [d] }
  | _ => none }
def InstrWritesWrongFalsely : Prop := instrWritesRow.holds Tryd.pinned (OpenSpec.ofChange instrWritesWrong)

/-- 'flagonlaw04.InstrReads': WHATEVER THE INPUT: true; the input reads as it did. -/
def instrReadsSpec : ChangeSpec := { name := "instrReads", fn := fun _ => fun
  | [d1, d2] => { results := [.lit (.bool true)], args := [d1, d2] }
  | _ => none }
def instrReadsRow : OpenClaim := { program := "ytmlniifdipeboaadoor", sum := "dd48582c264fe5d68c8407591807cc54a86fdc1046b2ba6caf8834046a007268", func := "flagon/flagonlaw04.InstrReads", spec := "instrReads", unfollowed := true, recurses := true, named := ["strings.asciiSpace", "unicode.White_Space", "internal/strconv.uint64pow10", "math/bits.deBruijn32tab", "math/bits.deBruijn64tab"], apart := false, laid := [("math/bits.deBruijn32tab", laid_math_bits_deBruijn32tab), ("math/bits.deBruijn64tab", laid_math_bits_deBruijn64tab), ("internal/strconv.uint64pow10", laid_internal_strconv_uint64pow10), ("unicode.White_Space", laid_unicode_White_Space), ("strings.asciiSpace", laid_strings_asciiSpace)] }
def InstrReadsSaid : Prop := instrReadsRow.holds Tryd.pinned (OpenSpec.ofChange instrReadsSpec)

/-- ITS FALSE NEIGHBOUR: 'it returns false'. Refute it at one input. -/
def instrReadsWrong : ChangeSpec := { name := "instrReads", fn := fun _ => fun
  | [d1, d2] => { results := [.lit (.bool false)], args := [d1, d2] }
  | _ => none }
def InstrReadsWrongFalsely : Prop := instrReadsRow.holds Tryd.pinned (OpenSpec.ofChange instrReadsWrong)

/-- 'flagonlaw09.ControlMaps': WHATEVER THE INPUT: true; the input reads as it did. -/
def controlMapsSpec : ChangeSpec := { name := "controlMaps", fn := fun _ => fun
  | [d] => { results := [.lit (.bool true)], args := [d] }
  | _ => none }
def controlMapsRow : OpenClaim := { program := "ytmlniifdipeboaadoor", sum := "dd48582c264fe5d68c8407591807cc54a86fdc1046b2ba6caf8834046a007268", func := "flagon/flagonlaw09.ControlMaps", spec := "controlMaps", unfollowed := true, recurses := true, named := ["internal/strconv.uint64pow10", "math/bits.deBruijn32tab", "math/bits.deBruijn64tab"], apart := false, laid := [("math/bits.deBruijn32tab", laid_math_bits_deBruijn32tab), ("math/bits.deBruijn64tab", laid_math_bits_deBruijn64tab), ("internal/strconv.uint64pow10", laid_internal_strconv_uint64pow10)] }
def ControlMapsSaid : Prop := controlMapsRow.holds Tryd.pinned (OpenSpec.ofChange controlMapsSpec)

/-- ITS FALSE NEIGHBOUR: 'it returns false'. Refute it at one input. -/
def controlMapsWrong : ChangeSpec := { name := "controlMaps", fn := fun _ => fun
  | [d] => { results := [.lit (.bool false)], args := [d] }
  | _ => none }
def ControlMapsWrongFalsely : Prop := controlMapsRow.holds Tryd.pinned (OpenSpec.ofChange controlMapsWrong)

/-- 'flagonlaw09.ControlGoes': WHATEVER THE INPUT: true; the input reads as it did. -/
def controlGoesSpec : ChangeSpec := { name := "controlGoes", fn := fun _ => fun
  | [d1, d2] => { results := [.lit (.bool true)], args := [d1, d2] }
  | _ => none }
def controlGoesRow : OpenClaim := { program := "ytmlniifdipeboaadoor", sum := "dd48582c264fe5d68c8407591807cc54a86fdc1046b2ba6caf8834046a007268", func := "flagon/flagonlaw09.ControlGoes", spec := "controlGoes", unfollowed := true, recurses := true, named := ["internal/strconv.uint64pow10", "math/bits.deBruijn32tab", "math/bits.deBruijn64tab"], apart := false, laid := [("math/bits.deBruijn32tab", laid_math_bits_deBruijn32tab), ("math/bits.deBruijn64tab", laid_math_bits_deBruijn64tab), ("internal/strconv.uint64pow10", laid_internal_strconv_uint64pow10)] }
def ControlGoesSaid : Prop := controlGoesRow.holds Tryd.pinned (OpenSpec.ofChange controlGoesSpec)

/-- ITS FALSE NEIGHBOUR: 'it returns false'. Refute it at one input. -/
def controlGoesWrong : ChangeSpec := { name := "controlGoes", fn := fun _ => fun
  | [d1, d2] => { results := [.lit (.bool false)], args := [d1, d2] }
  | _ => none }
def ControlGoesWrongFalsely : Prop := controlGoesRow.holds Tryd.pinned (OpenSpec.ofChange controlGoesWrong)

/- THE SECOND FORM. 'bulk': how many values and letters a reading holds, each counted each time it is reached (what is shared counts as often as it is met; a slice's spare places count too). A statement '..UptoSaid' is the law's where the arguments, and the package variables that the reading takes, are together of bulk at most 1048576: NARROWER than '..Said'. Prove '..Said' where nothing that the law and all that it calls make is longer than what came in: it says more and counts as full. Else prove '..UptoSaid'. A law counts once. -/
mutual
def uptoBulk {H : Type} : DataW H → Nat
  | .lit (.string bytes) => bytes.length + 1
  | .lit _ => 1
  | .nil => 1
  | .ptr d => uptoBulk d + 1
  | .slice elems spare => uptoBulkAll elems + uptoBulkAll spare + 1
  | .agg parts => uptoBulkAll parts + 1
  | .iface _ d => uptoBulk d + 1
  | .map entries => uptoBulkEntries entries + 1
  | .held _ => 1
def uptoBulkAll {H : Type} : List (DataW H) → Nat
  | [] => 0
  | d :: r => uptoBulk d + uptoBulkAll r
def uptoBulkEntries {H : Type} : List (Lit × DataW H) → Nat
  | [] => 0
  | x :: r => uptoBulkEntry x + uptoBulkEntries r
def uptoBulkEntry {H : Type} : Lit × DataW H → Nat
  | (.string bytes, d) => bytes.length + uptoBulk d + 1
  | (_, d) => uptoBulk d + 1
 end
def uptoSmall : (H : Type) → List (DataW H) → Bool := fun _ ds => decide (uptoBulkAll ds ≤ 1048576)
def OpenSpec.upto (s : _root_.Go.ChangeSpec) : _root_.Go.OpenSpec := { _root_.Go.OpenSpec.ofChange s with cond := some uptoSmall }

/-- 'flagonlaw03.OpsRows', WHERE WHAT IT READS IS OF BULK AT MOST 1048576: true; the input reads as it did. -/
def opsRowsUptoRow : OpenClaim := { program := "ytmlniifdipeboaadoor", sum := "dd48582c264fe5d68c8407591807cc54a86fdc1046b2ba6caf8834046a007268", func := "flagon/flagonlaw03.OpsRows", spec := "opsRows", unfollowed := true, recurses := true, named := ["strings.asciiSpace", "unicode.White_Space"], apart := false, laid := [("unicode.White_Space", laid_unicode_White_Space), ("strings.asciiSpace", laid_strings_asciiSpace)], narrowed := true }
def OpsRowsUptoSaid : Prop := opsRowsUptoRow.holds Tryd.pinned (OpenSpec.upto opsRowsSpec)

/-- 'flagonlaw03.OpsFind', WHERE WHAT IT READS IS OF BULK AT MOST 1048576: true; the input reads as it did. -/
def opsFindUptoRow : OpenClaim := { program := "ytmlniifdipeboaadoor", sum := "dd48582c264fe5d68c8407591807cc54a86fdc1046b2ba6caf8834046a007268", func := "flagon/flagonlaw03.OpsFind", spec := "opsFind", unfollowed := true, recurses := true, named := ["strings.asciiSpace", "unicode.White_Space"], apart := false, laid := [("unicode.White_Space", laid_unicode_White_Space), ("strings.asciiSpace", laid_strings_asciiSpace)], narrowed := true }
def OpsFindUptoSaid : Prop := opsFindUptoRow.holds Tryd.pinned (OpenSpec.upto opsFindSpec)

/-- 'flagonlaw12.BlocksCut', WHERE WHAT IT READS IS OF BULK AT MOST 1048576: true; the input reads as it did. -/
def blocksCutUptoRow : OpenClaim := { program := "ytmlniifdipeboaadoor", sum := "dd48582c264fe5d68c8407591807cc54a86fdc1046b2ba6caf8834046a007268", func := "flagon/flagonlaw12.BlocksCut", spec := "blocksCut", unfollowed := true, recurses := true, named := ["internal/strconv.uint64pow10", "math/bits.deBruijn32tab", "math/bits.deBruijn64tab"], apart := false, laid := [("math/bits.deBruijn32tab", laid_math_bits_deBruijn32tab), ("math/bits.deBruijn64tab", laid_math_bits_deBruijn64tab), ("internal/strconv.uint64pow10", laid_internal_strconv_uint64pow10)], narrowed := true }
def BlocksCutUptoSaid : Prop := blocksCutUptoRow.holds Tryd.pinned (OpenSpec.upto blocksCutSpec)

/-- 'flagonlaw04.InstrBack', WHERE WHAT IT READS IS OF BULK AT MOST 1048576: true; the input reads as it did. -/
def instrBackUptoRow : OpenClaim := { program := "ytmlniifdipeboaadoor", sum := "dd48582c264fe5d68c8407591807cc54a86fdc1046b2ba6caf8834046a007268", func := "flagon/flagonlaw04.InstrBack", spec := "instrBack", unfollowed := true, recurses := true, named := ["strings.asciiSpace", "unicode.White_Space"], apart := false, laid := [("unicode.White_Space", laid_unicode_White_Space), ("strings.asciiSpace", laid_strings_asciiSpace)], narrowed := true }
def InstrBackUptoSaid : Prop := instrBackUptoRow.holds Tryd.pinned (OpenSpec.upto instrBackSpec)

/-- 'flagonlaw04.InstrList', WHERE WHAT IT READS IS OF BULK AT MOST 1048576: true; the input reads as it did. -/
def instrListUptoRow : OpenClaim := { program := "ytmlniifdipeboaadoor", sum := "dd48582c264fe5d68c8407591807cc54a86fdc1046b2ba6caf8834046a007268", func := "flagon/flagonlaw04.InstrList", spec := "instrList", unfollowed := true, recurses := true, named := ["strings.asciiSpace", "unicode.White_Space"], apart := false, laid := [("unicode.White_Space", laid_unicode_White_Space), ("strings.asciiSpace", laid_strings_asciiSpace)], narrowed := true }
def InstrListUptoSaid : Prop := instrListUptoRow.holds Tryd.pinned (OpenSpec.upto instrListSpec)

/-- 'flagonlaw07.NumsDo', WHERE WHAT IT READS IS OF BULK AT MOST 1048576: true; the input reads as it did. -/
def numsDoUptoRow : OpenClaim := { program := "ytmlniifdipeboaadoor", sum := "dd48582c264fe5d68c8407591807cc54a86fdc1046b2ba6caf8834046a007268", func := "flagon/flagonlaw07.NumsDo", spec := "numsDo", unfollowed := true, recurses := true, named := ["strings.asciiSpace", "unicode.White_Space", "math/bits.deBruijn64tab"], apart := false, laid := [("math/bits.deBruijn64tab", laid_math_bits_deBruijn64tab), ("unicode.White_Space", laid_unicode_White_Space), ("strings.asciiSpace", laid_strings_asciiSpace)], narrowed := true }
def NumsDoUptoSaid : Prop := numsDoUptoRow.holds Tryd.pinned (OpenSpec.upto numsDoSpec)

/-- 'flagonlaw07.NumsDivide', WHERE WHAT IT READS IS OF BULK AT MOST 1048576: true; the input reads as it did. -/
def numsDivideUptoRow : OpenClaim := { program := "ytmlniifdipeboaadoor", sum := "dd48582c264fe5d68c8407591807cc54a86fdc1046b2ba6caf8834046a007268", func := "flagon/flagonlaw07.NumsDivide", spec := "numsDivide", unfollowed := true, recurses := true, named := ["strings.asciiSpace", "unicode.White_Space", "math/bits.deBruijn64tab"], apart := false, laid := [("math/bits.deBruijn64tab", laid_math_bits_deBruijn64tab), ("unicode.White_Space", laid_unicode_White_Space), ("strings.asciiSpace", laid_strings_asciiSpace)], narrowed := true }
def NumsDivideUptoSaid : Prop := numsDivideUptoRow.holds Tryd.pinned (OpenSpec.upto numsDivideSpec)

/-- 'flagonlaw07.NumsAgree', WHERE WHAT IT READS IS OF BULK AT MOST 1048576: true; the input reads as it did. -/
def numsAgreeUptoRow : OpenClaim := { program := "ytmlniifdipeboaadoor", sum := "dd48582c264fe5d68c8407591807cc54a86fdc1046b2ba6caf8834046a007268", func := "flagon/flagonlaw07.NumsAgree", spec := "numsAgree", unfollowed := true, recurses := true, named := ["strings.asciiSpace", "unicode.White_Space", "math/bits.deBruijn64tab"], apart := false, laid := [("math/bits.deBruijn64tab", laid_math_bits_deBruijn64tab), ("unicode.White_Space", laid_unicode_White_Space), ("strings.asciiSpace", laid_strings_asciiSpace)], narrowed := true }
def NumsAgreeUptoSaid : Prop := numsAgreeUptoRow.holds Tryd.pinned (OpenSpec.upto numsAgreeSpec)

/-- 'flagonlaw07.NumsTurn', WHERE WHAT IT READS IS OF BULK AT MOST 1048576: true; the input reads as it did. -/
def numsTurnUptoRow : OpenClaim := { program := "ytmlniifdipeboaadoor", sum := "dd48582c264fe5d68c8407591807cc54a86fdc1046b2ba6caf8834046a007268", func := "flagon/flagonlaw07.NumsTurn", spec := "numsTurn", unfollowed := true, recurses := true, named := ["strings.asciiSpace", "unicode.White_Space", "math/bits.deBruijn64tab"], apart := false, laid := [("math/bits.deBruijn64tab", laid_math_bits_deBruijn64tab), ("unicode.White_Space", laid_unicode_White_Space), ("strings.asciiSpace", laid_strings_asciiSpace)], narrowed := true }
def NumsTurnUptoSaid : Prop := numsTurnUptoRow.holds Tryd.pinned (OpenSpec.upto numsTurnSpec)

/-- 'flagonlaw07.NumsNarrow', WHERE WHAT IT READS IS OF BULK AT MOST 1048576: true; the input reads as it did. -/
def numsNarrowUptoRow : OpenClaim := { program := "ytmlniifdipeboaadoor", sum := "dd48582c264fe5d68c8407591807cc54a86fdc1046b2ba6caf8834046a007268", func := "flagon/flagonlaw07.NumsNarrow", spec := "numsNarrow", unfollowed := true, recurses := true, named := ["strings.asciiSpace", "unicode.White_Space", "math/bits.deBruijn64tab"], apart := false, laid := [("math/bits.deBruijn64tab", laid_math_bits_deBruijn64tab), ("unicode.White_Space", laid_unicode_White_Space), ("strings.asciiSpace", laid_strings_asciiSpace)], narrowed := true }
def NumsNarrowUptoSaid : Prop := numsNarrowUptoRow.holds Tryd.pinned (OpenSpec.upto numsNarrowSpec)

/-- 'flagonlaw07.NumsRing', WHERE WHAT IT READS IS OF BULK AT MOST 1048576: true; the input reads as it did. -/
def numsRingUptoRow : OpenClaim := { program := "ytmlniifdipeboaadoor", sum := "dd48582c264fe5d68c8407591807cc54a86fdc1046b2ba6caf8834046a007268", func := "flagon/flagonlaw07.NumsRing", spec := "numsRing", unfollowed := true, recurses := true, named := ["strings.asciiSpace", "unicode.White_Space", "math/bits.deBruijn64tab"], apart := false, laid := [("math/bits.deBruijn64tab", laid_math_bits_deBruijn64tab), ("unicode.White_Space", laid_unicode_White_Space), ("strings.asciiSpace", laid_strings_asciiSpace)], narrowed := true }
def NumsRingUptoSaid : Prop := numsRingUptoRow.holds Tryd.pinned (OpenSpec.upto numsRingSpec)

/-- 'flagonlaw03.OpsWords', WHERE WHAT IT READS IS OF BULK AT MOST 1048576: true; the input reads as it did. -/
def opsWordsUptoRow : OpenClaim := { program := "ytmlniifdipeboaadoor", sum := "dd48582c264fe5d68c8407591807cc54a86fdc1046b2ba6caf8834046a007268", func := "flagon/flagonlaw03.OpsWords", spec := "opsWords", unfollowed := true, recurses := true, named := ["strings.asciiSpace", "unicode.White_Space", "internal/strconv.uint64pow10", "math/bits.deBruijn32tab", "math/bits.deBruijn64tab"], apart := false, laid := [("math/bits.deBruijn32tab", laid_math_bits_deBruijn32tab), ("math/bits.deBruijn64tab", laid_math_bits_deBruijn64tab), ("internal/strconv.uint64pow10", laid_internal_strconv_uint64pow10), ("unicode.White_Space", laid_unicode_White_Space), ("strings.asciiSpace", laid_strings_asciiSpace)], narrowed := true }
def OpsWordsUptoSaid : Prop := opsWordsUptoRow.holds Tryd.pinned (OpenSpec.upto opsWordsSpec)

/-- 'flagonlaw04.InstrWrites', WHERE WHAT IT READS IS OF BULK AT MOST 1048576: true; the input reads as it did. -/
def instrWritesUptoRow : OpenClaim := { program := "ytmlniifdipeboaadoor", sum := "dd48582c264fe5d68c8407591807cc54a86fdc1046b2ba6caf8834046a007268", func := "flagon/flagonlaw04.InstrWrites", spec := "instrWrites", unfollowed := true, recurses := true, named := ["strings.asciiSpace", "unicode.White_Space", "internal/strconv.uint64pow10", "math/bits.deBruijn32tab", "math/bits.deBruijn64tab"], apart := false, laid := [("math/bits.deBruijn32tab", laid_math_bits_deBruijn32tab), ("math/bits.deBruijn64tab", laid_math_bits_deBruijn64tab), ("internal/strconv.uint64pow10", laid_internal_strconv_uint64pow10), ("unicode.White_Space", laid_unicode_White_Space), ("strings.asciiSpace", laid_strings_asciiSpace)], narrowed := true }
def InstrWritesUptoSaid : Prop := instrWritesUptoRow.holds Tryd.pinned (OpenSpec.upto instrWritesSpec)

/-- 'flagonlaw04.InstrReads', WHERE WHAT IT READS IS OF BULK AT MOST 1048576: true; the input reads as it did. -/
def instrReadsUptoRow : OpenClaim := { program := "ytmlniifdipeboaadoor", sum := "dd48582c264fe5d68c8407591807cc54a86fdc1046b2ba6caf8834046a007268", func := "flagon/flagonlaw04.InstrReads", spec := "instrReads", unfollowed := true, recurses := true, named := ["strings.asciiSpace", "unicode.White_Space", "internal/strconv.uint64pow10", "math/bits.deBruijn32tab", "math/bits.deBruijn64tab"], apart := false, laid := [("math/bits.deBruijn32tab", laid_math_bits_deBruijn32tab), ("math/bits.deBruijn64tab", laid_math_bits_deBruijn64tab), ("internal/strconv.uint64pow10", laid_internal_strconv_uint64pow10), ("unicode.White_Space", laid_unicode_White_Space), ("strings.asciiSpace", laid_strings_asciiSpace)], narrowed := true }
def InstrReadsUptoSaid : Prop := instrReadsUptoRow.holds Tryd.pinned (OpenSpec.upto instrReadsSpec)

/-- 'flagonlaw09.ControlMaps', WHERE WHAT IT READS IS OF BULK AT MOST 1048576: true; the input reads as it did. -/
def controlMapsUptoRow : OpenClaim := { program := "ytmlniifdipeboaadoor", sum := "dd48582c264fe5d68c8407591807cc54a86fdc1046b2ba6caf8834046a007268", func := "flagon/flagonlaw09.ControlMaps", spec := "controlMaps", unfollowed := true, recurses := true, named := ["internal/strconv.uint64pow10", "math/bits.deBruijn32tab", "math/bits.deBruijn64tab"], apart := false, laid := [("math/bits.deBruijn32tab", laid_math_bits_deBruijn32tab), ("math/bits.deBruijn64tab", laid_math_bits_deBruijn64tab), ("internal/strconv.uint64pow10", laid_internal_strconv_uint64pow10)], narrowed := true }
def ControlMapsUptoSaid : Prop := controlMapsUptoRow.holds Tryd.pinned (OpenSpec.upto controlMapsSpec)

/-- 'flagonlaw09.ControlGoes', WHERE WHAT IT READS IS OF BULK AT MOST 1048576: true; the input reads as it did. -/
def controlGoesUptoRow : OpenClaim := { program := "ytmlniifdipeboaadoor", sum := "dd48582c264fe5d68c8407591807cc54a86fdc1046b2ba6caf8834046a007268", func := "flagon/flagonlaw09.ControlGoes", spec := "controlGoes", unfollowed := true, recurses := true, named := ["internal/strconv.uint64pow10", "math/bits.deBruijn32tab", "math/bits.deBruijn64tab"], apart := false, laid := [("math/bits.deBruijn32tab", laid_math_bits_deBruijn32tab), ("math/bits.deBruijn64tab", laid_math_bits_deBruijn64tab), ("internal/strconv.uint64pow10", laid_internal_strconv_uint64pow10)], narrowed := true }
def ControlGoesUptoSaid : Prop := controlGoesUptoRow.holds Tryd.pinned (OpenSpec.upto controlGoesSpec)

end Rows
end Go.Proofs.YtmlniifdipeboaaDoor
