/- flagonref07.number, at every place. -/
import Derived.Test.YtmlniifdipeboaaDoorRef7f13
import Derived.Test.YtmlniifdipeboaaDoorRef7f14
import Derived.Test.YtmlniifdipeboaaDoorRef7f15
import Derived.Test.YtmlniifdipeboaaDoorRef7f16
import Derived.Test.YtmlniifdipeboaaDoorNumsF
namespace Go.Proofs.YtmlniifdipeboaaDoor
open Go Go.RowKit

/-- The word of a place, behind the point. -/
def numW (k : Nat) : List UInt8 := [[101, 113, 122], [101, 113], [110, 101], [108, 116, 115], [108, 116, 117], [108, 101, 115], [108, 101, 117], [99, 108, 122], [99, 116, 122], [112, 111, 112], [97, 100, 100], [115, 117, 98], [109, 117, 108], [100, 105, 118, 115], [100, 105, 118, 117], [114, 101, 109, 115], [114, 101, 109, 117], [97, 110, 100], [111, 114], [120, 111, 114], [115, 104, 108], [115, 104, 114, 115], [115, 104, 114, 117], [114, 111, 116, 108], [114, 111, 116, 114]].getD k []
theorem same_drawn {P : Ending → Prop} {f : FuncId} {args : Array Value} {w : World} (h : Calls Tryd.prog f args w fun e w' => P e ∧ w' = w) : Calls Tryd.prog f args w fun e w' => P e ∧ ∃ m, w' = w.drewN m :=
  h.mono fun e w' ⟨h1, h2⟩ => ⟨h1, 0, by rw [h2]; rfl⟩
theorem ref_number (w : World) (k a b n : Nat) (hk : k < 25) (hn : 2 ≤ n ∧ n ≤ 64) (ha : a < 2 ^ n) (hb : b < 2 ^ n) :
    Calls Tryd.prog 121 #[.string ⟨(numW k).toArray⟩, .int .u64 a, .int .u64 b, .int .i64 n] w fun e w' => e = .returned (.tuple #[.int .u64 ((numF n k a b).1 : Nat), .int .i8 (numF n k a b).2]) ∧ ∃ m, w' = w.drewN m := by
  have hd : k = 0 ∨ k = 1 ∨ k = 2 ∨ k = 3 ∨ k = 4 ∨ k = 5 ∨ k = 6 ∨ k = 7 ∨ k = 8 ∨ k = 9 ∨ k = 10 ∨ k = 11 ∨ k = 12 ∨ k = 13 ∨ k = 14 ∨ k = 15 ∨ k = 16 ∨ k = 17 ∨ k = 18 ∨ k = 19 ∨ k = 20 ∨ k = 21 ∨ k = 22 ∨ k = 23 ∨ k = 24 := by omega
  rcases hd with rfl | rfl | rfl | rfl | rfl | rfl | rfl | rfl | rfl | rfl | rfl | rfl | rfl | rfl | rfl | rfl | rfl | rfl | rfl | rfl | rfl | rfl | rfl | rfl | rfl
  · exact same_drawn (refn_0 w a b n hn ha hb)
  · exact same_drawn (refn_1 w a b n hn ha hb)
  · exact same_drawn (refn_2 w a b n hn ha hb)
  · exact same_drawn (refn_3 w a b n hn ha hb)
  · exact same_drawn (refn_4 w a b n hn ha hb)
  · exact same_drawn (refn_5 w a b n hn ha hb)
  · exact same_drawn (refn_6 w a b n hn ha hb)
  · exact same_drawn (refn_7 w a b n hn ha hb)
  · exact same_drawn (refn_8 w a b n hn ha hb)
  · exact same_drawn (refn_9 w a b n hn ha hb)
  · exact same_drawn (refn_10 w a b n hn ha hb)
  · exact same_drawn (refn_11 w a b n hn ha hb)
  · exact same_drawn (refn_12 w a b n hn ha hb)
  · by_cases h0 : b = 0
    · exact refn_13_z w a b n hn ha hb h0
    by_cases hl : a = 2 ^ (n - 1)
    · by_cases hm : b = 2 ^ n - 1
      · exact refn_13_c3 w a b n hn ha hb h0 hl hm
      · exact refn_13_c2 w a b n hn ha hb h0 hl hm
    · exact refn_13_c1 w a b n hn ha hb h0 hl
  · by_cases h0 : b = 0
    · exact refn_14_z w a b n hn ha hb h0
    by_cases hl : a = 2 ^ (n - 1)
    · by_cases hm : b = 2 ^ n - 1
      · exact refn_14_c3 w a b n hn ha hb h0 hl hm
      · exact refn_14_c2 w a b n hn ha hb h0 hl hm
    · exact refn_14_c1 w a b n hn ha hb h0 hl
  · by_cases h0 : b = 0
    · exact refn_15_z w a b n hn ha hb h0
    by_cases hl : a = 2 ^ (n - 1)
    · by_cases hm : b = 2 ^ n - 1
      · exact refn_15_c3 w a b n hn ha hb h0 hl hm
      · exact refn_15_c2 w a b n hn ha hb h0 hl hm
    · exact refn_15_c1 w a b n hn ha hb h0 hl
  · by_cases h0 : b = 0
    · exact refn_16_z w a b n hn ha hb h0
    by_cases hl : a = 2 ^ (n - 1)
    · by_cases hm : b = 2 ^ n - 1
      · exact refn_16_c3 w a b n hn ha hb h0 hl hm
      · exact refn_16_c2 w a b n hn ha hb h0 hl hm
    · exact refn_16_c1 w a b n hn ha hb h0 hl
  · exact same_drawn (refn_17 w a b n hn ha hb)
  · exact same_drawn (refn_18 w a b n hn ha hb)
  · exact same_drawn (refn_19 w a b n hn ha hb)
  · exact same_drawn (refn_20 w a b n hn ha hb)
  · exact same_drawn (refn_21 w a b n hn ha hb)
  · exact same_drawn (refn_22 w a b n hn ha hb)
  · exact same_drawn (refn_23 w a b n hn ha hb)
  · exact same_drawn (refn_24 w a b n hn ha hb)
end Go.Proofs.YtmlniifdipeboaaDoor
