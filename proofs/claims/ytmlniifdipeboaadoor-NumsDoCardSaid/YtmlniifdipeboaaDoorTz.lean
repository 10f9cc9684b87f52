/- math/bits.TrailingZeros64, with its table laid. -/
import Derived.Test.YtmlniifdipeboaaDoorClz
import Derived.Test.YtmlniifdipeboaaDoorOps2
import Derived.Lib.LaidTab
namespace Go.Proofs.YtmlniifdipeboaaDoor
open Go Go.RowKit

/-- The table of places of lowest bits lies. -/
def Tz (w : World) : Prop := Lib.TabIs Tryd.prog w "math/bits.deBruijn64tab" .u8 (Lib.deBruijn64tab.map fun n : Nat => (n : Int))
theorem Tz.bel {w w' : World} (h : Tz w) (hb : Below w.heap.size w w') : Tz w' := by
  unfold Tz Lib.TabIs World.var? at *
  obtain ⟨g, hg, h1⟩ := Option.bind_eq_some_iff.1 h
  refine Option.bind_eq_some_iff.2 ⟨g, hg, ?_⟩
  split at h1
  · rename_i cs T fr hr
    rw [hb.block g (row_lt hr), hr]
    exact h1
  · simp at h1
theorem Tz.cell {w : World} (h : Tz w) {k : Nat} (hk : k < 64) : w.cell? ⟨1, k, none⟩ = some (.int .u8 (Lib.deBruijn64tab.getD k 0 : Nat)) := by
  unfold Tz Lib.TabIs World.var? at h
  obtain ⟨g, hg, h1⟩ := Option.bind_eq_some_iff.1 h
  obtain rfl : g = 1 := Option.some.inj (hg.symm.trans (by kernel_rfl))
  split at h1
  · rename_i cs T fr hr
    have e : cs = _ := Option.some.inj h1
    subst e
    refine row_cell hr k ?_
    have hl : Lib.deBruijn64tab.length = 64 := by decide
    rw [List.getD_eq_getElem?_getD, List.getElem?_eq_getElem (by rw [hl]; exact hk)]
    simp [hl, hk]
  · simp at h1
/-- What the walk meets, of a number that is not 0. -/
theorem tz_facts {x : Nat} (h0 : x ≠ 0) (hx : x < 18446744073709551616) : ∃ c q m j : Nat, Lib.ctz 64 x = c ∧ c < 64 ∧ IntKind.u64.wrap (-(x : Int)) = ((18446744073709551616 - x : Nat) : Int) ∧ bits .and .u64 (x : Int) ((18446744073709551616 - x : Nat) : Int) = (q : Int) ∧
    IntKind.u64.wrap ((q : Int) * 285870213051353865) = (m : Int) ∧ (m : Int) / 288230376151711744 = (j : Int) ∧ j < 64 ∧ Lib.deBruijn64tab.getD j 0 = c := by
  obtain ⟨h1, h2⟩ := Lib.lowest_bit 64 x h0 (by simpa using hx)
  obtain ⟨h3, h4⟩ := Lib.deBruijn64_at (Lib.ctz 64 x) h2
  refine ⟨_, 2 ^ Lib.ctz 64 x, 2 ^ Lib.ctz 64 x * 285870213051353865 % 18446744073709551616, _, rfl, h2, by rw [IntKind.wrap_u64]; omega, ?_, ?_, ?_, h3, h4⟩
  · rw [bits_and_u64_nat _ _ hx (by omega), ← h1]
  · rw [IntKind.wrap_u64]; omega
  · omega
set_option maxRecDepth 100000 in
set_option maxHeartbeats 1600000 in
theorem bits_TZ64 (w : World) (x : Nat) (hx : x < 18446744073709551616) (ht : Tz w) :
    Calls Tryd.prog 147 #[.int .u64 x] w fun e w' => e = .returned (.int .i64 (Lib.ctz 64 x)) ∧ w' = w := by
  by_cases h0 : x = 0
  · subst h0
    go_enter Tryd.func147, Tryd.ntmps147
    go_wp2
    go_ret
    exact ⟨rfl, rfl⟩
  · obtain ⟨c, q, m, j, hc, hc64, e1, e2, e3, e4, h3, h4⟩ := tz_facts h0 hx
    have f0 : ((x : Int) == 0) = false := by rw [beq_eq_false_iff_ne]; omega
    have hcell := ht.cell h3
    rw [h4] at hcell
    rw [hc]
    clear h4 hc
    have e9 : wrap64 (c : Int) = (c : Int) := by unfold wrap64; omega
    generalize 18446744073709551616 - x = nx at *
    go_enter Tryd.func147, Tryd.ntmps147
    go_wp2
    go_ret
    exact ⟨rfl, rfl⟩
end Go.Proofs.YtmlniifdipeboaaDoor
