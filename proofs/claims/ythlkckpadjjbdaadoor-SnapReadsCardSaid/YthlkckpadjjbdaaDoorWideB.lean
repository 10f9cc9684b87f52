/- Lists of bytes handed in with marks behind them: flagonref00.WideBytes, SpareBytes. -/
import Derived.Test.YthlkckpadjjbdaaDoorLib2
import Derived.Test.YthlkckpadjjbdaaDoorMUvar
import Derived.OwnWalk
namespace Go.Proofs.YthlkckpadjjbdaaDoor
open Go Go.RowKit
namespace By

theorem wide_mark {k : Nat} (_hk : k ≤ 1073741888) : wrap64 (wrap64 (279 + wrap64 (7 * (k : Int))) + 3) % 256 = (((279 + 7 * k + 3) % 256 : Nat) : Int) := by
  unfold wrap64; omega
/-- What lies behind a list that is handed in. -/
def behind (l : List Int) : List Int := l ++ (List.range 64).map fun i => (((279 + 7 * (l.length + i) + 3) % 256 : Nat) : Int)
theorem behind_len (l : List Int) : (behind l).length = l.length + 64 := by simp [behind]
theorem behind_lo {l : List Int} {j : Nat} (h : j < l.length) : (behind l)[j]? = some l[j] := by
  rw [behind, List.getElem?_append_left h, List.getElem?_eq_getElem h]
theorem behind_hi {l : List Int} {j : Nat} (h : l.length ≤ j) (h2 : j < l.length + 64) : (behind l)[j]? = some (((279 + 7 * j + 3) % 256 : Nat) : Int) := by
  rw [behind, List.getElem?_append_right h, List.getElem?_map, List.getElem?_range (by omega)]
  simp; omega
/-- The block g holds the list l and the marks behind it. -/
def WideL (w : World) (g : Nat) (l : List Int) : Prop := ∃ c : Array Value, w.heap[g]? = some (.cells c 5 (0, 0)) ∧ ∀ (j : Nat) (x : Int), (behind l)[j]? = some x → c[j]? = some (Value.int .u8 x)
theorem WideL.keeps {S : Nat → Prop} {w w' : World} {g : Nat} {l : List Int} (h : WideL w g l) (hk : Keeps S w w') (hg : S g) : WideL w' g l := by
  obtain ⟨c, h1, h2⟩ := h
  exact ⟨c, (hk.block g (row_lt h1) hg).trans h1, h2⟩
theorem WideL.cell {w : World} {g j : Nat} {l : List Int} {x : Int} (h : WideL w g l) (hx : (behind l)[j]? = some x) : w.cell? ⟨g, j, none⟩ = some (.int .u8 x) := by
  obtain ⟨c, h1, h2⟩ := h
  exact row_cell h1 j (h2 j x hx)
theorem WideL.lt {w : World} {g : Nat} {l : List Int} (h : WideL w g l) : g < w.heap.size := by obtain ⟨c, h1, _⟩ := h; exact row_lt h1
theorem WideL.rd {w : World} {g : Nat} {l : List Int} (h : WideL w g l) (hl : l.length ≤ 140737488355328) : RdI .u8 (· = g) w (.slice (some ⟨g, 0, none⟩) l.length (l.length + 64)) l :=
  ⟨_, _, rfl, by omega, hl, fun j hj => ⟨g, 0, rfl, rfl, by rw [Nat.zero_add]; exact h.cell (behind_lo hj)⟩⟩

set_option maxRecDepth 100000 in
set_option maxHeartbeats 1600000 in
theorem wideBytes (w : World) (S) (v : Value) (l : List Int) (hr : RdI .u8 S w v l) (hl : l.length ≤ 1073741824) :
    Calls Tryd.prog 15 #[v] w fun e w' => e = .returned (.slice (some ⟨w.heap.size, 0, none⟩) l.length (l.length + 64)) ∧ WideL w' w.heap.size l ∧ Below w.heap.size w w' := by
  obtain ⟨i0, hi, hz0, hz1, hz2⟩ := info_parts Tryd.infoU8
  have HL := Lib.hid hr
  obtain ⟨va, vc, rfl, hlc⟩ := hr.lenc
  clear hr
  have e1 : wrap64 ((l.length : Int) + 64) = ((l.length + 64 : Nat) : Int) := by unfold wrap64; omega
  have e2 : (l.length : Int) + 64 = ((l.length + 64 : Nat) : Int) := by omega
  obtain ⟨N, hN⟩ : ∃ N, N = l.length + 64 := ⟨_, rfl⟩
  rw [← hN] at e1 e2 ⊢
  have HN := Lib.hid hN; clear hN
  go_enter Tryd.func15, Tryd.ntmps15
  go_wp2_with (at_make; refine wpList_make_full _ rfl _ _ 31 rfl w.heap.size 5 i0 (.int .u8 0) 1 Tryd.underlying31 hi hz0 hz1 _ _ _ _ N rfl rfl rfl rfl ?b1 ?b2 (Nat.le_refl _) ?_)
  case b1 => rw [hz2, HN.out]; omega
  case b2 => rw [HN.out]; unfold maxLen; omega
  intro w1 hown hgrow
  have hb1 : Below w.heap.size w w1 := (Below.refl _ _).grown hgrow (Nat.le_refl _) (fun k hk => by cases hk)
  have hrow : ∃ c : Array Value, w1.heap[w.heap.size]? = some (.cells c 5 (0, 0)) ∧ c.size = N := by
    rcases hown.2 with ⟨h, _⟩ | ⟨g, cap, cur, e, _, hg, _, _, hs, _⟩
    · simp at h
    · simp only [Value.slice.injEq, Option.some.injEq, Addr.mk.injEq, and_true, true_and] at e
      obtain ⟨rfl, rfl⟩ := e
      exact ⟨cur, hg, by simpa using hs⟩
  have HB1 := Lib.hid hb1; have HW1 := Lib.hid hrow
  have HL0 := Lib.hid HL.out.any
  clear hown hgrow hb1 hrow HL
  go_wp2
  go_loopw [4] (fun i wr => ∃ k : Nat, k ≤ N ∧ i = .int .i64 k ∧ Hid (∃ c : Array Value, wr.heap[w.heap.size]? = some (.cells c 5 (0, 0)) ∧ c.size = N ∧ ∀ (j : Nat) (x : Int), j < k → (behind l)[j]? = some x → c[j]? = some (Value.int .u8 x)) ∧ Hid (Below w.heap.size w wr)) (fun i _ => N - (intOf i).toNat)
  case atStart => exact ⟨0, by omega, rfl, Lib.hid (by obtain ⟨c, h1, h2⟩ := HW1.out; exact ⟨c, h1, h2, fun j x h => absurd h (by omega)⟩), HB1⟩
  case round =>
    obtain ⟨k, hk, rfl, HC, HB⟩ := hrel
    obtain ⟨c, hc, hcs, hcf⟩ := HC.out
    by_cases hlt : k < N
    · obtain ⟨u, hu⟩ : ∃ u, c[k]? = some u := ⟨c[k]'(by omega), Array.getElem?_eq_getElem (by omega)⟩
      have hcell := row_cell hc k hu
      have hfree := row_free hc k
      have HNx : Hid (∀ x : Int, (behind l)[k]? = some x → (∃ c : Array Value, (wr.setCell ⟨w.heap.size, k, none⟩ (.int .u8 x)).heap[w.heap.size]? = some (.cells c 5 (0, 0)) ∧ c.size = N ∧ ∀ (j : Nat) (x : Int), j < k + 1 → (behind l)[j]? = some x → c[j]? = some (Value.int .u8 x)) ∧ Below w.heap.size w (wr.setCell ⟨w.heap.size, k, none⟩ (.int .u8 x))) := by
        intro x hx
        refine ⟨⟨_, row_setCell hc k _, by simpa using hcs, fun j y hj hy => ?_⟩, HB.out.setCell (p := ⟨w.heap.size, k, none⟩) (Nat.le_refl _) _⟩
        by_cases hjk : j = k
        · subst hjk
          obtain rfl : x = y := Option.some.inj (hx.symm.trans hy)
          rw [Array.getElem?_setIfInBounds_self_of_lt (by omega)]
        · rw [Array.getElem?_setIfInBounds_ne (Ne.symm hjk)]
          exact hcf j y (by omega) hy
      clear hc hcs hcf HC hu
      by_cases h1 : k < l.length
      · have HX := Lib.hid (HNx.out _ (behind_lo h1)); clear HNx
        obtain ⟨va', vc', e, _, _, hce⟩ := HL0.out.keeps (Keeps.of_below HB.out)
        simp only [Value.slice.injEq] at e
        obtain ⟨rfl, _, rfl⟩ := e
        obtain ⟨bb, off, rfl, _, hcl⟩ := hce k h1
        clear hce
        generalize l[k] = x at *
        go_wp2
        go_roundw
        case rel => exact ⟨k + 1, by omega, by go_num, Lib.hid HX.out.1, Lib.hid HX.out.2⟩
        case measure => simp [intOf]; omega
      · have HX := Lib.hid (HNx.out _ (behind_hi (by omega) (by have := HN.out; omega))); clear HNx
        have hkk : k ≤ 1073741888 := by have := HN.out; omega
        have hm := wide_mark hkk
        have hm2 : ((279 : Int) + 7 * k + 3) % 256 = (((279 + 7 * k + 3) % 256 : Nat) : Int) := by omega
        generalize (279 + 7 * k + 3) % 256 = x at *
        go_wp2
        go_roundw
        case rel => exact ⟨k + 1, by omega, by go_num, Lib.hid HX.out.1, Lib.hid HX.out.2⟩
        case measure => simp [intOf]; omega
    · obtain rfl : k = N := by omega
      have hle : l.length ≤ k := by have := HN.out; omega
      go_wp2
      go_ret
      exact ⟨rfl, ⟨c, hc, fun j x hx => hcf j x (by have := (List.getElem?_eq_some_iff.1 hx).1; rw [behind_len] at this; have := HN.out; omega) hx⟩, HB.out⟩

set_option maxRecDepth 100000 in
set_option maxHeartbeats 1600000 in
theorem spareBytes (w : World) (g : Nat) (l : List Int) (h : WideL w g l) (hl : l.length ≤ 1073741824) :
    Calls Tryd.prog 19 #[.slice (some ⟨g, 0, none⟩) l.length (l.length + 64)] w fun e w' => e = .returned (.bool true) ∧ w' = w := by
  have H := Lib.hid h; clear h
  have e1 : wrap64 ((l.length : Int) + 64) = ((l.length + 64 : Nat) : Int) := by unfold wrap64; omega
  have e2 : (l.length : Int) + 64 = ((l.length + 64 : Nat) : Int) := by omega
  obtain ⟨N, hN⟩ : ∃ N, N = l.length + 64 := ⟨_, rfl⟩
  rw [← hN] at e1 e2 ⊢
  have hle : l.length ≤ N := by omega
  have HN := Lib.hid hN; clear hN
  go_enter Tryd.func19, Tryd.ntmps19
  go_wp2
  go_loopw [4] (fun i wr => ∃ k : Nat, l.length ≤ k ∧ k ≤ N ∧ i = .int .i64 k ∧ wr = w) (fun i _ => N - (intOf i).toNat)
  case atStart => exact ⟨l.length, by omega, hle, rfl, rfl⟩
  case round =>
    obtain ⟨k, hk1, hk, rfl, rfl⟩ := hrel
    by_cases hlt : k < N
    · have hcell := H.out.cell (behind_hi hk1 (by have := HN.out; omega))
      have hkk : k ≤ 1073741888 := by have := HN.out; omega
      have hm := wide_mark hkk
      have hm2 : ((279 : Int) + 7 * k + 3) % 256 = (((279 + 7 * k + 3) % 256 : Nat) : Int) := by omega
      generalize (279 + 7 * k + 3) % 256 = x at *
      go_wp2
      go_roundw
      case rel => exact ⟨k + 1, by omega, by omega, by go_num, by trivial⟩
      case measure => simp [intOf]; omega
    · obtain rfl : k = N := by omega
      go_wp2
      go_ret
      exact ⟨rfl, rfl⟩
end By
end Go.Proofs.YthlkckpadjjbdaaDoor
