/- slices.Sort, Compact, Clip at a list of ints of the call's own. -/
import Derived.Test.YtiaoonlhgjfdjaaOwn2
import Derived.Test.YtiaoonlhgjfdjaaShelf
import Derived.Lib.OwnBridge
import Derived.Sort.OwnSortedInts
import Derived.Lib.SlicesCompact
namespace Go.Proofs.Ytiaoonlhgjfdjaa
open Go Go.RowKit

theorem own_zero {B T : Nat} {w : World} {v : Value} {l : List Int} (h : OwnI B T w v l) (h0 : l = []) : ∃ a c, v = .slice a 0 c := by
  subst h0
  rcases h.2 with ⟨rfl, _⟩ | ⟨g, cap, cur, rfl, _⟩
  · exact ⟨_, _, rfl⟩
  · exact ⟨_, _, rfl⟩
theorem own_row {B T : Nat} {w : World} {v : Value} {l : List Int} (h : OwnI B T w v l) (h0 : l ≠ []) : ∃ g cap cur, v = .slice (some ⟨g, 0, none⟩) l.length cap ∧ B ≤ g ∧ w.heap[g]? = some (.cells cur T (0, 0)) ∧ l.length ≤ cap ∧ cap ≤ maxLen ∧ cur.size = cap * 1 ∧ cur.toList.take (l.length * 1) = ints l := by
  rcases h.2 with ⟨_, h1⟩ | ⟨g, cap, cur, rfl, h1, h2, h3, h4, h5, h6⟩
  · exact absurd (List.eq_nil_of_length_eq_zero h1) h0
  · exact ⟨g, cap, cur, rfl, h1, h2, h3, h4, h5, h6⟩
theorem sort_own (w : World) (B : Nat) (v : Value) (l : List Int) (h : OwnI B 3 w v l) (hl : l.length ≤ 1099511627776) :
    Calls Try.prog 24 #[v] w fun e w' => e = .returned (.tuple #[]) ∧ OwnI B 3 w' v (l.mergeSort fun x y => decide (x ≤ y)) ∧ w.grownBy w' v.ownBlock := by
  by_cases h0 : l = []
  · obtain ⟨a, c, rfl⟩ := own_zero h h0
    subst h0
    refine (Try.slices_Sort_int_none a c w).mono ?_
    rintro e w' ⟨rfl, rfl⟩
    exact ⟨rfl, by simpa using h, ⟨rfl, rfl, rfl, Nat.le_refl _, fun _ _ _ => rfl⟩⟩
  · obtain ⟨g, cap, cur, rfl, h1, h2, h3, h4, h5, h6⟩ := own_row h h0
    refine (Try.slices_Sort_int g 0 cap l w (holds_of_blockI h2 (by simpa using h6)) (row_lt h2) (by omega)).mono ?_
    rintro e w' ⟨rfl, n, os, rfl⟩
    refine ⟨rfl, ?_, Go.grownBy_sortedI _⟩
    have := ownsRow_sortedI (base := B) (e := 3) (os := os) (n := n) (cap := cap) (cur := cur) (ss := l) (ts := l.mergeSort fun x y => decide (x ≤ y)) (by simp) h1 h2 h3 h4 h5
    unfold OwnI
    rw [List.length_mergeSort]
    exact this
theorem compactUp_len (d : Array Int) : ∀ m, (Lib.compactUpTo d m).length ≤ m
  | 0 => by simp [Lib.compactUpTo]
  | m + 1 => by
    rw [Lib.compactUpTo_succ, List.length_append]
    have := compactUp_len d m
    split <;> simp <;> omega
theorem compact_len (l : List Int) : (Lib.compact l).length ≤ l.length := compactUp_len _ _
theorem compact_nil : Lib.compact ([] : List Int) = [] := List.eq_nil_of_length_eq_zero (by have := compact_len []; simpa using this)
theorem compact_own (w : World) (B : Nat) (v : Value) (l : List Int) (h : OwnI B 3 w v l) (hl : l.length ≤ 1099511627776) :
    Calls Try.prog 26 #[v] w fun e w' => ∃ v', e = .returned v' ∧ OwnI B 3 w' v' (Lib.compact l) ∧ w.grownBy w' v.ownBlock ∧ v'.ownBlock = v.ownBlock := by
  by_cases h0 : l = []
  · obtain ⟨a, c, rfl⟩ := own_zero h h0
    subst h0
    refine (Try.slices_Compact_int_empty a c w).mono ?_
    rintro e w' ⟨rfl, rfl⟩
    exact ⟨_, rfl, by rw [compact_nil]; exact h, ⟨rfl, rfl, rfl, Nat.le_refl _, fun _ _ _ => rfl⟩, rfl⟩
  · obtain ⟨g, cap, cur, rfl, h1, h2, h3, h4, h5, h6⟩ := own_row h h0
    refine (Try.slices_Compact_int g 0 cap l w (holds_of_blockI h2 (by simpa using h6)) (by omega) h3).mono ?_
    rintro e w' ⟨rfl, q, rfl⟩
    have hc := compact_len l
    refine ⟨_, rfl, ?_, ?_, rfl⟩
    · have := Lib.ownsRow_putRow (q := q) (k := (Lib.compact l).length) (ys := Lib.compact l ++ List.replicate (l.length - (Lib.compact l).length) 0) h (by simp; omega) hc
      rw [List.take_left' rfl] at this
      exact this
    · have := Go.grownBy_sortedI (w := w) (g := g) (n := q) (os := #[]) (Lib.compact l ++ List.replicate (l.length - (Lib.compact l).length) 0).toArray
      rw [Sort.grow_empty] at this
      exact this
set_option maxRecDepth 100000 in
theorem clip_two (w : World) (B : Nat) (v : Value) (l : List Int) (h : OwnI B 3 w v l) (hl : l.length ≤ 1099511627776) :
    Calls Try.prog 25 #[v] w fun e w' => ∃ v', e = .returned v' ∧ w' = w ∧ Own2 w B 3 1 v' l.length (ints l) ∧ v'.ownBlock = v.ownBlock := by
  rcases h.2 with ⟨rfl, h0⟩ | ⟨g, cap, cur, rfl, _, _, hn, hm, _⟩
  · have HO := Lib.hid h
    obtain rfl : l = [] := List.eq_nil_of_length_eq_zero h0
    clear h h0
    go_enter Try.func25, Try.ntmps25
    go_wp2
    go_ret
    exact ⟨_, rfl, rfl, .inl HO.out, rfl⟩
  · have HC := Lib.hid (clip_own h)
    clear h
    go_enter Try.func25, Try.ntmps25
    go_wp2
    go_ret
    exact ⟨_, rfl, rfl, HC.out, rfl⟩
end Go.Proofs.Ytiaoonlhgjfdjaa
