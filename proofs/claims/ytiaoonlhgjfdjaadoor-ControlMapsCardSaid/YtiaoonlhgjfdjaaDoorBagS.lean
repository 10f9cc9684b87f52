/- A bag of ints, with what its lists hold. -/
import Derived.Test.YtiaoonlhgjfdjaaDoorBagC
namespace Go.Proofs.YtiaoonlhgjfdjaaDoor
open Go Go.RowKit

theorem last_of {vs : List Value} {v : Value} {k : Nat} {u : Value} (hk : (vs ++ [v])[k]? = some u) : (k < vs.length ∧ vs[k]? = some u) ∨ (k = vs.length ∧ u = v) := by
  by_cases hk' : k < vs.length
  · rw [List.getElem?_append_left hk'] at hk; exact .inl ⟨hk', hk⟩
  · rw [List.getElem?_append_right (by omega)] at hk
    have : k - vs.length = 0 := by have := (List.getElem?_eq_some_iff.1 hk).1; simp at this; omega
    rw [this] at hk
    exact .inr ⟨by omega, (Option.some.inj hk).symm⟩
/-- A bag gb with the lists vs, which hold ls. -/
structure Bs (B0 gb : Nat) (wr : World) (hv : Value) (vs : List Value) (ls : List (List Int)) : Prop where
  bg : C.Bg gb wr gb hv vs
  len : ls.length = vs.length
  own : ∀ (k : Nat) v l, vs[k]? = some v → ls[k]? = some l → Own2 wr B0 3 1 v l.length (ints l) ∧ l.length ≤ 1073741824
  far : ∀ (k : Nat) v g, vs[k]? = some v → v.ownBlock = some g → g ≠ gb ∧ hv.ownBlock ≠ some g
  ne : ∀ (k j : Nat) v u g, vs[k]? = some v → vs[j]? = some u → v.ownBlock = some g → u.ownBlock = some g → j = k
section
variable {B0 gb : Nat} {w wr wy : World} {hv hv' v : Value} {vs : List Value} {ls : List (List Int)} {l : List Int}
theorem Bs.on (h : Bs B0 gb wr hv vs ls) (hb : Below wr.heap.size wr wy) : Bs B0 gb wy hv vs ls :=
  ⟨h.bg.on hb, h.len, fun k v l a c => ⟨(h.own k v l a c).1.below hb, (h.own k v l a c).2⟩, h.far, h.ne⟩
theorem Bs.start (h : wr.heap[gb]? = some (.cells (C.bagCells (.slice none 0 0)) 56 (0, 0))) : Bs B0 gb wr (.slice none 0 0) [] [] :=
  ⟨⟨h, World.ownsRow_nil _ _ _ _, by simp [Value.ownBlock], Nat.le_refl _⟩, rfl, fun k v l h => by simp at h, fun k v g h => by simp at h, fun k j v u g h => by simp at h⟩
theorem Bs.up (h : Bs B0 gb wr hv vs ls) {k : Nat} {u : Value} {g : Nat} (hk : vs[k]? = some u) (hg : u.ownBlock = some g) : B0 ≤ g ∧ g < wr.heap.size := by
  obtain ⟨m, hm⟩ : ∃ m, ls[k]? = some m := by
    have := (List.getElem?_eq_some_iff.1 hk).1
    exact ⟨ls[k]'(by rw [h.len]; exact this), List.getElem?_eq_getElem _⟩
  exact (h.own k u m hk hm).1.lt g hg
theorem Bs.lt (h : Bs B0 gb wr hv vs ls) : gb < wr.heap.size := row_lt h.bg.row
theorem Bs.hvlt (h : Bs B0 gb wr hv vs ls) {g : Nat} (hg : hv.ownBlock = some g) : gb ≤ g ∧ g < wr.heap.size := h.bg.own.lt g hg
theorem Bs.add (h : Bs B0 gb wr hv vs ls) (ho : Own2 wr B0 3 1 v l.length (ints l)) (hl : l.length ≤ 1073741824) (hnew : ∀ g, v.ownBlock = some g → g ≠ gb ∧ hv.ownBlock ≠ some g ∧ ∀ (k : Nat) u, vs[k]? = some u → u.ownBlock ≠ some g)
    (h1 : C.Bg gb wy gb hv' (vs ++ [v])) (h3 : Keeps (fun b => b ≠ gb ∧ hv.ownBlock ≠ some b) wr wy) (h4 : ∀ g, hv'.ownBlock = some g → hv.ownBlock = some g ∨ wr.heap.size ≤ g) : Bs B0 gb wy hv' (vs ++ [v]) (ls ++ [l]) := by
  refine ⟨h1, by simp [h.len], fun k u l' hk hl' => ?_, fun k u g hk hg => ?_, fun k j u u' g hk hj hg hg' => ?_⟩
  · rcases last_of hk with ⟨hlt, hk'⟩ | ⟨rfl, rfl⟩
    · rw [List.getElem?_append_left (by rw [h.len]; exact hlt)] at hl'
      have hx := h.own k u l' hk' hl'
      exact ⟨hx.1.keeps h3 fun g hg => h.far k u g hk' hg, hx.2⟩
    · rw [List.getElem?_append_right (by rw [h.len]; exact Nat.le_refl _), h.len, Nat.sub_self] at hl'
      obtain rfl := Option.some.inj hl'
      exact ⟨ho.keeps h3 fun g hg => ⟨(hnew g hg).1, (hnew g hg).2.1⟩, hl⟩
  · rcases last_of hk with ⟨_, hk'⟩ | ⟨_, rfl⟩
    · refine ⟨(h.far k u g hk' hg).1, fun e => ?_⟩
      rcases h4 g e with h5 | h5
      · exact (h.far k u g hk' hg).2 h5
      · have := (h.up hk' hg).2; omega
    · refine ⟨(hnew g hg).1, fun e => ?_⟩
      rcases h4 g e with h5 | h5
      · exact (hnew g hg).2.1 h5
      · have := (ho.lt g hg).2; omega
  · rcases last_of hk with ⟨_, hk'⟩ | ⟨hk0, rfl⟩
    · rcases last_of hj with ⟨_, hj'⟩ | ⟨_, rfl⟩
      · exact h.ne k j u u' g hk' hj' hg hg'
      · exact absurd hg ((hnew g hg').2.2 k u hk')
    · rcases last_of hj with ⟨_, hj'⟩ | ⟨hj0, _⟩
      · exact absurd hg' ((hnew g hg).2.2 j u' hj')
      · omega
end
theorem Bs.call {B0 gb : Nat} {w : World} {hv v : Value} {vs : List Value} {ls : List (List Int)} {l : List Int} (h : Bs B0 gb w hv vs ls) (hn : vs.length < 300) (ho : Own2 w B0 3 1 v l.length (ints l)) (hl : l.length ≤ 1073741824)
    (hnew : ∀ g, v.ownBlock = some g → g ≠ gb ∧ hv.ownBlock ≠ some g ∧ ∀ (k : Nat) u, vs[k]? = some u → u.ownBlock ≠ some g) :
    Calls Tryd.prog 27 #[.pointer (some ⟨gb, 0, none⟩), v] w fun e w' => e = .returned (.tuple #[]) ∧ ∃ hv', Bs B0 gb w' hv' (vs ++ [v]) (ls ++ [l]) ∧ Below gb w w' ∧ Keeps (fun b => b ≠ gb ∧ hv.ownBlock ≠ some b) w w' ∧ (∀ g, hv'.ownBlock = some g → hv.ownBlock = some g ∨ w.heap.size ≤ g) := by
  obtain ⟨a, c, rfl, _⟩ := ho.slice
  refine (C.add_ints w gb gb hv _ vs h.bg hn ⟨_, _, _, rfl⟩).mono ?_
  rintro e w' ⟨rfl, hv', h1, h2, h3, h4⟩
  exact ⟨rfl, hv', h.add ho hl hnew h1 h3 h4, h2, h3, h4⟩
theorem Bs.apart {B0 gb : Nat} {w : World} {hv : Value} {vs : List Value} {ls : List (List Int)} (h : Bs B0 gb w hv vs ls) (hn : vs.length ≤ 300) (hB : B0 ≤ gb) :
    Calls Tryd.prog 19 #[.pointer (some ⟨gb, 0, none⟩)] w fun e w' => e = .returned (.bool true) ∧ Keeps (fun b => ∀ (k : Nat) v, vs[k]? = some v → v.ownBlock ≠ some b) w w' :=
  C.bag_apart w B0 gb gb hv vs ls h.bg hn h.len hB h.own h.far h.ne
set_option maxRecDepth 100000 in
/-- A bag that is full takes nothing more. -/
theorem Bs.full {B0 gb : Nat} {w : World} {hv v : Value} {vs : List Value} {ls : List (List Int)} (h : Bs B0 gb w hv vs ls) (hn : 300 ≤ vs.length) :
    Calls Tryd.prog 27 #[.pointer (some ⟨gb, 0, none⟩), v] w fun e w' => e = .returned (.tuple #[]) ∧ w' = w := by
  obtain ⟨a, c, rfl, _⟩ := own_slice h.bg.own
  have hd : w.cell? ⟨gb, 1, none⟩ = some (.slice a vs.length c) := row_cell h.bg.row 1 rfl
  clear h
  go_enter Tryd.func27, Tryd.ntmps27
  go_wp2
  exact bodyPost_end (results_none rfl _ _ _) rfl ⟨rfl, rfl⟩
end Go.Proofs.YtiaoonlhgjfdjaaDoor
