/- A bag with lists of ints and of bools: AddBools, AddInts, AddBlocks; Apart. -/
import Derived.Test.YtiaoonlhgjfdjaaDoorBagC
import Derived.Test.YtiaoonlhgjfdjaaDoorApartBools
import Derived.Test.YtiaoonlhgjfdjaaDoorBlkOf
import Derived.Test.YtiaoonlhgjfdjaaDoorRef12b
namespace Go.Proofs.YtiaoonlhgjfdjaaDoor
open Go Go.RowKit
namespace Q

/-- The cells of a bag that has lists of ints and of bools alone. -/
def cells (hi hb : Value) : Array Value := #[.slice none 0 0, hi, .slice none 0 0, .slice none 0 0, hb, .slice none 0 0, .slice none 0 0, .slice none 0 0, .slice none 0 0, .slice none 0 0, .slice none 0 0, .slice none 0 0, .slice none 0 0, .slice none 0 0, .slice none 0 0, .slice none 0 0, .slice none 0 0]
/-- A bag: two lists of lists; what each list lies in is apart from all else. -/
structure Bg (B0 : Nat) (w : World) (gb : Nat) (hi hb : Value) (vi vb : List Value) (ni nb : List Nat) : Prop where
  row : w.heap[gb]? = some (.cells (cells hi hb) 56 (0, 0))
  oi : w.ownsRow gb 24 1 hi vi.length vi
  ob : w.ownsRow gb 35 1 hb vb.length vb
  li : ni.length = vi.length
  lb : nb.length = vb.length
  ri : ∀ (k : Nat) v n, vi[k]? = some v → ni[k]? = some n → n ≤ 1073741824 ∧ ∃ l : List Int, l.length = n ∧ Own2 w B0 3 1 v n (ints l)
  rb : ∀ (k : Nat) v n, vb[k]? = some v → nb[k]? = some n → n ≤ 1073741824 ∧ ∃ xs, Own2 w B0 4 1 v n xs
  hne : hi.ownBlock ≠ some gb ∧ hb.ownBlock ≠ some gb ∧ ∀ g, hi.ownBlock = some g → hb.ownBlock ≠ some g
  fi : ∀ (k : Nat) v g, vi[k]? = some v → v.ownBlock = some g → g ≠ gb ∧ hi.ownBlock ≠ some g ∧ hb.ownBlock ≠ some g
  fb : ∀ (k : Nat) v g, vb[k]? = some v → v.ownBlock = some g → g ≠ gb ∧ hi.ownBlock ≠ some g ∧ hb.ownBlock ≠ some g
  nei : ∀ (k j : Nat) v u g, vi[k]? = some v → vi[j]? = some u → v.ownBlock = some g → u.ownBlock = some g → j = k
  neb : ∀ (k j : Nat) v u g, vb[k]? = some v → vb[j]? = some u → v.ownBlock = some g → u.ownBlock = some g → j = k
  nx : ∀ (k j : Nat) v u g, vi[k]? = some v → vb[j]? = some u → v.ownBlock = some g → u.ownBlock ≠ some g
section
variable {B0 gb : Nat} {w w' : World} {hi hb hi' hb' v : Value} {vi vb : List Value} {ni nb : List Nat}
theorem Bg.keeps {S : Nat → Prop} (h : Bg B0 w gb hi hb vi vb ni nb) (hk : Keeps S w w') (h0 : S gb) (h1 : ∀ g, hi.ownBlock = some g → S g) (h2 : ∀ g, hb.ownBlock = some g → S g) (h3 : ∀ (k : Nat) v g, vi[k]? = some v → v.ownBlock = some g → S g) (h4 : ∀ (k : Nat) v g, vb[k]? = some v → v.ownBlock = some g → S g) : Bg B0 w' gb hi hb vi vb ni nb :=
  ⟨(hk.block gb (row_lt h.row) h0).trans h.row, own_keeps h.oi hk h1, own_keeps h.ob hk h2, h.li, h.lb,
    fun k v n a c => ⟨(h.ri k v n a c).1, by obtain ⟨l, e, o⟩ := (h.ri k v n a c).2; exact ⟨l, e, o.keeps hk fun g hg => h3 k v g a hg⟩⟩,
    fun k v n a c => ⟨(h.rb k v n a c).1, by obtain ⟨l, o⟩ := (h.rb k v n a c).2; exact ⟨l, o.keeps hk fun g hg => h4 k v g a hg⟩⟩, h.hne, h.fi, h.fb, h.nei, h.neb, h.nx⟩
theorem Bg.on (h : Bg B0 w gb hi hb vi vb ni nb) (hb' : Below w.heap.size w w') : Bg B0 w' gb hi hb vi vb ni nb :=
  h.keeps (Keeps.all (fun _ => True) hb') trivial (fun _ _ => trivial) (fun _ _ => trivial) (fun _ _ _ _ _ => trivial) fun _ _ _ _ _ => trivial
theorem Bg.ui (h : Bg B0 w gb hi hb vi vb ni nb) {k : Nat} {u : Value} {g : Nat} (hk : vi[k]? = some u) (hg : u.ownBlock = some g) : B0 ≤ g ∧ g < w.heap.size := by
  have hlt := (List.getElem?_eq_some_iff.1 hk).1
  obtain ⟨_, l, _, o⟩ := h.ri k u (ni[k]'(by rw [h.li]; exact hlt)) hk (List.getElem?_eq_getElem (by rw [h.li]; exact hlt))
  exact o.lt g hg
theorem Bg.ub (h : Bg B0 w gb hi hb vi vb ni nb) {k : Nat} {u : Value} {g : Nat} (hk : vb[k]? = some u) (hg : u.ownBlock = some g) : B0 ≤ g ∧ g < w.heap.size := by
  have hlt := (List.getElem?_eq_some_iff.1 hk).1
  obtain ⟨_, l, o⟩ := h.rb k u (nb[k]'(by rw [h.lb]; exact hlt)) hk (List.getElem?_eq_getElem (by rw [h.lb]; exact hlt))
  exact o.lt g hg
theorem Bg.lt (h : Bg B0 w gb hi hb vi vb ni nb) : gb < w.heap.size := row_lt h.row
theorem Bg.start (h : w.heap[gb]? = some (.cells (cells (.slice none 0 0) (.slice none 0 0)) 56 (0, 0))) : Bg B0 w gb (.slice none 0 0) (.slice none 0 0) [] [] [] [] :=
  ⟨h, World.ownsRow_nil _ _ _ _, World.ownsRow_nil _ _ _ _, rfl, rfl, fun k v n h => by simp at h, fun k v n h => by simp at h, by simp [Value.ownBlock], fun k v g h => by simp at h, fun k v g h => by simp at h, fun k j v u g h => by simp at h, fun k j v u g h => by simp at h, fun k j v u g h => by simp at h⟩
/-- A new list is apart from all that the bag has. -/
def New (gb : Nat) (hi hb : Value) (vi vb : List Value) (v : Value) : Prop := ∀ g, v.ownBlock = some g → g ≠ gb ∧ hi.ownBlock ≠ some g ∧ hb.ownBlock ≠ some g ∧ (∀ (k : Nat) u, vi[k]? = some u → u.ownBlock ≠ some g) ∧ ∀ (k : Nat) u, vb[k]? = some u → u.ownBlock ≠ some g
theorem last_of {vs : List Value} {v : Value} {k : Nat} {u : Value} (hk : (vs ++ [v])[k]? = some u) : (k < vs.length ∧ vs[k]? = some u) ∨ (k = vs.length ∧ u = v) := by
  by_cases hk' : k < vs.length
  · rw [List.getElem?_append_left hk'] at hk; exact .inl ⟨hk', hk⟩
  · rw [List.getElem?_append_right (by omega)] at hk
    have : k - vs.length = 0 := by have := (List.getElem?_eq_some_iff.1 hk).1; simp at this; omega
    rw [this] at hk
    exact .inr ⟨by omega, (Option.some.inj hk).symm⟩
theorem Bg.addI {l : List Int} (h : Bg B0 w gb hi hb vi vb ni nb) (ho : Own2 w B0 3 1 v l.length (ints l)) (hl : l.length ≤ 1073741824) (hn : New gb hi hb vi vb v)
    (hrow : w'.heap[gb]? = some (.cells (cells hi' hb) 56 (0, 0))) (hoi : w'.ownsRow gb 24 1 hi' (vi ++ [v]).length (vi ++ [v])) (hk : Keeps (fun b => b ≠ gb ∧ hi.ownBlock ≠ some b) w w') (hg : ∀ g, hi'.ownBlock = some g → hi.ownBlock = some g ∨ w.heap.size ≤ g) (hgb : hi'.ownBlock ≠ some gb) :
    Bg B0 w' gb hi' hb (vi ++ [v]) vb (ni ++ [l.length]) nb := by
  have hi2 : ∀ (k : Nat) u g, vi[k]? = some u → u.ownBlock = some g → hi'.ownBlock ≠ some g := fun k u g hk' hu e => by
    rcases hg g e with h1 | h1
    · exact (h.fi k u g hk' hu).2.1 h1
    · have := (h.ui hk' hu).2; omega
  have hb2 : ∀ (k : Nat) u g, vb[k]? = some u → u.ownBlock = some g → hi'.ownBlock ≠ some g := fun k u g hk' hu e => by
    rcases hg g e with h1 | h1
    · exact (h.fb k u g hk' hu).2.1 h1
    · have := (h.ub hk' hu).2; omega
  have hv2 : ∀ g, v.ownBlock = some g → hi'.ownBlock ≠ some g := fun g hu e => by
    rcases hg g e with h1 | h1
    · exact (hn g hu).2.1 h1
    · have := (ho.lt g hu).2; omega
  refine ⟨hrow, hoi, own_keeps h.ob hk fun g e => ⟨fun e' => h.hne.2.1 (by rw [e, e']), fun e' => h.hne.2.2 g e' e⟩, by simp [h.li], h.lb, ?_, ?_, ⟨hgb, h.hne.2.1, fun g e e' => ?_⟩, ?_, ?_, ?_, h.neb, ?_⟩
  · intro k u n hk' hn'
    rcases last_of hk' with ⟨hlt, h1⟩ | ⟨rfl, rfl⟩
    · rw [List.getElem?_append_left (by rw [h.li]; exact hlt)] at hn'
      obtain ⟨h2, l', e, o⟩ := h.ri k u n h1 hn'
      exact ⟨h2, l', e, o.keeps hk fun g hu => ⟨(h.fi k u g h1 hu).1, (h.fi k u g h1 hu).2.1⟩⟩
    · rw [List.getElem?_append_right (by rw [h.li]; exact Nat.le_refl _), h.li, Nat.sub_self] at hn'
      obtain rfl := Option.some.inj hn'
      exact ⟨hl, l, rfl, ho.keeps hk fun g hu => ⟨(hn g hu).1, (hn g hu).2.1⟩⟩
  · intro k u n hk' hn'
    obtain ⟨h2, l', o⟩ := h.rb k u n hk' hn'
    exact ⟨h2, l', o.keeps hk fun g hu => ⟨(h.fb k u g hk' hu).1, (h.fb k u g hk' hu).2.1⟩⟩
  · rcases hg g e with h1 | h1
    · exact h.hne.2.2 g h1 e'
    · have := (h.ob.lt g e').2; omega
  · intro k u g hk' hu
    rcases last_of hk' with ⟨_, h1⟩ | ⟨_, rfl⟩
    · exact ⟨(h.fi k u g h1 hu).1, hi2 k u g h1 hu, (h.fi k u g h1 hu).2.2⟩
    · exact ⟨(hn g hu).1, hv2 g hu, (hn g hu).2.2.1⟩
  · intro k u g hk' hu
    exact ⟨(h.fb k u g hk' hu).1, hb2 k u g hk' hu, (h.fb k u g hk' hu).2.2⟩
  · intro k j u u' g hk' hj' hu hu'
    rcases last_of hk' with ⟨_, h1⟩ | ⟨e1, rfl⟩
    · rcases last_of hj' with ⟨_, h2⟩ | ⟨_, rfl⟩
      · exact h.nei k j u u' g h1 h2 hu hu'
      · exact absurd hu ((hn g hu').2.2.2.1 k u h1)
    · rcases last_of hj' with ⟨_, h2⟩ | ⟨e2, _⟩
      · exact absurd hu' ((hn g hu).2.2.2.1 j u' h2)
      · omega
  · intro k j u u' g hk' hj' hu hu'
    rcases last_of hk' with ⟨_, h1⟩ | ⟨_, rfl⟩
    · exact h.nx k j u u' g h1 hj' hu hu'
    · exact (hn g hu).2.2.2.2 j u' hj' hu'
theorem Bg.addB {n : Nat} {xs : List Value} (h : Bg B0 w gb hi hb vi vb ni nb) (ho : Own2 w B0 4 1 v n xs) (hl : n ≤ 1073741824) (hn : New gb hi hb vi vb v)
    (hrow : w'.heap[gb]? = some (.cells (cells hi hb') 56 (0, 0))) (hob : w'.ownsRow gb 35 1 hb' (vb ++ [v]).length (vb ++ [v])) (hk : Keeps (fun b => b ≠ gb ∧ hb.ownBlock ≠ some b) w w') (hg : ∀ g, hb'.ownBlock = some g → hb.ownBlock = some g ∨ w.heap.size ≤ g) (hgb : hb'.ownBlock ≠ some gb) :
    Bg B0 w' gb hi hb' vi (vb ++ [v]) ni (nb ++ [n]) := by
  have hi2 : ∀ (k : Nat) u g, vi[k]? = some u → u.ownBlock = some g → hb'.ownBlock ≠ some g := fun k u g hk' hu e => by
    rcases hg g e with h1 | h1
    · exact (h.fi k u g hk' hu).2.2 h1
    · have := (h.ui hk' hu).2; omega
  have hb2 : ∀ (k : Nat) u g, vb[k]? = some u → u.ownBlock = some g → hb'.ownBlock ≠ some g := fun k u g hk' hu e => by
    rcases hg g e with h1 | h1
    · exact (h.fb k u g hk' hu).2.2 h1
    · have := (h.ub hk' hu).2; omega
  have hv2 : ∀ g, v.ownBlock = some g → hb'.ownBlock ≠ some g := fun g hu e => by
    rcases hg g e with h1 | h1
    · exact (hn g hu).2.2.1 h1
    · have := (ho.lt g hu).2; omega
  refine ⟨hrow, own_keeps h.oi hk fun g e => ⟨fun e' => h.hne.1 (by rw [e, e']), fun e' => h.hne.2.2 g e e'⟩, hob, h.li, by simp [h.lb], ?_, ?_, ⟨h.hne.1, hgb, fun g e e' => ?_⟩, ?_, ?_, h.nei, ?_, ?_⟩
  · intro k u n' hk' hn'
    obtain ⟨h2, l', e, o⟩ := h.ri k u n' hk' hn'
    exact ⟨h2, l', e, o.keeps hk fun g hu => ⟨(h.fi k u g hk' hu).1, (h.fi k u g hk' hu).2.2⟩⟩
  · intro k u n' hk' hn'
    rcases last_of hk' with ⟨hlt, h1⟩ | ⟨rfl, rfl⟩
    · rw [List.getElem?_append_left (by rw [h.lb]; exact hlt)] at hn'
      obtain ⟨h2, l', o⟩ := h.rb k u n' h1 hn'
      exact ⟨h2, l', o.keeps hk fun g hu => ⟨(h.fb k u g h1 hu).1, (h.fb k u g h1 hu).2.2⟩⟩
    · rw [List.getElem?_append_right (by rw [h.lb]; exact Nat.le_refl _), h.lb, Nat.sub_self] at hn'
      obtain rfl := Option.some.inj hn'
      exact ⟨hl, xs, ho.keeps hk fun g hu => ⟨(hn g hu).1, (hn g hu).2.2.1⟩⟩
  · rcases hg g e' with h1 | h1
    · exact h.hne.2.2 g e h1
    · have := (h.oi.lt g e).2; omega
  · intro k u g hk' hu
    exact ⟨(h.fi k u g hk' hu).1, (h.fi k u g hk' hu).2.1, hi2 k u g hk' hu⟩
  · intro k u g hk' hu
    rcases last_of hk' with ⟨_, h1⟩ | ⟨_, rfl⟩
    · exact ⟨(h.fb k u g h1 hu).1, (h.fb k u g h1 hu).2.1, hb2 k u g h1 hu⟩
    · exact ⟨(hn g hu).1, (hn g hu).2.1, hv2 g hu⟩
  · intro k j u u' g hk' hj' hu hu'
    rcases last_of hk' with ⟨_, h1⟩ | ⟨e1, rfl⟩
    · rcases last_of hj' with ⟨_, h2⟩ | ⟨_, rfl⟩
      · exact h.neb k j u u' g h1 h2 hu hu'
      · exact absurd hu ((hn g hu').2.2.2.2 k u h1)
    · rcases last_of hj' with ⟨_, h2⟩ | ⟨e2, _⟩
      · exact absurd hu' ((hn g hu).2.2.2.2 j u' h2)
      · omega
  · intro k j u u' g hk' hj' hu hu'
    rcases last_of hj' with ⟨_, h1⟩ | ⟨_, rfl⟩
    · exact h.nx k j u u' g hk' h1 hu hu'
    · exact (hn g hu').2.2.2.1 k u hk' hu
end

set_option maxRecDepth 100000 in
set_option maxHeartbeats 3200000 in
theorem add_ints {B0 gb : Nat} {w : World} {hi hb v : Value} {vi vb : List Value} {ni nb : List Nat} {l : List Int} (h : Bg B0 w gb hi hb vi vb ni nb) (hn : vi.length < 300) (ho : Own2 w B0 3 1 v l.length (ints l)) (hl : l.length ≤ 1073741824) (hnew : New gb hi hb vi vb v) :
    Calls Tryd.prog 27 #[.pointer (some ⟨gb, 0, none⟩), v] w fun e w' => e = .returned (.tuple #[]) ∧ ∃ h', Bg B0 w' gb h' hb (vi ++ [v]) vb (ni ++ [l.length]) nb ∧ Keeps (fun b => b ≠ gb ∧ hi.ownBlock ≠ some b) w w' ∧ (∀ g, h'.ownBlock = some g → hi.ownBlock = some g ∨ w.heap.size ≤ g) := by
  obtain ⟨i1, hj, hy0, hy1, hy2⟩ := info_parts C.Tryd.infoSlC
  obtain ⟨va, vc, rfl, _, _⟩ := ho.slice
  have H := Lib.hid h
  have HO := Lib.hid ho
  have HNEW := Lib.hid hnew
  have HLN := Lib.hid hl
  obtain ⟨a, c, rfl, _⟩ := own_slice h.oi
  have hd : w.cell? ⟨gb, 1, none⟩ = some (.slice a vi.length c) := row_cell h.row 1 rfl
  have hf := row_free h.row 1
  have HNE : Hid ((Value.slice a vi.length c).ownBlock ≠ some gb) := Lib.hid h.hne.1
  clear h ho hnew hl
  go_enter Tryd.func27, Tryd.ntmps27
  have HA := Lib.hid (H.out.oi.alloc (.cells #[.slice va l.length vc] 24))
  have hBw : gb ≤ w.heap.size := Nat.le_of_lt (row_lt H.out.row)
  go_wp2_with (at_builtin; refine wpList_append_kept _ rfl _ _ 39 rfl gb 24 i1 (.slice none 0 0) 1 24 Tryd.underlying39 hj hy0 hy1 hy2 rfl (by decide) (.slice a vi.length c) vi.length vi rfl HA.out ⟨w.heap.size, 0, none⟩ 1 1 [.slice va l.length vc] rfl rfl (cell_one_new _ _ _) (by simp [Value.oneCell']) (by unfold maxLen; omega) (by omega) (by rw [World.size_alloc]; omega) ?_)
  intro hv' w3 ho hk hg
  have hne : (Value.slice a vi.length c).ownBlock ≠ some gb := HNE.out
  have hrow3 := grown_block hk.grown ((Below.heap_alloc w _ gb (row_lt H.out.row)).trans H.out.row) hne
  have hd3 : w3.cell? ⟨gb, 1, none⟩ = some (.slice a vi.length c) := row_cell hrow3 1 rfl
  have hf3 := row_free hrow3 1
  have hne3 : hv'.ownBlock ≠ some gb := fun e => by
    have hlt := row_lt H.out.row
    rcases hg gb e with h1 | h1
    · exact hne h1
    · omega
  have hown3 := fun (u : Value) => own_keeps ho ((Keeps.refl (fun b => b ≠ gb) w3).setCell (a := ⟨gb, 1, none⟩) (by simp) u) (fun b hb e => hne3 (by rw [← e]; exact hb))
  have hkp := fun (u : Value) => ((((Keeps.refl (fun b => b ≠ gb ∧ (Value.slice a vi.length c).ownBlock ≠ some b) w).alloc (.cells #[.slice va l.length vc] 24)).grown hk.grown (fun k hk' hlt hB => hB.2 hk')).setCell (a := ⟨gb, 1, none⟩) (fun _ hB => hB.1 rfl) u)
  have hgs : ∀ g, hv'.ownBlock = some g → (Value.slice a vi.length c).ownBlock = some g ∨ w.heap.size ≤ g := fun g h => (hg g h).imp id fun h => by have h := h; (try rw [World.size_alloc] at h); omega
  have HK := Lib.hid (And.intro hkp hgs)
  have HX := Lib.hid (And.intro hown3 (And.intro hne3 hrow3))
  obtain ⟨a', c', rfl, _⟩ := own_slice ho
  clear ho hg hk hrow3 hown3 hkp hne3 hgs
  go_wp2
  refine bodyPost_end (results_none rfl _ _ _) rfl ⟨rfl, _, ?_, HK.out.1 _, HK.out.2⟩
  have hadd := H.out.addI (l := l) HO.out HLN.out HNEW.out (by simpa [cells] using row_setCell HX.out.2.2 1 (.slice a' (vi.length + 1) c')) (by simpa using HX.out.1 (.slice a' (vi.length + 1) c')) (HK.out.1 _) HK.out.2 HX.out.2.1
  exact hadd

set_option maxRecDepth 100000 in
set_option maxHeartbeats 3200000 in
theorem add_bools {B0 gb : Nat} {w : World} {hi hb v : Value} {vi vb : List Value} {ni nb : List Nat} {m : Nat} {xs : List Value} (h : Bg B0 w gb hi hb vi vb ni nb) (hn : vb.length < 300) (ho : Own2 w B0 4 1 v m xs) (hl : m ≤ 1073741824) (hnew : New gb hi hb vi vb v) :
    Calls Tryd.prog 14 #[.pointer (some ⟨gb, 0, none⟩), v] w fun e w' => e = .returned (.tuple #[]) ∧ ∃ h', Bg B0 w' gb hi h' vi (vb ++ [v]) ni (nb ++ [m]) ∧ Keeps (fun b => b ≠ gb ∧ hb.ownBlock ≠ some b) w w' ∧ (∀ g, h'.ownBlock = some g → hb.ownBlock = some g ∨ w.heap.size ≤ g) := by
  obtain ⟨i1, hj, hy0, hy1, hy2⟩ := info_parts BagBools.infoL
  obtain ⟨va, vc, rfl, _, _⟩ := ho.slice
  have H := Lib.hid h
  have HO := Lib.hid ho
  have HNEW := Lib.hid hnew
  have HLN := Lib.hid hl
  obtain ⟨a, c, rfl, _⟩ := own_slice h.ob
  have hd : w.cell? ⟨gb, 4, none⟩ = some (.slice a vb.length c) := row_cell h.row 4 rfl
  have hf := row_free h.row 4
  have HNE : Hid ((Value.slice a vb.length c).ownBlock ≠ some gb) := Lib.hid h.hne.2.1
  clear h ho hnew hl
  go_enter Tryd.func14, Tryd.ntmps14
  have HA := Lib.hid (H.out.ob.alloc (.cells #[.slice va m vc] 35))
  have hBw : gb ≤ w.heap.size := Nat.le_of_lt (row_lt H.out.row)
  go_wp2_with (at_builtin; refine wpList_append_kept _ rfl _ _ 42 rfl gb 35 i1 (.slice none 0 0) 1 24 Tryd.underlying42 hj hy0 hy1 hy2 rfl (by decide) (.slice a vb.length c) vb.length vb rfl HA.out ⟨w.heap.size, 0, none⟩ 1 1 [.slice va m vc] rfl rfl (cell_one_new _ _ _) (by simp [Value.oneCell']) (by unfold maxLen; omega) (by omega) (by rw [World.size_alloc]; omega) ?_)
  intro hv' w3 ho hk hg
  have hne : (Value.slice a vb.length c).ownBlock ≠ some gb := HNE.out
  have hrow3 := grown_block hk.grown ((Below.heap_alloc w _ gb (row_lt H.out.row)).trans H.out.row) hne
  have hd3 : w3.cell? ⟨gb, 4, none⟩ = some (.slice a vb.length c) := row_cell hrow3 4 rfl
  have hf3 := row_free hrow3 4
  have hne3 : hv'.ownBlock ≠ some gb := fun e => by
    have hlt := row_lt H.out.row
    rcases hg gb e with h1 | h1
    · exact hne h1
    · omega
  have hown3 := fun (u : Value) => own_keeps ho ((Keeps.refl (fun b => b ≠ gb) w3).setCell (a := ⟨gb, 4, none⟩) (by simp) u) (fun b hb e => hne3 (by rw [← e]; exact hb))
  have hkp := fun (u : Value) => ((((Keeps.refl (fun b => b ≠ gb ∧ (Value.slice a vb.length c).ownBlock ≠ some b) w).alloc (.cells #[.slice va m vc] 35)).grown hk.grown (fun k hk' hlt hB => hB.2 hk')).setCell (a := ⟨gb, 4, none⟩) (fun _ hB => hB.1 rfl) u)
  have hgs : ∀ g, hv'.ownBlock = some g → (Value.slice a vb.length c).ownBlock = some g ∨ w.heap.size ≤ g := fun g h => (hg g h).imp id fun h => by have h := h; (try rw [World.size_alloc] at h); omega
  have HK := Lib.hid (And.intro hkp hgs)
  have HX := Lib.hid (And.intro hown3 (And.intro hne3 hrow3))
  obtain ⟨a', c', rfl, _⟩ := own_slice ho
  clear ho hg hk hrow3 hown3 hkp hne3 hgs
  go_wp2
  refine bodyPost_end (results_none rfl _ _ _) rfl ⟨rfl, _, ?_, HK.out.1 _, HK.out.2⟩
  exact H.out.addB HO.out HLN.out HNEW.out (by simpa [cells] using row_setCell HX.out.2.2 4 (.slice a' (vb.length + 1) c')) (by simpa using HX.out.1 (.slice a' (vb.length + 1) c')) (HK.out.1 _) HK.out.2 HX.out.2.1
end Q
end Go.Proofs.YtiaoonlhgjfdjaaDoor

namespace Go.Proofs.YtiaoonlhgjfdjaaDoor
open Go Go.RowKit
namespace Q

theorem New.bl {gb : Nat} {hi hb : Value} {vi vb : List Value} {v : Value} {B0 lo up : Nat} {w : World} {ni nb : List Nat} (h : Bg B0 w gb hi hb vi vb ni nb) (hlo : w.heap.size ≤ lo) (hv : ∀ g, v.ownBlock = some g → lo ≤ g ∧ g < up) : New gb hi hb vi vb v := fun g hg => by
  have h1 := hv g hg
  refine ⟨by have := h.lt; omega, fun e => by have := (h.oi.lt g e).2; omega, fun e => by have := (h.ob.lt g e).2; omega, fun k u hk e => by have := (h.ui hk e).2; omega, fun k u hk e => by have := (h.ub hk e).2; omega⟩
theorem New.mk' {gb lo : Nat} {hi hb v : Value} {vi vb : List Value} {B0 : Nat} {w : World} {ni nb : List Nat} (h : Bg B0 w gb hi hb vi vb ni nb) (h1 : ∀ u ∈ vi, ∀ g, u.ownBlock = some g → g < lo) (h2 : ∀ u ∈ vb, ∀ g, u.ownBlock = some g → g < lo) (hv : ∀ g, v.ownBlock = some g → lo ≤ g ∧ g < gb) : New gb hi hb vi vb v := fun g hg => by
  have h3 := hv g hg
  refine ⟨by omega, fun e => by have := (h.oi.lt g e).1; omega, fun e => by have := (h.ob.lt g e).1; omega, fun k u hk e => by have := h1 u (List.mem_of_getElem? hk) g e; omega, fun k u hk e => by have := h2 u (List.mem_of_getElem? hk) g e; omega⟩
theorem addBlk_cells {w1 : World} {v1 v2 : Value} (hr : w1.heap[w1.heap.size - 1]? = some (.cells #[v1, v2] 33 (0, 0))) : w1.cell? ⟨w1.heap.size - 1, 0, none⟩ = some v1 ∧ w1.cell? ⟨w1.heap.size - 1, 1, none⟩ = some v2 := ⟨row_cell hr 0 rfl, row_cell hr 1 rfl⟩
set_option maxRecDepth 100000 in
set_option maxHeartbeats 1600000 in
theorem add_blocks {B0 gb : Nat} {w : World} {hi hb v1 v2 : Value} {vi vb : List Value} {ni nb : List Nat} {S1 L1 : List Int} (h : Bg B0 w gb hi hb vi vb ni nb) (hn : vi.length < 299) (hbl : Bl B0 w v1 v2 S1 L1) (hl1 : S1.length ≤ 1073741824) (hl2 : L1.length ≤ 1073741824)
    (n1 : New gb hi hb vi vb v1) (n2 : New gb hi hb vi vb v2) :
    Calls Tryd.prog 13 #[.pointer (some ⟨gb, 0, none⟩), .agg #[v1, v2]] w fun e w' => e = .returned (.tuple #[]) ∧ ∃ h', Bg B0 w' gb h' hb (vi ++ [v1, v2]) vb (ni ++ [S1.length, L1.length]) nb ∧ Keeps (fun b => b ≠ gb ∧ hi.ownBlock ≠ some b) w w' ∧ (∀ g, h'.ownBlock = some g → hi.ownBlock = some g ∨ w.heap.size ≤ g) := by
  obtain ⟨a1, c1, rfl, _⟩ := own_slice hbl.s
  obtain ⟨a2, c2, rfl, _⟩ := own_slice hbl.l
  have hba := below_alloc w (.cells #[.slice a1 S1.length c1, .slice a2 L1.length c2] 33)
  have hra := heap_alloc_new w (.cells #[.slice a1 S1.length c1, .slice a2 L1.length c2] 33)
  have H1 := Lib.hid (h.on hba)
  have HBl := Lib.hid (hbl.kept (Keeps.all (fun _ => True) hba) fun _ _ => trivial)
  have HR := Lib.hid hra
  have HLT := Lib.hid (And.intro h.lt (And.intro (fun g e => (h.oi.lt g e).2) (And.intro (fun g e => (hbl.l.lt g e).2) hbl.d)))
  have HN1 := Lib.hid n1; have HN2 := Lib.hid n2
  have HL := Lib.hid (And.intro hl1 hl2)
  have HKA : Hid (Keeps (fun b => b ≠ gb ∧ hi.ownBlock ≠ some b) w (w.alloc (.cells #[.slice a1 S1.length c1, .slice a2 L1.length c2] 33))) := Lib.hid ((Keeps.refl _ w).alloc _)
  have x0 := row_cell hra 0 rfl; have x1 := row_cell hra 1 rfl
  simp only [List.getElem_toArray, List.getElem_cons_zero, List.getElem_cons_succ] at x0 x1
  have hs : (w.alloc (.cells #[.slice a1 S1.length c1, .slice a2 L1.length c2] 33)).heap.size = w.heap.size + 1 := World.size_alloc _ _
  have HS := Lib.hid hs
  clear h hbl n1 n2 hl1 hl2 hba hra hs
  go_enter Tryd.func13, Tryd.ntmps13
  go_upto_region 1 with fail
  generalize w.alloc (.cells #[.slice a1 S1.length c1, .slice a2 L1.length c2] 33) = wa at *
  go_wp2_with fail
  refine (add_ints H1.out (by omega) (.inl HBl.out.s) HL.out.1 HN1.out).mono ?_
  rintro e w1 ⟨rfl, h1, hb1, hk1, hg1⟩
  have HB1 := Lib.hid hb1
  have hx : w1.cell? ⟨w.heap.size, 1, none⟩ = some (.slice a2 L1.length c2) := hk1.cell x1 ⟨by have := HLT.out.1; show w.heap.size ≠ gb; omega, fun e => Nat.lt_irrefl _ (HLT.out.2.1 _ e)⟩
  have HO2 : Hid (OwnI B0 3 w1 (.slice a2 L1.length c2) L1) := Lib.hid (own_keeps HBl.out.l hk1 fun g e => ⟨(HN2.out g e).1, (HN2.out g e).2.1⟩)
  have HN22 : Hid (New gb h1 hb (vi ++ [.slice a1 S1.length c1]) vb (.slice a2 L1.length c2)) := Lib.hid fun g e => by
    have k := HN2.out g e
    refine ⟨k.1, fun e' => ?_, k.2.2.1, fun j u hj => ?_, k.2.2.2.2⟩
    · rcases hg1 g e' with h2 | h2
      · exact k.2.1 h2
      · have := HLT.out.2.2.1 g e; have := HS.out; omega
    · rcases last_of hj with ⟨_, h2⟩ | ⟨_, rfl⟩
      · exact k.2.2.2.1 j u h2
      · exact fun e' => HLT.out.2.2.2 g e' e
  have HK1 := Lib.hid (HKA.out.trans hk1)
  have HG1 := Lib.hid hg1
  clear hb1 hk1 hg1 x0 x1
  go_wp2_with fail
  refine (add_ints HB1.out (by simp; omega) (.inl HO2.out) HL.out.2 HN22.out).mono ?_
  rintro e w2 ⟨rfl, h2, hb2, hk2, hg2⟩
  have HB2 := Lib.hid hb2
  have HK2 : Hid (Keeps (fun b => b ≠ gb ∧ hi.ownBlock ≠ some b) w w2) := Lib.hid (HK1.out.trans' hk2 fun b hb h => ⟨h, h.1, fun e => by
    rcases HG1.out b e with h3 | h3
    · exact h.2 h3
    · have := HS.out; omega⟩)
  have HG2 : Hid (∀ g, h2.ownBlock = some g → hi.ownBlock = some g ∨ w.heap.size ≤ g) := Lib.hid fun g e => by
    rcases hg2 g e with h3 | h3
    · rcases HG1.out g h3 with h4 | h4
      · exact .inl h4
      · have := HS.out; exact .inr (by omega)
    · have := HK1.out.size; exact .inr (by omega)
  clear hb2 hk2 hg2
  go_wp2
  exact bodyPost_end (results_none rfl _ _ _) rfl ⟨rfl, _, by simpa using HB2.out, HK2.out, HG2.out⟩
theorem pickLists {B0 gb : Nat} {w : World} {hi hb : Value} {vi vb : List Value} {ni nb : List Nat} (h : Bg B0 w gb hi hb vi vb ni nb) : ∃ ls : List (List Int), ls.length = vi.length ∧ ∀ (k : Nat) v l, vi[k]? = some v → ls[k]? = some l → Own2 w B0 3 1 v l.length (ints l) ∧ l.length ≤ 1073741824 := by
  have hc : ∀ k : Nat, ∃ l : List Int, ∀ v, vi[k]? = some v → Own2 w B0 3 1 v l.length (ints l) ∧ l.length ≤ 1073741824 := fun k => by
    by_cases hk : k < vi.length
    · obtain ⟨h1, l, e, o⟩ := h.ri k vi[k] (ni[k]'(by rw [h.li]; exact hk)) (List.getElem?_eq_getElem hk) (List.getElem?_eq_getElem (by rw [h.li]; exact hk))
      refine ⟨l, fun v hv => ?_⟩
      rw [List.getElem?_eq_getElem hk] at hv
      obtain rfl := Option.some.inj hv
      exact ⟨by rw [e]; exact o, by omega⟩
    · exact ⟨[], fun v hv => by rw [List.getElem?_eq_none (by omega)] at hv; cases hv⟩
  obtain ⟨f, hf⟩ := Classical.axiomOfChoice hc
  refine ⟨(List.range vi.length).map f, by simp, fun k v l hk hl => ?_⟩
  have hlt := (List.getElem?_eq_some_iff.1 hk).1
  rw [List.getElem?_map, List.getElem?_range hlt] at hl
  obtain rfl := Option.some.inj hl
  exact hf k v hk
set_option maxRecDepth 100000 in
set_option maxHeartbeats 6400000 in
theorem bag_apart {B0 gb : Nat} {w : World} {hi hb : Value} {vi vb : List Value} {ni nb : List Nat} (h : Bg B0 w gb hi hb vi vb ni nb) (hni : vi.length ≤ 300) (hnb : vb.length ≤ 300) (hB : B0 ≤ gb) :
    Calls Tryd.prog 19 #[.pointer (some ⟨gb, 0, none⟩)] w fun e w' => e = .returned (.bool true) ∧ Keeps (fun b => (∀ (k : Nat) v, vi[k]? = some v → v.ownBlock ≠ some b) ∧ ∀ (k : Nat) v, vb[k]? = some v → v.ownBlock ≠ some b) w w' := by
  obtain ⟨ls, hls, hrows⟩ := pickLists h
  have hsz : B0 ≤ w.heap.size := Nat.le_trans hB (Nat.le_of_lt h.lt)
  have hgb : roleOf vi gb = 0 := role_none fun k v hk e => (h.fi k v gb hk e).1 rfl
  have hG : C.G1 B0 (roleOf vi) w gb hi vi ls w 0 := by
    refine ⟨Went.refl _ _, ⟨row_cell h.row 1 rfl, hgb, ?_⟩, fun k v l hk => absurd hk (by omega), fun k v l _ h1 h2 => ⟨(hrows k v l h1 h2).1, fun g hg => role_some h1 hg fun j u hu hb => h.nei k j v u g h1 hu hg hb⟩⟩
    have ho := h.oi
    rcases ho.2 with ⟨rfl, h0⟩ | ⟨g, cap, cur, rfl, hg, _, hc, _⟩
    · exact ⟨none, 0, by rw [h0], by omega, fun k hk => absurd hk (by omega)⟩
    · refine ⟨_, cap, rfl, hc, fun k hk => ⟨g, rfl, role_none fun j v hj e => (h.fi j v g hj e).2.1 rfl, own_at ho rfl (List.getElem?_eq_getElem hk)⟩⟩
  have HA := Lib.hid (C.apart_bytes w B0 (roleOf vi) gb hi vi ls hG hls hni hsz (fun k l hk => by
    have hkl := (List.getElem?_eq_some_iff.1 hk).1
    exact (hrows k vi[k] l (List.getElem?_eq_getElem (by omega)) hk).2))
  have HK := Lib.hid (fun (b : Nat) (hb : ∀ (k : Nat) v, vi[k]? = some v → v.ownBlock ≠ some b) => role_none hb)
  -- the bools, behind what the ints have turned
  have HBo : Hid (∀ (w1 : World) (R : Nat → Nat), Went (roleOf vi) w R w1 → w1.heap[gb]? = some (.cells (cells hi hb) 56 (0, 0)) ∧ Calls Tryd.prog 46 #[.pointer (some ⟨gb, 0, none⟩)] w1 fun e w' => e = .returned (.bool true) ∧ ∃ R', Went (roleOf vb) w1 R' w') := Lib.hid fun w1 R hW => by
    have hk := hW.keeps
    have f0 : ∀ b, (∀ (k : Nat) v, vi[k]? = some v → v.ownBlock ≠ some b) → roleOf vi b = 0 := fun b hb => role_none hb
    have hrow := (hk.block gb h.lt hgb).trans h.row
    refine ⟨hrow, BagBools.apart w1 B0 (roleOf vb) gb hb vb (fun k => nb.getD k 0) ?_ hnb (Nat.le_trans hsz hk.size) fun k => ?_⟩
    · have hgb2 : roleOf vb gb = 0 := role_none fun k v hk e => (h.fb k v gb hk e).1 rfl
      have ho1 : w1.ownsRow gb 35 1 hb vb.length vb := own_keeps h.ob hk fun g e => f0 g fun k v hk' e' => (h.fi k v g hk' e').2.2 e
      refine ⟨Went.refl _ _, ⟨row_cell hrow 4 rfl, hgb2, ?_⟩, fun k v hk => absurd hk (by omega), fun k v _ h1 => ?_⟩
      · rcases ho1.2 with ⟨rfl, h0⟩ | ⟨g, cap, cur, rfl, hg, _, hc, _⟩
        · exact ⟨none, 0, by rw [h0], by omega, fun k hk => absurd hk (by omega)⟩
        · exact ⟨_, cap, rfl, hc, fun k hk => ⟨g, rfl, role_none fun j v hj e => (h.fb j v g hj e).2.2 rfl, own_at ho1 rfl (List.getElem?_eq_getElem hk)⟩⟩
      · have hlt := (List.getElem?_eq_some_iff.1 h1).1
        have hn : nb[k]? = some (nb[k]'(by rw [h.lb]; exact hlt)) := List.getElem?_eq_getElem (by rw [h.lb]; exact hlt)
        obtain ⟨_, xs, o⟩ := h.rb k v _ h1 hn
        refine ⟨xs, ⟨?_, fun g hg => role_some h1 hg fun j u hu hb => h.neb k j v u g h1 hu hg hb⟩⟩
        have o1 := o.keeps hk fun g e => f0 g fun j u hj e' => h.nx j k u v g hj h1 e' e
        show Own2 w1 B0 4 1 v (nb.getD k 0) xs
        rw [List.getD_eq_getElem?_getD, hn]
        exact o1
    · show nb.getD k 0 ≤ _
      by_cases hk : k < nb.length
      · rw [List.getD_eq_getElem?_getD, List.getElem?_eq_getElem hk]
        exact (h.rb k (vb[k]'(by rw [← h.lb]; exact hk)) nb[k] (List.getElem?_eq_getElem (by rw [← h.lb]; exact hk)) (List.getElem?_eq_getElem hk)).1
      · rw [List.getD_eq_getElem?_getD, List.getElem?_eq_none (by omega)]; simp
  have HRB : Hid (∀ (w1 w2 : World) (R : Nat → Nat), w1.heap[gb]? = some (.cells (cells hi hb) 56 (0, 0)) → Went (roleOf vb) w1 R w2 → w2.heap[gb]? = some (.cells (cells hi hb) 56 (0, 0))) := Lib.hid fun w1 w2 R hr hW =>
    (hW.keeps.block gb (row_lt hr) (role_none fun k v hk e => (h.fb k v gb hk e).1 rfl)).trans hr
  have cB : w.cell? ⟨gb, 0, none⟩ = some (.slice none 0 0) := row_cell h.row 0 rfl
  clear hG hgb hrows hls h
  go_enter Tryd.func19, Tryd.ntmps19
  go_wp2_with fail
  refine (none_Bytes _ gb cB).mono ?_
  rintro e w1 ⟨rfl, hw1⟩
  obtain rfl : w = w1 := hw1.symm
  go_wp2_with fail
  refine HA.out.mono ?_
  rintro e w1 ⟨rfl, R, hW⟩
  obtain ⟨hrow, hcb⟩ := HBo.out w1 R hW
  have HCB := Lib.hid hcb
  have HROW := Lib.hid hrow
  have HW := Lib.hid hW; clear hW hcb
  have c2 : w1.cell? ⟨gb, 2, none⟩ = some (.slice none 0 0) := row_cell hrow 2 rfl
  have c3 : w1.cell? ⟨gb, 3, none⟩ = some (.slice none 0 0) := row_cell hrow 3 rfl
  clear hrow
  go_wp2_with fail
  refine (none_Longs _ gb c2).mono ?_
  rintro e w' ⟨rfl, hw1⟩
  obtain rfl : w1 = w' := hw1.symm
  go_wp2_with fail
  refine (none_Words _ gb c3).mono ?_
  rintro e w' ⟨rfl, hw1⟩
  obtain rfl : w1 = w' := hw1.symm
  go_wp2_with fail
  refine HCB.out.mono ?_
  rintro e w2 ⟨rfl, R2, hW2⟩
  have hrow := HRB.out w1 w2 R2 HROW.out hW2
  have HW2 := Lib.hid hW2; clear hW2 c2 c3
  have c5 : w2.cell? ⟨gb, 5, none⟩ = some (.slice none 0 0) := row_cell hrow 5 rfl
  have c6 : w2.cell? ⟨gb, 6, none⟩ = some (.slice none 0 0) := row_cell hrow 6 rfl
  have c7 : w2.cell? ⟨gb, 7, none⟩ = some (.slice none 0 0) := row_cell hrow 7 rfl
  have c8 : w2.cell? ⟨gb, 8, none⟩ = some (.slice none 0 0) := row_cell hrow 8 rfl
  have c9 : w2.cell? ⟨gb, 9, none⟩ = some (.slice none 0 0) := row_cell hrow 9 rfl
  have c10 : w2.cell? ⟨gb, 10, none⟩ = some (.slice none 0 0) := row_cell hrow 10 rfl
  have c11 : w2.cell? ⟨gb, 11, none⟩ = some (.slice none 0 0) := row_cell hrow 11 rfl
  have c12 : w2.cell? ⟨gb, 12, none⟩ = some (.slice none 0 0) := row_cell hrow 12 rfl
  have c13 : w2.cell? ⟨gb, 13, none⟩ = some (.slice none 0 0) := row_cell hrow 13 rfl
  have c14 : w2.cell? ⟨gb, 14, none⟩ = some (.slice none 0 0) := row_cell hrow 14 rfl
  have c15 : w2.cell? ⟨gb, 15, none⟩ = some (.slice none 0 0) := row_cell hrow 15 rfl
  have c16 : w2.cell? ⟨gb, 16, none⟩ = some (.slice none 0 0) := row_cell hrow 16 rfl
  clear hrow
  go_wp2_with (first
    | (go_at_call 47; refine (none_Texts _ gb (by assumption)).mono ?_; rintro e w' ⟨rfl, rfl⟩)
    | (go_at_call 48; refine (none_Sigs _ gb (by assumption)).mono ?_; rintro e w' ⟨rfl, rfl⟩)
    | (go_at_call 49; refine (none_Globals _ gb (by assumption)).mono ?_; rintro e w' ⟨rfl, rfl⟩)
    | (go_at_call 50; refine (none_Exports _ gb (by assumption)).mono ?_; rintro e w' ⟨rfl, rfl⟩)
    | (go_at_call 51; refine (none_Code _ gb (by assumption)).mono ?_; rintro e w' ⟨rfl, rfl⟩)
    | (go_at_call 52; refine (none_Functions _ gb (by assumption)).mono ?_; rintro e w' ⟨rfl, rfl⟩)
    | (go_at_call 53; refine (none_Datas _ gb (by assumption)).mono ?_; rintro e w' ⟨rfl, rfl⟩)
    | (go_at_call 54; refine (none_Tables _ gb (by assumption)).mono ?_; rintro e w' ⟨rfl, rfl⟩)
    | (go_at_call 55; refine (none_Frames _ gb (by assumption)).mono ?_; rintro e w' ⟨rfl, rfl⟩)
    | (go_at_call 56; refine (none_Replies _ gb (by assumption)).mono ?_; rintro e w' ⟨rfl, rfl⟩)
    | (go_at_call 57; refine (none_Pages _ gb (by assumption)).mono ?_; rintro e w' ⟨rfl, rfl⟩)
    | (go_at_call 58; refine (none_Rows _ gb (by assumption)).mono ?_; rintro e w' ⟨rfl, rfl⟩))
  go_ret
  exact ⟨rfl, HW.out.keeps.trans' HW2.out.keeps fun b _ hb => ⟨HK.out b hb.1, role_none hb.2⟩⟩
end Q
end Go.Proofs.YtiaoonlhgjfdjaaDoor
