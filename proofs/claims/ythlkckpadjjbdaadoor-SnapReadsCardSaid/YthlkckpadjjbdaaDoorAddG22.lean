/- flagonref00's Bag: AddBytes, AddWords, AddFrame, AddFrames, AddPages, AddState. -/
import Derived.Test.YthlkckpadjjbdaaDoorMBagG
import Derived.Test.YthlkckpadjjbdaaDoorRead2
import Derived.Test.YthlkckpadjjbdaaDoorApartBytes
import Derived.Test.YthlkckpadjjbdaaDoorApartWords
import Derived.Test.YthlkckpadjjbdaaDoorApartFrames
import Derived.Test.YthlkckpadjjbdaaDoorApartPages
namespace Go.Proofs.YthlkckpadjjbdaaDoor
open Go Go.RowKit
namespace G
/-- What a bag has gathered of states' lists; S: blocks that no Add touches. -/
structure Gt (S : Nat → Prop) (B0 gb : Nat) (l : List Value) (a b : Nat) (w : World) (hs : Nat → Value) (vs : Nat → List Value) (ns : Nat → List Nat) : Prop where
  bg : Bg (fun _ => True) B0 w gb hs vs ns
  sub : Sub vs l
  none : ∀ j, j ≠ 0 → j ≠ 3 → j ≠ 13 → j ≠ 15 → vs j = []
  ca : (vs 13).length = a
  cb : (vs 15).length = b
  s0 : ∀ b, b < gb → S b
  s1 : ∀ b, S b → b < w.heap.size ∧ b ≠ gb
  s2 : ∀ j g, j < 17 → (hs j).ownBlock = some g → ¬ S g
def Gat (S : Nat → Prop) (B0 gb : Nat) (l : List Value) (a b : Nat) (w : World) : Prop := ∃ hs vs ns, Gt S B0 gb l a b w hs vs ns
theorem Gat.on {S : Nat → Prop} {B0 gb a b : Nat} {l : List Value} {w w' : World} (h : Gat S B0 gb l a b w) (hb : Below w.heap.size w w') : Gat S B0 gb l a b w' := by
  obtain ⟨hs, vs, ns, h1⟩ := h
  exact ⟨hs, vs, ns, h1.bg.on hb, h1.sub, h1.none, h1.ca, h1.cb, h1.s0, fun b hb' => ⟨Nat.lt_of_lt_of_le (h1.s1 b hb').1 hb.size, (h1.s1 b hb').2⟩, h1.s2⟩
/-- A new block more is left alone. -/
theorem Gat.more {S : Nat → Prop} {B0 gb a b : Nat} {l : List Value} {w : World} (h : Gat S B0 gb l a b w) (o : Obj) : Gat (fun x => S x ∨ x = w.heap.size) B0 gb l a b (w.alloc o) := by
  have h' := h.on (below_alloc w o)
  obtain ⟨hs, vs, ns, h1⟩ := h
  refine ⟨hs, vs, ns, h1.bg.on (below_alloc w o), h1.sub, h1.none, h1.ca, h1.cb, fun b hb => .inl (h1.s0 b hb), fun b hb => ?_, fun j g hj e => ?_⟩
  · rw [World.size_alloc]
    rcases hb with hb | rfl
    · have := h1.s1 b hb; exact ⟨by omega, this.2⟩
    · exact ⟨by omega, by have := h1.bg.glt; omega⟩
  · rintro (hs' | rfl)
    · exact h1.s2 j g hj e hs'
    · have := ((h1.bg.hd j hj).lt _ e).2; omega
theorem Gat.less {S S' : Nat → Prop} {B0 gb a b : Nat} {l : List Value} {w : World} (h : Gat S B0 gb l a b w) (hS : ∀ b, S' b → S b) (h0 : ∀ b, b < gb → S' b) : Gat S' B0 gb l a b w := by
  obtain ⟨hs, vs, ns, h1⟩ := h
  exact ⟨hs, vs, ns, h1.bg, h1.sub, h1.none, h1.ca, h1.cb, h0, fun b hb => h1.s1 b (hS b hb), fun j g hj e hb => h1.s2 j g hj e (hS g hb)⟩
theorem Gat.low {S : Nat → Prop} {B0 gb a b : Nat} {l : List Value} {w : World} (h : Gat S B0 gb l a b w) {x : Nat} (hx : x < gb) : S x := by obtain ⟨hs, vs, ns, h1⟩ := h; exact h1.s0 x hx
theorem Gat.glt {S : Nat → Prop} {B0 gb a b : Nat} {l : List Value} {w : World} (h : Gat S B0 gb l a b w) : gb < w.heap.size := by obtain ⟨hs, vs, ns, h1⟩ := h; exact h1.bg.glt
theorem addv_other {vs : Nat → List Value} {i j : Nat} {v : Value} (h : j ≠ i) : addv vs i v j = vs j := by
  unfold addv; split
  · exact up_ne _ _ h
  · rfl
set_option maxRecDepth 100000 in
set_option maxHeartbeats 3200000 in
theorem add_Bytes {K : Nat → Prop} {B0 gb : Nat} {w : World} {hs : Nat → Value} {vs : Nat → List Value} {ns : Nat → List Nat} {v : Value} {m : Nat} {xs : List Value} (h : Bg K B0 w gb hs vs ns) (ho : Own2 w B0 5 1 v m xs) (hl : m ≤ 1073741824) (hlt : ∀ g, v.ownBlock = some g → g < gb) (hnew : New vs v) :
    Calls Tryd.prog 10 #[.pointer (some ⟨gb, 0, none⟩), v] w fun e w' => e = .returned (.tuple #[]) ∧ ∃ hs' ns', Bg K B0 w' gb hs' (addv vs 0 v) ns' ∧ Keeps (fun b => b ≠ gb ∧ (hs 0).ownBlock ≠ some b) w w' ∧ ∀ j g, j < 17 → (hs' j).ownBlock = some g → (hs j).ownBlock = some g ∨ w.heap.size ≤ g := by
  obtain ⟨i1, hj, hy0, hy1, hy2⟩ := info_parts BagBytes.infoL
  obtain ⟨va, vc, rfl, _, _⟩ := ho.slice
  have H := Lib.hid h
  have HO := Lib.hid ho
  have HNEW := Lib.hid hnew
  have HLN := Lib.hid hl
  have HLT := Lib.hid hlt
  obtain ⟨a, c, hhv, _⟩ := own_slice (h.hd 0 (by decide))
  have hmx := h.mx 0
  obtain ⟨nv, hnv⟩ : ∃ nv, (vs 0).length = nv := ⟨_, rfl⟩
  rw [hnv] at hhv hmx
  have hd : w.cell? ⟨gb, 0, none⟩ = some (.slice a nv c) := by rw [← hhv]; exact row_cell h.row 0 rfl
  have hf := row_free h.row 0
  have HH := Lib.hid (And.intro hhv hnv)
  clear h ho hnew hl hlt hhv hnv
  by_cases hroom : nv < 300
  · go_enter Tryd.func10, Tryd.ntmps10
    have HA := Lib.hid ((H.out.hd 0 (by decide)).alloc (.cells #[.slice va m vc] 31))
    have hBw : gb ≤ w.heap.size := Nat.le_of_lt H.out.glt
    go_wp2_with (at_builtin; refine wpList_append_kept _ rfl _ _ 24 rfl gb 31 i1 (.slice none 0 0) 1 24 Tryd.underlying24 hj hy0 hy1 hy2 rfl (by decide) (.slice a nv c) nv (vs 0) rfl (by rw [← HH.out.1, ← HH.out.2]; exact HA.out) ⟨w.heap.size, 0, none⟩ 1 1 [.slice va m vc] rfl rfl (cell_one_new _ _ _) (by simp [Value.oneCell']) (by unfold maxLen; omega) (by omega) (by rw [World.size_alloc]; omega) ?_)
    intro hv' w3 ho hk hg
    have hne : (Value.slice a nv c).ownBlock ≠ some gb := by rw [← HH.out.1]; exact H.out.hgb 0 (by decide)
    have hrow3 := grown_block hk.grown ((Below.heap_alloc w _ gb H.out.glt).trans H.out.row) hne
    have hd3 : w3.cell? ⟨gb, 0, none⟩ = some (.slice a nv c) := by rw [← HH.out.1]; exact row_cell hrow3 0 rfl
    have hf3 := row_free hrow3 0
    have hne3 : hv'.ownBlock ≠ some gb := fun e => by
      have hlt := H.out.glt
      rcases hg gb e with h1 | h1
      · exact hne h1
      · (try rw [World.size_alloc] at h1); omega
    have hown3 := fun (u : Value) => own_keeps ho ((Keeps.refl (fun b => b ≠ gb) w3).setCell (a := ⟨gb, 0, none⟩) (by simp) u) (fun b hb e => hne3 (by rw [← e]; exact hb))
    have hkp := fun (u : Value) => ((((Keeps.refl (fun b => b ≠ gb ∧ (Value.slice a nv c).ownBlock ≠ some b) w).alloc (.cells #[.slice va m vc] 31)).grown hk.grown (fun k hk' hlt hB => hB.2 hk')).setCell (a := ⟨gb, 0, none⟩) (fun _ hB => hB.1 rfl) u)
    have hgs : ∀ g, hv'.ownBlock = some g → (Value.slice a nv c).ownBlock = some g ∨ w.heap.size ≤ g := fun g h => (hg g h).imp id fun h => by have h := h; (try rw [World.size_alloc] at h); omega
    have hge : ∀ g, (Value.slice a nv c).ownBlock = some g → gb ≤ g := fun g e => by rw [← HH.out.1] at e; exact ((H.out.hd 0 (by decide)).lt g e).1
    have HGE := Lib.hid hge
    have HK := Lib.hid (And.intro hkp hgs)
    have HX := Lib.hid (And.intro hown3 (And.intro hne3 hrow3))
    obtain ⟨a', c', rfl, _⟩ := own_slice ho
    have HADD : Hid (Bg K B0 (w3.setCell ⟨gb, 0, none⟩ (.slice a' (nv + 1) c')) gb (up hs 0 (.slice a' (nv + 1) c')) (up vs 0 (vs 0 ++ [.slice va m vc])) (up ns 0 (ns 0 ++ [m]))) := Lib.hid (H.out.add (by decide) (by rw [HH.out.2]; exact hroom) HO.out HLN.out HLT.out HNEW.out (row_setCell HX.out.2.2 0 (.slice a' (nv + 1) c')) (by rw [List.length_append, HH.out.2]; exact HX.out.1 (.slice a' (nv + 1) c')) (by rw [HH.out.1]; exact HK.out.1 _) (by rw [HH.out.1]; exact HK.out.2) HX.out.2.1)
    have HBL : Hid (Keeps (fun b => b ≠ gb ∧ (hs 0).ownBlock ≠ some b) w (w3.setCell ⟨gb, 0, none⟩ (.slice a' (nv + 1) c')) ∧ ∀ j g, j < 17 → (up hs 0 (.slice a' (nv + 1) c') j).ownBlock = some g → (hs j).ownBlock = some g ∨ w.heap.size ≤ g) := Lib.hid ⟨by rw [HH.out.1]; exact HK.out.1 (.slice a' (nv + 1) c'), fun j g _ e => by
      by_cases ej : j = 0
      · subst ej; rw [up_at] at e; rw [HH.out.1]; exact HK.out.2 g e
      · rw [up_ne _ _ ej] at e; exact .inl e⟩
    clear ho hg hk hrow3 hown3 hkp hne3 hgs hge hne
    go_wp2
    refine bodyPost_end (results_none rfl _ _ _) rfl ⟨rfl, _, up ns 0 (ns 0 ++ [m]), ?_, HBL.out⟩
    rw [addv, if_pos (by rw [HH.out.2]; exact hroom)]
    exact HADD.out
  · go_enter Tryd.func10, Tryd.ntmps10
    go_wp2
    refine bodyPost_end (results_none rfl _ _ _) rfl ⟨rfl, hs, ns, ?_, Keeps.refl _ _, fun _ _ _ e => .inl e⟩
    rw [addv, if_neg (by rw [HH.out.2]; exact hroom)]
    exact H.out
theorem gat_Bytes {S : Nat → Prop} {B0 gb a b : Nat} {l : List Value} {w : World} {v : Value} {m : Nat} {xs : List Value} (h : Gat S B0 gb l a b w) (ho : Own2 w B0 5 1 v m xs) (hl : m ≤ 1073741824) (hlt : ∀ g, v.ownBlock = some g → g < gb) (hD : Dj (l ++ [v])) :
    Calls Tryd.prog 10 #[.pointer (some ⟨gb, 0, none⟩), v] w fun e w' => e = .returned (.tuple #[]) ∧ Gat S B0 gb (l ++ [v]) a b w' ∧ Keeps S w w' := by
  obtain ⟨hs, vs, ns, h1⟩ := h
  refine (add_Bytes h1.bg ho hl hlt (New.of h1.sub hD)).mono ?_
  rintro e w' ⟨he, hs', ns', hb, hk, hg⟩
  have hkS : Keeps S w w' := hk.mono fun b _ hb => ⟨(h1.s1 b hb).2, fun e => h1.s2 0 b (by decide) e hb⟩
  refine ⟨he, ⟨hs', _, ns', hb, h1.sub.add, fun j a b c d => by rw [addv_other (by omega)]; exact h1.none j a b c d, by rw [addv_other (by omega)]; exact h1.ca, by rw [addv_other (by omega)]; exact h1.cb, h1.s0, fun b hb => ⟨Nat.lt_of_lt_of_le (h1.s1 b hb).1 hk.size, (h1.s1 b hb).2⟩, fun j g hj e hS => ?_⟩, hkS⟩
  rcases hg j g hj e with q | q
  · exact h1.s2 j g hj q hS
  · have := (h1.s1 g hS).1; omega
set_option maxRecDepth 100000 in
set_option maxHeartbeats 3200000 in
theorem add_Words {K : Nat → Prop} {B0 gb : Nat} {w : World} {hs : Nat → Value} {vs : Nat → List Value} {ns : Nat → List Nat} {v : Value} {m : Nat} {xs : List Value} (h : Bg K B0 w gb hs vs ns) (ho : Own2 w B0 63 1 v m xs) (hl : m ≤ 1073741824) (hlt : ∀ g, v.ownBlock = some g → g < gb) (hnew : New vs v) :
    Calls Tryd.prog 66 #[.pointer (some ⟨gb, 0, none⟩), v] w fun e w' => e = .returned (.tuple #[]) ∧ ∃ hs' ns', Bg K B0 w' gb hs' (addv vs 3 v) ns' ∧ Keeps (fun b => b ≠ gb ∧ (hs 3).ownBlock ≠ some b) w w' ∧ ∀ j g, j < 17 → (hs' j).ownBlock = some g → (hs j).ownBlock = some g ∨ w.heap.size ≤ g := by
  obtain ⟨i1, hj, hy0, hy1, hy2⟩ := info_parts BagWords.infoL
  obtain ⟨va, vc, rfl, _, _⟩ := ho.slice
  have H := Lib.hid h
  have HO := Lib.hid ho
  have HNEW := Lib.hid hnew
  have HLN := Lib.hid hl
  have HLT := Lib.hid hlt
  obtain ⟨a, c, hhv, _⟩ := own_slice (h.hd 3 (by decide))
  have hmx := h.mx 3
  obtain ⟨nv, hnv⟩ : ∃ nv, (vs 3).length = nv := ⟨_, rfl⟩
  rw [hnv] at hhv hmx
  have hd : w.cell? ⟨gb, 3, none⟩ = some (.slice a nv c) := by rw [← hhv]; exact row_cell h.row 3 rfl
  have hf := row_free h.row 3
  have HH := Lib.hid (And.intro hhv hnv)
  clear h ho hnew hl hlt hhv hnv
  by_cases hroom : nv < 300
  · go_enter Tryd.func66, Tryd.ntmps66
    have HA := Lib.hid ((H.out.hd 3 (by decide)).alloc (.cells #[.slice va m vc] 23))
    have hBw : gb ≤ w.heap.size := Nat.le_of_lt H.out.glt
    go_wp2_with (at_builtin; refine wpList_append_kept _ rfl _ _ 38 rfl gb 23 i1 (.slice none 0 0) 1 24 Tryd.underlying38 hj hy0 hy1 hy2 rfl (by decide) (.slice a nv c) nv (vs 3) rfl (by rw [← HH.out.1, ← HH.out.2]; exact HA.out) ⟨w.heap.size, 0, none⟩ 1 1 [.slice va m vc] rfl rfl (cell_one_new _ _ _) (by simp [Value.oneCell']) (by unfold maxLen; omega) (by omega) (by rw [World.size_alloc]; omega) ?_)
    intro hv' w3 ho hk hg
    have hne : (Value.slice a nv c).ownBlock ≠ some gb := by rw [← HH.out.1]; exact H.out.hgb 3 (by decide)
    have hrow3 := grown_block hk.grown ((Below.heap_alloc w _ gb H.out.glt).trans H.out.row) hne
    have hd3 : w3.cell? ⟨gb, 3, none⟩ = some (.slice a nv c) := by rw [← HH.out.1]; exact row_cell hrow3 3 rfl
    have hf3 := row_free hrow3 3
    have hne3 : hv'.ownBlock ≠ some gb := fun e => by
      have hlt := H.out.glt
      rcases hg gb e with h1 | h1
      · exact hne h1
      · (try rw [World.size_alloc] at h1); omega
    have hown3 := fun (u : Value) => own_keeps ho ((Keeps.refl (fun b => b ≠ gb) w3).setCell (a := ⟨gb, 3, none⟩) (by simp) u) (fun b hb e => hne3 (by rw [← e]; exact hb))
    have hkp := fun (u : Value) => ((((Keeps.refl (fun b => b ≠ gb ∧ (Value.slice a nv c).ownBlock ≠ some b) w).alloc (.cells #[.slice va m vc] 23)).grown hk.grown (fun k hk' hlt hB => hB.2 hk')).setCell (a := ⟨gb, 3, none⟩) (fun _ hB => hB.1 rfl) u)
    have hgs : ∀ g, hv'.ownBlock = some g → (Value.slice a nv c).ownBlock = some g ∨ w.heap.size ≤ g := fun g h => (hg g h).imp id fun h => by have h := h; (try rw [World.size_alloc] at h); omega
    have hge : ∀ g, (Value.slice a nv c).ownBlock = some g → gb ≤ g := fun g e => by rw [← HH.out.1] at e; exact ((H.out.hd 3 (by decide)).lt g e).1
    have HGE := Lib.hid hge
    have HK := Lib.hid (And.intro hkp hgs)
    have HX := Lib.hid (And.intro hown3 (And.intro hne3 hrow3))
    obtain ⟨a', c', rfl, _⟩ := own_slice ho
    have HADD : Hid (Bg K B0 (w3.setCell ⟨gb, 3, none⟩ (.slice a' (nv + 1) c')) gb (up hs 3 (.slice a' (nv + 1) c')) (up vs 3 (vs 3 ++ [.slice va m vc])) (up ns 3 (ns 3 ++ [m]))) := Lib.hid (H.out.add (by decide) (by rw [HH.out.2]; exact hroom) HO.out HLN.out HLT.out HNEW.out (row_setCell HX.out.2.2 3 (.slice a' (nv + 1) c')) (by rw [List.length_append, HH.out.2]; exact HX.out.1 (.slice a' (nv + 1) c')) (by rw [HH.out.1]; exact HK.out.1 _) (by rw [HH.out.1]; exact HK.out.2) HX.out.2.1)
    have HBL : Hid (Keeps (fun b => b ≠ gb ∧ (hs 3).ownBlock ≠ some b) w (w3.setCell ⟨gb, 3, none⟩ (.slice a' (nv + 1) c')) ∧ ∀ j g, j < 17 → (up hs 3 (.slice a' (nv + 1) c') j).ownBlock = some g → (hs j).ownBlock = some g ∨ w.heap.size ≤ g) := Lib.hid ⟨by rw [HH.out.1]; exact HK.out.1 (.slice a' (nv + 1) c'), fun j g _ e => by
      by_cases ej : j = 3
      · subst ej; rw [up_at] at e; rw [HH.out.1]; exact HK.out.2 g e
      · rw [up_ne _ _ ej] at e; exact .inl e⟩
    clear ho hg hk hrow3 hown3 hkp hne3 hgs hge hne
    go_wp2
    refine bodyPost_end (results_none rfl _ _ _) rfl ⟨rfl, _, up ns 3 (ns 3 ++ [m]), ?_, HBL.out⟩
    rw [addv, if_pos (by rw [HH.out.2]; exact hroom)]
    exact HADD.out
  · go_enter Tryd.func66, Tryd.ntmps66
    go_wp2
    refine bodyPost_end (results_none rfl _ _ _) rfl ⟨rfl, hs, ns, ?_, Keeps.refl _ _, fun _ _ _ e => .inl e⟩
    rw [addv, if_neg (by rw [HH.out.2]; exact hroom)]
    exact H.out
theorem gat_Words {S : Nat → Prop} {B0 gb a b : Nat} {l : List Value} {w : World} {v : Value} {m : Nat} {xs : List Value} (h : Gat S B0 gb l a b w) (ho : Own2 w B0 63 1 v m xs) (hl : m ≤ 1073741824) (hlt : ∀ g, v.ownBlock = some g → g < gb) (hD : Dj (l ++ [v])) :
    Calls Tryd.prog 66 #[.pointer (some ⟨gb, 0, none⟩), v] w fun e w' => e = .returned (.tuple #[]) ∧ Gat S B0 gb (l ++ [v]) a b w' ∧ Keeps S w w' := by
  obtain ⟨hs, vs, ns, h1⟩ := h
  refine (add_Words h1.bg ho hl hlt (New.of h1.sub hD)).mono ?_
  rintro e w' ⟨he, hs', ns', hb, hk, hg⟩
  have hkS : Keeps S w w' := hk.mono fun b _ hb => ⟨(h1.s1 b hb).2, fun e => h1.s2 3 b (by decide) e hb⟩
  refine ⟨he, ⟨hs', _, ns', hb, h1.sub.add, fun j a b c d => by rw [addv_other (by omega)]; exact h1.none j a b c d, by rw [addv_other (by omega)]; exact h1.ca, by rw [addv_other (by omega)]; exact h1.cb, h1.s0, fun b hb => ⟨Nat.lt_of_lt_of_le (h1.s1 b hb).1 hk.size, (h1.s1 b hb).2⟩, fun j g hj e hS => ?_⟩, hkS⟩
  rcases hg j g hj e with q | q
  · exact h1.s2 j g hj q hS
  · have := (h1.s1 g hS).1; omega
/-- The lists in frames. -/
def inn (xs : List Fq) : List Value := xs.flatMap fun x => [x.2.1, x.2.2]
theorem inn_step {xs : List Fq} {k : Nat} (h : k < xs.length) : inn (xs.take (k + 1)) = inn (xs.take k) ++ [xs[k].2.1, xs[k].2.2] := by
  rw [inn, List.take_succ_eq_append_getElem h, List.flatMap_append]; simp [inn]
theorem inn_split {xs : List Fq} {k : Nat} (h : k < xs.length) : inn xs = inn (xs.take k) ++ [xs[k].2.1] ++ [xs[k].2.2] ++ inn (xs.drop (k + 1)) := by
  have e : xs = xs.take k ++ xs[k] :: xs.drop (k + 1) := by rw [← List.drop_eq_getElem_cons h, List.take_append_drop]
  unfold inn
  conv => lhs; rw [e]
  simp only [List.flatMap_append, List.flatMap_cons, List.append_assoc, List.cons_append, List.nil_append]
theorem mem_inn {xs : List Fq} {x : Fq} (h : x ∈ xs) : x.2.1 ∈ inn xs ∧ x.2.2 ∈ inn xs := by
  unfold inn; simp only [List.mem_flatMap]
  exact ⟨⟨x, h, by simp⟩, ⟨x, h, by simp⟩⟩
set_option maxRecDepth 100000 in
set_option maxHeartbeats 3200000 in
theorem gat_Frame {S : Nat → Prop} {B0 gb a b : Nat} {l : List Value} {w : World} {fn pc : Int} {lv sv : Value} {l1 l2 : List Int} (h : Gat S B0 gb l a b w) (h1 : w.ownsRow B0 63 1 lv l1.length (l1.map (Value.int .u64))) (h2 : w.ownsRow B0 63 1 sv l2.length (l2.map (Value.int .u64)))
    (hl : l1.length ≤ 1073741824 ∧ l2.length ≤ 1073741824) (hlt : (∀ g, lv.ownBlock = some g → g < gb) ∧ ∀ g, sv.ownBlock = some g → g < gb) (hD : Dj (l ++ [lv] ++ [sv])) :
    Calls Tryd.prog 77 #[.pointer (some ⟨gb, 0, none⟩), .agg #[.int .i64 fn, .int .i64 pc, lv, sv]] w fun e w' => e = .returned (.tuple #[]) ∧ Gat S B0 gb (l ++ [lv] ++ [sv]) a b w' ∧ Keeps S w w' := by
  obtain ⟨la, lc, rfl, _⟩ := own_slice h1
  obtain ⟨sa, sc, rfl, _⟩ := own_slice h2
  have hb1 := below_alloc w (.cells #[.int .i64 fn, .int .i64 pc, .slice la l1.length lc, .slice sa l2.length sc] 66)
  have hr1 := heap_alloc_new w (.cells #[.int .i64 fn, .int .i64 pc, .slice la l1.length lc, .slice sa l2.length sc] 66)
  have HG1 := Lib.hid (h.more (.cells #[.int .i64 fn, .int .i64 pc, .slice la l1.length lc, .slice sa l2.length sc] 66))
  have HS0 := Lib.hid (fun x (hx : x < gb) => h.low hx)
  have HO1 := Lib.hid (own_below h1 hb1)
  have HO2 := Lib.hid (own_below h2 hb1)
  have HK1 : Hid (Keeps S w (w.alloc (.cells #[.int .i64 fn, .int .i64 pc, .slice la l1.length lc, .slice sa l2.length sc] 66))) := Lib.hid (Keeps.all S hb1)
  have HR1 := Lib.hid hr1; have HL := Lib.hid hl; have HLT := Lib.hid hlt; have HD := Lib.hid hD
  have x2 := row_cell hr1 2 rfl
  simp only [List.getElem_toArray, List.getElem_cons_zero, List.getElem_cons_succ] at x2
  clear h h1 h2 hb1 hr1 hl hlt hD
  go_enter Tryd.func77, Tryd.ntmps77
  go_wp2_with fail
  generalize w.alloc (.cells #[.int .i64 fn, .int .i64 pc, .slice la l1.length lc, .slice sa l2.length sc] 66) = w1 at *
  generalize w.heap.size = bx at *
  refine (gat_Words HG1.out (.inl HO1.out) HL.out.1 HLT.out.1 (Dj.left HD.out)).mono ?_
  rintro e w2 ⟨rfl, hg2, hk2⟩
  have HG2 := Lib.hid hg2
  have HK2 := Lib.hid (HK1.out.trans (hk2.mono fun x _ h => .inl h))
  have HO3 := Lib.hid (own_keeps HO2.out hk2 fun g e => .inl (HS0.out g (HLT.out.2 g e)))
  have x3 := row_cell ((hk2.block bx (row_lt HR1.out) (.inr rfl)).trans HR1.out) 3 rfl
  simp only [List.getElem_toArray, List.getElem_cons_zero, List.getElem_cons_succ] at x3
  clear hg2 hk2 x2
  go_wp2_with fail
  refine (gat_Words HG2.out (.inl HO3.out) HL.out.2 HLT.out.2 HD.out).mono ?_
  rintro e w3 ⟨rfl, hg3, hk3⟩
  have HG3 := Lib.hid (hg3.less (fun x h => .inl h) HS0.out)
  have HK3 := Lib.hid (HK2.out.trans (hk3.mono fun x _ h => .inl h))
  clear hg3 hk3 x3
  go_wp2
  exact bodyPost_end (results_none rfl _ _ _) rfl ⟨rfl, HG3.out, HK3.out⟩
set_option maxRecDepth 100000 in
set_option maxHeartbeats 6400000 in
theorem gat_Frames {S : Nat → Prop} {B0 gb ka kb : Nat} {l : List Value} {w : World} {v : Value} {xs : List Fq} (h : Gat S B0 gb l ka kb w) (hcnt : ka < 300) (ho : w.ownsRow B0 66 4 v xs.length (frqs xs)) (hin : ∀ x ∈ xs, w.ownsRow B0 63 1 x.2.1 x.1.loc.length (x.1.loc.map (Value.int .u64)) ∧ w.ownsRow B0 63 1 x.2.2 x.1.stk.length (x.1.stk.map (Value.int .u64)) ∧ x.1.loc.length ≤ 1073741824 ∧ x.1.stk.length ≤ 1073741824) (hnx : xs.length ≤ 300)
    (hlt0 : ∀ u ∈ [v] ++ inn xs, ∀ g, u.ownBlock = some g → g < gb) (hD : Dj (l ++ [v] ++ inn xs)) :
    Calls Tryd.prog 65 #[.pointer (some ⟨gb, 0, none⟩), v] w fun e w' => e = .returned (.tuple #[]) ∧ Gat S B0 gb (l ++ [v] ++ inn xs) (ka + 1) kb w' ∧ Keeps S w w' := by
  have HIN := Lib.hid hin
  have HOW := Lib.hid ho
  clear hin
  have HD := Lib.hid hD
  have HLT0 := Lib.hid hlt0
  obtain ⟨hs, vs, ns, h0⟩ := h
  have HG0 := Lib.hid h0
  have h := h0.bg
  have ho2 : Own2 w B0 66 4 v xs.length _ := .inl ho
  have hl : xs.length ≤ 1073741824 := by omega
  have hlt : ∀ g, v.ownBlock = some g → g < gb := fun g e => hlt0 v (by simp) g e
  have hnew : New vs v := New.of h0.sub (Dj.left hD)
  have HS0 : Hid (∀ x, x < gb → S x) := Lib.hid h0.s0
  clear h0 hD ho hlt0
  have ho := ho2
  clear ho2
  generalize hm : xs.length = m at *
  have HM := Lib.hid hm; clear hm
  obtain ⟨i1, hj, hy0, hy1, hy2⟩ := info_parts BagFrames.infoL
  obtain ⟨va, vc, rfl, _, _⟩ := ho.slice
  have H := Lib.hid h
  have HO := Lib.hid ho
  have HNEW := Lib.hid hnew
  have HLN := Lib.hid hl
  have HLT := Lib.hid hlt
  obtain ⟨a, c, hhv, _⟩ := own_slice (h.hd 13 (by decide))
  have hmx := h.mx 13
  obtain ⟨nv, hnv⟩ : ∃ nv, (vs 13).length = nv := ⟨_, rfl⟩
  rw [hnv] at hhv hmx
  have hd : w.cell? ⟨gb, 13, none⟩ = some (.slice a nv c) := by rw [← hhv]; exact row_cell h.row 13 rfl
  have hf := row_free h.row 13
  have HH := Lib.hid (And.intro hhv hnv)
  clear h ho hnew hl hlt hhv hnv
  have hroom : nv < 300 := by have := HH.out.2; have := HG0.out.ca; omega
  have HGS := Lib.hid (fun (w4 : World) (h' : Value) (hb : Bg (fun _ => True) B0 w4 gb (up hs 13 h') (up vs 13 (vs 13 ++ [.slice va m vc])) (up ns 13 (ns 13 ++ [m]))) (hk : Keeps (fun b => b ≠ gb ∧ (hs 13).ownBlock ≠ some b) w w4 ∧ ∀ j g, j < 17 → (up hs 13 h' j).ownBlock = some g → (hs j).ownBlock = some g ∨ w.heap.size ≤ g) =>
    show Gat S B0 gb (l ++ [.slice va m vc]) (ka + 1) kb w4 ∧ Keeps S w w4 from by
      have q := HG0.out
      have hkS : Keeps S w w4 := hk.1.mono fun b _ hb => ⟨(q.s1 b hb).2, fun e => q.s2 13 b (by decide) e hb⟩
      have hr : (vs 13).length < 300 := by rw [HH.out.2]; exact hroom
      have e : addv vs 13 (.slice va m vc) = up vs 13 (vs 13 ++ [.slice va m vc]) := if_pos hr
      refine ⟨⟨_, _, _, hb, by rw [← e]; exact q.sub.add, fun j a b c d => by rw [up_ne _ _ (by omega)]; exact q.none j a b c d, ?_, ?_, q.s0, fun b hb => ⟨Nat.lt_of_lt_of_le (q.s1 b hb).1 hk.1.size, (q.s1 b hb).2⟩, fun j g hj e hS => ?_⟩, hkS⟩
      · rw [up_at]; simp [q.ca]
      · rw [up_ne _ _ (by omega)]; exact q.cb
      · rcases hk.2 j g hj e with q' | q'
        · exact q.s2 j g hj q' hS
        · have := (q.s1 g hS).1; omega)
  go_enter Tryd.func65, Tryd.ntmps65
  have HA := Lib.hid ((H.out.hd 13 (by decide)).alloc (.cells #[.slice va m vc] 22))
  have hBw : gb ≤ w.heap.size := Nat.le_of_lt H.out.glt
  go_wp2_with (at_builtin; refine wpList_append_kept _ rfl _ _ 48 rfl gb 22 i1 (.slice none 0 0) 1 24 Tryd.underlying48 hj hy0 hy1 hy2 rfl (by decide) (.slice a nv c) nv (vs 13) rfl (by rw [← HH.out.1, ← HH.out.2]; exact HA.out) ⟨w.heap.size, 0, none⟩ 1 1 [.slice va m vc] rfl rfl (cell_one_new _ _ _) (by simp [Value.oneCell']) (by unfold maxLen; omega) (by omega) (by rw [World.size_alloc]; omega) ?_)
  intro hv' w3 ho hk hg
  have hne : (Value.slice a nv c).ownBlock ≠ some gb := by rw [← HH.out.1]; exact H.out.hgb 13 (by decide)
  have hrow3 := grown_block hk.grown ((Below.heap_alloc w _ gb H.out.glt).trans H.out.row) hne
  have hd3 : w3.cell? ⟨gb, 13, none⟩ = some (.slice a nv c) := by rw [← HH.out.1]; exact row_cell hrow3 13 rfl
  have hf3 := row_free hrow3 13
  have hne3 : hv'.ownBlock ≠ some gb := fun e => by
    have hlt := H.out.glt
    rcases hg gb e with h1 | h1
    · exact hne h1
    · (try rw [World.size_alloc] at h1); omega
  have hown3 := fun (u : Value) => own_keeps ho ((Keeps.refl (fun b => b ≠ gb) w3).setCell (a := ⟨gb, 13, none⟩) (by simp) u) (fun b hb e => hne3 (by rw [← e]; exact hb))
  have hkp := fun (u : Value) => ((((Keeps.refl (fun b => b ≠ gb ∧ (Value.slice a nv c).ownBlock ≠ some b) w).alloc (.cells #[.slice va m vc] 22)).grown hk.grown (fun k hk' hlt hB => hB.2 hk')).setCell (a := ⟨gb, 13, none⟩) (fun _ hB => hB.1 rfl) u)
  have hgs : ∀ g, hv'.ownBlock = some g → (Value.slice a nv c).ownBlock = some g ∨ w.heap.size ≤ g := fun g h => (hg g h).imp id fun h => by have h := h; (try rw [World.size_alloc] at h); omega
  have hge : ∀ g, (Value.slice a nv c).ownBlock = some g → gb ≤ g := fun g e => by rw [← HH.out.1] at e; exact ((H.out.hd 13 (by decide)).lt g e).1
  have HGE := Lib.hid hge
  have HK := Lib.hid (And.intro hkp hgs)
  have HX := Lib.hid (And.intro hown3 (And.intro hne3 hrow3))
  obtain ⟨a', c', rfl, _⟩ := own_slice ho
  have HADD : Hid (Bg (fun _ => True) B0 (w3.setCell ⟨gb, 13, none⟩ (.slice a' (nv + 1) c')) gb (up hs 13 (.slice a' (nv + 1) c')) (up vs 13 (vs 13 ++ [.slice va m vc])) (up ns 13 (ns 13 ++ [m]))) := Lib.hid (H.out.add (by decide) (by rw [HH.out.2]; exact hroom) HO.out HLN.out HLT.out HNEW.out (row_setCell HX.out.2.2 13 (.slice a' (nv + 1) c')) (by rw [List.length_append, HH.out.2]; exact HX.out.1 (.slice a' (nv + 1) c')) (by rw [HH.out.1]; exact HK.out.1 _) (by rw [HH.out.1]; exact HK.out.2) HX.out.2.1)
  have HBL : Hid (Keeps (fun b => b ≠ gb ∧ (hs 13).ownBlock ≠ some b) w (w3.setCell ⟨gb, 13, none⟩ (.slice a' (nv + 1) c')) ∧ ∀ j g, j < 17 → (up hs 13 (.slice a' (nv + 1) c') j).ownBlock = some g → (hs j).ownBlock = some g ∨ w.heap.size ≤ g) := Lib.hid ⟨by rw [HH.out.1]; exact HK.out.1 (.slice a' (nv + 1) c'), fun j g _ e => by
    by_cases ej : j = 13
    · subst ej; rw [up_at] at e; rw [HH.out.1]; exact HK.out.2 g e
    · rw [up_ne _ _ ej] at e; exact .inl e⟩
  clear ho hg hk hrow3 hown3 hkp hne3 hgs hge hne
  go_upto_region 2 with fail
  have HGA := Lib.hid (HGS.out _ _ HADD.out HBL.out)
  generalize w3.setCell ⟨gb, 13, none⟩ (.slice a' (nv + 1) c') = w4 at *
  have HG4 : Hid (Gat S B0 gb (l ++ [.slice va m vc] ++ inn (xs.take 0)) (ka + 1) kb w4) := Lib.hid (by simpa [inn] using HGA.out.1)
  have HK4 : Hid (Keeps S w w4) := Lib.hid HGA.out.2
  clear HGA HGS HADD HBL HK HX HA hd hf hd3 hf3 HG0 H HNEW HO
  go_wp2
  go_loopw [4] (fun i wr => ∃ k : Nat, k ≤ m ∧ i = .int .i64 k ∧ Hid (Gat S B0 gb (l ++ [.slice va m vc] ++ inn (xs.take k)) (ka + 1) kb wr) ∧ Hid (Keeps S w wr)) (fun i _ => m - (intOf i).toNat)
  case atStart => exact ⟨0, by omega, rfl, HG4, HK4⟩
  case round =>
    clear HG4 HK4
    obtain ⟨k, hk, rfl, HG, HK⟩ := hrel
    by_cases hlt : k < m
    · have hkx : k < xs.length := by rw [HM.out]; exact hlt
      obtain ⟨g, cap, ev, hgB, hgl⟩ := HOW.out.form (by omega)
      have hva : va = some ⟨g, 0, none⟩ := by
        simp only [Value.slice.injEq] at ev
        exact ev.1
      subst hva
      have hgS : S g := HS0.out g (HLT.out g rfl)
      have HC : Hid (∀ j u, (frqs xs)[j]? = some u → wr.cell? ⟨g, j, none⟩ = some u) := Lib.hid fun j u hu => HK.out.cell (own_at HOW.out rfl hu) hgS
      clear ev
      have hk3 : (k : Int) < 300 := by omega
      have c4 : ∀ c u, c < 4 → (frq xs[k])[c]? = some u → wr.cell? ⟨g, k * 4 + c, none⟩ = some u := fun c u hc hu => HC.out _ _ (by rw [frqs_get xs k c hc, List.getElem?_eq_getElem hkx]; exact hu)
      have x0 := c4 0 _ (by decide) rfl; have x1 := c4 1 _ (by decide) rfl; have x2 := c4 2 _ (by decide) rfl; have x3 := c4 3 _ (by decide) rfl
      simp only [Nat.add_zero] at x0
      obtain ⟨i1, i2, i3, i4⟩ := HIN.out xs[k] (List.getElem_mem _)
      have hmm := mem_inn (List.getElem_mem hkx)
      have l1 : ∀ g, xs[k].2.1.ownBlock = some g → g < gb := fun g e => HLT0.out _ (by simp [hmm.1]) g e
      have l2 : ∀ g, xs[k].2.2.ownBlock = some g → g < gb := fun g e => HLT0.out _ (by simp [hmm.2]) g e
      have hDk : Dj (l ++ [.slice (some ⟨g, 0, none⟩) m vc] ++ inn (xs.take k) ++ [xs[k].2.1] ++ [xs[k].2.2]) := by
        have := HD.out
        rw [inn_split hkx] at this
        exact Dj.left (b := inn (xs.drop (k + 1))) (by simpa using this)
      have HSTEP := Lib.hid (gat_Frame (fn := xs[k].1.fn) (pc := xs[k].1.pc) HG.out (own_keeps i1 HK.out fun g e => HS0.out g (l1 g e)) (own_keeps i2 HK.out fun g e => HS0.out g (l2 g e)) ⟨i3, i4⟩ ⟨l1, l2⟩ hDk)
      have HN : Hid (l ++ [.slice (some ⟨g, 0, none⟩) m vc] ++ inn (xs.take (k + 1)) = l ++ [.slice (some ⟨g, 0, none⟩) m vc] ++ inn (xs.take k) ++ [xs[k].2.1] ++ [xs[k].2.2]) := Lib.hid (by rw [inn_step hkx]; simp)
      clear i1 i2 i3 i4 hmm l1 l2 hDk c4
      generalize xs[k] = y at *
      obtain ⟨⟨yf, yp, yl, ys⟩, yu, yv⟩ := y
      go_wp2_with fail
      refine HSTEP.out.mono ?_
      rintro e w5 ⟨rfl, hg5, hk5⟩
      have HG5 : Hid (Gat S B0 gb (l ++ [.slice (some ⟨g, 0, none⟩) m vc] ++ inn (xs.take (k + 1))) (ka + 1) kb w5) := Lib.hid (by have := HN.out; rw [this]; exact hg5)
      have HK5 := Lib.hid (HK.out.trans hk5)
      clear hg5 hk5 HSTEP HN HC
      go_wp2
      go_roundw
      case rel => exact ⟨k + 1, by omega, by go_num, HG5, HK5⟩
      case measure => simp [intOf]; omega
    · obtain rfl : k = m := by omega
      have HGF : Hid (Gat S B0 gb (l ++ [.slice va k vc] ++ inn xs) (ka + 1) kb wr) := Lib.hid (by have := HG.out; rwa [List.take_of_length_le (by rw [HM.out]; exact Nat.le_refl _)] at this)
      have hkk : decide ((k : Int) < (k : Int)) = false := by simp
      go_wp2
      exact bodyPost_end (results_none rfl _ _ _) rfl ⟨rfl, HGF.out, HK.out⟩
set_option maxRecDepth 100000 in
set_option maxHeartbeats 6400000 in
theorem gat_Pages {S : Nat → Prop} {B0 gb ka kb : Nat} {l : List Value} {w : World} {v : Value} {xs : List Nat} {ps : List (List Int)} (h : Gat S B0 gb l ka kb w) (hcnt : kb < 300) (hp : PgOwn B0 w v xs ps) (hnx : xs.length ≤ 300)
    (hlt0 : ∀ u ∈ [v] ++ xs.map pgv, ∀ g, u.ownBlock = some g → g < gb) (hD : Dj (l ++ [v] ++ xs.map pgv)) :
    Calls Tryd.prog 67 #[.pointer (some ⟨gb, 0, none⟩), v] w fun e w' => e = .returned (.tuple #[]) ∧ Gat S B0 gb (l ++ [v] ++ xs.map pgv) ka (kb + 1) w' ∧ Keeps S w w' := by
  have HP := Lib.hid hp
  have ho := hp.own
  have HOW := Lib.hid ho
  clear hp
  have HD := Lib.hid hD
  have HLT0 := Lib.hid hlt0
  obtain ⟨hs, vs, ns, h0⟩ := h
  have HG0 := Lib.hid h0
  have h := h0.bg
  have ho2 : Own2 w B0 31 1 v xs.length _ := .inl ho
  have hl : xs.length ≤ 1073741824 := by omega
  have hlt : ∀ g, v.ownBlock = some g → g < gb := fun g e => hlt0 v (by simp) g e
  have hnew : New vs v := New.of h0.sub (Dj.left hD)
  have HS0 : Hid (∀ x, x < gb → S x) := Lib.hid h0.s0
  clear h0 hD ho hlt0
  have ho := ho2
  clear ho2
  generalize hm : xs.length = m at *
  have HM := Lib.hid hm; clear hm
  obtain ⟨i1, hj, hy0, hy1, hy2⟩ := info_parts BagPages.infoL
  obtain ⟨va, vc, rfl, _, _⟩ := ho.slice
  have H := Lib.hid h
  have HO := Lib.hid ho
  have HNEW := Lib.hid hnew
  have HLN := Lib.hid hl
  have HLT := Lib.hid hlt
  obtain ⟨a, c, hhv, _⟩ := own_slice (h.hd 15 (by decide))
  have hmx := h.mx 15
  obtain ⟨nv, hnv⟩ : ∃ nv, (vs 15).length = nv := ⟨_, rfl⟩
  rw [hnv] at hhv hmx
  have hd : w.cell? ⟨gb, 15, none⟩ = some (.slice a nv c) := by rw [← hhv]; exact row_cell h.row 15 rfl
  have hf := row_free h.row 15
  have HH := Lib.hid (And.intro hhv hnv)
  clear h ho hnew hl hlt hhv hnv
  have hroom : nv < 300 := by have := HH.out.2; have := HG0.out.cb; omega
  have HGS := Lib.hid (fun (w4 : World) (h' : Value) (hb : Bg (fun _ => True) B0 w4 gb (up hs 15 h') (up vs 15 (vs 15 ++ [.slice va m vc])) (up ns 15 (ns 15 ++ [m]))) (hk : Keeps (fun b => b ≠ gb ∧ (hs 15).ownBlock ≠ some b) w w4 ∧ ∀ j g, j < 17 → (up hs 15 h' j).ownBlock = some g → (hs j).ownBlock = some g ∨ w.heap.size ≤ g) =>
    show Gat S B0 gb (l ++ [.slice va m vc]) ka (kb + 1) w4 ∧ Keeps S w w4 from by
      have q := HG0.out
      have hkS : Keeps S w w4 := hk.1.mono fun b _ hb => ⟨(q.s1 b hb).2, fun e => q.s2 15 b (by decide) e hb⟩
      have hr : (vs 15).length < 300 := by rw [HH.out.2]; exact hroom
      have e : addv vs 15 (.slice va m vc) = up vs 15 (vs 15 ++ [.slice va m vc]) := if_pos hr
      refine ⟨⟨_, _, _, hb, by rw [← e]; exact q.sub.add, fun j a b c d => by rw [up_ne _ _ (by omega)]; exact q.none j a b c d, ?_, ?_, q.s0, fun b hb => ⟨Nat.lt_of_lt_of_le (q.s1 b hb).1 hk.1.size, (q.s1 b hb).2⟩, fun j g hj e hS => ?_⟩, hkS⟩
      · rw [up_ne _ _ (by omega)]; exact q.ca
      · rw [up_at]; simp [q.cb]
      · rcases hk.2 j g hj e with q' | q'
        · exact q.s2 j g hj q' hS
        · have := (q.s1 g hS).1; omega)
  go_enter Tryd.func67, Tryd.ntmps67
  have HA := Lib.hid ((H.out.hd 15 (by decide)).alloc (.cells #[.slice va m vc] 24))
  have hBw : gb ≤ w.heap.size := Nat.le_of_lt H.out.glt
  go_wp2_with (at_builtin; refine wpList_append_kept _ rfl _ _ 50 rfl gb 24 i1 (.slice none 0 0) 1 24 Tryd.underlying50 hj hy0 hy1 hy2 rfl (by decide) (.slice a nv c) nv (vs 15) rfl (by rw [← HH.out.1, ← HH.out.2]; exact HA.out) ⟨w.heap.size, 0, none⟩ 1 1 [.slice va m vc] rfl rfl (cell_one_new _ _ _) (by simp [Value.oneCell']) (by unfold maxLen; omega) (by omega) (by rw [World.size_alloc]; omega) ?_)
  intro hv' w3 ho hk hg
  have hne : (Value.slice a nv c).ownBlock ≠ some gb := by rw [← HH.out.1]; exact H.out.hgb 15 (by decide)
  have hrow3 := grown_block hk.grown ((Below.heap_alloc w _ gb H.out.glt).trans H.out.row) hne
  have hd3 : w3.cell? ⟨gb, 15, none⟩ = some (.slice a nv c) := by rw [← HH.out.1]; exact row_cell hrow3 15 rfl
  have hf3 := row_free hrow3 15
  have hne3 : hv'.ownBlock ≠ some gb := fun e => by
    have hlt := H.out.glt
    rcases hg gb e with h1 | h1
    · exact hne h1
    · (try rw [World.size_alloc] at h1); omega
  have hown3 := fun (u : Value) => own_keeps ho ((Keeps.refl (fun b => b ≠ gb) w3).setCell (a := ⟨gb, 15, none⟩) (by simp) u) (fun b hb e => hne3 (by rw [← e]; exact hb))
  have hkp := fun (u : Value) => ((((Keeps.refl (fun b => b ≠ gb ∧ (Value.slice a nv c).ownBlock ≠ some b) w).alloc (.cells #[.slice va m vc] 24)).grown hk.grown (fun k hk' hlt hB => hB.2 hk')).setCell (a := ⟨gb, 15, none⟩) (fun _ hB => hB.1 rfl) u)
  have hgs : ∀ g, hv'.ownBlock = some g → (Value.slice a nv c).ownBlock = some g ∨ w.heap.size ≤ g := fun g h => (hg g h).imp id fun h => by have h := h; (try rw [World.size_alloc] at h); omega
  have hge : ∀ g, (Value.slice a nv c).ownBlock = some g → gb ≤ g := fun g e => by rw [← HH.out.1] at e; exact ((H.out.hd 15 (by decide)).lt g e).1
  have HGE := Lib.hid hge
  have HK := Lib.hid (And.intro hkp hgs)
  have HX := Lib.hid (And.intro hown3 (And.intro hne3 hrow3))
  obtain ⟨a', c', rfl, _⟩ := own_slice ho
  have HADD : Hid (Bg (fun _ => True) B0 (w3.setCell ⟨gb, 15, none⟩ (.slice a' (nv + 1) c')) gb (up hs 15 (.slice a' (nv + 1) c')) (up vs 15 (vs 15 ++ [.slice va m vc])) (up ns 15 (ns 15 ++ [m]))) := Lib.hid (H.out.add (by decide) (by rw [HH.out.2]; exact hroom) HO.out HLN.out HLT.out HNEW.out (row_setCell HX.out.2.2 15 (.slice a' (nv + 1) c')) (by rw [List.length_append, HH.out.2]; exact HX.out.1 (.slice a' (nv + 1) c')) (by rw [HH.out.1]; exact HK.out.1 _) (by rw [HH.out.1]; exact HK.out.2) HX.out.2.1)
  have HBL : Hid (Keeps (fun b => b ≠ gb ∧ (hs 15).ownBlock ≠ some b) w (w3.setCell ⟨gb, 15, none⟩ (.slice a' (nv + 1) c')) ∧ ∀ j g, j < 17 → (up hs 15 (.slice a' (nv + 1) c') j).ownBlock = some g → (hs j).ownBlock = some g ∨ w.heap.size ≤ g) := Lib.hid ⟨by rw [HH.out.1]; exact HK.out.1 (.slice a' (nv + 1) c'), fun j g _ e => by
    by_cases ej : j = 15
    · subst ej; rw [up_at] at e; rw [HH.out.1]; exact HK.out.2 g e
    · rw [up_ne _ _ ej] at e; exact .inl e⟩
  clear ho hg hk hrow3 hown3 hkp hne3 hgs hge hne
  go_upto_region 2 with fail
  have HGA := Lib.hid (HGS.out _ _ HADD.out HBL.out)
  generalize w3.setCell ⟨gb, 15, none⟩ (.slice a' (nv + 1) c') = w4 at *
  have HG4 : Hid (Gat S B0 gb (l ++ [.slice va m vc] ++ (xs.take 0).map pgv) ka (kb + 1) w4) := Lib.hid (by simpa using HGA.out.1)
  have HK4 : Hid (Keeps S w w4) := Lib.hid HGA.out.2
  clear HGA HGS HADD HBL HK HX HA hd hf hd3 hf3 HG0 H HNEW HO
  go_wp2
  go_loopw [4] (fun i wr => ∃ k : Nat, k ≤ m ∧ i = .int .i64 k ∧ Hid (Gat S B0 gb (l ++ [.slice va m vc] ++ (xs.take k).map pgv) ka (kb + 1) wr) ∧ Hid (Keeps S w wr)) (fun i _ => m - (intOf i).toNat)
  case atStart => exact ⟨0, by omega, rfl, HG4, HK4⟩
  case round =>
    clear HG4 HK4
    obtain ⟨k, hk, rfl, HG, HK⟩ := hrel
    by_cases hlt : k < m
    · have hkx : k < xs.length := by rw [HM.out]; exact hlt
      obtain ⟨g, cap, ev, hgB, hgl⟩ := HOW.out.form (by omega)
      have hva : va = some ⟨g, 0, none⟩ := by
        simp only [Value.slice.injEq] at ev
        exact ev.1
      subst hva
      have hgS : S g := HS0.out g (HLT.out g rfl)
      have HC : Hid (∀ j u, (xs.map pgv)[j]? = some u → wr.cell? ⟨g, j, none⟩ = some u) := Lib.hid fun j u hu => HK.out.cell (own_at HOW.out rfl hu) hgS
      clear ev
      have hk3 : (k : Int) < 300 := by omega
      have x0 : wr.cell? ⟨g, k, none⟩ = some (pgv xs[k]) := HC.out k _ (by simp [hkx])
      have hrow := HP.out.row k xs[k] (List.getElem?_eq_getElem hkx)
      have hpl : (ps.getD k []).length = 4096 := by
        have hxp : k < ps.length := by rw [← HP.out.len]; exact hkx
        have := (HP.out.page ps[k] (List.getElem_mem _)).1
        simp [hxp, this]
      have hge := HP.out.ge xs[k] (List.getElem_mem _)
      have hpo : w.ownsRow B0 5 1 (pgv xs[k]) 4096 ((ps.getD k []).map (Value.int .u8)) := ⟨by rw [List.length_map, hpl], .inr ⟨xs[k], 4096, _, rfl, hge.1, hrow, Nat.le_refl _, by decide, by rw [List.size_toArray, List.length_map, hpl], by rw [List.take_of_length_le (by simp only [List.length_map, hpl]; decide)]⟩⟩
      have l1 : ∀ g, (pgv xs[k]).ownBlock = some g → g < gb := fun g e => HLT0.out (pgv xs[k]) (by simp only [List.mem_append, List.mem_map]; exact .inr ⟨xs[k], List.getElem_mem _, rfl⟩) g e
      have hDk : Dj (l ++ [.slice (some ⟨g, 0, none⟩) m vc] ++ (xs.take k).map pgv ++ [pgv xs[k]]) := by
        have := HD.out
        have e : xs.map pgv = (xs.take k).map pgv ++ [pgv xs[k]] ++ (xs.drop (k + 1)).map pgv := by
          have e : xs = xs.take k ++ xs[k] :: xs.drop (k + 1) := by rw [← List.drop_eq_getElem_cons hkx, List.take_append_drop]
          conv => lhs; rw [e]
          simp only [List.map_append, List.map_cons, List.append_assoc, List.cons_append, List.nil_append]
        rw [e] at this
        exact Dj.left (b := (xs.drop (k + 1)).map pgv) (by simpa using this)
      have HSTEP := Lib.hid (gat_Bytes HG.out (.inl (own_keeps hpo HK.out fun g e => HS0.out g (l1 g e))) (by decide) l1 hDk)
      have HN : Hid (l ++ [.slice (some ⟨g, 0, none⟩) m vc] ++ (xs.take (k + 1)).map pgv = l ++ [.slice (some ⟨g, 0, none⟩) m vc] ++ (xs.take k).map pgv ++ [pgv xs[k]]) := Lib.hid (by rw [List.take_succ_eq_append_getElem hkx, List.map_append]; simp)
      clear hrow hpl hge hpo l1 hDk
      generalize xs[k] = y at *
      have x0 : wr.cell? ⟨g, k, none⟩ = some (.slice (some ⟨y, 0, none⟩) 4096 4096) := x0
      have HSTEP : Hid (Calls Tryd.prog 10 #[.pointer (some ⟨gb, 0, none⟩), .slice (some ⟨y, 0, none⟩) 4096 4096] wr _) := HSTEP
      go_wp2_with fail
      refine HSTEP.out.mono ?_
      rintro e w5 ⟨rfl, hg5, hk5⟩
      have HG5 : Hid (Gat S B0 gb (l ++ [.slice (some ⟨g, 0, none⟩) m vc] ++ (xs.take (k + 1)).map pgv) ka (kb + 1) w5) := Lib.hid (by have := HN.out; rw [this]; exact hg5)
      have HK5 := Lib.hid (HK.out.trans hk5)
      clear hg5 hk5 HSTEP HN HC
      go_wp2
      go_roundw
      case rel => exact ⟨k + 1, by omega, by go_num, HG5, HK5⟩
      case measure => simp [intOf]; omega
    · obtain rfl : k = m := by omega
      have HGF : Hid (Gat S B0 gb (l ++ [.slice va k vc] ++ xs.map pgv) ka (kb + 1) wr) := Lib.hid (by have := HG.out; rwa [List.take_of_length_le (by rw [HM.out]; exact Nat.le_refl _)] at this)
      have hkk : decide ((k : Int) < (k : Int)) = false := by simp
      go_wp2
      exact bodyPost_end (results_none rfl _ _ _) rfl ⟨rfl, HGF.out, HK.out⟩
theorem pg_kept {S : Nat → Prop} {base : Nat} {w w' : World} {v : Value} {gs : List Nat} {pages : List (List Int)} (h : PgOwn base w v gs pages) (hk : Keeps S w w') (h1 : ∀ g, v.ownBlock = some g → S g) (h2 : ∀ g ∈ gs, S g) : PgOwn base w' v gs pages :=
  ⟨h.len, own_keeps h.own hk h1, h.nd, h.ge, fun i g hg => (hk.block g (row_lt (h.row i g hg)) (h2 g (List.mem_of_getElem? hg))).trans (h.row i g hg), h.page⟩
/-- A state all of whose lists are its own: each in a block of its own. -/
def allOf (fv : Value) (xs : List Fq) (gv pv : Value) (gs : List Nat) (rv : Value) : List Value := [fv] ++ inn xs ++ [gv] ++ [pv] ++ gs.map pgv ++ [rv]
structure OwnSt (B : Nat) (w : World) (fv gv pv rv : Value) (xs : List Fq) (gs : List Nat) (s : StateD) : Prop where
  fr : w.ownsRow B 66 4 fv xs.length (frqs xs)
  fl : xs.map (·.1) = s.frames
  inr : ∀ x ∈ xs, w.ownsRow B 63 1 x.2.1 x.1.loc.length (x.1.loc.map (Value.int .u64)) ∧ w.ownsRow B 63 1 x.2.2 x.1.stk.length (x.1.stk.map (Value.int .u64))
  gl : w.ownsRow B 63 1 gv s.globals.length (s.globals.map (Value.int .u64))
  pg : PgOwn B w pv gs s.pages
  rs : w.ownsRow B 63 1 rv s.results.length (s.results.map (Value.int .u64))
  dj : Dj (allOf fv xs gv pv gs rv)
structure SmSt (xs : List Fq) (s : StateD) : Prop where
  nx : xs.length ≤ 300
  np : s.pages.length ≤ 300
  ng : s.globals.length ≤ 1073741824
  nr : s.results.length ≤ 1073741824
  ni : ∀ x ∈ xs, x.1.loc.length ≤ 1073741824 ∧ x.1.stk.length ≤ 1073741824
set_option maxRecDepth 100000 in
set_option maxHeartbeats 6400000 in
theorem gat_State {S : Nat → Prop} {B0 gb a b : Nat} {l : List Value} {w : World} {fv gv pv rv : Value} {xs : List Fq} {gs : List Nat} {s : StateD} (h : Gat S B0 gb l a b w) (ha : a < 300) (hb : b < 300) (o : OwnSt B0 w fv gv pv rv xs gs s) (sm : SmSt xs s)
    (hlt : ∀ u ∈ allOf fv xs gv pv gs rv, ∀ g, u.ownBlock = some g → g < gb) (hD : Dj (l ++ allOf fv xs gv pv gs rv)) :
    Calls Tryd.prog 18 #[.pointer (some ⟨gb, 0, none⟩), .agg #[fv, gv, pv, .int .i64 s.replies, .int .i8 s.ends, rv, .int .i8 s.trap, .int .i64 s.used]] w fun e w' => e = .returned (.tuple #[]) ∧ Gat S B0 gb (l ++ allOf fv xs gv pv gs rv) (a + 1) (b + 1) w' ∧ Keeps S w w' := by
  obtain ⟨fa, fc, rfl, _⟩ := own_slice o.fr
  obtain ⟨ga, gc, rfl, _⟩ := own_slice o.gl
  obtain ⟨pa, pc, rfl, _⟩ := own_slice o.pg.own
  obtain ⟨ra, rc, rfl, _⟩ := own_slice o.rs
  have hD2 : Dj (l ++ [.slice fa xs.length fc] ++ inn xs ++ [.slice ga s.globals.length gc] ++ [.slice pa gs.length pc] ++ gs.map pgv ++ [.slice ra s.results.length rc]) := by simpa [allOf] using hD
  have HD6 := Lib.hid hD2; have HD5 := Lib.hid (Dj.left hD2); have HD4 := Lib.hid (Dj.left (Dj.left (Dj.left hD2))); have HD3 := Lib.hid (Dj.left (Dj.left (Dj.left (Dj.left hD2))))
  have HALL : Hid (allOf (.slice fa xs.length fc) xs (.slice ga s.globals.length gc) (.slice pa gs.length pc) gs (.slice ra s.results.length rc) = [.slice fa xs.length fc] ++ inn xs ++ [.slice ga s.globals.length gc] ++ [.slice pa gs.length pc] ++ gs.map pgv ++ [.slice ra s.results.length rc]) := Lib.hid rfl
  have HLT := Lib.hid hlt
  have hb1 := below_alloc w (.cells #[.slice fa xs.length fc, .slice ga s.globals.length gc, .slice pa gs.length pc, .int .i64 s.replies, .int .i8 s.ends, .slice ra s.results.length rc, .int .i8 s.trap, .int .i64 s.used] 27)
  have hr1 := heap_alloc_new w (.cells #[.slice fa xs.length fc, .slice ga s.globals.length gc, .slice pa gs.length pc, .int .i64 s.replies, .int .i8 s.ends, .slice ra s.results.length rc, .int .i8 s.trap, .int .i64 s.used] 27)
  have HG1 := Lib.hid (h.more (.cells #[.slice fa xs.length fc, .slice ga s.globals.length gc, .slice pa gs.length pc, .int .i64 s.replies, .int .i8 s.ends, .slice ra s.results.length rc, .int .i8 s.trap, .int .i64 s.used] 27))
  have HS0 := Lib.hid (fun x (hx : x < gb) => h.low hx)
  have HO := Lib.hid o; have HSM := Lib.hid sm
  have HK1 : Hid (Keeps S w (w.alloc (.cells #[.slice fa xs.length fc, .slice ga s.globals.length gc, .slice pa gs.length pc, .int .i64 s.replies, .int .i8 s.ends, .slice ra s.results.length rc, .int .i8 s.trap, .int .i64 s.used] 27))) := Lib.hid (Keeps.all S hb1)
  have HKA : Hid (Keeps (fun _ => True) w (w.alloc (.cells #[.slice fa xs.length fc, .slice ga s.globals.length gc, .slice pa gs.length pc, .int .i64 s.replies, .int .i8 s.ends, .slice ra s.results.length rc, .int .i8 s.trap, .int .i64 s.used] 27))) := Lib.hid (Keeps.all _ hb1)
  have HR1 := Lib.hid hr1
  have x0 := row_cell hr1 0 rfl
  simp only [List.getElem_toArray, List.getElem_cons_zero] at x0
  clear h o sm hb1 hr1 hlt hD hD2
  have e1 := Lib.hid (own_keeps HO.out.fr HKA.out fun _ _ => trivial)
  go_enter Tryd.func18, Tryd.ntmps18
  go_wp2_with fail
  generalize w.alloc (.cells #[.slice fa xs.length fc, .slice ga s.globals.length gc, .slice pa gs.length pc, .int .i64 s.replies, .int .i8 s.ends, .slice ra s.results.length rc, .int .i8 s.trap, .int .i64 s.used] 27) = w1 at *
  generalize w.heap.size = bx at *
  refine (gat_Frames HG1.out ha e1.out (fun x hx => ⟨own_keeps (HO.out.inr x hx).1 HKA.out fun _ _ => trivial, own_keeps (HO.out.inr x hx).2 HKA.out fun _ _ => trivial, HSM.out.ni x hx⟩) HSM.out.nx (fun u hu => HLT.out u (by rw [HALL.out]; simp only [List.mem_append] at hu ⊢; exact .inl (.inl (.inl (.inl hu))))) HD3.out).mono ?_
  rintro e w2 ⟨rfl, hg2, hk2⟩
  have HG2 := Lib.hid hg2
  have HK2 := Lib.hid (HK1.out.trans (hk2.mono fun x _ h => .inl h))
  have HR2 := Lib.hid ((hk2.block bx (row_lt HR1.out) (.inr rfl)).trans HR1.out)
  have x1 := row_cell HR2.out 1 rfl
  simp only [List.getElem_toArray, List.getElem_cons_zero, List.getElem_cons_succ] at x1
  clear hg2 hk2 x0 HKA e1
  go_wp2_with fail
  refine (gat_Words HG2.out (.inl (own_keeps HO.out.gl HK2.out fun g e => HS0.out g (HLT.out _ (by rw [HALL.out]; simp) g e))) HSM.out.ng (fun g e => HLT.out _ (by rw [HALL.out]; simp) g e) HD4.out).mono ?_
  rintro e w3 ⟨rfl, hg3, hk3⟩
  have HG3 := Lib.hid hg3
  have HK3 := Lib.hid (HK2.out.trans (hk3.mono fun x _ h => .inl h))
  have HR3 := Lib.hid ((hk3.block bx (row_lt HR2.out) (.inr rfl)).trans HR2.out)
  have x2 := row_cell HR3.out 2 rfl
  simp only [List.getElem_toArray, List.getElem_cons_zero, List.getElem_cons_succ] at x2
  clear hg3 hk3 x1
  go_wp2_with fail
  refine (gat_Pages HG3.out hb (pg_kept HO.out.pg HK3.out (fun g e => HS0.out g (HLT.out _ (by rw [HALL.out]; simp) g e)) fun g hg => HS0.out g (HLT.out (pgv g) (by rw [HALL.out]; simp only [List.mem_append, List.mem_map]; exact .inl (.inr ⟨g, hg, rfl⟩)) g rfl)) (by rw [HO.out.pg.len]; exact HSM.out.np) (fun u hu => HLT.out u (by rw [HALL.out]; simp only [List.mem_append] at hu ⊢; exact .inl (hu.elim (fun h => .inl (.inr h)) .inr))) HD5.out).mono ?_
  rintro e w4 ⟨rfl, hg4, hk4⟩
  have HG4 := Lib.hid hg4
  have HK4 := Lib.hid (HK3.out.trans (hk4.mono fun x _ h => .inl h))
  have HR4 := Lib.hid ((hk4.block bx (row_lt HR3.out) (.inr rfl)).trans HR3.out)
  have x5 := row_cell HR4.out 5 rfl
  simp only [List.getElem_toArray, List.getElem_cons_zero, List.getElem_cons_succ] at x5
  clear hg4 hk4 x2
  go_wp2_with fail
  refine (gat_Words HG4.out (.inl (own_keeps HO.out.rs HK4.out fun g e => HS0.out g (HLT.out _ (by rw [HALL.out]; simp) g e))) HSM.out.nr (fun g e => HLT.out _ (by rw [HALL.out]; simp) g e) HD6.out).mono ?_
  rintro e w5 ⟨rfl, hg5, hk5⟩
  have HG5 := Lib.hid (hg5.less (fun x h => .inl h) HS0.out)
  have HK5 := Lib.hid (HK4.out.trans (hk5.mono fun x _ h => .inl h))
  clear hg5 hk5 x5
  go_wp2
  refine bodyPost_end (results_none rfl _ _ _) rfl ⟨rfl, ?_, HK5.out⟩
  have := HG5.out
  rw [HALL.out]
  simpa using this
end G
end Go.Proofs.YthlkckpadjjbdaaDoor
