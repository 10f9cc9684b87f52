/- flagonref00's Bag: AddInts, Apart with lists of ints. -/
import Derived.Test.YtiaoonlhgjfdjaaDoorApartC
import Derived.Test.YtiaoonlhgjfdjaaDoorRoles
import Derived.Test.YtiaoonlhgjfdjaaDoorBagNone
import Derived.BigRegion
import Derived.Test.YtiaoonlhgjfdjaaDoorBagNone0
namespace Go.Proofs.YtiaoonlhgjfdjaaDoor
open Go Go.RowKit
namespace C

/-- The cells of a bag that has lists of bytes alone. -/
def bagCells (hv : Value) : Array Value := #[.slice none 0 0, hv, .slice none 0 0, .slice none 0 0, .slice none 0 0, .slice none 0 0, .slice none 0 0, .slice none 0 0, .slice none 0 0, .slice none 0 0, .slice none 0 0, .slice none 0 0, .slice none 0 0, .slice none 0 0, .slice none 0 0, .slice none 0 0, .slice none 0 0]
/-- A bag with the lists vs; it and its list lie from the block B on. -/
structure Bg (B : Nat) (w : World) (gb : Nat) (hv : Value) (vs : List Value) : Prop where
  row : w.heap[gb]? = some (.cells (bagCells hv) 56 (0, 0))
  own : w.ownsRow B 24 1 hv vs.length vs
  apart : hv.ownBlock ≠ some gb
  hB : B ≤ gb
theorem Bg.on {B gb : Nat} {w w' : World} {hv : Value} {vs : List Value} (h : Bg B w gb hv vs) (hb : Below w.heap.size w w') : Bg B w' gb hv vs :=
  ⟨(hb.block _ (row_lt h.row)).trans h.row, own_below h.own hb, h.apart, h.hB⟩

set_option maxRecDepth 100000 in
set_option maxHeartbeats 3200000 in
theorem add_ints (w : World) (B gb : Nat) (hv v : Value) (vs : List Value) (h : Bg B w gb hv vs) (hn : vs.length < 300) (hvs : ∃ a n c, v = .slice a n c) :
    Calls Tryd.prog 27 #[.pointer (some ⟨gb, 0, none⟩), v] w fun e w' => e = .returned (.tuple #[]) ∧ ∃ hv', Bg B w' gb hv' (vs ++ [v]) ∧ Below B w w' ∧ Keeps (fun b => b ≠ gb ∧ hv.ownBlock ≠ some b) w w' ∧ (∀ g, hv'.ownBlock = some g → hv.ownBlock = some g ∨ w.heap.size ≤ g) := by
  obtain ⟨i1, hj, hy0, hy1, hy2⟩ := info_parts Tryd.infoSlC
  obtain ⟨va, vn, vc, rfl⟩ := hvs
  have H := Lib.hid h
  obtain ⟨a, c, rfl, _⟩ := own_slice h.own
  have hd : w.cell? ⟨gb, 1, none⟩ = some (.slice a vs.length c) := row_cell h.row 1 rfl
  have hf := row_free h.row 1
  clear h
  go_enter Tryd.func27, Tryd.ntmps27
  have HA := Lib.hid (H.out.own.alloc (.cells #[.slice va vn vc] 24))
  have hBw : B ≤ w.heap.size := Nat.le_trans H.out.hB (Nat.le_of_lt (row_lt H.out.row))
  go_wp2_with (at_builtin; refine wpList_append_kept _ rfl _ _ 39 rfl B 24 i1 (.slice none 0 0) 1 24 Tryd.underlying39 hj hy0 hy1 hy2 rfl (by decide) (.slice a vs.length c) vs.length vs rfl HA.out ⟨w.heap.size, 0, none⟩ 1 1 [.slice va vn vc] rfl rfl (cell_one_new _ _ _) (by simp [Value.oneCell']) (by unfold maxLen; omega) (by omega) (by rw [World.size_alloc]; omega) ?_)
  intro hv' w3 ho hk hg
  have hne : (Value.slice a vs.length c).ownBlock ≠ some gb := H.out.apart
  have hrow3 := grown_block hk.grown ((Below.heap_alloc w _ gb (row_lt H.out.row)).trans H.out.row) hne
  have hd3 : w3.cell? ⟨gb, 1, none⟩ = some (.slice a vs.length c) := row_cell hrow3 1 rfl
  have hf3 := row_free hrow3 1
  have hne3 : hv'.ownBlock ≠ some gb := fun e => by
    have hlt := row_lt H.out.row
    rcases hg gb e with h1 | h1
    · exact hne h1
    · omega
  have hown3 := fun (u : Value) => own_keeps ho ((Keeps.refl (fun b => b ≠ gb) w3).setCell (a := ⟨gb, 1, none⟩) (by simp) u) (fun b hb e => hne3 (by rw [← e]; exact hb))
  have hbel := fun (u : Value) => (((((Keeps.refl (fun b => b < B) w).alloc (.cells #[.slice va vn vc] 24)).grown hk.grown (fun k hk' hlt hB => by have := (HA.out.lt k hk').1; omega)).setCell (a := ⟨gb, 1, none⟩) (fun _ hB => by have := H.out.hB; simp only at hB; omega) u).below hBw fun _ hb => hb)
  have hkp := fun (u : Value) => ((((Keeps.refl (fun b => b ≠ gb ∧ (Value.slice a vs.length c).ownBlock ≠ some b) w).alloc (.cells #[.slice va vn vc] 24)).grown hk.grown (fun k hk' hlt hB => hB.2 hk')).setCell (a := ⟨gb, 1, none⟩) (fun _ hB => hB.1 rfl) u)
  have hgs : ∀ g, hv'.ownBlock = some g → (Value.slice a vs.length c).ownBlock = some g ∨ w.heap.size ≤ g := fun g h => (hg g h).imp id fun h => by have h := h; (try rw [World.size_alloc] at h); omega
  have HK := Lib.hid (And.intro hkp hgs)
  have HX := Lib.hid (And.intro hown3 (And.intro hne3 (And.intro hrow3 hbel)))
  obtain ⟨a', c', rfl, _⟩ := own_slice ho
  clear ho hg hk hrow3 hown3 hbel hne3 hkp hgs
  go_wp2
  exact bodyPost_end (results_none rfl _ _ _) rfl ⟨rfl, _, ⟨by simpa [bagCells] using row_setCell HX.out.2.2.1 1 _, by simpa using HX.out.1 _, HX.out.2.1, H.out.hB⟩, HX.out.2.2.2 _, HK.out.1 _, HK.out.2⟩

set_option maxRecDepth 100000 in
set_option maxHeartbeats 6400000 in
theorem bag_apart (w : World) (B0 B gb : Nat) (hv : Value) (vs : List Value) (ls : List (List Int)) (h : Bg B w gb hv vs) (hn : vs.length ≤ 300) (hl : ls.length = vs.length) (hB : B0 ≤ B)
    (hrows : ∀ (k : Nat) v l, vs[k]? = some v → ls[k]? = some l → Own2 w B0 3 1 v l.length (l.map (Value.int .i64)) ∧ l.length ≤ 1073741824)
    (hlt : ∀ (k : Nat) v g, vs[k]? = some v → v.ownBlock = some g → g ≠ gb ∧ hv.ownBlock ≠ some g)
    (hne : ∀ (k j : Nat) v u g, vs[k]? = some v → vs[j]? = some u → v.ownBlock = some g → u.ownBlock = some g → j = k) :
    Calls Tryd.prog 19 #[.pointer (some ⟨gb, 0, none⟩)] w fun e w' => e = .returned (.bool true) ∧ Keeps (fun b => ∀ (k : Nat) v, vs[k]? = some v → v.ownBlock ≠ some b) w w' := by
  have hsz : B0 ≤ w.heap.size := Nat.le_trans hB (Nat.le_trans h.hB (Nat.le_of_lt (row_lt h.row)))
  have hgb : roleOf vs gb = 0 := role_none fun k v hk e => (hlt k v gb hk e).1 rfl
  have hG : G1 B0 (roleOf vs) w gb hv vs ls w 0 := by
    refine ⟨Went.refl _ _, ⟨row_cell h.row 1 rfl, hgb, ?_⟩, fun k v l hk => absurd hk (by omega), fun k v l _ h1 h2 => ⟨(hrows k v l h1 h2).1, fun g hg => role_some h1 hg fun j u hu hb => hne k j v u g h1 hu hg hb⟩⟩
    have ho := h.own
    rcases ho.2 with ⟨rfl, h0⟩ | ⟨g, cap, cur, rfl, hg, _, hc, _⟩
    · exact ⟨none, 0, by rw [h0], by omega, fun k hk => absurd hk (by omega)⟩
    · refine ⟨_, cap, rfl, hc, fun k hk => ⟨g, rfl, role_none fun j v hj e => (hlt j v g hj e).2 rfl, own_at ho rfl (List.getElem?_eq_getElem hk)⟩⟩
  have HA := Lib.hid (apart_bytes w B0 (roleOf vs) gb hv vs ls hG hl hn hsz (fun k l hk => by
    have hkl := (List.getElem?_eq_some_iff.1 hk).1
    exact (hrows k vs[k] l (List.getElem?_eq_getElem (by omega)) hk).2))
  have HF := Lib.hid (fun (w' : World) (R : Nat → Nat) (hW : Went (roleOf vs) w R w') => (hW.keeps.block gb (row_lt h.row) hgb).trans h.row)
  have HK := Lib.hid (fun (b : Nat) (hb : ∀ (k : Nat) v, vs[k]? = some v → v.ownBlock ≠ some b) => role_none hb)
  have cB : w.cell? ⟨gb, 0, none⟩ = some (.slice none 0 0) := row_cell h.row 0 rfl
  clear hG hgb hne hlt hrows h
  go_enter Tryd.func19, Tryd.ntmps19
  go_wp2_with fail
  refine (none_Bytes _ gb cB).mono ?_
  rintro e w1 ⟨rfl, hw1⟩
  obtain rfl : w = w1 := hw1.symm
  go_wp2_with fail
  refine HA.out.mono ?_
  rintro e w1 ⟨rfl, R, hW⟩
  have hrow := HF.out w1 R hW
  have HW := Lib.hid hW; clear hW
  have c2 : w1.cell? ⟨gb, 2, none⟩ = some (.slice none 0 0) := row_cell hrow 2 rfl
  have c3 : w1.cell? ⟨gb, 3, none⟩ = some (.slice none 0 0) := row_cell hrow 3 rfl
  have c4 : w1.cell? ⟨gb, 4, none⟩ = some (.slice none 0 0) := row_cell hrow 4 rfl
  have c5 : w1.cell? ⟨gb, 5, none⟩ = some (.slice none 0 0) := row_cell hrow 5 rfl
  have c6 : w1.cell? ⟨gb, 6, none⟩ = some (.slice none 0 0) := row_cell hrow 6 rfl
  have c7 : w1.cell? ⟨gb, 7, none⟩ = some (.slice none 0 0) := row_cell hrow 7 rfl
  have c8 : w1.cell? ⟨gb, 8, none⟩ = some (.slice none 0 0) := row_cell hrow 8 rfl
  have c9 : w1.cell? ⟨gb, 9, none⟩ = some (.slice none 0 0) := row_cell hrow 9 rfl
  have c10 : w1.cell? ⟨gb, 10, none⟩ = some (.slice none 0 0) := row_cell hrow 10 rfl
  have c11 : w1.cell? ⟨gb, 11, none⟩ = some (.slice none 0 0) := row_cell hrow 11 rfl
  have c12 : w1.cell? ⟨gb, 12, none⟩ = some (.slice none 0 0) := row_cell hrow 12 rfl
  have c13 : w1.cell? ⟨gb, 13, none⟩ = some (.slice none 0 0) := row_cell hrow 13 rfl
  have c14 : w1.cell? ⟨gb, 14, none⟩ = some (.slice none 0 0) := row_cell hrow 14 rfl
  have c15 : w1.cell? ⟨gb, 15, none⟩ = some (.slice none 0 0) := row_cell hrow 15 rfl
  have c16 : w1.cell? ⟨gb, 16, none⟩ = some (.slice none 0 0) := row_cell hrow 16 rfl
  clear hrow
  go_wp2_with (first
    | (go_at_call 44; refine (none_Longs _ gb (by assumption)).mono ?_; rintro e w' ⟨rfl, rfl⟩)
    | (go_at_call 45; refine (none_Words _ gb (by assumption)).mono ?_; rintro e w' ⟨rfl, rfl⟩)
    | (go_at_call 46; refine (none_Bools _ gb (by assumption)).mono ?_; rintro e w' ⟨rfl, rfl⟩)
    | (go_at_call 47; refine (none_Texts _ gb (by assumption)).mono ?_; rintro e w' ⟨rfl, rfl⟩)
    | (go_at_call 48; refine (none_Sigs _ gb (by assumption)).mono ?_; rintro e w' ⟨rfl, rfl⟩)
    | (go_at_call 49; refine (none_Globals _ gb (by assumption)).mono ?_; rintro e w' ⟨rfl, rfl⟩)
    | (go_at_call 50; refine (none_Exports _ gb (by assumption)).mono ?_; rintro e w' ⟨rfl, rfl⟩)
    | (go_at_call 51; refine (none_Code _ gb (by assumption)).mono ?_; rintro e w' ⟨rfl, rfl⟩)
    | (go_at_call 52; refine (none_Functions _ gb (by assumption)).mono ?_; rintro e w' ⟨rfl, rfl⟩)
    | (go_at_call 53; refine (none_Datas _ gb (by assumption)).mono ?_; rintro e w' ⟨rfl, rfl⟩)
    | (go_at_call 54; refine (none_Tables _ gb (by assumption)).mono ?_; rintro e w' ⟨rfl, rfl⟩)
    | (go_at_call 55; refine (none_Frames _ gb (by assumption)).mono ?_; rintro e w' ⟨rfl, rfl⟩)
    | (go_at_call 56; refine (none_Replies _ gb (by assumption)).mono ?_; rintro e w' ⟨rfl, rfl⟩)
    | (go_at_call 57; refine (none_Pages _ gb (by assumption)).mono ?_; rintro e w' ⟨rfl, rfl⟩)
    | (go_at_call 58; refine (none_Rows _ gb (by assumption)).mono ?_; rintro e w' ⟨rfl, rfl⟩))
  go_ret
  exact ⟨rfl, HW.out.keeps.mono fun b _ hb => HK.out b hb⟩
end C
end Go.Proofs.YtiaoonlhgjfdjaaDoor
