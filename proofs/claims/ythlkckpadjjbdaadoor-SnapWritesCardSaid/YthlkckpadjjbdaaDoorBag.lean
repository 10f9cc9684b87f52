/- flagonref00's Bag: AddBytes, Apart. -/
import Derived.Test.YthlkckpadjjbdaaDoorApart
import Derived.Test.YthlkckpadjjbdaaDoorBagNone
import Derived.BigRegion
namespace Go.Proofs.YthlkckpadjjbdaaDoor
open Go Go.RowKit

/-- The cells of a bag that has lists of bytes alone. -/
def bagCells (hv : Value) : Array Value := #[hv, .slice none 0 0, .slice none 0 0, .slice none 0 0, .slice none 0 0, .slice none 0 0, .slice none 0 0, .slice none 0 0, .slice none 0 0, .slice none 0 0, .slice none 0 0, .slice none 0 0, .slice none 0 0, .slice none 0 0, .slice none 0 0, .slice none 0 0, .slice none 0 0]
/-- A bag with the lists vs; it and its list lie from the block B on. -/
structure Bg (B : Nat) (w : World) (gb : Nat) (hv : Value) (vs : List Value) : Prop where
  row : w.heap[gb]? = some (.cells (bagCells hv) 53 (0, 0))
  own : w.ownsRow B 31 1 hv vs.length vs
  apart : hv.ownBlock ≠ some gb
  hB : B ≤ gb
theorem Bg.on {B gb : Nat} {w w' : World} {hv : Value} {vs : List Value} (h : Bg B w gb hv vs) (hb : Below w.heap.size w w') : Bg B w' gb hv vs :=
  ⟨(hb.block _ (row_lt h.row)).trans h.row, own_below h.own hb, h.apart, h.hB⟩

set_option maxRecDepth 100000 in
set_option maxHeartbeats 3200000 in
theorem add_bytes (w : World) (B gb : Nat) (hv v : Value) (vs : List Value) (h : Bg B w gb hv vs) (hn : vs.length < 300) (hvs : ∃ a n c, v = .slice a n c) :
    Calls Tryd.prog 10 #[.pointer (some ⟨gb, 0, none⟩), v] w fun e w' => e = .returned (.tuple #[]) ∧ ∃ hv', Bg B w' gb hv' (vs ++ [v]) ∧ Below B w w' := by
  obtain ⟨i1, hj, hy0, hy1, hy2⟩ := info_parts Tryd.infoSlB
  obtain ⟨va, vn, vc, rfl⟩ := hvs
  have H := Lib.hid h
  obtain ⟨a, c, rfl, _⟩ := own_slice h.own
  have hd : w.cell? ⟨gb, 0, none⟩ = some (.slice a vs.length c) := row_cell h.row 0 rfl
  have hf := row_free h.row 0
  clear h
  go_enter Tryd.func10, Tryd.ntmps10
  have HA := Lib.hid (H.out.own.alloc (.cells #[.slice va vn vc] 31))
  have hBw : B ≤ w.heap.size := Nat.le_trans H.out.hB (Nat.le_of_lt (row_lt H.out.row))
  go_wp2_with (at_builtin; refine wpList_append_kept _ rfl _ _ 24 rfl B 31 i1 (.slice none 0 0) 1 24 Tryd.underlying24 hj hy0 hy1 hy2 rfl (by decide) (.slice a vs.length c) vs.length vs rfl HA.out ⟨w.heap.size, 0, none⟩ 1 1 [.slice va vn vc] rfl rfl (cell_one_new _ _ _) (by simp [Value.oneCell']) (by unfold maxLen; omega) (by omega) (by rw [World.size_alloc]; omega) ?_)
  intro hv' w3 ho hk hg
  have hne : (Value.slice a vs.length c).ownBlock ≠ some gb := H.out.apart
  have hrow3 := grown_block hk.grown ((Below.heap_alloc w _ gb (row_lt H.out.row)).trans H.out.row) hne
  have hd3 : w3.cell? ⟨gb, 0, none⟩ = some (.slice a vs.length c) := row_cell hrow3 0 rfl
  have hf3 := row_free hrow3 0
  have hne3 : hv'.ownBlock ≠ some gb := fun e => by
    have hlt := row_lt H.out.row
    rcases hg gb e with h1 | h1
    · exact hne h1
    · omega
  have hown3 := fun (u : Value) => own_keeps ho ((Keeps.refl (fun b => b ≠ gb) w3).setCell (a := ⟨gb, 0, none⟩) (by simp) u) (fun b hb e => hne3 (by rw [← e]; exact hb))
  have hbel := fun (u : Value) => (((((Keeps.refl (fun b => b < B) w).alloc (.cells #[.slice va vn vc] 31)).grown hk.grown (fun k hk' hlt hB => by have := (HA.out.lt k hk').1; omega)).setCell (a := ⟨gb, 0, none⟩) (fun _ hB => by have := H.out.hB; simp only at hB; omega) u).below hBw fun _ hb => hb)
  have HX := Lib.hid (And.intro hown3 (And.intro hne3 (And.intro hrow3 hbel)))
  obtain ⟨a', c', rfl, _⟩ := own_slice ho
  clear ho hg hk hrow3 hown3 hbel hne3
  go_wp2
  exact bodyPost_end (results_none rfl _ _ _) rfl ⟨rfl, _, ⟨by simpa [bagCells] using row_setCell HX.out.2.2.1 0 _, by simpa using HX.out.1 _, HX.out.2.1, H.out.hB⟩, HX.out.2.2.2 _⟩

/-- The list of which a block is the own block: its number. -/
def roleOf (vs : List Value) (b : Nat) : Nat := (vs.findIdx? fun v => v.ownBlock == some b).elim 0 (· + 3)
theorem role_none {vs : List Value} {b : Nat} (h : ∀ (k : Nat) v, vs[k]? = some v → v.ownBlock ≠ some b) : roleOf vs b = 0 := by
  unfold roleOf
  rw [List.findIdx?_eq_none_iff.2]
  · rfl
  · intro v hv
    obtain ⟨k, hk, rfl⟩ := List.mem_iff_getElem.1 hv
    have := h k _ (List.getElem?_eq_getElem hk)
    simpa using this
theorem role_some {vs : List Value} {k b : Nat} {v : Value} (hv : vs[k]? = some v) (hb : v.ownBlock = some b) (h : ∀ (j : Nat) u, vs[j]? = some u → u.ownBlock = some b → j = k) : roleOf vs b = k + 3 := by
  obtain ⟨hk, rfl⟩ := List.getElem?_eq_some_iff.1 hv
  unfold roleOf
  cases he : vs.findIdx? fun v => v.ownBlock == some b with
  | none =>
    have := List.findIdx?_eq_none_iff.1 he vs[k] (List.getElem_mem hk)
    simp [hb] at this
  | some j =>
    obtain ⟨hj, h1, _⟩ := List.findIdx?_eq_some_iff_getElem.1 he
    have := h j _ (List.getElem?_eq_getElem hj) (by simpa using h1)
    subst this
    rfl
set_option maxRecDepth 100000 in
set_option maxHeartbeats 6400000 in
theorem bag_apart (w : World) (B0 B gb : Nat) (hv : Value) (vs : List Value) (ls : List (List Int)) (h : Bg B w gb hv vs) (hn : vs.length ≤ 300) (hl : ls.length = vs.length) (hB : B0 ≤ B)
    (hrows : ∀ (k : Nat) v l, vs[k]? = some v → ls[k]? = some l → w.ownsRow B0 5 1 v l.length (l.map (Value.int .u8)) ∧ l.length ≤ 1073741824)
    (hlt : ∀ (k : Nat) v g, vs[k]? = some v → v.ownBlock = some g → g < B)
    (hne : ∀ (k j : Nat) v u g, vs[k]? = some v → vs[j]? = some u → v.ownBlock = some g → u.ownBlock = some g → j = k) :
    Calls Tryd.prog 12 #[.pointer (some ⟨gb, 0, none⟩)] w fun e w' => e = .returned (.bool true) ∧ Keeps (fun b => ∀ (k : Nat) v, vs[k]? = some v → v.ownBlock ≠ some b) w w' := by
  have hsz : B0 ≤ w.heap.size := Nat.le_trans hB (Nat.le_trans h.hB (Nat.le_of_lt (row_lt h.row)))
  have hgb : roleOf vs gb = 0 := role_none fun k v hk e => by have := hlt k v gb hk e; have := h.hB; omega
  have hG : G1 B0 (roleOf vs) w gb hv vs ls w 0 := by
    refine ⟨Went.refl _ _, ⟨row_cell h.row 0 rfl, hgb, ?_⟩, fun k v l hk => absurd hk (by omega), fun k v l _ h1 h2 => ⟨(hrows k v l h1 h2).1, fun g hg => role_some h1 hg fun j u hu hb => hne k j v u g h1 hu hg hb⟩⟩
    have ho := h.own
    rcases ho.2 with ⟨rfl, h0⟩ | ⟨g, cap, cur, rfl, hg, _, hc, _⟩
    · exact ⟨none, 0, by rw [h0], by omega, fun k hk => absurd hk (by omega)⟩
    · refine ⟨_, cap, rfl, hc, fun k hk => ⟨g, rfl, role_none fun j v hj e => by have := hlt j v g hj e; omega, own_at ho rfl (List.getElem?_eq_getElem hk)⟩⟩
  have HA := Lib.hid (apart_bytes w B0 (roleOf vs) gb hv vs ls hG hl hn hsz (fun k l hk => by
    have hkl := (List.getElem?_eq_some_iff.1 hk).1
    exact (hrows k vs[k] l (List.getElem?_eq_getElem (by omega)) hk).2))
  have HF := Lib.hid (fun (w' : World) (R : Nat → Nat) (hW : Went (roleOf vs) w R w') => (hW.keeps.block gb (row_lt h.row) hgb).trans h.row)
  have HK := Lib.hid (fun (b : Nat) (hb : ∀ (k : Nat) v, vs[k]? = some v → v.ownBlock ≠ some b) => role_none hb)
  clear hG hgb hne hlt hrows h
  go_enter Tryd.func12, Tryd.ntmps12
  go_wp2_with fail
  refine HA.out.mono ?_
  rintro e w1 ⟨rfl, R, hW⟩
  have hrow := HF.out w1 R hW
  have HW := Lib.hid hW; clear hW
  have c1 : w1.cell? ⟨gb, 1, none⟩ = some (.slice none 0 0) := row_cell hrow 1 rfl
  have c2 : w1.cell? ⟨gb, 2, none⟩ = some (.slice none 0 0) := row_cell hrow 2 rfl
  have c3 : w1.cell? ⟨gb, 3, none⟩ = some (.slice none 0 0) := row_cell hrow 3 rfl
  have c4 : w1.cell? ⟨gb, 4, none⟩ = some (.slice none 0 0) := row_cell hrow 4 rfl
  have c5 : w1.cell? ⟨gb, 5, none⟩ = some (.slice none 0 0) := row_cell hrow 5 rfl
  have c6 : w1.cell? ⟨gb, 6, none⟩ = some (.slice none 0 0) := row_cell hrow 6 rfl
  have c7 : w1.cell? ⟨gb, 7, none⟩ = some (.slice none 0 0) := row_cell hrow 7 rfl
  have c8 : w1.cell? ⟨gb, 8, none⟩ = some (.slice none 0 0) := row_cell hrow 8 rfl
  have c9 : w1.cell? ⟨gb, 9, none⟩ = some (.slice none 0 0) := row_cell hrow 9 rfl
  have c10 : w1.cell? ⟨gb, 10, none⟩ = some (.slice none 0 0) := row_cell hrow 10 rfl
  have c11 : w1.cell? ⟨gb, 11, none⟩ = some (.slice none 0 0) := row_cell hrow 11 rfl
  have c12 : w1.cell? ⟨gb, 12, none⟩ = some (.slice none 0 0) := row_cell hrow 12 rfl
  have c13 : w1.cell? ⟨gb, 13, none⟩ = some (.slice none 0 0) := row_cell hrow 13 rfl
  have c14 : w1.cell? ⟨gb, 14, none⟩ = some (.slice none 0 0) := row_cell hrow 14 rfl
  have c15 : w1.cell? ⟨gb, 15, none⟩ = some (.slice none 0 0) := row_cell hrow 15 rfl
  have c16 : w1.cell? ⟨gb, 16, none⟩ = some (.slice none 0 0) := row_cell hrow 16 rfl
  clear hrow
  go_wp2_with (first
    | (go_at_call 33; refine (none_Ints _ gb (by assumption)).mono ?_; rintro e w' ⟨rfl, rfl⟩)
    | (go_at_call 34; refine (none_Longs _ gb (by assumption)).mono ?_; rintro e w' ⟨rfl, rfl⟩)
    | (go_at_call 35; refine (none_Words _ gb (by assumption)).mono ?_; rintro e w' ⟨rfl, rfl⟩)
    | (go_at_call 36; refine (none_Bools _ gb (by assumption)).mono ?_; rintro e w' ⟨rfl, rfl⟩)
    | (go_at_call 37; refine (none_Texts _ gb (by assumption)).mono ?_; rintro e w' ⟨rfl, rfl⟩)
    | (go_at_call 38; refine (none_Sigs _ gb (by assumption)).mono ?_; rintro e w' ⟨rfl, rfl⟩)
    | (go_at_call 39; refine (none_Globals _ gb (by assumption)).mono ?_; rintro e w' ⟨rfl, rfl⟩)
    | (go_at_call 40; refine (none_Exports _ gb (by assumption)).mono ?_; rintro e w' ⟨rfl, rfl⟩)
    | (go_at_call 41; refine (none_Code _ gb (by assumption)).mono ?_; rintro e w' ⟨rfl, rfl⟩)
    | (go_at_call 42; refine (none_Functions _ gb (by assumption)).mono ?_; rintro e w' ⟨rfl, rfl⟩)
    | (go_at_call 43; refine (none_Datas _ gb (by assumption)).mono ?_; rintro e w' ⟨rfl, rfl⟩)
    | (go_at_call 44; refine (none_Tables _ gb (by assumption)).mono ?_; rintro e w' ⟨rfl, rfl⟩)
    | (go_at_call 45; refine (none_Frames _ gb (by assumption)).mono ?_; rintro e w' ⟨rfl, rfl⟩)
    | (go_at_call 46; refine (none_Replies _ gb (by assumption)).mono ?_; rintro e w' ⟨rfl, rfl⟩)
    | (go_at_call 47; refine (none_Pages _ gb (by assumption)).mono ?_; rintro e w' ⟨rfl, rfl⟩)
    | (go_at_call 48; refine (none_Rows _ gb (by assumption)).mono ?_; rintro e w' ⟨rfl, rfl⟩))
  go_ret
  exact ⟨rfl, HW.out.keeps.mono fun b _ hb => HK.out b hb⟩
end Go.Proofs.YthlkckpadjjbdaaDoor
