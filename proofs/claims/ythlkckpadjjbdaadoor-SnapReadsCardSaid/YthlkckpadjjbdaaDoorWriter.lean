/- snap's writer: number, values, pages. -/
import Derived.Test.YthlkckpadjjbdaaDoorCopy
import Derived.Test.YthlkckpadjjbdaaDoorState
import Derived.Deep.RegionLaw
namespace Go.Proofs.YthlkckpadjjbdaaDoor
open Go Go.RowKit

/-- The writer at block p: v is its list, which it owns; it reads as xs. -/
structure Wr (base : Nat) (w : World) (p : Nat) (v : Value) (xs : List Int) (bad : Bool) : Prop where
  row : w.heap[p]? = some (.cells #[v, .bool bad] 72 (0, 0))
  own : w.ownsRow base 5 1 v xs.length (xs.map (Value.int .u8))
  apart : v.ownBlock ≠ some p

theorem Wr.keeps {base : Nat} {w w' : World} {p : Nat} {v : Value} {xs : List Int} {bad : Bool} {S : Nat → Prop} (h : Wr base w p v xs bad) (hk : Keeps S w w') (hp : S p) (hv : ∀ b, v.ownBlock = some b → S b) : Wr base w' p v xs bad :=
  ⟨(hk.block p (row_lt h.row) hp).trans h.row, own_keeps h.own hk hv, h.apart⟩

/-- From w to w': only the writer's block, its list's and new ones have turned; its list lies in the old place or in a new one. -/
structure WrTo (p : Nat) (v : Value) (w : World) (v' : Value) (w' : World) : Prop where
  keep : Keeps (fun b => b ≠ p ∧ v.ownBlock ≠ some b) w w'
  at_ : ∀ b, v'.ownBlock = some b → v.ownBlock = some b ∨ w.heap.size ≤ b
theorem WrTo.refl (p : Nat) (v : Value) (w : World) : WrTo p v w v w := ⟨Keeps.refl _ _, fun _ h => .inl h⟩
theorem WrTo.trans {p : Nat} {v v' v'' : Value} {w w' w'' : World} (h : WrTo p v w v' w') (k : WrTo p v' w' v'' w'') : WrTo p v w v'' w'' := by
  refine ⟨h.keep.trans' k.keep fun b _ ⟨h1, h2⟩ => ⟨⟨h1, h2⟩, h1, fun e => ?_⟩, fun b hb => ?_⟩
  · rcases h.at_ b e with h3 | h3
    · exact h2 h3
    · omega
  · rcases k.at_ b hb with h3 | h3
    · exact h.at_ b h3
    · have := h.keep.size; right; omega

/-- What is left behind 'w.b = append(w.b, ..)': the owned list in its new place, stored. -/
theorem wr_put {base : Nat} {w w1 w2 : World} {p g cap : Nat} {v : Value} {xs ys : List Int} {bad : Bool} (hlt : p < w.heap.size) (ha : v.ownBlock ≠ some p)
    (hbel : Below w.drew.heap.size w.drew w1) (hrow2 : w2.heap[p]? = some (.cells #[v, .bool bad] 72 (0, 0)))
    (hown2 : w2.ownsRow base 5 1 (.slice (some ⟨g, 0, none⟩) (xs.length + ys.length) cap) (xs.length + ys.length) (xs.map (Value.int .u8) ++ ys.map (Value.int .u8)))
    (hgrow2 : w1.grownBy w2 v.ownBlock) (hat : v.ownBlock = some g ∨ g = w1.heap.size) :
    Wr base (w2.setCell ⟨p, 0, none⟩ (.slice (some ⟨g, 0, none⟩) (xs.length + ys.length) cap)) p (.slice (some ⟨g, 0, none⟩) (xs.length + ys.length) cap) (xs ++ ys) bad ∧
      WrTo p v w (.slice (some ⟨g, 0, none⟩) (xs.length + ys.length) cap) (w2.setCell ⟨p, 0, none⟩ (.slice (some ⟨g, 0, none⟩) (xs.length + ys.length) cap)) := by
  have hs1 : w.heap.size ≤ w1.heap.size := hbel.size
  have hgp : g ≠ p := by
    rintro rfl
    rcases hat with h | h
    · exact ha h
    · omega
  refine ⟨⟨by simpa using row_setCell hrow2 0 _, ?_, by simpa [Value.ownBlock] using hgp⟩, ?_, ?_⟩
  · have := own_keeps (S := fun b => b ≠ p) hown2 ((Keeps.refl _ w2).setCell (a := ⟨p, 0, none⟩) (by simp) (.slice (some ⟨g, 0, none⟩) (xs.length + ys.length) cap)) (by simp [Value.ownBlock, hgp])
    simpa using this
  · exact (((Keeps.refl _ w).drew.trans (Keeps.all _ hbel)).grown hgrow2 (fun k hk _ h => h.2 hk)).setCell (a := ⟨p, 0, none⟩) (fun _ h => h.1 rfl) _
  · intro b hb
    simp only [Value.ownBlock, Option.some.injEq] at hb
    subst hb
    rcases hat with h | h
    · exact .inl h
    · right; omega

set_option maxRecDepth 100000 in
set_option maxHeartbeats 800000 in
theorem wr_number_ok (base : Nat) (w : World) (p : Nat) (v : Value) (xs : List Int) (bad : Bool) (h : Wr base w p v xs bad) (hb : base ≤ w.heap.size) (hl : xs.length ≤ 1099511627776)
    (n most : Nat) (hn : n ≤ 9223372036854775807) (hm : n ≤ most) :
    Calls Tryd.prog 25 #[.pointer (some ⟨p, 0, none⟩), .int .i64 n, .int .u64 most] w fun e w' => e = .returned (.tuple #[]) ∧
      ∃ v', Wr base w' p v' (xs ++ uv n) bad ∧ WrTo p v w v' w' := by
  obtain ⟨i0, hi, hz0, hz1, hz2⟩ := info_parts Tryd.infoU8
  have hu10 := uv_len10 (n := n) (by omega)
  have hu0 := uv_pos n
  have c0 := row_cell h.row 0 rfl
  have f0 := row_free h.row 0
  have HR := Lib.hid h.row; have HO := Lib.hid h.own; have HA := Lib.hid h.apart; clear h
  have hlt := row_lt HR.out
  have hwr : IntKind.u64.wrap (n : Int) = n := IntWalk.u64_in _ ⟨by omega, by omega⟩
  go_enter Tryd.func25, Tryd.ntmps25
  go_wp2
  go_region_law (first
      | (refine step_append_lies _ (by rfl) _ _ 31 (by rfl) base 5 i0 _ 1 1 Tryd.underlying31 hi hz0 hz1 hz2 rfl (by omega) v xs.length (xs.map (Value.int .u8)) (by rfl) hown0 ⟨g1, 0, none⟩ (uv n).length cap1 ((uv n).map (Value.int .u8)) (by rfl) (by simp) (hown1.cells rfl) (by intro u hu; simp at hu; obtain ⟨x, _, rfl⟩ := hu; rfl) (by omega) (by unfold maxLen; omega) (by omega) (Nat.le_trans hb hbel.size) w1.heap.size rfl ?_; intro g cap w2 hown2 hgrow2 hat hlt2; have hrow2 := grown_block hgrow2 hrow1 HA.out; have c2 := row_cell hrow2 0 rfl; have f2 := row_free hrow2 0)
      | (go_simp; go_at_call 71; (with_reducible refine (wire_Uvar _ n (by omega)).mono ?_); rintro e w1 ⟨v', rfl, hown1, hbel⟩; obtain ⟨g1, cap1, rfl, _, _⟩ := hown1.form hu0; have hown0 := own_below HO.out (below_step (Below.refl _ w).drew (Nat.le_refl _) hbel); have hrow1 := (hbel.block p hlt).trans HR.out; have c1 := row_cell hrow1 0 rfl))
  all_goals exact bodyPost_end (results_none rfl _ _ _) rfl ⟨rfl, _, wr_put hlt HA.out hbel hrow2 hown2 hgrow2 hat⟩

set_option maxRecDepth 100000 in
set_option maxHeartbeats 800000 in
theorem wr_number_bad (base : Nat) (w : World) (p : Nat) (v : Value) (xs : List Int) (bad : Bool) (h : Wr base w p v xs bad)
    (n : Int) (most : Nat) (hn : n ≤ 9223372036854775807) (hn' : -9223372036854775808 ≤ n) (hm : ¬ (0 ≤ n ∧ n ≤ most)) :
    Calls Tryd.prog 25 #[.pointer (some ⟨p, 0, none⟩), .int .i64 n, .int .u64 most] w fun e w' => e = .returned (.tuple #[]) ∧
      ∃ v', Wr base w' p v' xs true ∧ WrTo p v w v' w' := by
  have c1 := row_cell h.row 1 rfl
  have f1 := row_free h.row 1
  have fin : Wr base (w.setCell ⟨p, 1, none⟩ (.bool true)) p v xs true ∧ WrTo p v w v (w.setCell ⟨p, 1, none⟩ (.bool true)) := by
    have hk : Keeps (fun b => b ≠ p) w (w.setCell ⟨p, 1, none⟩ (.bool true)) := (Keeps.refl _ w).setCell (a := ⟨p, 1, none⟩) (by simp) _
    refine ⟨⟨by simpa using row_setCell h.row 1 (.bool true), own_keeps h.own hk fun b hb e => h.apart (e ▸ hb), h.apart⟩, ⟨hk.mono fun b _ h => h.1, fun b hb => .inl hb⟩⟩
  have HF := Lib.hid fin; clear fin h
  rcases Int.lt_or_le n 0 with h0 | h0
  · go_enter Tryd.func25, Tryd.ntmps25
    go_wp2
    exact bodyPost_ret (results_none rfl _ _ _) rfl ⟨rfl, _, HF.out⟩
  · obtain ⟨m, rfl⟩ := Int.eq_ofNat_of_zero_le h0
    have hwr : IntKind.u64.wrap (m : Int) = m := IntWalk.u64_in _ ⟨by omega, by omega⟩
    go_enter Tryd.func25, Tryd.ntmps25
    go_wp2
    exact bodyPost_ret (results_none rfl _ _ _) rfl ⟨rfl, _, HF.out⟩

/-- Does a number lie within its bound? -/
def okn (n : Int) (most : Nat) : Bool := decide (0 ≤ n ∧ n ≤ most)
theorem wr_number (base : Nat) (w : World) (p : Nat) (v : Value) (xs : List Int) (bad : Bool) (h : Wr base w p v xs bad) (hb : base ≤ w.heap.size) (hl : xs.length ≤ 1099511627776)
    (n : Int) (most : Nat) (hn : n ≤ 9223372036854775807) (hn' : -9223372036854775808 ≤ n) :
    Calls Tryd.prog 25 #[.pointer (some ⟨p, 0, none⟩), .int .i64 n, .int .u64 most] w fun e w' => e = .returned (.tuple #[]) ∧
      ∃ v' xs', Wr base w' p v' xs' (bad || !okn n most) ∧ WrTo p v w v' w' ∧ (okn n most = true → xs' = xs ++ uv n.toNat) ∧ xs'.length ≤ xs.length + 10 := by
  by_cases ho : 0 ≤ n ∧ n ≤ most
  · obtain ⟨m, rfl⟩ := Int.eq_ofNat_of_zero_le ho.1
    have e : okn (m : Int) most = true := decide_eq_true ho
    refine (wr_number_ok base w p v xs bad h hb hl m most (by omega) (by omega)).mono ?_
    rintro e' w' ⟨rfl, v', h1, h2⟩
    refine ⟨rfl, v', _, by simpa [e] using h1, h2, fun _ => by simp, ?_⟩
    have := uv_len10 (n := m) (by omega)
    rw [List.length_append]; omega
  · have e : okn n most = false := decide_eq_false ho
    refine (wr_number_bad base w p v xs bad h n most hn hn' ho).mono ?_
    rintro e' w' ⟨rfl, v', h1, h2⟩
    exact ⟨rfl, v', xs, by simpa [e] using h1, h2, fun h => by simp [e] at h, by omega⟩

theorem values_next {ys xs1 : List Int} {l : List Int} {k m : Nat} (h : ys = xs1 ++ (l.take k).flatMap fun x => uv x.toNat) (h' : (l.take (k + 1)).flatMap (fun x => uv x.toNat) = (l.take k).flatMap (fun x => uv x.toNat) ++ uv m) :
    Hid (ys ++ uv m = xs1 ++ (l.take (k + 1)).flatMap fun x => uv x.toNat) := by
  show _ = _
  rw [h, h', List.append_assoc]

set_option maxRecDepth 100000 in
set_option maxHeartbeats 1600000 in
theorem wr_values (base : Nat) (w : World) (p : Nat) (v : Value) (xs : List Int) (bad : Bool) (h : Wr base w p v xs bad) (hb : base ≤ w.heap.size) (hl : xs.length ≤ 1000000000)
    (S) (lv : Value) (l : List Int) (hr : RdI .u64 S w lv l) (hS : ∀ b, S b → b ≠ p ∧ v.ownBlock ≠ some b) (hw : ∀ x ∈ l, 0 ≤ x ∧ x ≤ 18446744073709551615) (most : Nat) (hmost : most ≤ 1000000) :
    Calls Tryd.prog 26 #[.pointer (some ⟨p, 0, none⟩), lv, .int .u64 most] w fun e w' => e = .returned (.tuple #[]) ∧
      ∃ v' xs', Wr base w' p v' xs' (bad || decide (most < l.length)) ∧ WrTo p v w v' w' ∧ (bad = false → l.length ≤ most → xs' = xs ++ uv l.length ++ l.flatMap fun x => uv x.toNat) ∧ xs'.length ≤ xs.length + 10 + 10 * most := by
  obtain ⟨i0, hi, hz0, hz1, hz2⟩ := info_parts Tryd.infoU8
  have HRd := Lib.hid hr
  obtain ⟨a, c, rfl, hc, hm, r⟩ := hr
  have Hcells := Lib.hid r; have HS := Lib.hid hS; have HW := Lib.hid hw; have HWr := Lib.hid h
  clear r hS hw h
  have eok : (!okn (l.length : Int) most) = decide (most < l.length) := by
    unfold okn
    by_cases hh : l.length ≤ most
    · rw [decide_eq_true ⟨by omega, by omega⟩, decide_eq_false (by omega)]; rfl
    · rw [decide_eq_false (by omega), decide_eq_true (by omega)]; rfl
  have EOK := Lib.hid eok; clear eok
  go_enter Tryd.func26, Tryd.ntmps26
  go_wp2_with fail
  (with_reducible refine (wr_number base w p v xs bad HWr.out hb (by omega) l.length most (by omega) (by omega)).mono ?_)
  rintro e w1 ⟨rfl, v1, xs1, hw1, hto1, hx1, hlen1⟩
  rw [EOK.out] at hw1
  have HX1 := Lib.hid hx1; clear hx1
  have HTO := Lib.hid hto1; clear hto1
  by_cases hbad : (bad || decide (most < l.length)) = true
  · rw [hbad] at hw1
    have c1 := row_cell hw1.row 1 rfl
    have HF := Lib.hid hw1; clear hw1
    go_wp2
    exact bodyPost_ret (results_none rfl _ _ _) rfl ⟨rfl, v1, xs1, by rw [hbad]; exact HF.out, HTO.out, fun h1 h2 => by rw [h1] at hbad; simp at hbad; omega, by omega⟩
  · have hbad' : (bad || decide (most < l.length)) = false := by simpa using hbad
    rw [hbad'] at hw1
    have HB : Hid (bad = false ∧ l.length ≤ most) := by
      show _ ∧ _
      simp only [Bool.or_eq_false_iff, decide_eq_false_iff_not] at hbad'; exact ⟨hbad'.1, by omega⟩
    have hlm := HB.out.2
    have HBB := Lib.hid hbad'
    clear hbad hbad'
    have c1 := row_cell hw1.row 1 rfl
    have HF := Lib.hid hw1; clear hw1
    have HX : Hid (xs1 = xs ++ uv l.length) := by
      have := HX1.out (by unfold okn; rw [decide_eq_true ⟨by omega, by omega⟩])
      show _ = _
      simpa using this
    have hsz1 := HTO.out.keep.size
    go_wp2
    go_loopw [19] (fun i wr => ∃ (k : Nat) (vk : Value) (ys : List Int), k ≤ l.length ∧ i = .int .i64 k ∧ Hid (Wr base wr p vk ys false) ∧ Hid (WrTo p v w vk wr) ∧ Hid (ys = xs1 ++ (l.take k).flatMap fun x => uv x.toNat) ∧ ys.length ≤ xs1.length + 10 * k) (fun i _ => l.length - (intOf i).toNat)
    case atStart => exact ⟨0, v1, xs1, by omega, rfl, HF, HTO, by simp [Hid], by omega⟩
    case round =>
      obtain ⟨k, vk, ys, hk, rfl, HK, HT, HY, hlen⟩ := hrel
      by_cases hlt' : k < l.length
      · obtain ⟨bb, off, rfl, hSb, _⟩ := Hcells.out k hlt'
        have RK := HRd.out.keeps (HT.out.keep.mono fun b _ hb => HS.out b hb)
        obtain ⟨_, _, ee, _, _, rr⟩ := RK
        obtain ⟨b2, o2, ee2, _, hcell⟩ := rr k hlt'
        simp only [Value.slice.injEq] at ee
        rw [← ee.1] at ee2
        simp only [Option.some.injEq, Addr.mk.injEq, and_true] at ee2
        obtain ⟨rfl, rfl⟩ := ee2
        clear rr ee
        have hx := HW.out l[k] (List.getElem_mem _)
        have HYN : Hid ((l.take (k + 1)).flatMap (fun x => uv x.toNat) = (l.take k).flatMap (fun x => uv x.toNat) ++ uv l[k].toNat) := by
          show _ = _
          rw [List.take_succ_eq_append_getElem hlt', List.flatMap_append]; simp
        obtain ⟨m, hme⟩ := Int.eq_ofNat_of_zero_le hx.1
        rw [hme] at hx hcell HYN
        rw [Int.toNat_natCast] at HYN
        clear hme
        have hu10 := uv_len10 (n := m) (by omega)
        have hu0 := uv_pos m
        have c0 := row_cell HK.out.row 0 rfl
        have f0 := row_free HK.out.row 0
        have hlt := row_lt HK.out.row
        have hbw : base ≤ wr.heap.size := Nat.le_trans hb HT.out.keep.size
        have HR := Lib.hid HK.out.row; have HO := Lib.hid HK.out.own; have HA := Lib.hid HK.out.apart
        go_wp2
        go_region_law (first
            | (refine step_append_lies _ (by rfl) _ _ 31 (by rfl) base 5 i0 _ 1 1 Tryd.underlying31 hi hz0 hz1 hz2 rfl (by omega) vk ys.length (ys.map (Value.int .u8)) (by rfl) hown0 ⟨g1, 0, none⟩ (uv m).length cap1 ((uv m).map (Value.int .u8)) (by rfl) (by simp) (hown1.cells rfl) (by intro u hu; simp at hu; obtain ⟨x, _, rfl⟩ := hu; rfl) (by omega) (by unfold maxLen; omega) (by omega) (Nat.le_trans hbw hbel.size) w1.heap.size rfl ?_; intro g cap w2 hown2 hgrow2 hat hlt2; have hrow2 := grown_block hgrow2 hrow1 HA.out; have c2 := row_cell hrow2 0 rfl; have f2 := row_free hrow2 0)
            | (go_simp; go_at_call 71; (with_reducible refine (wire_Uvar _ m (by omega)).mono ?_); rintro e w1 ⟨v', rfl, hown1, hbel⟩; obtain ⟨g1, cap1, rfl, _, _⟩ := hown1.form hu0; have hown0 := own_below HO.out (below_step (Below.refl _ wr).drew (Nat.le_refl _) hbel); have hrow1 := (hbel.block p hlt).trans HR.out; have c1 := row_cell hrow1 0 rfl))
        all_goals have P := Lib.hid (wr_put (bad := false) (xs := ys) (ys := uv m) hlt HA.out hbel hrow2 hown2 hgrow2 hat)
        all_goals go_wp2
        all_goals go_roundw
        all_goals first
          | exact ⟨k + 1, _, _, by omega, by go_num, P.out.1, HT.out.trans P.out.2, values_next HY.out HYN.out, by rw [List.length_append]; omega⟩
          | (simp [intOf]; omega)
      · have hkl : k = l.length := by omega
        have HF : Hid (ys = xs ++ uv l.length ++ l.flatMap fun x => uv x.toNat) := by
          have := HY.out
          rw [hkl, List.take_length, HX.out] at this
          exact this
        clear hkl
        go_wp2
        exact bodyPost_end (results_none rfl _ _ _) rfl ⟨rfl, vk, ys, by rw [HBB.out]; exact HK.out, HT.out, fun _ _ => HF.out, by omega⟩

theorem wr_numberI (base : Nat) (w : World) (p : Nat) (v : Value) (xs : List Int) (bad : Bool) (h : Wr base w p v xs bad) (hb : base ≤ w.heap.size) (hl : xs.length ≤ 1099511627776)
    (n : Int) (most : Nat) (M : Int) (hM : (most : Int) = M) (hn : n ≤ 9223372036854775807) (hn' : -9223372036854775808 ≤ n) :
    Calls Tryd.prog 25 #[.pointer (some ⟨p, 0, none⟩), .int .i64 n, .int .u64 M] w fun e w' => e = .returned (.tuple #[]) ∧
      ∃ v' xs', Wr base w' p v' xs' (bad || !okn n most) ∧ WrTo p v w v' w' ∧ (okn n most = true → xs' = xs ++ uv n.toNat) ∧ xs'.length ≤ xs.length + 10 := by
  subst hM; exact wr_number base w p v xs bad h hb hl n most hn hn'
theorem wr_valuesI (base : Nat) (w : World) (p : Nat) (v : Value) (xs : List Int) (bad : Bool) (h : Wr base w p v xs bad) (hb : base ≤ w.heap.size) (hl : xs.length ≤ 1000000000)
    (S) (lv : Value) (l : List Int) (hr : RdI .u64 S w lv l) (hS : ∀ b, S b → b ≠ p ∧ v.ownBlock ≠ some b) (hw : ∀ x ∈ l, 0 ≤ x ∧ x ≤ 18446744073709551615) (most : Nat) (M : Int) (hM : (most : Int) = M) (hmost : most ≤ 1000000) :
    Calls Tryd.prog 26 #[.pointer (some ⟨p, 0, none⟩), lv, .int .u64 M] w fun e w' => e = .returned (.tuple #[]) ∧
      ∃ v' xs', Wr base w' p v' xs' (bad || decide (most < l.length)) ∧ WrTo p v w v' w' ∧ (bad = false → l.length ≤ most → xs' = xs ++ uv l.length ++ l.flatMap fun x => uv x.toNat) ∧ xs'.length ≤ xs.length + 10 + 10 * most := by
  subst hM; exact wr_values base w p v xs bad h hb hl S lv l hr hS hw most hmost
end Go.Proofs.YthlkckpadjjbdaaDoor
