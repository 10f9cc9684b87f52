/- flagonref00.CopyBytes: a list of its own. module's writer: number. wire.Text, and module's writer: text. module.ask: it returns, or it throws. types.Letter, types.each, types.letters, types.Shape; module's rules.letters. module's writer: count. types.Fits. module.value. rules.code: how many instructions. module.caught, and Encode's deferred closure. -/
import Derived.Test.YtfhkjahjenpbgaaDoorMRuv
import Derived.Deep.RegionLaw
import Derived.Test.YtfhkjahjenpbgaaDoorMMod
import Derived.Lib.ConvBytes
import Derived.Test.YtfhkjahjenpbgaaDoorMLib
import Derived.Laws.RangeAny
import Derived.Defers
import Derived.Recover
namespace Go.Proofs.YtfhkjahjenpbgaaDoor
open Go Go.RowKit

end Go.Proofs.YtfhkjahjenpbgaaDoor
namespace Go.Proofs.YtfhkjahjenpbgaaDoor
open Go Go.RowKit

/-- The writer at block p: v is its list, which it owns; it reads as xs. -/
structure Wm (base : Nat) (w : World) (p : Nat) (v : Value) (xs : List Int) (mp : Option Addr) (al : Int) : Prop where
  row : w.heap[p]? = some (.cells #[.pointer mp, .int .i64 al, v] 101 (0, 0))
  own : w.ownsRow base 5 1 v xs.length (xs.map (Value.int .u8))
  apart : v.ownBlock ≠ some p

theorem Wm.keeps {base : Nat} {w w' : World} {p : Nat} {v : Value} {xs : List Int} {mp : Option Addr} {al : Int} {S : Nat → Prop} (h : Wm base w p v xs mp al) (hk : Keeps S w w') (hp : S p) (hv : ∀ b, v.ownBlock = some b → S b) : Wm base w' p v xs mp al :=
  ⟨(hk.block p (row_lt h.row) hp).trans h.row, own_keeps h.own hk hv, h.apart⟩

/-- From w to w': only the writer's block, its list's and new ones have turned; its list lies in the old place or in a new one. -/
structure WrTo (p : Nat) (v : Value) (w : World) (v' : Value) (w' : World) : Prop where
  keep : Keeps (fun b => b ≠ p ∧ v.ownBlock ≠ some b) w w'
  at_ : ∀ b, v'.ownBlock = some b → v.ownBlock = some b ∨ w.heap.size ≤ b
theorem WrTo.refl (p : Nat) (v : Value) (w : World) : WrTo p v w v w := ⟨Keeps.refl _ _, fun _ h => .inl h⟩
theorem WrTo.trans {p : Nat} {v v' v'' : Value} {w w' w'' : World} (h : WrTo p v w v' w') (k : WrTo p v' w' v'' w'') : WrTo p v w v'' w'' := by
  refine ⟨h.keep.trans' k.keep fun b _ ⟨h1, h2⟩ => ⟨⟨h1, h2⟩, h1, fun e => ?_⟩, fun b hb => ?_⟩
  · rcases h.at_ b e with h3 | h3
    · exact h2 h3
    · omega
  · rcases k.at_ b hb with h3 | h3
    · exact h.at_ b h3
    · have := h.keep.size; right; omega

/-- What is left behind 'w.b = append(w.b, ..)': the owned list in its new place, stored. -/
theorem wm_put {base : Nat} {w w1 w2 : World} {p g cap : Nat} {v : Value} {xs ys : List Int} {mp : Option Addr} {al : Int} (hlt : p < w.heap.size) (ha : v.ownBlock ≠ some p)
    (hbel : Below w.drew.heap.size w.drew w1) (hrow2 : w2.heap[p]? = some (.cells #[.pointer mp, .int .i64 al, v] 101 (0, 0)))
    (hown2 : w2.ownsRow base 5 1 (.slice (some ⟨g, 0, none⟩) (xs.length + ys.length) cap) (xs.length + ys.length) (xs.map (Value.int .u8) ++ ys.map (Value.int .u8)))
    (hgrow2 : w1.grownBy w2 v.ownBlock) (hat : v.ownBlock = some g ∨ g = w1.heap.size) :
    Wm base (w2.setCell ⟨p, 2, none⟩ (.slice (some ⟨g, 0, none⟩) (xs.length + ys.length) cap)) p (.slice (some ⟨g, 0, none⟩) (xs.length + ys.length) cap) (xs ++ ys) mp al ∧
      WrTo p v w (.slice (some ⟨g, 0, none⟩) (xs.length + ys.length) cap) (w2.setCell ⟨p, 2, none⟩ (.slice (some ⟨g, 0, none⟩) (xs.length + ys.length) cap)) := by
  have hs1 : w.heap.size ≤ w1.heap.size := hbel.size
  have hgp : g ≠ p := by
    rintro rfl
    rcases hat with h | h
    · exact ha h
    · omega
  refine ⟨⟨by simpa using row_setCell hrow2 2 _, ?_, by simpa [Value.ownBlock] using hgp⟩, ?_, ?_⟩
  · have := own_keeps (S := fun b => b ≠ p) hown2 ((Keeps.refl _ w2).setCell (a := ⟨p, 2, none⟩) (by simp) (.slice (some ⟨g, 0, none⟩) (xs.length + ys.length) cap)) (by simp [Value.ownBlock, hgp])
    simpa using this
  · exact (((Keeps.refl _ w).drew.trans (Keeps.all _ hbel)).grown hgrow2 (fun k hk _ h => h.2 hk)).setCell (a := ⟨p, 2, none⟩) (fun _ h => h.1 rfl) _
  · intro b hb
    simp only [Value.ownBlock, Option.some.injEq] at hb
    subst hb
    rcases hat with h | h
    · exact .inl h
    · right; omega

set_option maxRecDepth 100000 in
set_option maxHeartbeats 800000 in
theorem wm_number (base : Nat) (w : World) (p : Nat) (v : Value) (xs : List Int) (mp : Option Addr) (al : Int) (h : Wm base w p v xs mp al) (hb : base ≤ w.heap.size) (hl : xs.length ≤ 1099511627776)
    (n : Nat) (hn : n ≤ 9223372036854775807) :
    Calls Tryd.prog 43 #[.pointer (some ⟨p, 0, none⟩), .int .i64 n] w fun e w' => e = .returned (.tuple #[]) ∧
      ∃ v', Wm base w' p v' (xs ++ uv n) mp al ∧ WrTo p v w v' w' := by
  obtain ⟨i0, hi, hz0, hz1, hz2⟩ := info_parts Tryd.infoU8
  have hu10 := uv_len10 (n := n) (by omega)
  have hu0 := uv_pos n
  have c0 := row_cell h.row 2 rfl
  have f0 := row_free h.row 2
  have HR := Lib.hid h.row; have HO := Lib.hid h.own; have HA := Lib.hid h.apart; clear h
  have hlt := row_lt HR.out
  have hwr : IntKind.u64.wrap (n : Int) = n := IntWalk.u64_in _ ⟨by omega, by omega⟩
  go_enter Tryd.func43, Tryd.ntmps43
  go_wp2
  go_region_law (first
      | (refine step_append_lies _ (by rfl) _ _ 41 (by rfl) base 5 i0 _ 1 1 Tryd.underlying41 hi hz0 hz1 hz2 rfl (by omega) v xs.length (xs.map (Value.int .u8)) (by rfl) hown0 ⟨g1, 0, none⟩ (uv n).length cap1 ((uv n).map (Value.int .u8)) (by rfl) (by simp) (hown1.cells rfl) (by intro u hu; simp at hu; obtain ⟨x, _, rfl⟩ := hu; rfl) (by omega) (by unfold maxLen; omega) (by omega) (Nat.le_trans hb hbel.size) w1.heap.size rfl ?_; intro g cap w2 hown2 hgrow2 hat hlt2; have hrow2 := grown_block hgrow2 hrow1 HA.out; have c2 := row_cell hrow2 2 rfl; have f2 := row_free hrow2 2)
      | (go_simp; go_at_call 60; (with_reducible refine (wire_Uvar _ n (by omega)).mono ?_); rintro e w1 ⟨v', rfl, hown1, hbel⟩; obtain ⟨g1, cap1, rfl, _, _⟩ := hown1.form hu0; have hown0 := own_below HO.out (below_step (Below.refl _ w).drew (Nat.le_refl _) hbel); have hrow1 := (hbel.block p hlt).trans HR.out; have c1 := row_cell hrow1 2 rfl))
  all_goals exact bodyPost_end (results_none rfl _ _ _) rfl ⟨rfl, _, wm_put hlt HA.out hbel hrow2 hown2 hgrow2 hat⟩

end Go.Proofs.YtfhkjahjenpbgaaDoor
namespace Go.Proofs.YtfhkjahjenpbgaaDoor
open Go Go.RowKit

theorem cnv_run (w : World) (s : ByteArray) : (convert 9 41 (.string s)).run Tryd.prog w = .ok (.slice (some ⟨w.heap.size, 0, none⟩) s.size (grownCap w s.size 0 5)) (Lib.bytesWorld w 5 s) :=
  Lib.run_convert_string_bytes w _ _ _ s Tryd.underlying9 Tryd.underlying41 Tryd.underlying5
theorem cnv_below (w : World) (s : ByteArray) : Below w.heap.size w (Lib.bytesWorld w 5 s) :=
  ⟨rfl, rfl, rfl, by rw [Lib.bytesWorld_size]; omega, fun b hb => Lib.bytesWorld_at_old w _ s b hb⟩
theorem bys_get (s : ByteArray) (j : Nat) (hj : j < s.size) : (bys s)[j]? = some ((s.data.toList.getD j 0).toNat : Int) := by
  simp [bys, List.getD, hj]
theorem cnv_news (w : World) (s : ByteArray) : ∀ j v, ((bys s).map (Value.int .u8))[j]? = some v → (Lib.bytesWorld w 5 s).cell? ((⟨w.heap.size, 0, none⟩ : Addr).add j) = some v := by
  intro j v hv
  have hj : j < s.size := by have := (List.getElem?_eq_some_iff.1 hv).1; simpa [bys_len] using this
  have := Lib.bytesWorld_cell w 5 s j hj
  rw [List.getElem?_map, bys_get s j hj, Option.map_some, Option.some.injEq] at hv
  subst hv
  unfold Addr.add
  split
  · rename_i e0; subst e0; exact this
  · simpa using this
set_option maxRecDepth 100000 in
set_option maxHeartbeats 800000 in
theorem wire_Text (w : World) (s : ByteArray) (hs : s.size ≤ 1099511627776) :
    Calls Tryd.prog 59 #[.string s] w fun e w' => ∃ v', e = .returned v' ∧ w'.ownsRow w.heap.size 5 1 v' (encT s).length ((encT s).map (Value.int .u8)) ∧ Below w.heap.size w w' := by
  have hu10 := uv_len10 (n := s.size) (by omega)
  have hbl := bys_len s
  have HBL := Lib.hid hbl
  clear hbl
  go_enter Tryd.func59, Tryd.ntmps59
  go_wp2_with fail
  refine (wire_Uvar _ s.size (by omega)).mono ?_
  rintro e w1 ⟨v1, rfl, hown1, hbel1⟩
  have hcv := cnv_run w1 s
  have hb2 := cnv_below w1 s
  have hn := cnv_news w1 s
  have hsz : w1.heap.size < (Lib.bytesWorld w1 5 s).heap.size := by rw [Lib.bytesWorld_size]; omega
  generalize Lib.bytesWorld w1 5 s = w2 at *
  generalize grownCap w1 s.size 0 5 = cap at *
  have HO := Lib.hid (own_below hown1 hb2)
  have HB := Lib.hid (below_next hbel1 hb2)
  have HN := Lib.hid hn
  have hs1 := hbel1.size
  clear hown1 hbel1 hb2 hn
  go_wp2_with fail
  refine (wire_put _ w.heap.size v1 (uv s.size).length ((uv s.size).map (Value.int .u8)) HO.out (by omega) ⟨w1.heap.size, 0, none⟩ s.size cap ((bys s).map (Value.int .u8)) (by rw [List.length_map, HBL.out]) HN.out (by intro u hu; simp only [List.mem_map] at hu; obtain ⟨x, _, rfl⟩ := hu; rfl) (by omega)).mono ?_
  rintro e w3 ⟨v', rfl, hown3, hgrow3, _⟩
  go_wp2
  go_ret
  refine ⟨v', rfl, ?_, HB.out.grown hgrow3 (by omega) fun k hk => (HO.out.lt k hk).1⟩
  have e : (encT s).length = (uv s.size).length + s.size := by rw [encT, List.length_append, HBL.out]
  rw [e, encT, List.map_append]
  exact hown3
theorem encT_pos (s : ByteArray) : 0 < (encT s).length := by
  have := uv_pos s.size
  rw [encT, List.length_append]; omega
theorem encT_len {s : ByteArray} (hs : s.size ≤ 1099511627776) : (encT s).length ≤ s.size + 10 := by
  have := uv_len10 (n := s.size) (by omega)
  rw [encT, List.length_append, bys_len]; omega
set_option maxRecDepth 100000 in
set_option maxHeartbeats 800000 in
theorem wm_text (base : Nat) (w : World) (p : Nat) (v : Value) (xs : List Int) (mp : Option Addr) (al : Int) (h : Wm base w p v xs mp al) (hb : base ≤ w.heap.size) (hl : xs.length ≤ 1099511627776)
    (s : ByteArray) (hs : s.size ≤ 1099511627776) :
    Calls Tryd.prog 38 #[.pointer (some ⟨p, 0, none⟩), .string s] w fun e w' => e = .returned (.tuple #[]) ∧
      ∃ v', Wm base w' p v' (xs ++ encT s) mp al ∧ WrTo p v w v' w' := by
  obtain ⟨i0, hi, hz0, hz1, hz2⟩ := info_parts Tryd.infoU8
  have hu10 := encT_len hs
  have hu0 := encT_pos s
  have c0 := row_cell h.row 2 rfl
  have f0 := row_free h.row 2
  have HR := Lib.hid h.row; have HO := Lib.hid h.own; have HA := Lib.hid h.apart; clear h
  have hlt := row_lt HR.out
  go_enter Tryd.func38, Tryd.ntmps38
  go_wp2
  go_region_law (first
      | (refine step_append_lies _ (by rfl) _ _ 41 (by rfl) base 5 i0 _ 1 1 Tryd.underlying41 hi hz0 hz1 hz2 rfl (by omega) v xs.length (xs.map (Value.int .u8)) (by rfl) hown0 ⟨g1, 0, none⟩ (encT s).length cap1 ((encT s).map (Value.int .u8)) (by rfl) (by simp) (hown1.cells rfl) (by intro u hu; simp at hu; obtain ⟨x, _, rfl⟩ := hu; rfl) (by omega) (by unfold maxLen; omega) (by omega) (Nat.le_trans hb hbel.size) w1.heap.size rfl ?_; intro g cap w2 hown2 hgrow2 hat hlt2; have hrow2 := grown_block hgrow2 hrow1 HA.out; have c2 := row_cell hrow2 2 rfl; have f2 := row_free hrow2 2)
      | (go_simp; go_at_call 59; (with_reducible refine (wire_Text _ s hs).mono ?_); rintro e w1 ⟨v', rfl, hown1, hbel⟩; obtain ⟨g1, cap1, rfl, _, _⟩ := hown1.form hu0; have hown0 := own_below HO.out (below_step (Below.refl _ w).drew (Nat.le_refl _) hbel); have hrow1 := (hbel.block p hlt).trans HR.out; have c1 := row_cell hrow1 2 rfl))
  all_goals exact bodyPost_end (results_none rfl _ _ _) rfl ⟨rfl, _, wm_put hlt HA.out hbel hrow2 hown2 hgrow2 hat⟩
end Go.Proofs.YtfhkjahjenpbgaaDoor
namespace Go.Proofs.YtfhkjahjenpbgaaDoor
open Go Go.RowKit

/-- What module throws: an error, a place. -/
def thrown (e at_ : Int) : List PanicEntry := [{ v := .iface 119 (.agg #[.int .i64 e, .int .i64 at_]), recovered := false }]
theorem mod_ask_ok (w : World) (e at_ : Int) :
    Calls Tryd.prog 30 #[.bool true, .int .i64 e, .int .i64 at_] w fun r w' => r = .returned (.tuple #[]) ∧ w' = w := by
  go_enter Tryd.func30, Tryd.ntmps30
  go_wp2
  go_end0
  all_goals exact ⟨rfl, rfl⟩
theorem mod_ask_no (w : World) (e at_ : Int) :
    Calls Tryd.prog 30 #[.bool false, .int .i64 e, .int .i64 at_] w fun r w' => r = .panicked (thrown e at_) ∧ w' = w := by
  go_enter Tryd.func30, Tryd.ntmps30
  go_wp2
  all_goals exact ⟨rfl, rfl, rfl⟩
theorem mod_ask (w : World) (h : Bool) (e at_ : Int) :
    Calls Tryd.prog 30 #[.bool h, .int .i64 e, .int .i64 at_] w fun r w' => r = (if h then .returned (.tuple #[]) else .panicked (thrown e at_)) ∧ w' = w := by
  cases h
  · exact (mod_ask_no w e at_).mono fun r w' h => h
  · exact (mod_ask_ok w e at_).mono fun r w' h => h
end Go.Proofs.YtfhkjahjenpbgaaDoor
namespace Go.Proofs.YtfhkjahjenpbgaaDoor
open Go Go.RowKit

theorem types_Letter (w : World) (c : Nat) :
    Calls Tryd.prog 22 #[.int .u8 c] w fun r w' => r = .returned (.bool (c == 119 || c == 108)) ∧ w' = w := by
  go_enter Tryd.func22, Tryd.ntmps22
  by_cases h1 : c = 119
  · subst h1
    go_wp2
    go_ret
    exact ⟨rfl, rfl⟩
  · by_cases h2 : c = 108
    · subst h2
      go_wp2
      go_ret
      exact ⟨rfl, rfl⟩
    · have e1 : ((c : Int) == 119) = false := by simp; omega
      have e2 : ((c : Int) == 108) = false := by simp; omega
      go_wp2
      go_ret
      refine ⟨?_, rfl⟩
      have e3 : (c == 119) = false := by simp; omega
      have e4 : (c == 108) = false := by simp; omega
      simp [e3, e4]
theorem types_letters1 (w : World) (i c : Int) :
    Calls Tryd.prog 77 #[.int .i64 i, .int .u8 c] w fun r w' => r = .returned (.bool true) ∧ w' = w := by
  go_enter Tryd.func77, Tryd.ntmps77
  go_wp2
  go_ret
  exact ⟨rfl, rfl⟩
def letB (c : UInt8) : Bool := c == 119 || c == 108
def letsFrom (s : ByteArray) (pos : Nat) : Bool := (s.data.toList.drop pos).all letB
theorem letB_nat (c : UInt8) : letB c = (c.toNat == 119 || c.toNat == 108) := by
  unfold letB
  have h : ∀ k : UInt8, (c == k) = (c.toNat == k.toNat) := fun k => by
    rw [Bool.eq_iff_iff]; simp [UInt8.toNat_inj]
  rw [h 119, h 108]; rfl
theorem letsFrom_step {s : ByteArray} {pos : Nat} (h : pos < s.size) : letsFrom s pos = (letB s[pos] && letsFrom s (pos + 1)) := by
  unfold letsFrom
  rw [List.drop_eq_getElem_cons (by simpa using h), List.all_cons]; rfl
theorem letsFrom_end {s : ByteArray} {pos : Nat} (h : ¬ pos < s.size) : letsFrom s pos = true := by
  unfold letsFrom
  rw [List.drop_of_length_le (by simp; omega)]; rfl
set_option maxRecDepth 100000 in
set_option maxHeartbeats 800000 in
theorem types_each (w : World) (s : ByteArray) (hs : s.size ≤ 140737488355328) :
    Calls Tryd.prog 16 #[.string s, .func (.func 77) #[] #[]] w fun r w' => r = .returned (.bool (letsFrom s 0)) ∧ Below w.heap.size w w' := by
  go_enter Tryd.func16, Tryd.ntmps16
  go_wp2
  go_loopw [6] (fun _ wr => ∃ pos : Nat, pos ≤ s.size ∧ wr = w.iter s pos ∧ Hid (letsFrom s pos = letsFrom s 0)) (fun _ wr => s.size - wr.iterPos w.heap.size)
  case atStart => exact ⟨0, by omega, rfl, rfl⟩
  case round =>
    obtain ⟨pos, hp, rfl, HL⟩ := hrel
    have hb : Below w.heap.size w (w.iter s pos) := below_alloc w _
    have hb' : Below w.heap.size w (w.iter s (pos + 1)) := below_alloc w _
    by_cases hlt : pos < s.size
    · have hst := Lib.hid (letsFrom_step hlt)
      by_cases ha : (s[pos]'hlt).toNat < 128
      · have hnx : ∀ ty, (Instr.next (.pointer (some ⟨w.heap.size, 0, none⟩)) true ty).run Tryd.prog (w.iter s pos) = _ := fun ty => run_next_ascii w s pos ty hlt ha
        have HB := Lib.hid (letB_nat s[pos])
        obtain ⟨c, hc⟩ : ∃ c : Nat, (s[pos]'hlt).toNat = c := ⟨_, rfl⟩
        rw [hc] at hnx ha
        have HC := Lib.hid hc
        clear hc
        cases hcl : (c == 119 || c == 108) with
        | true =>
          have HCL := Lib.hid hcl
          clear hcl
          have hge : decide (128 ≤ (c : Int)) = false := decide_eq_false (by omega)
          go_wp2_with (first
            | (go_at_call 22; (with_reducible refine (types_Letter _ c).mono ?_); rw [HCL.out]; rintro r w1 ⟨rfl, rfl⟩)
            | (go_at_call 77; (with_reducible refine (types_letters1 _ _ _).mono ?_); rintro r w1 ⟨rfl, rfl⟩))
          go_roundw
          case rel =>
            refine ⟨pos + 1, hlt, rfl, ?_⟩
            have h1 := hst.out; have h2 := HL.out; have h3 := HB.out
            rw [HC.out, HCL.out] at h3
            rw [h3, Bool.true_and] at h1
            exact h1.symm.trans h2
          case measure => simp; omega
        | false =>
          have HCL := Lib.hid hcl
          clear hcl
          go_wp2_with (first
            | (go_at_call 22; (with_reducible refine (types_Letter _ c).mono ?_); rw [HCL.out]; rintro r w1 ⟨rfl, rfl⟩)
            | (go_at_call 77; (with_reducible refine (types_letters1 _ _ _).mono ?_); rintro r w1 ⟨rfl, rfl⟩))
          go_ret
          have h1 := hst.out; have h2 := HL.out; have h3 := HB.out
          rw [HC.out, HCL.out] at h3
          rw [h3, Bool.false_and] at h1
          exact ⟨ret_bool (a := false) (h1.symm.trans h2), hb'⟩
      · have hnx : ∀ ty, (Instr.next (.pointer (some ⟨w.heap.size, 0, none⟩)) true ty).run Tryd.prog (w.iter s pos) = _ := fun ty => run_next_any w s pos ty hlt
        have hd := (decode_high s pos hlt (by omega)).1
        have HB := Lib.hid (letB_nat s[pos])
        have ha' := Lib.hid ha
        clear ha
        obtain ⟨c, hc⟩ : ∃ c : Nat, (Utf8.decode s pos).1 = c := ⟨_, rfl⟩
        obtain ⟨q, hq⟩ : ∃ q : Nat, (Utf8.decode s pos).2 = q := ⟨_, rfl⟩
        rw [hc, hq] at hnx
        rw [hc] at hd
        clear hc hq
        have hb2 : Below w.heap.size w (w.iter s (pos + q)) := below_alloc w _
        go_wp2_with fail
        go_ret
        have h1 := hst.out; have h2 := HL.out; have h3 := HB.out
        have h4 : (s[pos].toNat == 119 || s[pos].toNat == 108) = false := by
          have := ha'.out
          simp; omega
        rw [h4] at h3
        rw [h3, Bool.false_and] at h1
        exact ⟨ret_bool (a := false) (h1.symm.trans h2), hb2⟩
    · have hnx : ∀ ty, (Instr.next (.pointer (some ⟨w.heap.size, 0, none⟩)) true ty).run Tryd.prog (w.iter s pos) = _ := fun ty => run_next_end w s pos ty hlt
      have HE := Lib.hid (letsFrom_end hlt)
      go_wp2
      go_ret
      exact ⟨ret_bool (a := true) (HE.out.symm.trans HL.out), hb⟩
theorem types_lets (w : World) (s : ByteArray) (most : Nat) (M : Int) (hM : (most : Int) = M) (hs : s.size ≤ 140737488355328) :
    Calls Tryd.prog 70 #[.string s, .int .i64 M] w fun r w' => r = .returned (.bool (decide (s.size ≤ most) && letsFrom s 0)) ∧ Below w.heap.size w w' := by
  have hr := Below.refl w.heap.size w
  by_cases h : s.size ≤ most
  · have hd : decide ((s.size : Int) ≤ M) = true := decide_eq_true (by omega)
    have HD := Lib.hid (decide_eq_true h)
    clear h
    go_enter Tryd.func70, Tryd.ntmps70
    go_wp2_with (go_at_call 16; (with_reducible refine (types_each _ s hs).mono ?_); rintro r w1 ⟨rfl, hb1⟩)
    go_ret
    exact ⟨ret_bool (a := letsFrom s 0) (by rw [HD.out, Bool.true_and]), hb1⟩
  · have hd : decide ((s.size : Int) ≤ M) = false := decide_eq_false (by omega)
    have HD := Lib.hid (decide_eq_false h)
    clear h
    go_enter Tryd.func70, Tryd.ntmps70
    go_wp2_with fail
    go_ret
    exact ⟨ret_bool (a := false) (by rw [HD.out, Bool.false_and]), hr⟩
theorem types_Shape (w : World) (s : ByteArray) (hs : s.size ≤ 140737488355328) :
    Calls Tryd.prog 58 #[.string s] w fun r w' => r = .returned (.bool (decide (s.size ≤ 256) && letsFrom s 0)) ∧ Below w.heap.size w w' := by
  go_enter Tryd.func58, Tryd.ntmps58
  go_wp2_with (go_at_call 70; (with_reducible refine (types_lets _ s 256 256 rfl hs).mono ?_); rintro r w1 ⟨rfl, hb1⟩)
  go_ret
  exact ⟨rfl, hb1⟩
/-- What module's letters ask: the error. -/
def errT5 (most : Nat) (s : ByteArray) : Int := if most < s.size then 13 else if letsFrom s 0 then 0 else 15
theorem mod_letters (w : World) (rp : Value) (s : ByteArray) (most : Nat) (M : Int) (at_ : Int) (hM : (most : Int) = M) (hm : most ≤ 256) (hs : s.size ≤ 140737488355328) :
    Calls Tryd.prog 37 #[rp, .string s, .int .i64 M, .int .i64 at_] w fun r w' =>
      (errT5 most s = 0 ∧ r = .returned (.tuple #[]) ∧ Below w.heap.size w w') ∨ (errT5 most s ≠ 0 ∧ r = .panicked (thrown (errT5 most s) at_) ∧ Below w.heap.size w w') := by
  have hr := Below.refl w.heap.size w
  by_cases h : most < s.size
  · have e : errT5 most s = 13 := by unfold errT5; rw [if_pos h]
    have hd : decide ((s.size : Int) ≤ M) = false := decide_eq_false (by omega)
    go_enter Tryd.func37, Tryd.ntmps37
    go_wp2_with (go_at_call 30; refine (mod_ask _ _ _ _).mono ?_; rintro r w1 ⟨rfl, rfl⟩)
    all_goals (first | exact ⟨rfl, .inr ⟨by rw [e]; decide, by rw [e], hr⟩⟩ | (exfalso; simp_all; omega))
  · have hd : decide ((s.size : Int) ≤ M) = true := decide_eq_true (by omega)
    have H256 := Lib.hid (decide_eq_true (show s.size ≤ 256 by omega))
    cases hl : letsFrom s 0 with
    | true =>
      have e : errT5 most s = 0 := by unfold errT5; rw [if_neg h, hl]; rfl
      have HL := Lib.hid hl; have HE := Lib.hid e
      clear hl e
      go_enter Tryd.func37, Tryd.ntmps37
      go_wp2_with (first
        | (go_at_call 30; refine (mod_ask _ _ _ _).mono ?_; rintro r w1 ⟨rfl, rfl⟩)
        | (go_at_call 58; (with_reducible refine (types_Shape _ s hs).mono ?_); rw [H256.out, HL.out]; rintro r w1 ⟨rfl, hb1⟩))
      all_goals exact bodyPost_end (results_none rfl _ _ _) rfl (.inl ⟨HE.out, rfl, hb1⟩)
    | false =>
      have e : errT5 most s = 15 := by unfold errT5; rw [if_neg h, hl]; rfl
      have HL := Lib.hid hl; have HE := Lib.hid e
      clear hl e
      go_enter Tryd.func37, Tryd.ntmps37
      go_wp2_with (first
        | (go_at_call 30; refine (mod_ask _ _ _ _).mono ?_; rintro r w1 ⟨rfl, rfl⟩)
        | (go_at_call 58; (with_reducible refine (types_Shape _ s hs).mono ?_); rw [H256.out, HL.out]; rintro r w1 ⟨rfl, hb1⟩))
      all_goals exact ⟨rfl, .inr ⟨by rw [HE.out]; decide, by rw [HE.out], hb1⟩⟩
end Go.Proofs.YtfhkjahjenpbgaaDoor
namespace Go.Proofs.YtfhkjahjenpbgaaDoor
open Go Go.RowKit

theorem wm_count (base : Nat) (w : World) (p : Nat) (v : Value) (xs : List Int) (mp : Option Addr) (al : Int) (h : Wm base w p v xs mp al) (hb : base ≤ w.heap.size) (hl : xs.length ≤ 1099511627776)
    (n most : Nat) (hn : n ≤ 9223372036854775807) :
    Calls Tryd.prog 36 #[.pointer (some ⟨p, 0, none⟩), .int .i64 n, .int .i64 most] w fun e w' =>
      (n ≤ most ∧ e = .returned (.tuple #[]) ∧ ∃ v', Wm base w' p v' (xs ++ uv n) mp al ∧ WrTo p v w v' w') ∨ (most < n ∧ e = .panicked (thrown 20 0) ∧ w' = w) := by
  have HW := Lib.hid h
  clear h
  by_cases a : n ≤ most
  · go_enter Tryd.func36, Tryd.ntmps36
    go_wp2_with (first
      | (go_at_call 30; refine (mod_ask _ _ _ _).mono ?_; rintro r w1 ⟨rfl, rfl⟩)
      | (go_at_call 43; refine (wm_number base _ p v xs mp al HW.out hb hl n hn).mono ?_; rintro r w2 ⟨rfl, v', k1, k2⟩))
    all_goals (first | exact bodyPost_end (results_none rfl _ _ _) rfl (.inl ⟨a, rfl, v', k1, k2⟩) | (exfalso; simp_all; omega))
  · go_enter Tryd.func36, Tryd.ntmps36
    go_wp2_with (go_at_call 30; refine (mod_ask _ _ _ _).mono ?_; rintro r w1 ⟨rfl, rfl⟩)
    all_goals (first | exact ⟨rfl, .inr ⟨by omega, rfl, rfl⟩⟩ | (exfalso; simp_all; omega))
theorem wm_index (base : Nat) (w : World) (p : Nat) (v : Value) (xs : List Int) (mp : Option Addr) (al : Int) (h : Wm base w p v xs mp al) (hb : base ≤ w.heap.size) (hl : xs.length ≤ 1099511627776)
    (n : Int) (below : Nat) (hn : n ≤ 9223372036854775807) :
    Calls Tryd.prog 40 #[.pointer (some ⟨p, 0, none⟩), .int .i64 n, .int .i64 below] w fun e w' =>
      ((0 ≤ n ∧ n < below) ∧ e = .returned (.tuple #[]) ∧ ∃ v', Wm base w' p v' (xs ++ uv n.toNat) mp al ∧ WrTo p v w v' w') ∨ (¬ (0 ≤ n ∧ n < below) ∧ e = .panicked (thrown 30 0) ∧ w' = w) := by
  have HW := Lib.hid h
  clear h
  by_cases a : 0 ≤ n ∧ n < below
  · obtain ⟨m, rfl⟩ := Int.eq_ofNat_of_zero_le a.1
    go_enter Tryd.func40, Tryd.ntmps40
    go_wp2_with (first
      | (go_at_call 30; refine (mod_ask _ _ _ _).mono ?_; rintro r w1 ⟨rfl, rfl⟩)
      | (go_at_call 43; refine (wm_number base _ p v xs mp al HW.out hb hl m (by omega)).mono ?_; rintro r w2 ⟨rfl, v', k1, k2⟩))
    all_goals (first | exact bodyPost_end (results_none rfl _ _ _) rfl (.inl ⟨a, rfl, v', k1, k2⟩) | (exfalso; simp_all; omega))
  · go_enter Tryd.func40, Tryd.ntmps40
    go_wp2_with (go_at_call 30; refine (mod_ask _ _ _ _).mono ?_; rintro r w1 ⟨rfl, rfl⟩)
    all_goals (first | exact ⟨rfl, .inr ⟨a, rfl, rfl⟩⟩ | (exfalso; simp_all; omega))
end Go.Proofs.YtfhkjahjenpbgaaDoor
namespace Go.Proofs.YtfhkjahjenpbgaaDoor
open Go Go.RowKit

theorem fits_shift (v : Nat) : ((v : Int) / 4294967296 == 0) = decide (v < 4294967296) := by
  by_cases h : v < 4294967296
  · rw [decide_eq_true h]; simp; omega
  · rw [decide_eq_false h]; simp; omega
theorem types_Fits (w : World) (v c : Nat) :
    Calls Tryd.prog 18 #[.int .u64 v, .int .u8 c] w fun r w' => r = .returned (.bool (c == 108 || (c == 119 && decide (v < 4294967296)))) ∧ w' = w := by
  go_enter Tryd.func18, Tryd.ntmps18
  by_cases h1 : c = 108
  · subst h1
    go_wp2
    go_ret
    exact ⟨rfl, rfl⟩
  · by_cases h2 : c = 119
    · subst h2
      go_wp2
      go_ret
      exact ⟨by rw [fits_shift]; rfl, rfl⟩
    · go_wp2
      go_ret
      refine ⟨?_, rfl⟩
      have e1 : ((c : Int) == 108) = false := by simp; omega
      have e2 : (c == 108) = false := by simp; omega
      have e3 : (c == 119) = false := by simp; omega
      simp [e1, e2, e3]
end Go.Proofs.YtfhkjahjenpbgaaDoor
namespace Go.Proofs.YtfhkjahjenpbgaaDoor
open Go Go.RowKit

theorem mod_value (w : World) (c v : Nat) (mu : Bool) (at_ : Int) :
    Calls Tryd.prog 41 #[.agg #[.int .u8 c, .bool mu, .int .u64 v], .int .i64 at_] w fun r w' =>
      (r = if (c == 108 || (c == 119 && decide (v < 4294967296))) then .returned (.tuple #[]) else .panicked (thrown 17 at_)) ∧ Below w.heap.size w w' := by
  have HB := Lib.hid (below_alloc w (.cells #[.int .u8 c, .bool mu, .int .u64 v] 66))
  generalize hf : (c == 108 || (c == 119 && decide (v < 4294967296))) = f
  go_enter Tryd.func41, Tryd.ntmps41
  go_wp2_with (first
    | (go_at_call 18; refine (types_Fits _ _ _).mono ?_; rw [hf]; rintro r w1 ⟨rfl, rfl⟩)
    | (go_at_call 30; refine (mod_ask _ _ _ _).mono ?_; rintro r w2 ⟨rfl, rfl⟩; cases f))
  all_goals (first | exact ⟨rfl, rfl, HB.out⟩ | exact bodyPost_end (results_none rfl _ _ _) rfl ⟨rfl, HB.out⟩ | trace_state)
end Go.Proofs.YtfhkjahjenpbgaaDoor
namespace Go.Proofs.YtfhkjahjenpbgaaDoor
open Go Go.RowKit

/-- How many instructions: the error. -/
def errC (al n : Nat) : Int := if 2048 < n then 20 else if 16384 < al + n then 20 else 0
theorem mod_code (w : World) (p : Nat) (al n : Nat) (at_ : Int) (hc : w.cell? ⟨p, 1, none⟩ = some (.int .i64 al)) (hz : w.frozen? ⟨p, 1, none⟩ = false) (h1 : al ≤ 16384) (h2 : n ≤ 140737488355328) :
    Calls Tryd.prog 45 #[.pointer (some ⟨p, 0, none⟩), .int .i64 n, .int .i64 at_] w fun r w' =>
      (errC al n = 0 ∧ r = .returned (.tuple #[]) ∧ w' = w.setCell ⟨p, 1, none⟩ (.int .i64 ((al + n : Nat) : Int))) ∨ (errC al n = 20 ∧ r = .panicked (thrown 20 at_) ∧ ∃ x, w' = w ∨ w' = w.setCell ⟨p, 1, none⟩ x) := by
  by_cases a : 2048 < n
  · have e : errC al n = 20 := by unfold errC; rw [if_pos a]
    have d : decide ((n : Int) ≤ 2048) = false := decide_eq_false (by omega)
    go_enter Tryd.func45, Tryd.ntmps45
    go_wp2_with (go_at_call 30; refine (mod_ask _ _ _ _).mono ?_; rintro r w1 ⟨rfl, rfl⟩)
    all_goals (first | exact ⟨rfl, .inr ⟨e, rfl, .int .i64 0, .inl rfl⟩⟩ | (exfalso; simp_all; omega))
  · by_cases b : 16384 < al + n
    · have e : errC al n = 20 := by unfold errC; rw [if_neg a, if_pos b]
      go_enter Tryd.func45, Tryd.ntmps45
      go_wp2_with (go_at_call 30; refine (mod_ask _ _ _ _).mono ?_; rintro r w1 ⟨rfl, rfl⟩)
      all_goals (first | exact ⟨rfl, .inr ⟨e, rfl, _, .inr rfl⟩⟩ | (exfalso; simp_all; omega))
    · have e : errC al n = 0 := by unfold errC; rw [if_neg a, if_neg b]
      go_enter Tryd.func45, Tryd.ntmps45
      go_wp2_with (go_at_call 30; refine (mod_ask _ _ _ _).mono ?_; rintro r w1 ⟨rfl, rfl⟩)
      all_goals (first | exact bodyPost_end (results_none rfl _ _ _) rfl (.inl ⟨e, rfl, by simp⟩) | (exfalso; simp_all; omega))
end Go.Proofs.YtfhkjahjenpbgaaDoor
namespace Go.Proofs.YtfhkjahjenpbgaaDoor
open Go Go.RowKit

theorem ta_fault (W : World) (v : Value) : (Instr.typeAssert (.iface 119 v) 20 119 true).run Tryd.prog W = .ok (.tuple #[v, .bool true]) W := by kernel_rfl
/-- What a fault leaves: the error and its place in their boxes. -/
structure Cau (eb ab : Nat) (e a : Int) (w w' : World) : Prop where
  re : w'.heap[eb]? = some (.cells #[.int .i64 e] 38 (0, 0))
  ra : w'.heap[ab]? = some (.cells #[.int .i64 a] 3 (0, 0))
  keep : Keeps (fun b => b ≠ eb ∧ b ≠ ab) w w'
set_option maxRecDepth 100000 in
set_option maxHeartbeats 800000 in
theorem caught_panicking (eb ab : Nat) (hne : eb ≠ ab) (e0 a0 e a : Int) (older : List PanicEntry) (w : World) (he : w.heap[eb]? = some (.cells #[.int .i64 e0] 38 (0, 0))) (ha : w.heap[ab]? = some (.cells #[.int .i64 a0] 3 (0, 0))) :
    CallsD Tryd.prog 27 #[.pointer (some ⟨eb, 0, none⟩), .pointer (some ⟨ab, 0, none⟩)] (.panicking ({ v := .iface 119 (.agg #[.int .i64 e, .int .i64 a]), recovered := false } :: older)) w fun r u' w' =>
      r = .returned (.tuple #[]) ∧ u' = .panicking ({ v := .iface 119 (.agg #[.int .i64 e, .int .i64 a]), recovered := true } :: older) ∧ Cau eb ab e a w w' := by
  refine callsD_of_wpS Tryd.func27 rfl fun c₀ cs hu => ?_
  apply wpS_seq
  apply wpS_region
  simp [wpOpsS, go_sem, recoverD, hu, Tryd.ntmps27, Exit.thenS]
  refine wpS_of_wp ?_
  have ce := row_cell he 0 rfl; have fe := row_free he 0; have ca := row_cell ha 0 rfl; have fa := row_free ha 0
  simp only [List.getElem_toArray, List.getElem_cons_zero] at ce ca
  have HU := Lib.hid hu
  clear hu
  generalize hQ : (fun (e_1 : Exit) (a' : Act) (w' : World) => bodyPostS Tryd.prog Tryd.f27 c₀ cs _ e_1 a' _ w') = Q
  have HQ := Lib.hid hQ
  clear hQ
  generalize hT : #[.pointer (some ⟨eb, 0, none⟩), .pointer (some ⟨ab, 0, none⟩)] ++ ((Array.replicate 24 undef).setIfInBounds 5 _).setIfInBounds 2 _ = T
  simp only [Array.replicate, List.replicate, List.setIfInBounds_toArray, List.set_cons_succ, List.set_cons_zero, List.append_toArray, List.cons_append, List.nil_append] at hT
  subst hT
  have hta := ta_fault w (.agg #[.int .i64 e, .int .i64 a])
  go_wp2_with fail
  have hb := below_alloc w (.cells #[.int .i64 e, .int .i64 a] 119)
  have hn := heap_alloc_new w (.cells #[.int .i64 e, .int .i64 a] 119)
  have he1 := (hb.block eb (row_lt he)).trans he
  have ha1 := (hb.block ab (row_lt ha)).trans ha
  have n1 : w.heap.size ≠ eb := by have := row_lt he; omega
  have n2 : w.heap.size ≠ ab := by have := row_lt ha; omega
  have HB := Lib.hid hb
  clear ce ca fe fa he ha hta hb
  generalize w.alloc (.cells #[.int .i64 e, .int .i64 a] 119) = w1 at *
  generalize w.heap.size = g at n1 n2 hn ⊢
  have ce := row_cell he1 0 rfl; have fe := row_free he1 0; have ca := row_cell ha1 0 rfl; have fa := row_free ha1 0
  have y0 := row_cell hn 0 rfl; have y1 := row_cell hn 1 rfl
  simp only [List.getElem_toArray, List.getElem_cons_zero, List.getElem_cons_succ] at ce ca y0 y1
  have HE := Lib.hid he1; have HA := Lib.hid ha1
  clear he1 ha1 hn
  have n1' := Ne.symm n1; have n2' := Ne.symm n2; have hne' := Ne.symm hne
  go_region
  have k1 := (Keeps.refl (fun b => b ≠ eb) w1).setCell (a := ⟨eb, 0, none⟩) (by simp) (.int .i64 e)
  have r1 : (w1.setCell ⟨eb, 0, none⟩ (.int .i64 e)).heap[eb]? = some (.cells #[.int .i64 e] 38 (0, 0)) := by simpa using row_setCell HE.out 0 (.int .i64 e)
  have r2 := (k1.block ab (row_lt HA.out) hne').trans HA.out
  generalize w1.setCell ⟨eb, 0, none⟩ (.int .i64 e) = w2 at *
  have k2 := (Keeps.refl (fun b => b ≠ ab) w2).setCell (a := ⟨ab, 0, none⟩) (by simp) (.int .i64 a)
  have r3 : (w2.setCell ⟨ab, 0, none⟩ (.int .i64 a)).heap[ab]? = some (.cells #[.int .i64 a] 3 (0, 0)) := by simpa using row_setCell r2 0 (.int .i64 a)
  have r4 := (k2.block eb (row_lt r1) hne).trans r1
  generalize w2.setCell ⟨ab, 0, none⟩ (.int .i64 a) = w3 at *
  have hC : Cau eb ab e a w w3.drew := ⟨r4, r3, ((Keeps.all (fun b => b ≠ eb ∧ b ≠ ab) HB.out).trans ((k1.mono fun _ _ h => h.1).trans (k2.mono fun _ _ h => h.2))).drew⟩
  have hU := HU.out
  rw [← HQ.out]
  simp [bodyPostS, results, Tryd.results27, hC]
theorem caught_idle (w : World) (x y : Value) :
    CallsD Tryd.prog 27 #[x, y] .returning w fun r u' w' => r = .returned (.tuple #[]) ∧ u' = .returning ∧ w' = w := by
  refine callsD_of_wpS Tryd.func27 rfl fun c₀ cs hu => ?_
  apply wpS_seq
  apply wpS_region
  simp [wpOpsS, go_sem, recoverD, hu, Tryd.ntmps27, Exit.thenS]
  refine wpS_of_wp ?_
  have HU := Lib.hid hu
  clear hu
  generalize hQ : (fun (e_1 : Exit) (a' : Act) (w' : World) => bodyPostS Tryd.prog Tryd.f27 c₀ cs _ e_1 a' _ w') = Q
  have HQ := Lib.hid hQ
  clear hQ
  generalize hT : #[x, y] ++ ((Array.replicate 24 undef).setIfInBounds 5 _).setIfInBounds 2 _ = T
  simp only [Array.replicate, List.replicate, List.setIfInBounds_toArray, List.set_cons_succ, List.set_cons_zero, List.append_toArray, List.cons_append, List.nil_append] at hT
  subst hT
  go_wp2
  have hU := HU.out
  rw [← HQ.out]
  simp [bodyPostS, results, Tryd.results27]
  cases c₀
  simp_all
theorem enc1_ok (w : World) (eb : Nat) (y : Value) (u : FrameMode) (he : w.heap[eb]? = some (.cells #[.int .i64 0] 38 (0, 0))) :
    CallsD Tryd.prog 26 #[.pointer (some ⟨eb, 0, none⟩), y] u w fun r u' w' => u' = u ∧ (r = .returned (.tuple #[]) ∧ w' = w) := by
  have ce := row_cell he 0 rfl
  simp only [List.getElem_toArray, List.getElem_cons_zero] at ce
  go_enter_d Tryd.func26, Tryd.ntmps26
  go_wp2
  exact bodyPost_end (results_none rfl _ _ _) rfl ⟨rfl, rfl⟩
theorem enc1_no (w : World) (eb bb : Nat) (u : FrameMode) (e : Int) (hne : e ≠ 0) (bv : Value) (he : w.heap[eb]? = some (.cells #[.int .i64 e] 38 (0, 0))) (hb : w.heap[bb]? = some (.cells #[bv] 41 (0, 0))) :
    CallsD Tryd.prog 26 #[.pointer (some ⟨eb, 0, none⟩), .pointer (some ⟨bb, 0, none⟩)] u w fun r u' w' => u' = u ∧ (r = .returned (.tuple #[]) ∧ w' = w.setCell ⟨bb, 0, none⟩ (.slice none 0 0)) := by
  have ce := row_cell he 0 rfl; have cb := row_cell hb 0 rfl; have fb := row_free hb 0
  simp only [List.getElem_toArray, List.getElem_cons_zero] at ce cb
  have hz : (e != 0) = true := by simpa using hne
  have hz' : (e == 0) = false := by simpa using hne
  go_enter_d Tryd.func26, Tryd.ntmps26
  go_wp2
  all_goals (first | exact bodyPost_end (results_none rfl _ _ _) rfl ⟨rfl, rfl⟩ | (exfalso; simp_all; done) | trace_state)
end Go.Proofs.YtfhkjahjenpbgaaDoor
