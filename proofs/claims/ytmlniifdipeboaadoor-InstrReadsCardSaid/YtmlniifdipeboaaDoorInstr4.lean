/- instr's reader: number, signed. -/
import Derived.Test.YtmlniifdipeboaaDoorInstr2
namespace Go.Proofs.YtmlniifdipeboaaDoor
open Go Go.RowKit

/-- instr's reader at block p. -/
structure Ri (S : Nat → Prop) (w : World) (p : Nat) (v : Value) (b : List Int) (r : IR) : Prop where
  row : w.heap[p]? = some (.cells #[v, .int .i64 r.at_, .int .i64 r.e] 138 (0, 0))
  rd : RdI .u8 S w v b
  sep : ∀ x, S x → x ≠ p
  le : r.at_ ≤ b.length
theorem Ri.keeps {S T : Nat → Prop} {w w' : World} {p : Nat} {v : Value} {b : List Int} {r : IR} (h : Ri S w p v b r) (hk : Keeps T w w') (hp : T p) (hS : ∀ x, S x → T x) : Ri S w' p v b r :=
  ⟨(hk.block p (row_lt h.row) hp).trans h.row, h.rd.keeps (hk.mono fun x _ hx => hS x hx), h.sep, h.le⟩
theorem Ri.on {S : Nat → Prop} {w w' : World} {p : Nat} {v : Value} {b : List Int} {r : IR} (h : Ri S w p v b r) (hb : Below w.heap.size w w') : Ri S w' p v b r := h.keeps (Keeps.all (fun _ => True) hb) trivial fun _ _ => trivial
theorem Ri.set {S : Nat → Prop} {w w' : World} {p : Nat} {v : Value} {b : List Int} {r : IR} (r' : IR) (h : Ri S w p v b r) (hk : Keeps (fun x => x ≠ p) w w')
    (hrow : w'.heap[p]? = some (.cells #[v, .int .i64 r'.at_, .int .i64 r'.e] 138 (0, 0))) (hl : r'.at_ ≤ b.length) : Ri S w' p v b r' :=
  ⟨hrow, h.rd.keeps (hk.mono fun x _ hx => h.sep x hx), h.sep, hl⟩
theorem ruvGo_zero (b : List Int) (p : Nat) : ∀ (f i v : Nat), (ruvGo b p f i v).2.2 ≠ 0 → (ruvGo b p f i v).2.1 = 0 := by
  intro f
  induction f with
  | zero => intro i v _; rfl
  | succ f ih =>
    intro i v h
    rw [ruvGo] at h ⊢
    split at h
    · rename_i h1; rw [if_pos h1]
    · rename_i h1
      rw [if_neg h1]
      split at h
      · rename_i h2; rw [if_pos h2]
      · rename_i h2
        rw [if_neg h2]
        split at h
        · rename_i h3
          rw [if_pos h3]
          split at h
          · rename_i h4; rw [if_pos h4]
          · simp at h
        · rename_i h3
          rw [if_neg h3]
          exact ih _ _ h
theorem ruv_at_le (b : List Int) (p : Nat) : (ruv b p).2.1 ≤ b.length := by
  by_cases h : (ruv b p).2.2 = 0
  · exact ruv_le h
  · have : (ruv b p).2.1 = 0 := ruvGo_zero b p 10 0 0 h
    omega
theorem wire_ReadUvarQ (w : World) (S) (v : Value) (b : List Int) (hb : ∀ x ∈ b, 0 ≤ x ∧ x ≤ 255) (h : RdI .u8 S w v b) (p : Nat) (hp : p ≤ b.length) (x y : Nat) (z : Int) (hr : ruv b p = (x, y, z)) :
    Calls Tryd.prog 143 #[v, .int .i64 p] w fun e w' => e = .returned (.tuple #[.int .u64 x, .int .i64 y, .int .i64 z]) ∧ w' = w := by
  refine (wire_ReadUvar w S v b hb h p hp).mono ?_
  rintro e w' ⟨rfl, rfl⟩
  rw [hr]; exact ⟨rfl, rfl⟩
theorem wire_ReadSvarQ (w : World) (S) (v : Value) (b : List Int) (hb : Bytes b) (h : RdI .u8 S w v b) (p : Nat) (hp : p ≤ b.length) (x : Int) (y : Nat) (z : Int) (h1 : zag (ruv b p).1 = x) (h2 : (ruv b p).2.1 = y) (h3 : (ruv b p).2.2 = z) :
    Calls Tryd.prog 144 #[v, .int .i64 p] w fun e w' => e = .returned (.tuple #[.int .i64 x, .int .i64 y, .int .i64 z]) ∧ w' = w := by
  refine (wire_ReadSvar w S v b hb h p hp).mono ?_
  rintro e w' ⟨rfl, rfl⟩
  rw [h1, h2, h3]; exact ⟨rfl, rfl⟩

set_option maxRecDepth 100000 in
set_option maxHeartbeats 1600000 in
theorem ri_number (S) (w : World) (p : Nat) (v : Value) (b : List Int) (r : IR) (h : Ri S w p v b r) (hb : ∀ x ∈ b, 0 ≤ x ∧ x ≤ 255) (least most : Nat) (L M : Int) (hL : (least : Int) = L) (hM : (most : Int) = M) :
    Calls Tryd.prog 111 #[.pointer (some ⟨p, 0, none⟩), .int .u64 L, .int .u64 M] w fun en w' => en = .returned (.int .u64 ((rnumI b r least most).1 : Nat)) ∧ Ri S w' p v b (rnumI b r least most).2 ∧ Keeps (fun x => x ≠ p) w w' := by
  subst hL hM
  have c0 := row_cell h.row 0 rfl
  have c1 := row_cell h.row 1 rfl
  have c2 := row_cell h.row 2 rfl
  have f1 := row_free h.row 1
  have f2 := row_free h.row 2
  have H := Lib.hid h; have HB := Lib.hid hb; clear h hb
  by_cases h0 : r.e = 0
  · have hn : (r.e != 0) = false := by simp [h0]
    have HN : Hid (r.e = 0) := h0
    clear h0
    obtain ⟨x, y, z, hxyz⟩ : ∃ x y z, ruv b r.at_ = (x, y, z) := ⟨_, _, _, rfl⟩
    have hx64 : x ≤ 18446744073709551615 := by have := ruv_u64 b r.at_; rw [hxyz] at this; exact this
    have HXYZ := Lib.hid hxyz; clear hxyz
    have hke : ∀ (e' : Int) n, Hid (Keeps (fun x => x ≠ p) w ((w.drewN n).setCell ⟨p, 2, none⟩ (.int .i64 e'))) := fun e' n =>
      (Keeps.of_drewN n).setCell (a := ⟨p, 2, none⟩) (by simp) _
    have fine : ∀ (e' : Int) n, Hid (Ri S ((w.drewN n).setCell ⟨p, 2, none⟩ (.int .i64 e')) p v b { r with e := e' }) := fun e' n => H.out.set { r with e := e' } (hke e' n).out (by simpa using row_setCell (w := w.drewN n) H.out.row 2 (.int .i64 e')) H.out.le
    have HK := Lib.hid hke; have HF := Lib.hid fine; clear hke fine
    by_cases hz : z = 0
    · subst hz
      have hy : y ≤ b.length := by have := ruv_le (b := b) (p := r.at_) (by rw [HXYZ.out]); rw [HXYZ.out] at this; exact this
      by_cases hm : x < least ∨ most < x
      · have E : Hid (rnumI b r least most = (0, { r with e := 17 })) := by show _ = _; rw [rnumI, if_neg (by simp [HN.out]), HXYZ.out, if_neg (by simp), if_pos hm]
        rcases hm with hm | hm
        all_goals
          go_enter Tryd.func111, Tryd.ntmps111
          go_wp2
          go_quiet ((go_at_call 143; exact Calls.quiet_of_same (wire_ReadUvarQ _ S v b HB.out (H.out.rd.drewN _) r.at_ H.out.le x y 0 HXYZ.out)))
          go_wp2
        all_goals
          go_ret
          rw [E.out]
          exact ⟨rfl, (HF.out 17 _).out, (HK.out 17 _).out⟩
      · have E : Hid (rnumI b r least most = (x, { r with at_ := y })) := by show _ = _; rw [rnumI, if_neg (by simp [HN.out]), HXYZ.out, if_neg (by simp), if_neg hm]
        have hk : ∀ n, Hid (Keeps (fun x => x ≠ p) w ((w.drewN n).setCell ⟨p, 1, none⟩ (.int .i64 y))) := fun n =>
          (Keeps.of_drewN n).setCell (a := ⟨p, 1, none⟩) (by simp) _
        have fin : ∀ n, Hid (Ri S ((w.drewN n).setCell ⟨p, 1, none⟩ (.int .i64 y)) p v b { r with at_ := y }) := fun n => H.out.set { r with at_ := y } (hk n).out (by simpa using row_setCell (w := w.drewN n) H.out.row 1 (.int .i64 y)) hy
        have HK1 := Lib.hid hk; have HF1 := Lib.hid fin; clear hk fin
        have m1 : ¬ x < least := by omega
        have m2 : ¬ most < x := by omega
        clear hm
        go_enter Tryd.func111, Tryd.ntmps111
        go_wp2
        go_quiet ((go_at_call 143; exact Calls.quiet_of_same (wire_ReadUvarQ _ S v b HB.out (H.out.rd.drewN _) r.at_ H.out.le x y 0 HXYZ.out)))
        go_wp2
        go_ret
        rw [E.out]
        exact ⟨rfl, (HF1.out _).out, (HK1.out _).out⟩
    · have E : Hid (rnumI b r least most = (0, { r with e := z })) := by show _ = _; rw [rnumI, if_neg (by simp [HN.out]), HXYZ.out, if_pos (by simpa using hz)]
      have hz1 : (z == 0) = false := by simp [hz]
      have hz2 : (z != 0) = true := by simp [hz]
      clear hz
      go_enter Tryd.func111, Tryd.ntmps111
      go_wp2
      go_quiet ((go_at_call 143; exact Calls.quiet_of_same (wire_ReadUvarQ _ S v b HB.out (H.out.rd.drewN _) r.at_ H.out.le x y z HXYZ.out)))
      go_wp2
      go_ret
      rw [E.out]
      exact ⟨rfl, (HF.out z _).out, (HK.out z _).out⟩
  · have hn : (r.e != 0) = true := by simp [h0]
    have E : Hid (rnumI b r least most = (0, r)) := by show _ = _; rw [rnumI, if_pos h0]
    clear h0
    go_enter Tryd.func111, Tryd.ntmps111
    go_wp2
    go_ret
    rw [E.out]
    exact ⟨rfl, H.out, Keeps.refl _ _⟩

set_option maxRecDepth 100000 in
set_option maxHeartbeats 3200000 in
theorem ri_signed (S) (w : World) (p : Nat) (v : Value) (b : List Int) (r : IR) (h : Ri S w p v b r) (hb : ∀ x ∈ b, 0 ≤ x ∧ x ≤ 255) (op : Nat) (ho : op < 256) :
    Calls Tryd.prog 112 #[.pointer (some ⟨p, 0, none⟩), .agg (irow op)] w fun en w' => en = .returned (.int .i64 (rsigI b r op).1) ∧ Ri S w' p v b (rsigI b r op).2 ∧ Keeps (fun x => x ≠ p) w w' := by
  have HB := Lib.hid hb; clear hb
  have HWn := Lib.hid (fun (w' : World) n => instr_within w' op ho n)
  have HX : Hid (rsigI b r op = (zag (ruv b r.at_).1, ⟨(ruv b r.at_).2.1, if (ruv b r.at_).2.2 = 0 ∧ inI op (zag (ruv b r.at_).1) = false then 17 else (ruv b r.at_).2.2⟩)) := Lib.hid rfl
  have hle := ruv_at_le b r.at_
  obtain ⟨x, hx⟩ : ∃ x, zag (ruv b r.at_).1 = x := ⟨_, rfl⟩
  obtain ⟨y, hy⟩ : ∃ x, (ruv b r.at_).2.1 = x := ⟨_, rfl⟩
  obtain ⟨z, hz⟩ : ∃ x, (ruv b r.at_).2.2 = x := ⟨_, rfl⟩
  rw [hx, hy, hz] at HX
  rw [hy] at hle
  have HR := Lib.hid (And.intro hx (And.intro hy hz))
  clear hx hy hz
  unfold irow at *
  have h0 := h.on (below_alloc w (.cells #[.int .u8 op, .string ⟨(wordP op).toArray⟩, .int .i8 (takesP op), .string ⟨(progRow op).pops.toArray⟩, .string ⟨(progRow op).pushes.toArray⟩, .bool (progRow op).plain] 24))
  generalize (progRow op).pops = pp at *
  generalize (progRow op).pushes = pu at *
  generalize (progRow op).plain = pl at *
  generalize wordP op = wd at *
  generalize takesP op = t at *
  have hlt := row_lt h.row
  have hne : w.heap.size ≠ p := by omega
  have hq := heap_alloc_new w (.cells #[.int .u8 op, .string ⟨wd.toArray⟩, .int .i8 t, .string ⟨pp.toArray⟩, .string ⟨pu.toArray⟩, .bool pl] 24)
  have hk0 : Keeps (fun x => x ≠ p) w (w.alloc (.cells #[.int .u8 op, .string ⟨wd.toArray⟩, .int .i8 t, .string ⟨pp.toArray⟩, .string ⟨pu.toArray⟩, .bool pl] 24)) := Keeps.all _ (below_alloc w _)
  have HQ := Lib.hid hq; have HK0 := Lib.hid hk0; have H0 := Lib.hid h0
  clear h hk0
  go_enter Tryd.func112, Tryd.ntmps112
  have c0 := row_cell h0.row 0 rfl; have c1 := row_cell h0.row 1 rfl
  have q0 := row_cell hq 0 rfl; have q1 := row_cell hq 1 rfl; have q2 := row_cell hq 2 rfl; have q3 := row_cell hq 3 rfl; have q4 := row_cell hq 4 rfl; have q5 := row_cell hq 5 rfl
  simp only [List.getElem_toArray, List.getElem_cons_zero, List.getElem_cons_succ] at c0 c1 q0 q1 q2 q3 q4 q5
  clear h0 hq
  go_wp2
  generalize w.alloc (.cells #[.int .u8 op, .string ⟨wd.toArray⟩, .int .i8 t, .string ⟨pp.toArray⟩, .string ⟨pu.toArray⟩, .bool pl] 24) = w0 at *
  generalize w.heap.size = g at *
  go_quiet ((go_at_call 144; exact Calls.quiet_of_same (wire_ReadSvarQ _ S v b HB.out (H0.out.rd.drewN _) r.at_ H0.out.le x y z HR.out.1 HR.out.2.1 HR.out.2.2)))
  by_cases hz : z = 0
  · subst hz
    go_wp2_with fail
    refine (HWn.out _ x).mono ?_
    rintro e w2 ⟨rfl, hb2⟩
    have hr2 := (H0.out.on (drewN_below w0 _)).on hb2
    have hk2 : Keeps (fun x => x ≠ p) w w2 := (HK0.out.drewN _).trans (Keeps.all _ hb2)
    have f1 := row_free hr2.row 1; have f2 := row_free hr2.row 2; have d1 := row_cell hr2.row 1 rfl; have d2 := row_cell hr2.row 2 rfl
    simp only [List.getElem_toArray, List.getElem_cons_zero, List.getElem_cons_succ] at d1 d2
    have fin : ∀ e' : Int, Ri S ((w2.setCell ⟨p, 1, none⟩ (.int .i64 y)).setCell ⟨p, 2, none⟩ (.int .i64 e')) p v b ⟨y, e'⟩ := fun e' =>
      hr2.set ⟨y, e'⟩ (((Keeps.refl _ w2).setCell (a := ⟨p, 1, none⟩) (by simp) _).setCell (a := ⟨p, 2, none⟩) (by simp) _) (by simpa using row_setCell (row_setCell hr2.row 1 (.int .i64 y)) 2 (.int .i64 e')) hle
    have fk : ∀ e' : Int, Keeps (fun x => x ≠ p) w ((w2.setCell ⟨p, 1, none⟩ (.int .i64 y)).setCell ⟨p, 2, none⟩ (.int .i64 e')) := fun e' =>
      (hk2.setCell (a := ⟨p, 1, none⟩) (by simp) _).setCell (a := ⟨p, 2, none⟩) (by simp) _
    have HF := Lib.hid fin; have HK := Lib.hid fk
    clear fin fk hk2 hr2 hb2
    cases hin : inI op x with
    | true =>
      have HX1 : Hid (rsigI b r op = (x, ⟨y, 0⟩)) := by have := HX.out; rw [if_neg (by simp [hin])] at this; exact this
      clear HX hin
      go_wp2
      go_ret
      rw [HX1.out]
      exact ⟨rfl, HF.out 0, HK.out 0⟩
    | false =>
      have HX1 : Hid (rsigI b r op = (x, ⟨y, 17⟩)) := by have := HX.out; rw [if_pos (by simp [hin])] at this; exact this
      clear HX hin
      go_wp2
      go_ret
      rw [HX1.out]
      exact ⟨rfl, HF.out 17, HK.out 17⟩
  · have hz1 : (z == 0) = false := by simp [hz]
    have HX1 : Hid (rsigI b r op = (x, ⟨y, z⟩)) := by have := HX.out; rw [if_neg (by simp [hz])] at this; exact this
    clear hz HX
    have f1 := row_free H0.out.row 1; have f2 := row_free H0.out.row 2; have d2 := row_cell H0.out.row 2 rfl
    simp only [List.getElem_toArray, List.getElem_cons_zero, List.getElem_cons_succ] at d2
    have fin : ∀ n, Ri S (((w0.drewN n).setCell ⟨p, 1, none⟩ (.int .i64 y)).setCell ⟨p, 2, none⟩ (.int .i64 z)) p v b ⟨y, z⟩ := fun n =>
      (H0.out.on (drewN_below w0 n)).set ⟨y, z⟩ (((Keeps.refl _ _).setCell (a := ⟨p, 1, none⟩) (by simp) _).setCell (a := ⟨p, 2, none⟩) (by simp) _) (by simpa using row_setCell (row_setCell (w := w0.drewN n) H0.out.row 1 (.int .i64 y)) 2 (.int .i64 z)) hle
    have fk : ∀ n, Keeps (fun x => x ≠ p) w (((w0.drewN n).setCell ⟨p, 1, none⟩ (.int .i64 y)).setCell ⟨p, 2, none⟩ (.int .i64 z)) := fun n =>
      ((HK0.out.drewN n).setCell (a := ⟨p, 1, none⟩) (by simp) _).setCell (a := ⟨p, 2, none⟩) (by simp) _
    have HF := Lib.hid fin; have HK := Lib.hid fk
    clear fin fk
    go_wp2
    go_ret
    rw [HX1.out]
    exact ⟨rfl, HF.out _, HK.out _⟩
end Go.Proofs.YtmlniifdipeboaaDoor
