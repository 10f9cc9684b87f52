/- instr's reader: number, signed. instr.Encode. An instruction's bytes are bytes, and few: plain. -/
import Derived.Test.YteaolgldkfjdkaaDoorMInstr2
import Derived.Laws.OwnMore
namespace Go.Proofs.YteaolgldkfjdkaaDoor
open Go Go.RowKit

/-- instr's reader at block p. -/
structure Ri (S : Nat → Prop) (w : World) (p : Nat) (v : Value) (b : List Int) (r : IR) : Prop where
  row : w.heap[p]? = some (.cells #[v, .int .i64 r.at_, .int .i64 r.e] 136 (0, 0))
  rd : RdI .u8 S w v b
  sep : ∀ x, S x → x ≠ p
  le : r.at_ ≤ b.length
theorem Ri.keeps {S T : Nat → Prop} {w w' : World} {p : Nat} {v : Value} {b : List Int} {r : IR} (h : Ri S w p v b r) (hk : Keeps T w w') (hp : T p) (hS : ∀ x, S x → T x) : Ri S w' p v b r :=
  ⟨(hk.block p (row_lt h.row) hp).trans h.row, h.rd.keeps (hk.mono fun x _ hx => hS x hx), h.sep, h.le⟩
theorem Ri.on {S : Nat → Prop} {w w' : World} {p : Nat} {v : Value} {b : List Int} {r : IR} (h : Ri S w p v b r) (hb : Below w.heap.size w w') : Ri S w' p v b r := h.keeps (Keeps.all (fun _ => True) hb) trivial fun _ _ => trivial
theorem Ri.set {S : Nat → Prop} {w w' : World} {p : Nat} {v : Value} {b : List Int} {r : IR} (r' : IR) (h : Ri S w p v b r) (hk : Keeps (fun x => x ≠ p) w w')
    (hrow : w'.heap[p]? = some (.cells #[v, .int .i64 r'.at_, .int .i64 r'.e] 136 (0, 0))) (hl : r'.at_ ≤ b.length) : Ri S w' p v b r' :=
  ⟨hrow, h.rd.keeps (hk.mono fun x _ hx => h.sep x hx), h.sep, hl⟩
theorem ruvGo_zero (b : List Int) (p : Nat) : ∀ (f i v : Nat), (ruvGo b p f i v).2.2 ≠ 0 → (ruvGo b p f i v).2.1 = 0 := by
  intro f
  induction f with
  | zero => intro i v _; rfl
  | succ f ih =>
    intro i v h
    rw [ruvGo] at h ⊢
    split at h
    · rename_i h1; rw [if_pos h1]
    · rename_i h1
      rw [if_neg h1]
      split at h
      · rename_i h2; rw [if_pos h2]
      · rename_i h2
        rw [if_neg h2]
        split at h
        · rename_i h3
          rw [if_pos h3]
          split at h
          · rename_i h4; rw [if_pos h4]
          · simp at h
        · rename_i h3
          rw [if_neg h3]
          exact ih _ _ h
theorem ruv_at_le (b : List Int) (p : Nat) : (ruv b p).2.1 ≤ b.length := by
  by_cases h : (ruv b p).2.2 = 0
  · exact ruv_le h
  · have : (ruv b p).2.1 = 0 := ruvGo_zero b p 10 0 0 h
    omega
theorem wire_ReadUvarQ (w : World) (S) (v : Value) (b : List Int) (hb : ∀ x ∈ b, 0 ≤ x ∧ x ≤ 255) (h : RdI .u8 S w v b) (p : Nat) (hp : p ≤ b.length) (x y : Nat) (z : Int) (hr : ruv b p = (x, y, z)) :
    Calls Tryd.prog 62 #[v, .int .i64 p] w fun e w' => e = .returned (.tuple #[.int .u64 x, .int .i64 y, .int .i64 z]) ∧ w' = w := by
  refine (wire_ReadUvar w S v b hb h p hp).mono ?_
  rintro e w' ⟨rfl, rfl⟩
  rw [hr]; exact ⟨rfl, rfl⟩
theorem wire_ReadSvarQ (w : World) (S) (v : Value) (b : List Int) (hb : Bytes b) (h : RdI .u8 S w v b) (p : Nat) (hp : p ≤ b.length) (x : Int) (y : Nat) (z : Int) (h1 : zag (ruv b p).1 = x) (h2 : (ruv b p).2.1 = y) (h3 : (ruv b p).2.2 = z) :
    Calls Tryd.prog 49 #[v, .int .i64 p] w fun e w' => e = .returned (.tuple #[.int .i64 x, .int .i64 y, .int .i64 z]) ∧ w' = w := by
  refine (wire_ReadSvar w S v b hb h p hp).mono ?_
  rintro e w' ⟨rfl, rfl⟩
  rw [h1, h2, h3]; exact ⟨rfl, rfl⟩

set_option maxRecDepth 100000 in
set_option maxHeartbeats 1600000 in
theorem ri_number (S) (w : World) (p : Nat) (v : Value) (b : List Int) (r : IR) (h : Ri S w p v b r) (hb : ∀ x ∈ b, 0 ≤ x ∧ x ≤ 255) (least most : Nat) (L M : Int) (hL : (least : Int) = L) (hM : (most : Int) = M) :
    Calls Tryd.prog 75 #[.pointer (some ⟨p, 0, none⟩), .int .u64 L, .int .u64 M] w fun en w' => en = .returned (.int .u64 ((rnumI b r least most).1 : Nat)) ∧ Ri S w' p v b (rnumI b r least most).2 ∧ Keeps (fun x => x ≠ p) w w' := by
  subst hL hM
  have c0 := row_cell h.row 0 rfl
  have c1 := row_cell h.row 1 rfl
  have c2 := row_cell h.row 2 rfl
  have f1 := row_free h.row 1
  have f2 := row_free h.row 2
  have H := Lib.hid h; have HB := Lib.hid hb; clear h hb
  by_cases h0 : r.e = 0
  · have hn : (r.e != 0) = false := by simp [h0]
    have HN : Hid (r.e = 0) := h0
    clear h0
    obtain ⟨x, y, z, hxyz⟩ : ∃ x y z, ruv b r.at_ = (x, y, z) := ⟨_, _, _, rfl⟩
    have hx64 : x ≤ 18446744073709551615 := by have := ruv_u64 b r.at_; rw [hxyz] at this; exact this
    have HXYZ := Lib.hid hxyz; clear hxyz
    have hke : ∀ (e' : Int) n, Hid (Keeps (fun x => x ≠ p) w ((w.drewN n).setCell ⟨p, 2, none⟩ (.int .i64 e'))) := fun e' n =>
      (Keeps.of_drewN n).setCell (a := ⟨p, 2, none⟩) (by simp) _
    have fine : ∀ (e' : Int) n, Hid (Ri S ((w.drewN n).setCell ⟨p, 2, none⟩ (.int .i64 e')) p v b { r with e := e' }) := fun e' n => H.out.set { r with e := e' } (hke e' n).out (by simpa using row_setCell (w := w.drewN n) H.out.row 2 (.int .i64 e')) H.out.le
    have HK := Lib.hid hke; have HF := Lib.hid fine; clear hke fine
    by_cases hz : z = 0
    · subst hz
      have hy : y ≤ b.length := by have := ruv_le (b := b) (p := r.at_) (by rw [HXYZ.out]); rw [HXYZ.out] at this; exact this
      by_cases hm : x < least ∨ most < x
      · have E : Hid (rnumI b r least most = (0, { r with e := 17 })) := by show _ = _; rw [rnumI, if_neg (by simp [HN.out]), HXYZ.out, if_neg (by simp), if_pos hm]
        rcases hm with hm | hm
        all_goals
          go_enter Tryd.func75, Tryd.ntmps75
          go_wp2
          go_quiet ((go_at_call 62; exact Calls.quiet_of_same (wire_ReadUvarQ _ S v b HB.out (H.out.rd.drewN _) r.at_ H.out.le x y 0 HXYZ.out)))
          go_wp2
        all_goals
          go_ret
          rw [E.out]
          exact ⟨rfl, (HF.out 17 _).out, (HK.out 17 _).out⟩
      · have E : Hid (rnumI b r least most = (x, { r with at_ := y })) := by show _ = _; rw [rnumI, if_neg (by simp [HN.out]), HXYZ.out, if_neg (by simp), if_neg hm]
        have hk : ∀ n, Hid (Keeps (fun x => x ≠ p) w ((w.drewN n).setCell ⟨p, 1, none⟩ (.int .i64 y))) := fun n =>
          (Keeps.of_drewN n).setCell (a := ⟨p, 1, none⟩) (by simp) _
        have fin : ∀ n, Hid (Ri S ((w.drewN n).setCell ⟨p, 1, none⟩ (.int .i64 y)) p v b { r with at_ := y }) := fun n => H.out.set { r with at_ := y } (hk n).out (by simpa using row_setCell (w := w.drewN n) H.out.row 1 (.int .i64 y)) hy
        have HK1 := Lib.hid hk; have HF1 := Lib.hid fin; clear hk fin
        have m1 : ¬ x < least := by omega
        have m2 : ¬ most < x := by omega
        clear hm
        go_enter Tryd.func75, Tryd.ntmps75
        go_wp2
        go_quiet ((go_at_call 62; exact Calls.quiet_of_same (wire_ReadUvarQ _ S v b HB.out (H.out.rd.drewN _) r.at_ H.out.le x y 0 HXYZ.out)))
        go_wp2
        go_ret
        rw [E.out]
        exact ⟨rfl, (HF1.out _).out, (HK1.out _).out⟩
    · have E : Hid (rnumI b r least most = (0, { r with e := z })) := by show _ = _; rw [rnumI, if_neg (by simp [HN.out]), HXYZ.out, if_pos (by simpa using hz)]
      have hz1 : (z == 0) = false := by simp [hz]
      have hz2 : (z != 0) = true := by simp [hz]
      clear hz
      go_enter Tryd.func75, Tryd.ntmps75
      go_wp2
      go_quiet ((go_at_call 62; exact Calls.quiet_of_same (wire_ReadUvarQ _ S v b HB.out (H.out.rd.drewN _) r.at_ H.out.le x y z HXYZ.out)))
      go_wp2
      go_ret
      rw [E.out]
      exact ⟨rfl, (HF.out z _).out, (HK.out z _).out⟩
  · have hn : (r.e != 0) = true := by simp [h0]
    have E : Hid (rnumI b r least most = (0, r)) := by show _ = _; rw [rnumI, if_pos h0]
    clear h0
    go_enter Tryd.func75, Tryd.ntmps75
    go_wp2
    go_ret
    rw [E.out]
    exact ⟨rfl, H.out, Keeps.refl _ _⟩

set_option maxRecDepth 100000 in
set_option maxHeartbeats 3200000 in
theorem ri_signed (S) (w : World) (p : Nat) (v : Value) (b : List Int) (r : IR) (h : Ri S w p v b r) (hb : ∀ x ∈ b, 0 ≤ x ∧ x ≤ 255) (op : Nat) (ho : op < 256) :
    Calls Tryd.prog 76 #[.pointer (some ⟨p, 0, none⟩), .agg (irow op)] w fun en w' => en = .returned (.int .i64 (rsigI b r op).1) ∧ Ri S w' p v b (rsigI b r op).2 ∧ Keeps (fun x => x ≠ p) w w' := by
  have HB := Lib.hid hb; clear hb
  have HWn := Lib.hid (fun (w' : World) n => instr_within w' op ho n)
  have HX : Hid (rsigI b r op = (zag (ruv b r.at_).1, ⟨(ruv b r.at_).2.1, if (ruv b r.at_).2.2 = 0 ∧ inI op (zag (ruv b r.at_).1) = false then 17 else (ruv b r.at_).2.2⟩)) := Lib.hid rfl
  have hle := ruv_at_le b r.at_
  obtain ⟨x, hx⟩ : ∃ x, zag (ruv b r.at_).1 = x := ⟨_, rfl⟩
  obtain ⟨y, hy⟩ : ∃ x, (ruv b r.at_).2.1 = x := ⟨_, rfl⟩
  obtain ⟨z, hz⟩ : ∃ x, (ruv b r.at_).2.2 = x := ⟨_, rfl⟩
  rw [hx, hy, hz] at HX
  rw [hy] at hle
  have HR := Lib.hid (And.intro hx (And.intro hy hz))
  clear hx hy hz
  unfold irow at *
  have h0 := h.on (below_alloc w (.cells #[.int .u8 op, .string ⟨(wordP op).toArray⟩, .int .i8 (takesP op), .string ⟨(progRow op).pops.toArray⟩, .string ⟨(progRow op).pushes.toArray⟩, .bool (progRow op).plain] 115))
  generalize (progRow op).pops = pp at *
  generalize (progRow op).pushes = pu at *
  generalize (progRow op).plain = pl at *
  generalize wordP op = wd at *
  generalize takesP op = t at *
  have hlt := row_lt h.row
  have hne : w.heap.size ≠ p := by omega
  have hq := heap_alloc_new w (.cells #[.int .u8 op, .string ⟨wd.toArray⟩, .int .i8 t, .string ⟨pp.toArray⟩, .string ⟨pu.toArray⟩, .bool pl] 115)
  have hk0 : Keeps (fun x => x ≠ p) w (w.alloc (.cells #[.int .u8 op, .string ⟨wd.toArray⟩, .int .i8 t, .string ⟨pp.toArray⟩, .string ⟨pu.toArray⟩, .bool pl] 115)) := Keeps.all _ (below_alloc w _)
  have HQ := Lib.hid hq; have HK0 := Lib.hid hk0; have H0 := Lib.hid h0
  clear h hk0
  go_enter Tryd.func76, Tryd.ntmps76
  have c0 := row_cell h0.row 0 rfl; have c1 := row_cell h0.row 1 rfl
  have q0 := row_cell hq 0 rfl; have q1 := row_cell hq 1 rfl; have q2 := row_cell hq 2 rfl; have q3 := row_cell hq 3 rfl; have q4 := row_cell hq 4 rfl; have q5 := row_cell hq 5 rfl
  simp only [List.getElem_toArray, List.getElem_cons_zero, List.getElem_cons_succ] at c0 c1 q0 q1 q2 q3 q4 q5
  clear h0 hq
  go_wp2
  generalize w.alloc (.cells #[.int .u8 op, .string ⟨wd.toArray⟩, .int .i8 t, .string ⟨pp.toArray⟩, .string ⟨pu.toArray⟩, .bool pl] 115) = w0 at *
  generalize w.heap.size = g at *
  go_quiet ((go_at_call 49; exact Calls.quiet_of_same (wire_ReadSvarQ _ S v b HB.out (H0.out.rd.drewN _) r.at_ H0.out.le x y z HR.out.1 HR.out.2.1 HR.out.2.2)))
  by_cases hz : z = 0
  · subst hz
    go_wp2_with fail
    refine (HWn.out _ x).mono ?_
    rintro e w2 ⟨rfl, hb2⟩
    have hr2 := (H0.out.on (drewN_below w0 _)).on hb2
    have hk2 : Keeps (fun x => x ≠ p) w w2 := (HK0.out.drewN _).trans (Keeps.all _ hb2)
    have f1 := row_free hr2.row 1; have f2 := row_free hr2.row 2; have d1 := row_cell hr2.row 1 rfl; have d2 := row_cell hr2.row 2 rfl
    simp only [List.getElem_toArray, List.getElem_cons_zero, List.getElem_cons_succ] at d1 d2
    have fin : ∀ e' : Int, Ri S ((w2.setCell ⟨p, 1, none⟩ (.int .i64 y)).setCell ⟨p, 2, none⟩ (.int .i64 e')) p v b ⟨y, e'⟩ := fun e' =>
      hr2.set ⟨y, e'⟩ (((Keeps.refl _ w2).setCell (a := ⟨p, 1, none⟩) (by simp) _).setCell (a := ⟨p, 2, none⟩) (by simp) _) (by simpa using row_setCell (row_setCell hr2.row 1 (.int .i64 y)) 2 (.int .i64 e')) hle
    have fk : ∀ e' : Int, Keeps (fun x => x ≠ p) w ((w2.setCell ⟨p, 1, none⟩ (.int .i64 y)).setCell ⟨p, 2, none⟩ (.int .i64 e')) := fun e' =>
      (hk2.setCell (a := ⟨p, 1, none⟩) (by simp) _).setCell (a := ⟨p, 2, none⟩) (by simp) _
    have HF := Lib.hid fin; have HK := Lib.hid fk
    clear fin fk hk2 hr2 hb2
    cases hin : inI op x with
    | true =>
      have HX1 : Hid (rsigI b r op = (x, ⟨y, 0⟩)) := by have := HX.out; rw [if_neg (by simp [hin])] at this; exact this
      clear HX hin
      go_wp2
      go_ret
      rw [HX1.out]
      exact ⟨rfl, HF.out 0, HK.out 0⟩
    | false =>
      have HX1 : Hid (rsigI b r op = (x, ⟨y, 17⟩)) := by have := HX.out; rw [if_pos (by simp [hin])] at this; exact this
      clear HX hin
      go_wp2
      go_ret
      rw [HX1.out]
      exact ⟨rfl, HF.out 17, HK.out 17⟩
  · have hz1 : (z == 0) = false := by simp [hz]
    have HX1 : Hid (rsigI b r op = (x, ⟨y, z⟩)) := by have := HX.out; rw [if_neg (by simp [hz])] at this; exact this
    clear hz HX
    have f1 := row_free H0.out.row 1; have f2 := row_free H0.out.row 2; have d2 := row_cell H0.out.row 2 rfl
    simp only [List.getElem_toArray, List.getElem_cons_zero, List.getElem_cons_succ] at d2
    have fin : ∀ n, Ri S (((w0.drewN n).setCell ⟨p, 1, none⟩ (.int .i64 y)).setCell ⟨p, 2, none⟩ (.int .i64 z)) p v b ⟨y, z⟩ := fun n =>
      (H0.out.on (drewN_below w0 n)).set ⟨y, z⟩ (((Keeps.refl _ _).setCell (a := ⟨p, 1, none⟩) (by simp) _).setCell (a := ⟨p, 2, none⟩) (by simp) _) (by simpa using row_setCell (row_setCell (w := w0.drewN n) H0.out.row 1 (.int .i64 y)) 2 (.int .i64 z)) hle
    have fk : ∀ n, Keeps (fun x => x ≠ p) w (((w0.drewN n).setCell ⟨p, 1, none⟩ (.int .i64 y)).setCell ⟨p, 2, none⟩ (.int .i64 z)) := fun n =>
      ((HK0.out.drewN n).setCell (a := ⟨p, 1, none⟩) (by simp) _).setCell (a := ⟨p, 2, none⟩) (by simp) _
    have HF := Lib.hid fin; have HK := Lib.hid fk
    clear fin fk
    go_wp2
    go_ret
    rw [HX1.out]
    exact ⟨rfl, HF.out _, HK.out _⟩
end Go.Proofs.YteaolgldkfjdkaaDoor
namespace Go.Proofs.YteaolgldkfjdkaaDoor
open Go Go.RowKit

theorem check_ok {x : InsD} (h : checkI x = 0) : isOp x.op = true ∧ inI x.op x.a = true ∧ (takesP x.op = 3 → 1 ≤ x.l.length ∧ x.l.length ≤ 16 ∧ ∀ n ∈ x.l, smallI n = true) ∧ (takesP x.op ≠ 3 → x.l = []) := by
  unfold checkI at h
  split at h
  · exact absurd h (by decide)
  rename_i h1
  split at h
  · exact absurd h (by decide)
  rename_i h2
  refine ⟨by simpa using h1, by simpa using h2, fun h3 => ?_, fun h3 => ?_⟩
  · rw [if_neg (by simp [h3])] at h
    split at h
    · exact absurd h (by decide)
    rename_i h4
    refine ⟨by omega, by omega, fun n hn => ?_⟩
    cases hall : x.l.all smallI with
    | true => exact List.all_eq_true.1 hall n hn
    | false => rw [hall] at h; exact absurd h (by decide)
  · rw [if_pos h3] at h
    split at h
    · exact absurd h (by decide)
    exact List.eq_nil_of_length_eq_zero (by omega)
theorem uvs_take {l : List Int} {k : Nat} (h : k < l.length) : uvs (l.take (k + 1)) = uvs (l.take k) ++ uv l[k].toNat := by
  rw [uvs, List.take_succ_eq_append_getElem h, List.flatMap_append]; simp [uvs]
theorem uvs_len {l : List Int} (h : ∀ n ∈ l, smallI n = true) : (uvs l).length ≤ 10 * l.length := by
  induction l with
  | nil => simp [uvs]
  | cons n l ih =>
    have h1 : 0 ≤ n ∧ n ≤ 2147483647 := by simpa [smallI] using h n List.mem_cons_self
    have h2 := uv_len10 (n := n.toNat) (by omega)
    have := ih fun x hx => h x (List.mem_cons_of_mem _ hx)
    simp only [uvs, List.flatMap_cons, List.length_append, List.length_cons] at *
    omega
/-- How Encode stands: its box, the list that it reads, the bytes that it owns. -/
structure EnS (w : World) (B : Nat) (op : Nat) (a : Int) (vl : Value) (l : List Int) (wx : World) (vb : Value) (bs : List Int) : Prop where
  bel : Below w.heap.size w wx
  row : wx.heap[w.heap.size]? = some (.cells #[.int .u8 op, .int .i64 a, vl] 76 (0, 0))
  rd : RdI .i64 (· < B) wx vl l
  own : wx.ownsRow B 5 1 vb bs.length (bs.map (Value.int .u8))
  lo : w.heap.size < B
  hi : B ≤ wx.heap.size
theorem EnS.on {w : World} {B op : Nat} {a : Int} {vl : Value} {l : List Int} {wx wy : World} {vb : Value} {bs : List Int} (h : EnS w B op a vl l wx vb bs) (hb : Below wx.heap.size wx wy) : EnS w B op a vl l wy vb bs :=
  ⟨below_next h.bel hb, (hb.block _ (row_lt h.row)).trans h.row, h.rd.keeps (Keeps.all _ hb), own_below h.own hb, h.lo, Nat.le_trans h.hi hb.size⟩
theorem EnS.grow {w : World} {B op : Nat} {a : Int} {vl : Value} {l : List Int} {wx wy : World} {vb v' : Value} {bs ys : List Int} (h : EnS w B op a vl l wx vb bs) (hg : wx.grownBy wy vb.ownBlock)
    (ho : wy.ownsRow B 5 1 v' (bs.length + ys.length) (bs.map (Value.int .u8) ++ ys.map (Value.int .u8))) : EnS w B op a vl l wy v' (bs ++ ys) :=
  ⟨h.bel.grown hg (Nat.le_trans (Nat.le_of_lt h.lo) h.hi) fun k hk => Nat.le_trans (Nat.le_of_lt h.lo) (h.own.lt k hk).1,
    grown_block hg h.row fun e => by have := (h.own.lt _ e).1; have := h.lo; omega,
    h.rd.keeps ((Keeps.refl _ wx).grown hg fun k hk _ hlt => by have := (h.own.lt k hk).1; omega),
    by simpa using ho, h.lo, Nat.le_trans h.hi hg.size⟩
theorem EnS.cells {w : World} {B op : Nat} {a : Int} {vl : Value} {l : List Int} {wx : World} {vb : Value} {bs : List Int} (h : EnS w B op a vl l wx vb bs) :
    wx.cell? ⟨w.heap.size, 0, none⟩ = some (.int .u8 op) ∧ wx.cell? ⟨w.heap.size, 1, none⟩ = some (.int .i64 a) ∧ wx.cell? ⟨w.heap.size, 2, none⟩ = some vl := ⟨row_cell h.row 0 rfl, row_cell h.row 1 rfl, row_cell h.row 2 rfl⟩
theorem EnS.done {w : World} {B op : Nat} {a : Int} {vl : Value} {l : List Int} {wx : World} {vb : Value} {bs : List Int} (h : EnS w B op a vl l wx vb bs) : wx.ownsRow w.heap.size 5 1 vb bs.length (bs.map (Value.int .u8)) := by
  refine ⟨h.own.1, ?_⟩
  rcases h.own.2 with hn | ⟨g, cap, cur, e, hb, rest⟩
  · exact .inl hn
  · exact .inr ⟨g, cap, cur, e, Nat.le_trans (Nat.le_of_lt h.lo) hb, rest⟩

set_option maxRecDepth 100000 in
set_option maxHeartbeats 6400000 in
/-- 'instr.Encode'. -/
theorem instr_Encode (w : World) (S) (x : InsD) (vl : Value) (wf : WfIns x) (hr : RdI .i64 S w vl x.l) (ht : Tb w) :
    Calls Tryd.prog 41 #[.agg #[.int .u8 x.op, .int .i64 x.a, vl]] w fun e w' => ∃ v', e = .returned (.tuple #[v', .int .i64 (checkI x)]) ∧ Below w.heap.size w w' ∧
      w'.ownsRow w.heap.size 5 1 v' (encI x).length ((encI x).map (Value.int .u8)) ∧ (checkI x ≠ 0 → v' = .slice none 0 0) := by
  obtain ⟨i0, hi, hz0, hz1, hz2⟩ := info_parts Tryd.infoU8
  have hchk := fun w0 hl0 ht0 => instr_Check w0 (· < w0.heap.size) x vl wf hl0 ht0
  have HCk := Lib.hid hchk
  clear hchk
  have HT := Lib.hid ht; have HL := Lib.hid hr; have HWf := Lib.hid wf
  have HEn : Hid (encI x = if checkI x = 0 then (x.op : Int) :: tailI x else []) := Lib.hid rfl
  obtain ⟨va, vc, rfl, hlc⟩ := hr.lenc
  clear wf hr ht
  have ho := HWf.out.op
  have hb0 := below_alloc w (.cells #[.int .u8 x.op, .int .i64 x.a, .slice va x.l.length vc] 76)
  have hr0 := heap_alloc_new w (.cells #[.int .u8 x.op, .int .i64 x.a, .slice va x.l.length vc] 76)
  obtain ⟨c, hcc⟩ : ∃ c, checkI x = c := ⟨_, rfl⟩
  rw [hcc] at HCk HEn ⊢
  have HCc := Lib.hid hcc; clear hcc
  obtain ⟨op, hop⟩ : ∃ o, o = x.op := ⟨_, rfl⟩
  obtain ⟨a, ha⟩ : ∃ o, o = x.a := ⟨_, rfl⟩
  obtain ⟨l, hl⟩ : ∃ o, o = x.l := ⟨_, rfl⟩
  have HOP := Lib.hid hop; have HA := Lib.hid ha; have HLL := Lib.hid hl
  rw [← hop, ← ha, ← hl] at hb0 hr0 HCk ⊢
  rw [← hl] at HL hlc
  rw [← hop] at ho HEn
  clear hop ha hl
  go_enter Tryd.func41, Tryd.ntmps41
  have b0 := row_cell hr0 0 rfl; have b1 := row_cell hr0 1 rfl; have b2 := row_cell hr0 2 rfl
  simp only [List.getElem_toArray, List.getElem_cons_zero, List.getElem_cons_succ] at b0 b1 b2
  go_wp2_with fail
  generalize w.alloc (.cells #[.int .u8 op, .int .i64 a, .slice va l.length vc] 76) = w0 at *
  have HB0 := Lib.hid hb0; have HR0 := Lib.hid hr0
  have HT0 := Lib.hid (HT.out.bel hb0)
  have HL0 := Lib.hid (HL.out.any.bel hb0)
  clear hb0 hr0 HL HT b0 b1 b2
  refine (HCk.out _ HL0.out HT0.out).mono ?_
  rintro e w1 ⟨rfl, hb1⟩
  have HB1 := Lib.hid (below_next HB0.out hb1)
  have HR1 : Hid (w1.heap[w.heap.size]? = some (.cells #[.int .u8 op, .int .i64 a, .slice va l.length vc] 76 (0, 0))) := Lib.hid ((hb1.block _ (row_lt HR0.out)).trans HR0.out)
  have HL1 := Lib.hid (HL0.out.bel hb1)
  have HT1 := Lib.hid (HT0.out.bel hb1)
  clear hb1 HB0 HR0 HL0 HT0 HCk
  by_cases hc : ¬ c = 0
  · have HE : Hid (encI x = []) := by have := HEn.out; rw [if_neg hc] at this; exact this
    have hc' : (c != 0) = true := by rw [bne_iff_ne]; exact hc
    go_wp2
    go_ret2
    refine ⟨_, rfl, HB1.out, ?_, fun _ => rfl⟩
    rw [HE.out]
    exact World.ownsRow_nil _ _ _ _
  have hc := Decidable.not_not.1 hc
  subst hc
  have HE : Hid (encI x = (op : Int) :: tailI x) := by have := HEn.out; rw [if_pos rfl] at this; exact this
  obtain ⟨k1, k2, k3, k4⟩ := check_ok HCc.out
  clear HEn
  have HTl : Hid (tailI x = if takesP op = 3 then uv l.length ++ uvs l else if takesP op = 8 then uv (zig a) else if isU (takesP op) then uv a.toNat else []) := by show _ = _; rw [HOP.out, HA.out, HLL.out]; rfl
  rw [← HOP.out] at k1 k2 k3 k4
  rw [← HA.out] at k2
  rw [← HLL.out] at k3 k4
  have HW : Hid (i64P a) := Lib.hid (by rw [HA.out]; exact HWf.out.a)
  clear HLL HA HOP HWf
  have HK3 := Lib.hid k3
  have hE2 : EnS w w1.heap.size op a (.slice va l.length vc) l (w1.alloc (.cells #[.int .u8 op] 5)) (.slice (some ⟨w1.heap.size, 0, none⟩) 1 1) [(op : Int)] :=
    ⟨below_next HB1.out (below_alloc w1 _), ((below_alloc w1 _).block _ (row_lt HR1.out)).trans HR1.out, HL1.out.keeps (Keeps.all _ (below_alloc w1 _)), World.ownsRow_lit w1 #[.int .u8 op] 1 (Nat.le_refl _) (by decide) rfl, row_lt HR1.out, (below_alloc w1 _).size⟩
  have HT2 : Hid (Tb (w1.alloc (.cells #[.int .u8 op] 5))) := Lib.hid (HT1.out.bel (below_alloc w1 _))
  have b0 := row_cell HR1.out 0 rfl
  have c0 := hE2.cells.1
  simp only [List.getElem_toArray, List.getElem_cons_zero] at b0
  go_wp2_with fail
  have HE2 := Lib.hid hE2
  clear hE2 b0 c0 HT1 HB1 HL1 HR1
  generalize w1.alloc (.cells #[.int .u8 op] 5) = w2 at *
  refine (ops_Of _ op ho HT2.out).mono ?_
  rintro e w3 ⟨rfl, hb3⟩
  rw [irow_eq op k1, k1]
  have HE3 := Lib.hid ((HE2.out.on hb3).on (below_alloc w3 (.cells (irow op) 115)))
  clear hb3 HE2 HT2
  generalize w1.heap.size = B at *
  unfold irow at *
  have hu := fun h : isU (takesP op) = true => bounds_u h
  have HIn : Hid ((boundsI op).1 ≤ a ∧ a ≤ (boundsI op).2) := by have := k2; simp only [inI, decide_eq_true_eq] at this; exact this
  have hcs := takes_cases ⟨op, ho⟩
  simp only at hcs
  generalize (progRow op).pops = pp at *
  generalize (progRow op).pushes = pu at *
  generalize (progRow op).plain = pl at *
  generalize wordP op = wd at *
  generalize (boundsI op).1 = lo at *
  generalize (boundsI op).2 = hi' at *
  generalize takesP op = t at *
  have HU := Lib.hid hu
  clear hu k1 k2 k3
  obtain ⟨c0, c1, c2⟩ := HE3.out.cells
  rcases hcs with h3 | h8 | hU | h0
  · subst h3
    obtain ⟨j1, j2, j3⟩ := HK3.out rfl
    have HJ := Lib.hid j3
    clear j3 k4 HU
    have hwl : IntKind.u64.wrap (l.length : Int) = (l.length : Int) := IntWalk.u64_in _ ⟨by omega, by omega⟩
    have HX : Hid (encI x = (op : Int) :: (uv l.length ++ uvs l)) := by have := HE.out; rw [HTl.out, if_pos rfl] at this; exact this
    have hu10 := uv_len10 (n := l.length) (by omega)
    clear HE HTl
    go_wp2_with fail
    refine (wire_Uvar _ l.length (by omega)).mono ?_
    rintro e w5 ⟨v5, rfl, hown5, hb5⟩
    have HE5 := HE3.out.on hb5
    obtain ⟨g5, cap5, rfl, _, _⟩ := hown5.form (uv_pos _)
    clear c0 c1 c2 hb5
    go_wp2_with (at_builtin; refine wpList_append_own _ rfl _ _ 30 rfl B 5 i0 (.int .u8 0) 1 1 Tryd.underlying30 hi hz0 hz1 hz2 rfl (by decide) _ _ _ rfl HE5.own ⟨g5, 0, none⟩ (uv l.length).length cap5 ((uv l.length).map (Value.int .u8)) rfl (by simp) (hown5.cells rfl) (by intro u hu; simp at hu; obtain ⟨x, _, rfl⟩ := hu; rfl) (by unfold maxLen; simp; omega) (by simp; omega) HE5.hi ?_)
    intro v6 w6 hown6 hgrow6 _
    have HE6 := HE5.grow (ys := uv l.length) hgrow6 hown6
    obtain ⟨_, _, c2⟩ := HE6.cells
    have HQ6 := Lib.hid HE6
    clear HE5 hown5 hown6 hgrow6 HE3 HE6
    go_wp2
    clear c2
    go_loopw [5, 49] (fun vb i wr => ∃ k : Nat, k ≤ l.length ∧ i = .int .i64 k ∧ Hid (EnS w B op a (.slice va l.length vc) l wr vb ((op : Int) :: (uv l.length ++ uvs (l.take k))))) (fun _ i _ => l.length - (intOf i).toNat)
    case atStart => exact ⟨0, by omega, rfl, Lib.hid (by have := HQ6.out; simpa [uvs] using this)⟩
    case round =>
      obtain ⟨k, hk, rfl, HEr⟩ := hrel
      by_cases hlt : k < l.length
      · obtain ⟨va', vc', e, _, _, hcell⟩ := HEr.out.rd
        simp only [Value.slice.injEq] at e
        obtain ⟨rfl, _, rfl⟩ := e
        obtain ⟨bb, off, rfl, _, hcl⟩ := hcell k hlt
        have hn : 0 ≤ l[k] ∧ l[k] ≤ 2147483647 := by simpa [smallI] using HJ.out l[k] (List.getElem_mem _)
        obtain ⟨m, hm⟩ := Int.eq_ofNat_of_zero_le hn.1
        have HT' : Hid (uvs (l.take (k + 1)) = uvs (l.take k) ++ uv m) := by have := uvs_take hlt; rw [hm] at this; exact this
        rw [hm] at hcl hn
        have hbs : (uvs (l.take k)).length ≤ 160 := by
          have h1 := uvs_len (l := l.take k) fun n hn => HJ.out n (List.mem_of_mem_take hn)
          simp at h1; omega
        have hwm : IntKind.u64.wrap (m : Int) = (m : Int) := IntWalk.u64_in _ ⟨by omega, by omega⟩
        have hm10 := uv_len10 (n := m) (by omega)
        clear hcell hm HX HQ6
        go_wp2_with fail
        refine (wire_Uvar _ m (by omega)).mono ?_
        rintro e w7 ⟨v7, rfl, hown7, hb7⟩
        have HE7 := HEr.out.on hb7
        obtain ⟨g7, cap7, rfl, _, _⟩ := hown7.form (uv_pos _)
        clear hb7 HEr hcl
        go_wp2_with (at_builtin; refine wpList_append_own _ rfl _ _ 30 rfl B 5 i0 (.int .u8 0) 1 1 Tryd.underlying30 hi hz0 hz1 hz2 rfl (by decide) _ _ _ rfl HE7.own ⟨g7, 0, none⟩ (uv m).length cap7 ((uv m).map (Value.int .u8)) rfl (by simp) (hown7.cells rfl) (by intro u hu; simp at hu; obtain ⟨x, _, rfl⟩ := hu; rfl) (by unfold maxLen; simp; omega) (by simp; omega) HE7.hi ?_)
        intro v8 w8 hown8 hgrow8 _
        have HE8 := Lib.hid (HE7.grow (ys := uv m) hgrow8 (by simpa using hown8))
        clear HE7 hown7 hown8 hgrow8
        go_wp2
        go_roundw
        case rel => exact ⟨k + 1, by omega, by go_num, Lib.hid (by rw [HT'.out, ← List.append_assoc]; exact HE8.out)⟩
        case measure => simp [intOf]; omega
      · have HD : Hid (EnS w B op a (.slice va l.length vc) l wr u5 (encI x)) := Lib.hid (by rw [HX.out]; have := HEr.out; rw [List.take_of_length_le (by omega)] at this; exact this)
        clear HEr
        go_wp2
        go_ret2
        exact ⟨_, rfl, HD.out.bel, HD.out.done, fun h => absurd rfl h⟩
  · subst h8
    have HX : Hid (encI x = (op : Int) :: uv (zig a)) := by have := HE.out; rw [HTl.out, if_neg (by decide), if_pos rfl] at this; exact this
    have hu10 := uv_len10 (n := zig a) (zig_le HW.out)
    clear HE HTl HU k4
    go_wp2_with fail
    refine (wire_Svar _ a HW.out).mono ?_
    rintro e w5 ⟨v5, rfl, hown5, hb5⟩
    have HE5 := HE3.out.on hb5
    obtain ⟨g5, cap5, rfl, _, _⟩ := hown5.form (uv_pos _)
    clear c0 c1 c2 hb5
    go_wp2_with (at_builtin; refine wpList_append_own _ rfl _ _ 30 rfl B 5 i0 (.int .u8 0) 1 1 Tryd.underlying30 hi hz0 hz1 hz2 rfl (by decide) _ _ _ rfl HE5.own ⟨g5, 0, none⟩ (uv (zig a)).length cap5 ((uv (zig a)).map (Value.int .u8)) rfl (by simp) (hown5.cells rfl) (by intro u hu; simp at hu; obtain ⟨x, _, rfl⟩ := hu; rfl) (by unfold maxLen; simp; omega) (by simp; omega) HE5.hi ?_)
    intro v6 w6 hown6 hgrow6 _
    have HQ6 := Lib.hid (HE5.grow (ys := uv (zig a)) hgrow6 hown6)
    clear HE5 hown5 hown6 hgrow6 HE3
    go_wp2
    go_ret2
    exact ⟨_, rfl, HQ6.out.bel, by rw [HX.out]; exact HQ6.out.done, fun h => absurd rfl h⟩
  · have hn := isU_not hU
    obtain ⟨e1, e2, e3⟩ := HU.out hU
    have h3' : (t == 3) = false := by rw [beq_eq_false_iff_ne]; exact hn.1
    have h8' : (t == 8) = false := by rw [beq_eq_false_iff_ne]; exact hn.2.1
    obtain ⟨m, hm⟩ := Int.eq_ofNat_of_zero_le (show 0 ≤ a by have := HIn.out; omega)
    have HX : Hid (encI x = (op : Int) :: uv m) := by have := HE.out; rw [HTl.out, if_neg hn.1, if_neg hn.2.1, if_pos hU, hm] at this; exact this
    have hwa : IntKind.u64.wrap a = (m : Int) := by have := HIn.out; rw [hm]; exact IntWalk.u64_in _ ⟨by omega, by omega⟩
    have hm4 : m ≤ 4294967295 := by have := HIn.out; omega
    have hu10 := uv_len10 (n := m) (by omega)
    have HUU := Lib.hid hU
    clear HE HTl HU k4 e1 e2 e3 hn hU hm
    go_wp2_with fail
    all_goals try (exfalso; have := HUU.out; simp only [isU, decide_eq_true_eq] at this; (try simp only [beq_iff_eq, beq_eq_false_iff_ne, ne_eq] at *); omega)
    all_goals
      refine (wire_Uvar _ m (by omega)).mono ?_
      rintro e w5 ⟨v5, rfl, hown5, hb5⟩
      have HE5 := HE3.out.on hb5
      obtain ⟨g5, cap5, rfl, _, _⟩ := hown5.form (uv_pos _)
      clear c0 c1 c2 hb5
      go_wp2_with (at_builtin; refine wpList_append_own _ rfl _ _ 30 rfl B 5 i0 (.int .u8 0) 1 1 Tryd.underlying30 hi hz0 hz1 hz2 rfl (by decide) _ _ _ rfl HE5.own ⟨g5, 0, none⟩ (uv m).length cap5 ((uv m).map (Value.int .u8)) rfl (by simp) (hown5.cells rfl) (by intro u hu; simp at hu; obtain ⟨x, _, rfl⟩ := hu; rfl) (by unfold maxLen; simp; omega) (by simp; omega) HE5.hi ?_)
      intro v6 w6 hown6 hgrow6 _
      have HQ6 := Lib.hid (HE5.grow (ys := uv m) hgrow6 hown6)
      clear HE5 hown5 hown6 hgrow6 HE3
      go_wp2
      go_ret2
      exact ⟨_, rfl, HQ6.out.bel, by rw [HX.out]; exact HQ6.out.done, fun h => absurd rfl h⟩
  · subst h0
    have HX : Hid (encI x = [(op : Int)]) := by have := HE.out; rw [HTl.out, if_neg (by decide), if_neg (by decide), if_neg (by decide)] at this; exact this
    clear HE HTl HU k4
    go_wp2
    go_ret2
    exact ⟨_, rfl, HE3.out.bel, by rw [HX.out]; exact HE3.out.done, fun h => absurd rfl h⟩
end Go.Proofs.YteaolgldkfjdkaaDoor
namespace Go.Proofs.YteaolgldkfjdkaaDoor
open Go Go.RowKit

theorem bytes_app {a b : List Int} (ha : Bytes a) (hb : Bytes b) : Bytes (a ++ b) := fun x hx => (List.mem_append.1 hx).elim (ha x) (hb x)
theorem bytes_uv {n : Nat} (h : n ≤ 18446744073709551615) : Bytes (uv n) := fun x hx => uv_byte 10 n (Nat.lt_of_le_of_lt h (by decide)) x hx
theorem bytes_uvs {l : List Int} (h : ∀ n ∈ l, smallI n = true) : Bytes (uvs l) := by
  intro x hx
  simp only [uvs, List.mem_flatMap] at hx
  obtain ⟨n, hn, hx⟩ := hx
  have hs : 0 ≤ n ∧ n ≤ 2147483647 := by simpa [smallI] using h n hn
  exact bytes_uv (by omega) x hx
theorem enc_ok {x : InsD} (wf : WfIns x) (hc : checkI x = 0) : Bytes (encI x) ∧ (encI x).length ≤ 200 := by
  obtain ⟨k1, k2, k3, k4⟩ := check_ok hc
  have he : encI x = (x.op : Int) :: tailI x := by rw [encI, if_pos hc]
  have ho : Bytes [(x.op : Int)] := by intro y hy; simp at hy; have := wf.op; omega
  have ht : Bytes (tailI x) ∧ (tailI x).length ≤ 180 := by
    unfold tailI
    split
    · rename_i h3
      obtain ⟨j1, j2, j3⟩ := k3 h3
      have := uvs_len j3
      have := uv_len10 (n := x.l.length) (by omega)
      exact ⟨bytes_app (bytes_uv (by omega)) (bytes_uvs j3), by rw [List.length_append]; omega⟩
    split
    · exact ⟨bytes_uv (zig_le wf.a), by have := uv_len10 (zig_le wf.a); omega⟩
    split
    · rename_i hu
      have hb := bounds_u hu
      have hi : (boundsI x.op).1 ≤ x.a ∧ x.a ≤ (boundsI x.op).2 := by simpa [inI] using k2
      exact ⟨bytes_uv (by omega), by have := uv_len10 (n := x.a.toNat) (by omega); omega⟩
    · exact ⟨fun x hx => by simp at hx, by simp⟩
  rw [he]
  exact ⟨bytes_app ho ht.1, by rw [List.length_cons]; omega⟩
/-- What stays while the law goes on: the box, the bytes behind. -/
structure Bk (w : World) (x : InsD) (vl v1 v2 : Value) (ah be : List Int) (wx : World) : Prop where
  bel : Below w.heap.size w wx
  tb : Tb wx
  row : wx.heap[w.heap.size]? = some (.cells #[.int .u8 x.op, .int .i64 x.a, vl] 76 (0, 0))
  rx : RdI .i64 (· < w.heap.size) wx vl x.l
  r1 : RdI .u8 (· < w.heap.size) wx v1 ah
  r2 : RdI .u8 (· < w.heap.size) wx v2 be
theorem encI_len {x : InsD} (wf : WfIns x) : (encI x).length ≤ 200 := by
  by_cases hc : checkI x = 0
  · exact (enc_ok wf hc).2
  · rw [encI, if_neg hc]; decide
end Go.Proofs.YteaolgldkfjdkaaDoor
