/- The validator's rows: calls. -/
import Derived.Test.YtfhkjahjenpbgaaDoorMVw1
import Derived.Test.YtfhkjahjenpbgaaDoorMTwice
import Derived.IntWalk
namespace Go.Proofs.YtfhkjahjenpbgaaDoor
open Go Go.RowKit

/-- What the walk needs of a module that may be written. -/
structure MOk (m : ModD) : Prop where
  ft : ∀ f ∈ m.funs, 0 ≤ f.t ∧ f.t < m.types.length
  ht : ∀ h ∈ m.hosts, 0 ≤ h ∧ h < m.types.length
  sz : ∀ s ∈ m.types, s.1.size ≤ 8 ∧ s.2.size ≤ 8
  gl : ∀ g ∈ m.globals, g.letter < 128
/-- An instruction's box. -/
def insW (x : InsD) (vl : Value) : Array Value := #[.int .u8 x.op, .int .i64 x.a, vl]
section
variable {k : Wc} {w w' w1 : World} {v v1 : VwD} {pc : Int} {q : Wq} {b : Nat} {rv : Value} {r : Except Int VwD} {e : Ending}
theorem WE.trans (hk : Kw k w w1) (h : WE k w1 pc rv r e w') : WE k w pc rv r e w' := by
  rcases h with ⟨v1, q1, h1, h2, h3, h4⟩ | ⟨z, h1, h2, h3, h4⟩
  · exact .inl ⟨v1, q1, h1, h2, h3, Keeps.trans hk h4⟩
  · exact .inr ⟨z, h1, h2, h3, Keeps.trans hk h4⟩
theorem pops_ok {s : ByteArray} (h : popsV v s = .ok v1) : v1 = { v with shape := v.shape.extract 0 (v.shape.size - s.size) } ∧ s.size ≤ v.above.size := by
  unfold popsV at h
  split at h
  · rename_i hs
    unfold hasSuf at hs
    have := (List.isSuffixOf_iff_suffix.1 hs).length_le
    simp only [Except.ok.injEq] at h
    exact ⟨h.symm, by simpa using this⟩
  · exact absurd h (by simp)
theorem pushes_ok {s : ByteArray} (h : pushesV v s = .ok v1) : v1 = { v with shape := v.shape ++ s } ∧ v.shape.size + s.size ≤ 256 := by
  unfold pushesV at h
  split at h
  · simp only [Except.ok.injEq] at h
    exact ⟨h.symm, by assumption⟩
  · exact absurd h (by simp)
theorem Wr.sig (h : Wr k w) {t : Nat} (ht : t < k.m.types.length) : ∃ b o cap, k.tv = .slice (some ⟨b, o, none⟩) k.m.types.length cap ∧ w.cell? ⟨b, o + t * 2, none⟩ = some (.string (sigAt k.m.types t).1) ∧ w.cell? ⟨b, o + t * 2 + 1, none⟩ = some (.string (sigAt k.m.types t).2) ∧ k.m.types.length ≤ cap ∧ k.m.types.length ≤ 140737488355328 := by
  obtain ⟨tv, hv, gv, fv, dv, ev, e, h1, -⟩ := h.mod
  simp only [List.cons.injEq] at e
  obtain ⟨rfl, -⟩ := e
  obtain ⟨a, cap, e1, c1, l1, p1⟩ := h1
  obtain ⟨b, o, cs, rfl, _, _, hc, hr⟩ := p1 t ht
  have hr : cs = [.string k.m.types[t].1, .string k.m.types[t].2] := hr
  subst hr
  have hs : sigAt k.m.types t = k.m.types[t] := by
    unfold sigAt
    rw [List.getD_eq_getElem?_getD, Int.toNat_natCast, List.getElem?_eq_getElem ht]; rfl
  rw [hs]
  exact ⟨b, o, cap, e1, hc 0 (by omega), hc 1 (by omega), c1, l1⟩
theorem Wr.fun_ (h : Wr k w) {n : Nat} (hn : n < k.m.funs.length) : ∃ b o cap, k.fv = .slice (some ⟨b, o, none⟩) k.m.funs.length cap ∧ w.cell? ⟨b, o + n * 3, none⟩ = some (.int .i64 ((k.m.funs.map (·.t)).getD n 0)) ∧ k.m.funs.length ≤ cap ∧ k.m.funs.length ≤ 140737488355328 := by
  obtain ⟨tv, hv, gv, fv, dv, ev, e, -, -, -, h1, -⟩ := h.mod
  simp only [List.cons.injEq] at e
  obtain ⟨-, -, -, -, -, e2, -⟩ := e
  obtain ⟨a, cap, e1, c1, l1, p1⟩ := h1
  obtain ⟨b, o, cs, rfl, _, _, hc, vv, hr, -⟩ := p1 n hn
  subst hr
  rw [e2]
  refine ⟨b, o, cap, e1, ?_, c1, l1⟩
  rw [List.getD_eq_getElem?_getD, List.getElem?_map, List.getElem?_eq_getElem hn]
  exact hc 0 (by omega)
theorem Wr.host (h : Wr k w) {n : Nat} (hn : n < k.m.hosts.length) : ∃ b o cap, k.hv = .slice (some ⟨b, o, none⟩) k.m.hosts.length cap ∧ w.cell? ⟨b, o + n, none⟩ = some (.int .i64 (k.m.hosts.getD n 0)) ∧ k.m.hosts.length ≤ cap ∧ k.m.hosts.length ≤ 140737488355328 := by
  obtain ⟨tv, hv, gv, fv, dv, ev, e, -, h1, -⟩ := h.mod
  simp only [List.cons.injEq] at e
  obtain ⟨-, e2, -⟩ := e
  obtain ⟨a, cap, e1, c1, l1, p1⟩ := h1
  obtain ⟨b, o, rfl, _, hc⟩ := p1 n hn
  rw [e2]
  refine ⟨b, o, cap, e1, ?_, c1, l1⟩
  rw [List.getD_eq_getElem?_getD, List.getElem?_eq_getElem hn]
  exact hc
theorem Wr.glob (h : Wr k w) {n : Nat} (hn : n < k.m.globals.length) : ∃ b o cap, k.gv = .slice (some ⟨b, o, none⟩) k.m.globals.length cap ∧ (∀ i, i < 3 → w.cell? ⟨b, o + n * 3 + i, none⟩ = [Value.int .u8 (k.m.globals.getD n ⟨0, false, 0⟩).letter, .bool (k.m.globals.getD n ⟨0, false, 0⟩).mu, .int .u64 (k.m.globals.getD n ⟨0, false, 0⟩).v][i]?) ∧ k.m.globals.length ≤ cap ∧ k.m.globals.length ≤ 140737488355328 := by
  obtain ⟨tv, hv, gv, fv, dv, ev, e, -, -, h1, -⟩ := h.mod
  simp only [List.cons.injEq] at e
  obtain ⟨-, -, e2, -⟩ := e
  obtain ⟨a, cap, e1, c1, l1, p1⟩ := h1
  obtain ⟨b, o, cs, rfl, _, _, hc, hr⟩ := p1 n hn
  have hr : cs = [.int .u8 k.m.globals[n].letter, .bool k.m.globals[n].mu, .int .u64 k.m.globals[n].v] := hr
  subst hr
  rw [e2]
  refine ⟨b, o, cap, e1, ?_, c1, l1⟩
  rw [List.getD_eq_getElem?_getD, List.getElem?_eq_getElem hn]
  exact hc
/-- The slices of a module, their lengths. -/
theorem Wr.lens (h : Wr k w) : (∃ a c, k.tv = .slice a k.m.types.length c ∧ k.m.types.length ≤ 140737488355328) ∧ (∃ a c, k.hv = .slice a k.m.hosts.length c ∧ k.m.hosts.length ≤ 140737488355328) ∧ (∃ a c, k.gv = .slice a k.m.globals.length c ∧ k.m.globals.length ≤ 140737488355328) ∧ (∃ a c, k.fv = .slice a k.m.funs.length c ∧ k.m.funs.length ≤ 140737488355328) := by
  obtain ⟨tv, hv, gv, fv, dv, ev, e, ⟨a1, c1, e1, _, l1, _⟩, ⟨a2, c2, e2, _, l2, _⟩, ⟨a3, c3, e3, _, l3, _⟩, ⟨a4, c4, e4, _, l4, _⟩, -⟩ := h.mod
  simp only [List.cons.injEq] at e
  obtain ⟨h1, h2, h3, -, -, h4, -⟩ := e
  rw [h1, h2, h3, h4]
  exact ⟨⟨a1, c1, e1, l1⟩, ⟨a2, c2, e2, l2⟩, ⟨a3, c3, e3, l3⟩, ⟨a4, c4, e4, l4⟩⟩
theorem index_yes {n : Int} {c : Nat} (h : 0 ≤ n ∧ n < c) : indexV n c = .ok n.toNat := by unfold indexV; rw [if_pos h]
theorem index_no {n : Int} {c : Nat} (h : ¬ (0 ≤ n ∧ n < c)) : indexV n c = .error 30 := by unfold indexV; rw [if_neg h]
theorem val_index_ok (w : World) (t c : Nat) (ht : t < c) (hc : c ≤ 140737488355328) : Calls Tryd.prog 62 #[.int .i64 t, .int .i64 c] w fun r w' => r = .returned (.int .i64 t) ∧ w' = w := by
  refine (val_index w t c (by unfold i64P; omega) (by omega)).mono fun r w' h => ?_
  rw [if_pos (by omega)] at h; exact h
theorem val_index_no (w : World) (n : Int) (c : Nat) (hn : i64P n) (h : ¬ (0 ≤ n ∧ n < c)) (hc : c ≤ 140737488355328) : Calls Tryd.prog 62 #[.int .i64 n, .int .i64 c] w fun r w' => r = .panicked (wrongV 30) ∧ w' = w := by
  refine (val_index w n c hn (by omega)).mono fun r w' h' => ?_
  rw [if_neg h] at h'; exact h'
/-- The two steps of a call, behind the function's type. -/
theorem calls_step (c : VcD) (x : InsD) {t : Nat} (h : (if x.op = 11 then andV (indexV x.a c.ftypes.length) fun k => .ok (c.ftypes.getD k 0) else andV (indexV x.a c.hosts.length) fun k => .ok (c.hosts.getD k 0)) = .ok (t : Int)) :
    callsV c v x = andV (popsV v (sigAt c.types t).1) fun v1 => pushesV v1 (sigAt c.types t).2 := by
  unfold callsV; rw [h]; rfl
set_option maxRecDepth 100000 in
set_option maxHeartbeats 3200000 in
theorem val_calls_no (h : Wv k w v pc q) (x : InsD) (vl : Value) (hx : i64P x.a) (hop : x.op = 11 ∨ x.op = 12) (hno : ¬ (0 ≤ x.a ∧ x.a < (if x.op = 11 then k.m.funs.length else k.m.hosts.length : Nat))) :
    Calls Tryd.prog 52 #[.pointer (some ⟨k.p, 0, none⟩), .agg (insW x vl)] w fun r w' => WE k w pc (.tuple #[]) (callsV k.ctx v x) r w' := by
  have hb := below_alloc w (.cells (insW x vl) 68)
  have hn := heap_alloc_new w (.cells (insW x vl) 68)
  have HW := Lib.hid (h.on hb)
  have HK := Lib.hid (Kw.on (k := k) hb)
  obtain ⟨-, ⟨ah, ch, eh, lh⟩, -, ⟨af, cf, ef, lf⟩⟩ := h.rd.lens
  have yf : (w.alloc (.cells (insW x vl) 68)).cell? ⟨k.p, 5, none⟩ = some k.fv := HW.out.cell 5 rfl
  have yh : (w.alloc (.cells (insW x vl) 68)).cell? ⟨k.p, 1, none⟩ = some k.hv := HW.out.cell 1 rfl
  have x0 := row_cell hn 0 rfl; have x1 := row_cell hn 1 rfl
  simp only [insW, List.getElem_toArray, List.getElem_cons_zero, List.getElem_cons_succ] at x0 x1
  rw [ef] at yf; rw [eh] at yh
  clear h hb hn
  unfold insW
  unfold insW at yf yh HW HK
  obtain ⟨op, a, l⟩ := x
  simp only at *
  rcases hop with rfl | rfl
  · have HR : Hid (callsV k.ctx v ⟨11, a, l⟩ = .error 30) := Lib.hid (by
      unfold callsV
      rw [if_pos rfl, index_no (by simpa [Wc.ctx] using hno)]; rfl)
    have HN : Hid (¬ (0 ≤ a ∧ a < k.m.funs.length)) := Lib.hid (by simpa using hno)
    clear hno
    go_enter Tryd.func52, Tryd.ntmps52
    go_wp2_with fail
    generalize w.alloc (.cells #[.int .u8 11, .int .i64 a, vl] 68) = w1 at *
    generalize w.heap.size = g at *
    refine wp_region_held_drew (S := (fun wx => wx.cell? ⟨k.p, 5, none⟩ = some (.slice af k.m.funs.length cf) ∧ wx.cell? ⟨g, 1, none⟩ = some (.int .i64 a))) (by kernel_rfl) ⟨yf, x1⟩ (fun hHeld => ?_)
    refine takeAt (i := 0) (d := 8) (v := ?_) rfl (by kernel_rfl) (by kernel_rfl) (by kernel_rfl) (by kernel_rfl) (fun _ _ _ h => h) (Or.inl ⟨by kernel_rfl, ?_⟩) (by assumption) ?_
    rotate_left
    · (intro w hSw; (try dsimp only at hSw); go_simp; all_goals (with_reducible rfl))
    (try simp only [Act.put, List.setIfInBounds_toArray, List.set_cons_zero, List.set_cons_succ])
    refine takeAt (i := 1) (d := 9) (v := ?_) rfl (by kernel_rfl) (by kernel_rfl) (by kernel_rfl) (by kernel_rfl) (fun _ _ _ h => h) (Or.inl ⟨by kernel_rfl, ?_⟩) (by assumption) ?_
    rotate_left
    · (intro w hSw; (try dsimp only at hSw); go_simp; all_goals (with_reducible rfl))
    (try simp only [Act.put, List.setIfInBounds_toArray, List.set_cons_zero, List.set_cons_succ])
    refine takeAt (i := 2) (d := 10) (v := ?_) rfl (by kernel_rfl) (by kernel_rfl) (by kernel_rfl) (by kernel_rfl) (fun _ _ _ h => h) (Or.inl ⟨by kernel_rfl, ?_⟩) (by assumption) ?_
    rotate_left
    · (intro w hSw; (try dsimp only at hSw); go_simp; all_goals (with_reducible rfl))
    (try simp only [Act.put, List.setIfInBounds_toArray, List.set_cons_zero, List.set_cons_succ])
    refine takeAt (i := 3) (d := 11) (v := ?_) rfl (by kernel_rfl) (by kernel_rfl) (by kernel_rfl) (by kernel_rfl) (fun _ _ _ h => h) (Or.inl ⟨by kernel_rfl, ?_⟩) (by assumption) ?_
    rotate_left
    · (intro w hSw; (try dsimp only at hSw); go_simp; all_goals (with_reducible rfl))
    (try simp only [Act.put, List.setIfInBounds_toArray, List.set_cons_zero, List.set_cons_succ])
    refine takeAt (i := 4) (d := 12) (v := ?_) rfl (by kernel_rfl) (by kernel_rfl) (by kernel_rfl) (by kernel_rfl) (fun _ _ _ h => h) (Or.inl ⟨by kernel_rfl, ?_⟩) (by assumption) ?_
    rotate_left
    · (intro w hSw; (try dsimp only at hSw); go_simp; all_goals (with_reducible rfl))
    (try simp only [Act.put, List.setIfInBounds_toArray, List.set_cons_zero, List.set_cons_succ])
    refine takeAt (i := 5) (d := 13) (v := ?_) rfl (by kernel_rfl) (by kernel_rfl) (by kernel_rfl) (by kernel_rfl) (fun _ _ _ h => h) (Or.inl ⟨by kernel_rfl, ?_⟩) (by assumption) ?_
    rotate_left
    · (intro w hSw; (try dsimp only at hSw); go_simp; all_goals (with_reducible rfl))
    (try simp only [Act.put, List.setIfInBounds_toArray, List.set_cons_zero, List.set_cons_succ])
    refine takeAt (i := 6) (d := 14) (v := ?_) rfl (by kernel_rfl) (by kernel_rfl) (by kernel_rfl) (by kernel_rfl) (fun _ _ _ h => h) (Or.inl ⟨by kernel_rfl, ?_⟩) (by assumption) ?_
    rotate_left
    · (intro w hSw; (try dsimp only at hSw); go_simp; all_goals (with_reducible rfl))
    (try simp only [Act.put, List.setIfInBounds_toArray, List.set_cons_zero, List.set_cons_succ])
    refine takeAt (i := 7) (d := 15) (v := ?_) rfl (by kernel_rfl) (by kernel_rfl) (by kernel_rfl) (by kernel_rfl) (fun _ _ _ h => h) (Or.inl ⟨by kernel_rfl, ?_⟩) (by assumption) ?_
    rotate_left
    · (intro w hSw; (try dsimp only at hSw); go_simp; all_goals (with_reducible rfl))
    (try simp only [Act.put, List.setIfInBounds_toArray, List.set_cons_zero, List.set_cons_succ])
    refine takeAt (i := 8) (d := 16) (v := ?_) rfl (by kernel_rfl) (by kernel_rfl) (by kernel_rfl) (by kernel_rfl) (fun _ _ _ h => h) (Or.inl ⟨by kernel_rfl, ?_⟩) (by assumption) ?_
    rotate_left
    · (intro w hSw; (try dsimp only at hSw); go_simp; all_goals (with_reducible rfl))
    (try simp only [Act.put, List.setIfInBounds_toArray, List.set_cons_zero, List.set_cons_succ])
    refine takeAt (i := 9) (d := 17) (v := ?_) rfl (by kernel_rfl) (by kernel_rfl) (by kernel_rfl) (by kernel_rfl) (fun _ _ _ h => h) (Or.inl ⟨by kernel_rfl, ?_⟩) (by assumption) ?_
    rotate_left
    · (intro w hSw; (try dsimp only at hSw); go_simp; all_goals (with_reducible rfl))
    (try simp only [Act.put, List.setIfInBounds_toArray, List.set_cons_zero, List.set_cons_succ])
    refine takeAt (i := 10) (d := 18) (v := ?_) rfl (by kernel_rfl) (by kernel_rfl) (by kernel_rfl) (by kernel_rfl) (fun _ _ _ h => h) (Or.inl ⟨by kernel_rfl, ?_⟩) (by assumption) ?_
    rotate_left
    · (intro w hSw; (try dsimp only at hSw); go_simp; all_goals (with_reducible rfl))
    (try simp only [Act.put, List.setIfInBounds_toArray, List.set_cons_zero, List.set_cons_succ])
    refine takeAt (i := 11) (d := 19) (v := ?_) rfl (by kernel_rfl) (by kernel_rfl) (by kernel_rfl) (by kernel_rfl) (fun _ _ _ h => h) (Or.inl ⟨by kernel_rfl, ?_⟩) (by assumption) ?_
    rotate_left
    · (intro w hSw; (try dsimp only at hSw); go_simp; all_goals (with_reducible rfl))
    (try simp only [Act.put, List.setIfInBounds_toArray, List.set_cons_zero, List.set_cons_succ])
    refine takeAt (i := 12) (d := 20) (v := ?_) rfl (by kernel_rfl) (by kernel_rfl) (by kernel_rfl) (by kernel_rfl) (fun _ _ _ h => h) (Or.inl ⟨by kernel_rfl, ?_⟩) (by assumption) ?_
    rotate_left
    · (intro w hSw; (try dsimp only at hSw); go_simp; all_goals (with_reducible rfl))
    (try simp only [Act.put, List.setIfInBounds_toArray, List.set_cons_zero, List.set_cons_succ])
    refine wpAnyH_ready (rs := [13]) (by kernel_rfl) (by simp) ?_
    refine AllReadyH.cons rfl (fun K hK => ?_) AllReadyH.nil
    go_simp
    refine (val_index_no _ a _ hx HN.out lf).mono ?_
    rintro e w5 ⟨rfl, rfl⟩
    exact ⟨rfl, .inr ⟨30, HR.out, rfl, HW.out.drew.1.cell 20 rfl, HK.out.trans HW.out.drew.2⟩⟩
  · have HR : Hid (callsV k.ctx v ⟨12, a, l⟩ = .error 30) := Lib.hid (by
      unfold callsV
      rw [if_neg (show ¬ (12 : Nat) = 11 by decide), index_no (by simpa [Wc.ctx] using hno)]; rfl)
    have HN : Hid (¬ (0 ≤ a ∧ a < k.m.hosts.length)) := Lib.hid (by simpa using hno)
    clear hno
    go_enter Tryd.func52, Tryd.ntmps52
    go_wp2_with fail
    generalize w.alloc (.cells #[.int .u8 12, .int .i64 a, vl] 68) = w1 at *
    generalize w.heap.size = g at *
    refine wp_region_held_drew (S := (fun wx => wx.cell? ⟨k.p, 1, none⟩ = some (.slice ah k.m.hosts.length ch) ∧ wx.cell? ⟨g, 1, none⟩ = some (.int .i64 a))) (by kernel_rfl) ⟨yh, x1⟩ (fun hHeld => ?_)
    refine takeAt (i := 0) (d := 25) (v := ?_) rfl (by kernel_rfl) (by kernel_rfl) (by kernel_rfl) (by kernel_rfl) (fun _ _ _ h => h) (Or.inl ⟨by kernel_rfl, ?_⟩) (by assumption) ?_
    rotate_left
    · (intro w hSw; (try dsimp only at hSw); go_simp; all_goals (with_reducible rfl))
    (try simp only [Act.put, List.setIfInBounds_toArray, List.set_cons_zero, List.set_cons_succ])
    refine takeAt (i := 1) (d := 26) (v := ?_) rfl (by kernel_rfl) (by kernel_rfl) (by kernel_rfl) (by kernel_rfl) (fun _ _ _ h => h) (Or.inl ⟨by kernel_rfl, ?_⟩) (by assumption) ?_
    rotate_left
    · (intro w hSw; (try dsimp only at hSw); go_simp; all_goals (with_reducible rfl))
    (try simp only [Act.put, List.setIfInBounds_toArray, List.set_cons_zero, List.set_cons_succ])
    refine takeAt (i := 2) (d := 27) (v := ?_) rfl (by kernel_rfl) (by kernel_rfl) (by kernel_rfl) (by kernel_rfl) (fun _ _ _ h => h) (Or.inl ⟨by kernel_rfl, ?_⟩) (by assumption) ?_
    rotate_left
    · (intro w hSw; (try dsimp only at hSw); go_simp; all_goals (with_reducible rfl))
    (try simp only [Act.put, List.setIfInBounds_toArray, List.set_cons_zero, List.set_cons_succ])
    refine takeAt (i := 3) (d := 28) (v := ?_) rfl (by kernel_rfl) (by kernel_rfl) (by kernel_rfl) (by kernel_rfl) (fun _ _ _ h => h) (Or.inl ⟨by kernel_rfl, ?_⟩) (by assumption) ?_
    rotate_left
    · (intro w hSw; (try dsimp only at hSw); go_simp; all_goals (with_reducible rfl))
    (try simp only [Act.put, List.setIfInBounds_toArray, List.set_cons_zero, List.set_cons_succ])
    refine takeAt (i := 4) (d := 29) (v := ?_) rfl (by kernel_rfl) (by kernel_rfl) (by kernel_rfl) (by kernel_rfl) (fun _ _ _ h => h) (Or.inl ⟨by kernel_rfl, ?_⟩) (by assumption) ?_
    rotate_left
    · (intro w hSw; (try dsimp only at hSw); go_simp; all_goals (with_reducible rfl))
    (try simp only [Act.put, List.setIfInBounds_toArray, List.set_cons_zero, List.set_cons_succ])
    refine takeAt (i := 5) (d := 30) (v := ?_) rfl (by kernel_rfl) (by kernel_rfl) (by kernel_rfl) (by kernel_rfl) (fun _ _ _ h => h) (Or.inl ⟨by kernel_rfl, ?_⟩) (by assumption) ?_
    rotate_left
    · (intro w hSw; (try dsimp only at hSw); go_simp; all_goals (with_reducible rfl))
    (try simp only [Act.put, List.setIfInBounds_toArray, List.set_cons_zero, List.set_cons_succ])
    refine takeAt (i := 6) (d := 31) (v := ?_) rfl (by kernel_rfl) (by kernel_rfl) (by kernel_rfl) (by kernel_rfl) (fun _ _ _ h => h) (Or.inl ⟨by kernel_rfl, ?_⟩) (by assumption) ?_
    rotate_left
    · (intro w hSw; (try dsimp only at hSw); go_simp; all_goals (with_reducible rfl))
    (try simp only [Act.put, List.setIfInBounds_toArray, List.set_cons_zero, List.set_cons_succ])
    refine takeAt (i := 7) (d := 32) (v := ?_) rfl (by kernel_rfl) (by kernel_rfl) (by kernel_rfl) (by kernel_rfl) (fun _ _ _ h => h) (Or.inl ⟨by kernel_rfl, ?_⟩) (by assumption) ?_
    rotate_left
    · (intro w hSw; (try dsimp only at hSw); go_simp; all_goals (with_reducible rfl))
    (try simp only [Act.put, List.setIfInBounds_toArray, List.set_cons_zero, List.set_cons_succ])
    refine takeAt (i := 8) (d := 33) (v := ?_) rfl (by kernel_rfl) (by kernel_rfl) (by kernel_rfl) (by kernel_rfl) (fun _ _ _ h => h) (Or.inl ⟨by kernel_rfl, ?_⟩) (by assumption) ?_
    rotate_left
    · (intro w hSw; (try dsimp only at hSw); go_simp; all_goals (with_reducible rfl))
    (try simp only [Act.put, List.setIfInBounds_toArray, List.set_cons_zero, List.set_cons_succ])
    refine takeAt (i := 9) (d := 34) (v := ?_) rfl (by kernel_rfl) (by kernel_rfl) (by kernel_rfl) (by kernel_rfl) (fun _ _ _ h => h) (Or.inl ⟨by kernel_rfl, ?_⟩) (by assumption) ?_
    rotate_left
    · (intro w hSw; (try dsimp only at hSw); go_simp; all_goals (with_reducible rfl))
    (try simp only [Act.put, List.setIfInBounds_toArray, List.set_cons_zero, List.set_cons_succ])
    refine takeAt (i := 10) (d := 35) (v := ?_) rfl (by kernel_rfl) (by kernel_rfl) (by kernel_rfl) (by kernel_rfl) (fun _ _ _ h => h) (Or.inl ⟨by kernel_rfl, ?_⟩) (by assumption) ?_
    rotate_left
    · (intro w hSw; (try dsimp only at hSw); go_simp; all_goals (with_reducible rfl))
    (try simp only [Act.put, List.setIfInBounds_toArray, List.set_cons_zero, List.set_cons_succ])
    refine takeAt (i := 11) (d := 36) (v := ?_) rfl (by kernel_rfl) (by kernel_rfl) (by kernel_rfl) (by kernel_rfl) (fun _ _ _ h => h) (Or.inl ⟨by kernel_rfl, ?_⟩) (by assumption) ?_
    rotate_left
    · (intro w hSw; (try dsimp only at hSw); go_simp; all_goals (with_reducible rfl))
    (try simp only [Act.put, List.setIfInBounds_toArray, List.set_cons_zero, List.set_cons_succ])
    refine takeAt (i := 12) (d := 37) (v := ?_) rfl (by kernel_rfl) (by kernel_rfl) (by kernel_rfl) (by kernel_rfl) (fun _ _ _ h => h) (Or.inl ⟨by kernel_rfl, ?_⟩) (by assumption) ?_
    rotate_left
    · (intro w hSw; (try dsimp only at hSw); go_simp; all_goals (with_reducible rfl))
    (try simp only [Act.put, List.setIfInBounds_toArray, List.set_cons_zero, List.set_cons_succ])
    refine wpAnyH_ready (rs := [13]) (by kernel_rfl) (by simp) ?_
    refine AllReadyH.cons rfl (fun K hK => ?_) AllReadyH.nil
    go_simp
    refine (val_index_no _ a _ hx HN.out lh).mono ?_
    rintro e w5 ⟨rfl, rfl⟩
    exact ⟨rfl, .inr ⟨30, HR.out, rfl, HW.out.drew.1.cell 20 rfl, HK.out.trans HW.out.drew.2⟩⟩
theorem getD_mem {l : List Int} {n : Nat} (h : n < l.length) : l.getD n 0 ∈ l := by
  rw [List.getD_eq_getElem?_getD, List.getElem?_eq_getElem h]
  exact List.getElem_mem h
theorem sig_sz (hm : MOk k.m) {t : Nat} (ht : t < k.m.types.length) : (sigAt k.m.types t).1.size ≤ 8 ∧ (sigAt k.m.types t).2.size ≤ 8 := by
  have hs : sigAt k.m.types t = k.m.types[t] := by
    unfold sigAt
    rw [List.getD_eq_getElem?_getD, Int.toNat_natCast, List.getElem?_eq_getElem ht]; rfl
  rw [hs]
  exact hm.sz _ (List.getElem_mem ht)
set_option maxRecDepth 100000 in
set_option maxHeartbeats 6400000 in
theorem val_calls_yes (h : Wv k w v pc q) (hm : MOk k.m) (hne : 0 < v.opens.length) (hle : v.top.base.size ≤ v.shape.size) (hsz : v.shape.size ≤ 1000) (op n : Nat) (l : List Int) (vl : Value) (hop : op = 11 ∨ op = 12) (hn : n < (if op = 11 then k.m.funs.length else k.m.hosts.length)) :
    Calls Tryd.prog 52 #[.pointer (some ⟨k.p, 0, none⟩), .agg #[.int .u8 op, .int .i64 n, vl]] w fun r w' => WE k w pc (.tuple #[]) (callsV k.ctx v ⟨op, n, l⟩) r w' := by
  rcases hop with rfl | rfl
  · change Calls _ _ #[_, .agg #[.int .u8 11, .int .i64 n, vl]] w _
    have hb := below_alloc w (.cells #[.int .u8 11, .int .i64 n, vl] 68)
    have hnw := heap_alloc_new w (.cells #[.int .u8 11, .int .i64 n, vl] 68)
    have HW := Lib.hid (h.on hb)
    have HK := Lib.hid (Kw.on (k := k) hb)
    have x0 := row_cell hnw 0 rfl; have x1 := row_cell hnw 1 rfl
    simp only [List.getElem_toArray, List.getElem_cons_zero, List.getElem_cons_succ] at x0 x1
    have yt : (w.alloc (.cells #[.int .u8 11, .int .i64 n, vl] 68)).cell? ⟨k.p, 0, none⟩ = some k.tv := HW.out.cell 0 rfl
    clear hb hnw
    obtain ⟨t, ht0, htl⟩ : ∃ t : Nat, (k.m.funs.map fun f : FunD => f.t).getD n 0 = (t : Int) ∧ t < k.m.types.length := by
      have h1 : (k.m.funs.map fun f : FunD => f.t).getD n 0 ∈ (k.m.funs.map fun f : FunD => f.t) := getD_mem (by simpa using hn)
      have h2 : 0 ≤ (k.m.funs.map fun f : FunD => f.t).getD n 0 ∧ (k.m.funs.map fun f : FunD => f.t).getD n 0 < k.m.types.length := by
        obtain ⟨f, hf, he⟩ := List.mem_map.1 h1; rw [← he]; exact hm.ft f hf
      exact ⟨((k.m.funs.map fun f : FunD => f.t).getD n 0).toNat, by omega, by omega⟩
    have hn' : n < k.m.funs.length := by simpa using hn
    obtain ⟨bf, o_f, cf, ef, cF, c1, l1⟩ := HW.out.rd.fun_ hn'
    rw [ht0] at cF
    obtain ⟨bt, ot, ct, et, cS1, cS2, c2, l2⟩ := HW.out.rd.sig htl
    have yf : (w.alloc (.cells #[.int .u8 11, .int .i64 n, vl] 68)).cell? ⟨k.p, 5, none⟩ = some k.fv := HW.out.cell 5 rfl
    rw [ef] at yf; rw [et] at yt
    have HR : Hid (callsV k.ctx v ⟨11, n, l⟩ = andV (popsV v (sigAt k.m.types t).1) fun v1 => pushesV v1 (sigAt k.m.types t).2) := Lib.hid (calls_step k.ctx _ (by
      rw [if_pos rfl, index_yes ⟨show 0 ≤ (n : Int) by omega, by simpa [Wc.ctx] using hn'⟩]
      show Except.ok _ = _
      rw [← ht0]; rfl))
    obtain ⟨z1, z2⟩ := sig_sz hm htl
    clear h hn hm ht0
    have HI := Lib.hid (fun W : World => val_index_ok W n _ hn' l1)
    have HET := Lib.hid et
    clear et ef
    obtain ⟨sg, hsg⟩ : ∃ sg, sigAt k.m.types t = sg := ⟨_, rfl⟩
    rw [hsg] at cS1 cS2 HR z1 z2
    have HSG := Lib.hid hsg
    clear hsg
    generalize k.m.funs.length = lf at *
    go_enter Tryd.func52, Tryd.ntmps52
    go_wp2_with fail
    go_quiet ((go_at_call 62; exact Calls.quiet_of_same (HI.out _)))
    have hq : Below (w.alloc (.cells #[.int .u8 11, .int .i64 n, vl] 68)).heap.size (w.alloc (.cells #[.int .u8 11, .int .i64 n, vl] 68)) ((w.alloc (.cells #[.int .u8 11, .int .i64 n, vl] 68)).drewN nq) := bel_drewV (Below.refl _ _) nq
    have HW1 := Lib.hid (HW.out.on hq)
    have HK1 := Lib.hid (HK.out.trans (Kw.on (k := k) hq))
    have yt1 : ((w.alloc (.cells #[.int .u8 11, .int .i64 n, vl] 68)).drewN nq).cell? ⟨k.p, 0, none⟩ = _ := yt
    have cS11 : ((w.alloc (.cells #[.int .u8 11, .int .i64 n, vl] 68)).drewN nq).cell? ⟨bt, ot + t * 2, none⟩ = _ := cS1
    clear HW HK yt cS1 cS2 hq x0 x1 yf cF HI
    generalize (w.alloc (.cells #[.int .u8 11, .int .i64 n, vl] 68)).drewN nq = w1 at *
    go_wp2_with (first
      | ((go_at_call 56; refine (val_pops HW1.out hne hle hsz _ (by omega)).mono ?_)
         rintro e w2 (⟨v2, q2, h1, rfl, h2, h3⟩ | ⟨z, h1, rfl, h2, h3⟩)
         rotate_left
         · exact ⟨rfl, .inr ⟨z, by rw [HR.out, h1]; rfl, rfl, h2, HK1.out.trans h3⟩⟩
         have HW2 := Lib.hid h2
         have HK2 := Lib.hid (HK1.out.trans h3)
         have HR2 : Hid (callsV k.ctx v ⟨11, n, l⟩ = pushesV v2 sg.2) := Lib.hid (by rw [HR.out, h1]; rfl)
         have hsz2 : v2.shape.size ≤ 1000 := by rw [(pops_ok h1).1]; simp; omega
         obtain ⟨bt2, ot2, ct2, et2, -, cS2, c22, l22⟩ := h2.rd.sig htl
         have yt2 : w2.cell? ⟨k.p, 0, none⟩ = some k.tv := h2.cell 0 rfl
         rw [et2] at yt2
         rw [HSG.out] at cS2
         clear h1 h2 h3 et2 yt1 cS11 HW1 HK1 HR)
      | ((go_at_call 57; refine (val_pushes HW2.out hsz2 _ (by omega)).mono ?_)
         rintro e w3 (⟨v3, q3, h1, rfl, h2, h3⟩ | ⟨z, h1, rfl, h2, h3⟩)
         rotate_left
         · exact ⟨rfl, .inr ⟨z, HR2.out.trans h1, rfl, h2, HK2.out.trans h3⟩⟩))
    exact bodyPost_end (results_none rfl _ _ _) rfl (.inl ⟨v3, q3, HR2.out.trans h1, rfl, h2, HK2.out.trans h3⟩)
  · change Calls _ _ #[_, .agg #[.int .u8 12, .int .i64 n, vl]] w _
    have hb := below_alloc w (.cells #[.int .u8 12, .int .i64 n, vl] 68)
    have hnw := heap_alloc_new w (.cells #[.int .u8 12, .int .i64 n, vl] 68)
    have HW := Lib.hid (h.on hb)
    have HK := Lib.hid (Kw.on (k := k) hb)
    have x0 := row_cell hnw 0 rfl; have x1 := row_cell hnw 1 rfl
    simp only [List.getElem_toArray, List.getElem_cons_zero, List.getElem_cons_succ] at x0 x1
    have yt : (w.alloc (.cells #[.int .u8 12, .int .i64 n, vl] 68)).cell? ⟨k.p, 0, none⟩ = some k.tv := HW.out.cell 0 rfl
    clear hb hnw
    obtain ⟨t, ht0, htl⟩ : ∃ t : Nat, k.m.hosts.getD n 0 = (t : Int) ∧ t < k.m.types.length := by
      have h1 : k.m.hosts.getD n 0 ∈ k.m.hosts := getD_mem (by simpa using hn)
      have h2 : 0 ≤ k.m.hosts.getD n 0 ∧ k.m.hosts.getD n 0 < k.m.types.length := by
        exact hm.ht _ h1
      exact ⟨(k.m.hosts.getD n 0).toNat, by omega, by omega⟩
    have hn' : n < k.m.hosts.length := by simpa using hn
    obtain ⟨bf, o_f, cf, ef, cF, c1, l1⟩ := HW.out.rd.host hn'
    rw [ht0] at cF
    obtain ⟨bt, ot, ct, et, cS1, cS2, c2, l2⟩ := HW.out.rd.sig htl
    have yf : (w.alloc (.cells #[.int .u8 12, .int .i64 n, vl] 68)).cell? ⟨k.p, 1, none⟩ = some k.hv := HW.out.cell 1 rfl
    rw [ef] at yf; rw [et] at yt
    have HR : Hid (callsV k.ctx v ⟨12, n, l⟩ = andV (popsV v (sigAt k.m.types t).1) fun v1 => pushesV v1 (sigAt k.m.types t).2) := Lib.hid (calls_step k.ctx _ (by
      rw [if_neg (show ¬ (12 : Nat) = 11 by decide), index_yes ⟨show 0 ≤ (n : Int) by omega, by simpa [Wc.ctx] using hn'⟩]
      show Except.ok _ = _
      rw [← ht0]; rfl))
    obtain ⟨z1, z2⟩ := sig_sz hm htl
    clear h hn hm ht0
    have HI := Lib.hid (fun W : World => val_index_ok W n _ hn' l1)
    have HET := Lib.hid et
    clear et ef
    obtain ⟨sg, hsg⟩ : ∃ sg, sigAt k.m.types t = sg := ⟨_, rfl⟩
    rw [hsg] at cS1 cS2 HR z1 z2
    have HSG := Lib.hid hsg
    clear hsg
    generalize k.m.hosts.length = lf at *
    go_enter Tryd.func52, Tryd.ntmps52
    go_wp2_with fail
    go_quiet ((go_at_call 62; exact Calls.quiet_of_same (HI.out _)))
    have hq : Below (w.alloc (.cells #[.int .u8 12, .int .i64 n, vl] 68)).heap.size (w.alloc (.cells #[.int .u8 12, .int .i64 n, vl] 68)) ((w.alloc (.cells #[.int .u8 12, .int .i64 n, vl] 68)).drewN nq) := bel_drewV (Below.refl _ _) nq
    have HW1 := Lib.hid (HW.out.on hq)
    have HK1 := Lib.hid (HK.out.trans (Kw.on (k := k) hq))
    have yt1 : ((w.alloc (.cells #[.int .u8 12, .int .i64 n, vl] 68)).drewN nq).cell? ⟨k.p, 0, none⟩ = _ := yt
    have cS11 : ((w.alloc (.cells #[.int .u8 12, .int .i64 n, vl] 68)).drewN nq).cell? ⟨bt, ot + t * 2, none⟩ = _ := cS1
    clear HW HK yt cS1 cS2 hq x0 x1 yf cF HI
    generalize (w.alloc (.cells #[.int .u8 12, .int .i64 n, vl] 68)).drewN nq = w1 at *
    go_wp2_with (first
      | ((go_at_call 56; refine (val_pops HW1.out hne hle hsz _ (by omega)).mono ?_)
         rintro e w2 (⟨v2, q2, h1, rfl, h2, h3⟩ | ⟨z, h1, rfl, h2, h3⟩)
         rotate_left
         · exact ⟨rfl, .inr ⟨z, by rw [HR.out, h1]; rfl, rfl, h2, HK1.out.trans h3⟩⟩
         have HW2 := Lib.hid h2
         have HK2 := Lib.hid (HK1.out.trans h3)
         have HR2 : Hid (callsV k.ctx v ⟨12, n, l⟩ = pushesV v2 sg.2) := Lib.hid (by rw [HR.out, h1]; rfl)
         have hsz2 : v2.shape.size ≤ 1000 := by rw [(pops_ok h1).1]; simp; omega
         obtain ⟨bt2, ot2, ct2, et2, -, cS2, c22, l22⟩ := h2.rd.sig htl
         have yt2 : w2.cell? ⟨k.p, 0, none⟩ = some k.tv := h2.cell 0 rfl
         rw [et2] at yt2
         rw [HSG.out] at cS2
         clear h1 h2 h3 et2 yt1 cS11 HW1 HK1 HR)
      | ((go_at_call 57; refine (val_pushes HW2.out hsz2 _ (by omega)).mono ?_)
         rintro e w3 (⟨v3, q3, h1, rfl, h2, h3⟩ | ⟨z, h1, rfl, h2, h3⟩)
         rotate_left
         · exact ⟨rfl, .inr ⟨z, HR2.out.trans h1, rfl, h2, HK2.out.trans h3⟩⟩))
    exact bodyPost_end (results_none rfl _ _ _) rfl (.inl ⟨v3, q3, HR2.out.trans h1, rfl, h2, HK2.out.trans h3⟩)
theorem val_calls (h : Wv k w v pc q) (hm : MOk k.m) (hne : 0 < v.opens.length) (hle : v.top.base.size ≤ v.shape.size) (hsz : v.shape.size ≤ 1000) (x : InsD) (vl : Value) (hx : i64P x.a) (hop : x.op = 11 ∨ x.op = 12) :
    Calls Tryd.prog 52 #[.pointer (some ⟨k.p, 0, none⟩), .agg (insW x vl)] w fun r w' => WE k w pc (.tuple #[]) (callsV k.ctx v x) r w' := by
  by_cases hno : 0 ≤ x.a ∧ x.a < (if x.op = 11 then k.m.funs.length else k.m.hosts.length : Nat)
  · obtain ⟨op, a, l⟩ := x
    simp only at hno hop
    obtain ⟨n, rfl⟩ : ∃ n : Nat, a = n := ⟨a.toNat, by omega⟩
    exact val_calls_yes h hm hne hle hsz op n l vl hop (by omega)
  · exact val_calls_no h x vl hx hop hno
end
end Go.Proofs.YtfhkjahjenpbgaaDoor
