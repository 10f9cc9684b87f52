/- The validator's rows: block, loop, if. -/
import Derived.Test.YtfhkjahjenpbgaaDoorMVw8
namespace Go.Proofs.YtfhkjahjenpbgaaDoor
open Go Go.RowKit

theorem Tryd.infoOpP : (Tryd.prog.info? 91).map (fun i => (i.zero, i.size, i.bytes)) = some (some (.pointer none), 1, 8) := by kernel_rfl
section
variable {k : Wc} {w w' w1 : World} {v v1 : VwD} {pc : Int} {q : Wq} {b : Nat}
theorem cells1_new (w : World) (x : Value) (t : TypeId) : ∀ j u, [x][j]? = some u → (w.alloc (.cells #[x] t)).cell? ((⟨w.heap.size, 0, none⟩ : Addr).add j) = some u := by
  intro j u hj
  have h1 := row_cell (heap_alloc_new w (.cells #[x] t)) 0 rfl
  match j, hj with
  | 0, hj => simpa [Addr.add] using h1.trans hj
  | j + 1, hj => simp at hj
theorem Wv.kept_row {n : Nat} {w2 : World} (h : Wv k w v pc q) (hk : Kept w w2 q.ov.ownBlock n) : w2.heap[k.p]? = some (.cells (k.cells v pc q) 90 (0, 0)) := by
  have hof : w.ownsRow k.B 91 1 q.ov v.opens.length (q.ps.map ptrV) := h.fam.own (opE q v) (by simp [Wq.ents])
  have hk1 : Keeps (fun b => q.ov.ownBlock ≠ some b) w w2 := (Keeps.refl _ w).grown hk.grown fun k hk' _ h' => h' hk'
  exact (hk1.block _ (row_lt h.row) (own_ne hof h.row (by decide))).trans h.row
theorem opens_step (c : VcD) {at_ : Nat} {op t : Nat} {l : List Int} (h : t < c.types.length) : opensV c v at_ ⟨op, t, l⟩ = andV (popsV v (if op = 4 then (sigAt c.types t).1 ++ tWw else (sigAt c.types t).1)) fun v1 => andV (pushesV v1 (sigAt c.types t).1) fun v2 => .ok { v2 with floors := v2.floors.set at_ v1.shape.size, opens := v2.opens ++ [⟨(sigAt c.types t).1, (sigAt c.types t).2, at_, op, v1.shape⟩] } := by
  unfold opensV
  rw [index_yes ⟨show (0 : Int) ≤ (t : Int) by omega, show (t : Int) < _ by omega⟩]; rfl
theorem opens_no (c : VcD) {at_ : Nat} {op : Nat} {a : Int} {l : List Int} (h : ¬ (0 ≤ a ∧ a < c.types.length)) : opensV c v at_ ⟨op, a, l⟩ = .error 30 := by
  unfold opensV
  rw [index_no h]; rfl
theorem opens_end (c : VcD) {at_ : Nat} {op t : Nat} {l : List Int} {v2 v3 : VwD} {par res s : ByteArray} (h : t < c.types.length) (hs : sigAt c.types t = (par, res)) (hs2 : (if op = 4 then par ++ tWw else par) = s) (h1 : popsV v s = .ok v2) (h2 : pushesV v2 par = .ok v3) : opensV c v at_ ⟨op, t, l⟩ = .ok { v3 with floors := v3.floors.set at_ v2.shape.size, opens := v3.opens ++ [⟨par, res, at_, op, v2.shape⟩] } := by
  rw [opens_step c h, hs]
  simp only
  rw [hs2, h1]
  show andV (pushesV v2 par) _ = _
  rw [h2]; rfl
theorem opens_bad1 (c : VcD) {at_ : Nat} {op t : Nat} {l : List Int} {par res s : ByteArray} {e : Int} (h : t < c.types.length) (hs : sigAt c.types t = (par, res)) (hs2 : (if op = 4 then par ++ tWw else par) = s) (h1 : popsV v s = .error e) : opensV c v at_ ⟨op, t, l⟩ = .error e := by
  rw [opens_step c h, hs]
  simp only
  rw [hs2, h1]; rfl
theorem opens_bad2 (c : VcD) {at_ : Nat} {op t : Nat} {l : List Int} {v2 : VwD} {par res s : ByteArray} {e : Int} (h : t < c.types.length) (hs : sigAt c.types t = (par, res)) (hs2 : (if op = 4 then par ++ tWw else par) = s) (h1 : popsV v s = .ok v2) (h2 : pushesV v2 par = .error e) : opensV c v at_ ⟨op, t, l⟩ = .error e := by
  rw [opens_step c h, hs]
  simp only
  rw [hs2, h1]
  show andV (pushesV v2 par) _ = _
  rw [h2]; rfl
set_option maxRecDepth 100000 in
set_option maxHeartbeats 1600000 in
theorem val_opens_no {at_ : Nat} (h : Wv k w v at_ q) (op : Nat) (a : Int) (l : List Int) (vl : Value) (ha : i64P a) (hno : ¬ (0 ≤ a ∧ a < k.m.types.length)) :
    Calls Tryd.prog 49 #[.pointer (some ⟨k.p, 0, none⟩), .agg #[.int .u8 op, .int .i64 a, vl]] w fun r w' => WE k w at_ (.tuple #[]) (opensV k.ctx v at_ ⟨op, a, l⟩) r w' := by
  have hb := below_alloc w (.cells #[.int .u8 op, .int .i64 a, vl] 68)
  have hnw := heap_alloc_new w (.cells #[.int .u8 op, .int .i64 a, vl] 68)
  have HW := Lib.hid (h.on hb)
  have HK := Lib.hid (Kw.on (k := k) hb)
  have x0 := row_cell hnw 0 rfl; have x1 := row_cell hnw 1 rfl
  simp only [List.getElem_toArray, List.getElem_cons_zero, List.getElem_cons_succ] at x0 x1
  obtain ⟨⟨at1, ct, et, lt⟩, -⟩ := h.rd.lens
  have y0 : (w.alloc (.cells #[.int .u8 op, .int .i64 a, vl] 68)).cell? ⟨k.p, 0, none⟩ = some k.tv := HW.out.cell 0 rfl
  have y20 : (w.alloc (.cells #[.int .u8 op, .int .i64 a, vl] 68)).cell? ⟨k.p, 20, none⟩ = some (.int .i64 at_) := HW.out.cell 20 rfl
  rw [et] at y0
  have HR : Hid (opensV k.ctx v at_ ⟨op, a, l⟩ = .error 30) := Lib.hid (opens_no k.ctx hno)
  have HI := Lib.hid (fun W : World => val_index_no W a _ ha hno lt)
  clear h hb hnw hno et
  go_enter Tryd.func49, Tryd.ntmps49
  go_wp2_with fail
  generalize w.alloc (.cells #[.int .u8 op, .int .i64 a, vl] 68) = w1 at *
  generalize w.heap.size = g at *
  refine wp_region_held_drew (S := (fun wx => wx.cell? ⟨k.p, 0, none⟩ = some (.slice at1 k.m.types.length ct) ∧ wx.cell? ⟨g, 1, none⟩ = some (.int .i64 a) ∧ wx.cell? ⟨k.p, 20, none⟩ = some (.int .i64 at_) ∧ wx.cell? ⟨g, 0, none⟩ = some (.int .u8 op))) (by kernel_rfl) ⟨y0, x1, y20, x0⟩ (fun hHeld => ?_)
  refine takeAt (i := 0) (d := 6) (v := ?_) rfl (by kernel_rfl) (by kernel_rfl) (by kernel_rfl) (by kernel_rfl) (fun _ _ _ h => h) (Or.inl ⟨by kernel_rfl, ?_⟩) (by assumption) ?_
  rotate_left
  · (intro w hSw; (try dsimp only at hSw); go_simp; all_goals (with_reducible rfl))
  (try simp only [Act.put, List.setIfInBounds_toArray, List.set_cons_zero, List.set_cons_succ])
  refine takeAt (i := 1) (d := 7) (v := ?_) rfl (by kernel_rfl) (by kernel_rfl) (by kernel_rfl) (by kernel_rfl) (fun _ _ _ h => h) (Or.inl ⟨by kernel_rfl, ?_⟩) (by assumption) ?_
  rotate_left
  · (intro w hSw; (try dsimp only at hSw); go_simp; all_goals (with_reducible rfl))
  (try simp only [Act.put, List.setIfInBounds_toArray, List.set_cons_zero, List.set_cons_succ])
  refine takeAt (i := 2) (d := 8) (v := ?_) rfl (by kernel_rfl) (by kernel_rfl) (by kernel_rfl) (by kernel_rfl) (fun _ _ _ h => h) (Or.inl ⟨by kernel_rfl, ?_⟩) (by assumption) ?_
  rotate_left
  · (intro w hSw; (try dsimp only at hSw); go_simp; all_goals (with_reducible rfl))
  (try simp only [Act.put, List.setIfInBounds_toArray, List.set_cons_zero, List.set_cons_succ])
  refine takeAt (i := 3) (d := 9) (v := ?_) rfl (by kernel_rfl) (by kernel_rfl) (by kernel_rfl) (by kernel_rfl) (fun _ _ _ h => h) (Or.inl ⟨by kernel_rfl, ?_⟩) (by assumption) ?_
  rotate_left
  · (intro w hSw; (try dsimp only at hSw); go_simp; all_goals (with_reducible rfl))
  (try simp only [Act.put, List.setIfInBounds_toArray, List.set_cons_zero, List.set_cons_succ])
  refine takeAt (i := 4) (d := 10) (v := ?_) rfl (by kernel_rfl) (by kernel_rfl) (by kernel_rfl) (by kernel_rfl) (fun _ _ _ h => h) (Or.inl ⟨by kernel_rfl, ?_⟩) (by assumption) ?_
  rotate_left
  · (intro w hSw; (try dsimp only at hSw); go_simp; all_goals (with_reducible rfl))
  (try simp only [Act.put, List.setIfInBounds_toArray, List.set_cons_zero, List.set_cons_succ])
  refine takeAt (i := 5) (d := 11) (v := ?_) rfl (by kernel_rfl) (by kernel_rfl) (by kernel_rfl) (by kernel_rfl) (fun _ _ _ h => h) (Or.inl ⟨by kernel_rfl, ?_⟩) (by assumption) ?_
  rotate_left
  · (intro w hSw; (try dsimp only at hSw); go_simp; all_goals (with_reducible rfl))
  (try simp only [Act.put, List.setIfInBounds_toArray, List.set_cons_zero, List.set_cons_succ])
  refine takeAt (i := 6) (d := 12) (v := ?_) rfl (by kernel_rfl) (by kernel_rfl) (by kernel_rfl) (by kernel_rfl) (fun _ _ _ h => h) (Or.inl ⟨by kernel_rfl, ?_⟩) (by assumption) ?_
  rotate_left
  · (intro w hSw; (try dsimp only at hSw); go_simp; all_goals (with_reducible rfl))
  (try simp only [Act.put, List.setIfInBounds_toArray, List.set_cons_zero, List.set_cons_succ])
  refine takeAt (i := 7) (d := 13) (v := ?_) rfl (by kernel_rfl) (by kernel_rfl) (by kernel_rfl) (by kernel_rfl) (fun _ _ _ h => h) (Or.inl ⟨by kernel_rfl, ?_⟩) (by assumption) ?_
  rotate_left
  · (intro w hSw; (try dsimp only at hSw); go_simp; all_goals (with_reducible rfl))
  (try simp only [Act.put, List.setIfInBounds_toArray, List.set_cons_zero, List.set_cons_succ])
  refine takeAt (i := 8) (d := 14) (v := ?_) rfl (by kernel_rfl) (by kernel_rfl) (by kernel_rfl) (by kernel_rfl) (fun _ _ _ h => h) (Or.inl ⟨by kernel_rfl, ?_⟩) (by assumption) ?_
  rotate_left
  · (intro w hSw; (try dsimp only at hSw); go_simp; all_goals (with_reducible rfl))
  (try simp only [Act.put, List.setIfInBounds_toArray, List.set_cons_zero, List.set_cons_succ])
  refine takeAt (i := 9) (d := 15) (v := ?_) rfl (by kernel_rfl) (by kernel_rfl) (by kernel_rfl) (by kernel_rfl) (fun _ _ _ h => h) (Or.inl ⟨by kernel_rfl, ?_⟩) (by assumption) ?_
  rotate_left
  · (intro w hSw; (try dsimp only at hSw); go_simp; all_goals (with_reducible rfl))
  (try simp only [Act.put, List.setIfInBounds_toArray, List.set_cons_zero, List.set_cons_succ])
  refine takeAt (i := 10) (d := 16) (v := ?_) rfl (by kernel_rfl) (by kernel_rfl) (by kernel_rfl) (by kernel_rfl) (fun _ _ _ h => h) (Or.inl ⟨by kernel_rfl, ?_⟩) (by assumption) ?_
  rotate_left
  · (intro w hSw; (try dsimp only at hSw); go_simp; all_goals (with_reducible rfl))
  (try simp only [Act.put, List.setIfInBounds_toArray, List.set_cons_zero, List.set_cons_succ])
  refine takeAt (i := 11) (d := 17) (v := ?_) rfl (by kernel_rfl) (by kernel_rfl) (by kernel_rfl) (by kernel_rfl) (fun _ _ _ h => h) (Or.inl ⟨by kernel_rfl, ?_⟩) (by assumption) ?_
  rotate_left
  · (intro w hSw; (try dsimp only at hSw); go_simp; all_goals (with_reducible rfl))
  (try simp only [Act.put, List.setIfInBounds_toArray, List.set_cons_zero, List.set_cons_succ])
  refine takeAt (i := 12) (d := 18) (v := ?_) rfl (by kernel_rfl) (by kernel_rfl) (by kernel_rfl) (by kernel_rfl) (fun _ _ _ h => h) (Or.inl ⟨by kernel_rfl, ?_⟩) (by assumption) ?_
  rotate_left
  · (intro w hSw; (try dsimp only at hSw); go_simp; all_goals (with_reducible rfl))
  (try simp only [Act.put, List.setIfInBounds_toArray, List.set_cons_zero, List.set_cons_succ])
  refine takeAt (i := 16) (d := 22) (v := ?_) rfl (by kernel_rfl) (by kernel_rfl) (by kernel_rfl) (by kernel_rfl) (fun _ _ _ h => h) (Or.inl ⟨by kernel_rfl, ?_⟩) (by assumption) ?_
  rotate_left
  · (intro w hSw; (try dsimp only at hSw); go_simp; all_goals (with_reducible rfl))
  (try simp only [Act.put, List.setIfInBounds_toArray, List.set_cons_zero, List.set_cons_succ])
  refine takeAt (i := 17) (d := 23) (v := ?_) rfl (by kernel_rfl) (by kernel_rfl) (by kernel_rfl) (by kernel_rfl) (fun _ _ _ h => h) (Or.inl ⟨by kernel_rfl, ?_⟩) (by assumption) ?_
  rotate_left
  · (intro w hSw; (try dsimp only at hSw); go_simp; all_goals (with_reducible rfl))
  (try simp only [Act.put, List.setIfInBounds_toArray, List.set_cons_zero, List.set_cons_succ])
  refine takeAt (i := 18) (d := 24) (v := ?_) rfl (by kernel_rfl) (by kernel_rfl) (by kernel_rfl) (by kernel_rfl) (fun _ _ _ h => h) (Or.inl ⟨by kernel_rfl, ?_⟩) (by assumption) ?_
  rotate_left
  · (intro w hSw; (try dsimp only at hSw); go_simp; all_goals (with_reducible rfl))
  (try simp only [Act.put, List.setIfInBounds_toArray, List.set_cons_zero, List.set_cons_succ])
  refine takeAt (i := 19) (d := 25) (v := ?_) rfl (by kernel_rfl) (by kernel_rfl) (by kernel_rfl) (by kernel_rfl) (fun _ _ _ h => h) (Or.inl ⟨by kernel_rfl, ?_⟩) (by assumption) ?_
  rotate_left
  · (intro w hSw; (try dsimp only at hSw); go_simp; all_goals (with_reducible rfl))
  (try simp only [Act.put, List.setIfInBounds_toArray, List.set_cons_zero, List.set_cons_succ])
  refine takeAt (i := 20) (d := 26) (v := ?_) rfl (by kernel_rfl) (by kernel_rfl) (by kernel_rfl) (by kernel_rfl) (fun _ _ _ h => h) (Or.inl ⟨by kernel_rfl, ?_⟩) (by assumption) ?_
  rotate_left
  · (intro w hSw; (try dsimp only at hSw); go_simp; all_goals (with_reducible rfl))
  (try simp only [Act.put, List.setIfInBounds_toArray, List.set_cons_zero, List.set_cons_succ])
  refine takeAt (i := 21) (d := 27) (v := ?_) rfl (by kernel_rfl) (by kernel_rfl) (by kernel_rfl) (by kernel_rfl) (fun _ _ _ h => h) (Or.inl ⟨by kernel_rfl, ?_⟩) (by assumption) ?_
  rotate_left
  · (intro w hSw; (try dsimp only at hSw); go_simp; all_goals (with_reducible rfl))
  (try simp only [Act.put, List.setIfInBounds_toArray, List.set_cons_zero, List.set_cons_succ])
  refine wpAnyH_ready (rs := [13]) (by kernel_rfl) (by simp) ?_
  refine AllReadyH.cons rfl (fun K hK => ?_) AllReadyH.nil
  go_simp
  refine (HI.out _).mono ?_
  rintro e w5 ⟨rfl, rfl⟩
  exact ⟨rfl, .inr ⟨30, HR.out, rfl, HW.out.drew.1.cell 20 rfl, HK.out.trans HW.out.drew.2⟩⟩
set_option maxRecDepth 100000 in
set_option maxHeartbeats 6400000 in
theorem val_opens_2 {at_ : Nat} (h : Wv k w v at_ q) (hm : MOk k.m) (hne : 0 < v.opens.length) (hle : v.top.base.size ≤ v.shape.size) (hsz : v.shape.size ≤ 256) (hfl : at_ < v.floors.length) (hol : v.opens.length ≤ 2147483648) (t : Nat) (l : List Int) (vl : Value) (ht : t < k.m.types.length) :
    Calls Tryd.prog 49 #[.pointer (some ⟨k.p, 0, none⟩), .agg #[.int .u8 2, .int .i64 t, vl]] w fun r w' => WE k w at_ (.tuple #[]) (opensV k.ctx v at_ ⟨2, t, l⟩) r w' := by
  obtain ⟨i0, hi, hz0, hz1, hz2⟩ := info_parts Tryd.infoOpP
  have hb := below_alloc w (.cells #[.int .u8 2, .int .i64 t, vl] 68)
  have hnw := heap_alloc_new w (.cells #[.int .u8 2, .int .i64 t, vl] 68)
  have HW := Lib.hid (h.on hb)
  have HK := Lib.hid (Kw.on (k := k) hb)
  have hgp : w.heap.size ≠ k.p := by have := row_lt h.row; omega
  have x0 := row_cell hnw 0 rfl; have x1 := row_cell hnw 1 rfl
  simp only [List.getElem_toArray, List.getElem_cons_zero, List.getElem_cons_succ] at x0 x1
  obtain ⟨bt, ot, ct, et, cS1, cS2, c2, l2⟩ := HW.out.rd.sig ht
  obtain ⟨z1, z2⟩ := sig_sz hm ht
  obtain ⟨⟨par, res⟩, hsg⟩ : ∃ sg, sigAt k.m.types t = sg := ⟨_, rfl⟩
  rw [hsg] at cS1 cS2 z1 z2
  simp only at cS1 cS2 z1 z2
  have HSG : Hid (sigAt k.ctx.types t = (par, res)) := Lib.hid hsg
  have HT : Hid (t < k.ctx.types.length) := Lib.hid ht
  have y0 : (w.alloc (.cells #[.int .u8 2, .int .i64 t, vl] 68)).cell? ⟨k.p, 0, none⟩ = some k.tv := HW.out.cell 0 rfl
  have y20 : (w.alloc (.cells #[.int .u8 2, .int .i64 t, vl] 68)).cell? ⟨k.p, 20, none⟩ = some (.int .i64 at_) := HW.out.cell 20 rfl
  rw [et] at y0
  have HI := Lib.hid (fun W : World => val_index_ok W t _ ht l2)
  clear h hb et hsg
  go_enter Tryd.func49, Tryd.ntmps49
  go_wp2_with fail
  generalize w.alloc (.cells #[.int .u8 2, .int .i64 t, vl] 68) = w1 at *
  have HN := Lib.hid hnw
  clear hnw
  generalize w.heap.size = g at *
  refine wp_region_held_drew (S := (fun wx => wx.cell? ⟨k.p, 0, none⟩ = some (.slice (some ⟨bt, ot, none⟩) k.m.types.length ct) ∧ wx.cell? ⟨g, 1, none⟩ = some (.int .i64 t) ∧ wx.cell? ⟨k.p, 20, none⟩ = some (.int .i64 at_) ∧ wx.cell? ⟨g, 0, none⟩ = some (.int .u8 2) ∧ wx.cell? ⟨bt, ot + t * 2, none⟩ = some (.string par) ∧ wx.cell? ⟨bt, ot + t * 2 + 1, none⟩ = some (.string res))) (by kernel_rfl) ⟨y0, x1, y20, x0, cS1, cS2⟩ (fun hHeld => ?_)
  refine takeAt (i := 0) (d := 6) (v := ?_) rfl (by kernel_rfl) (by kernel_rfl) (by kernel_rfl) (by kernel_rfl) (fun _ _ _ h => h) (Or.inl ⟨by kernel_rfl, ?_⟩) (by assumption) ?_
  rotate_left
  · (intro w hSw; (try dsimp only at hSw); go_simp; all_goals (with_reducible rfl))
  (try simp only [Act.put, List.setIfInBounds_toArray, List.set_cons_zero, List.set_cons_succ])
  refine takeAt (i := 1) (d := 7) (v := ?_) rfl (by kernel_rfl) (by kernel_rfl) (by kernel_rfl) (by kernel_rfl) (fun _ _ _ h => h) (Or.inl ⟨by kernel_rfl, ?_⟩) (by assumption) ?_
  rotate_left
  · (intro w hSw; (try dsimp only at hSw); go_simp; all_goals (with_reducible rfl))
  (try simp only [Act.put, List.setIfInBounds_toArray, List.set_cons_zero, List.set_cons_succ])
  refine takeAt (i := 2) (d := 8) (v := ?_) rfl (by kernel_rfl) (by kernel_rfl) (by kernel_rfl) (by kernel_rfl) (fun _ _ _ h => h) (Or.inl ⟨by kernel_rfl, ?_⟩) (by assumption) ?_
  rotate_left
  · (intro w hSw; (try dsimp only at hSw); go_simp; all_goals (with_reducible rfl))
  (try simp only [Act.put, List.setIfInBounds_toArray, List.set_cons_zero, List.set_cons_succ])
  refine takeAt (i := 3) (d := 9) (v := ?_) rfl (by kernel_rfl) (by kernel_rfl) (by kernel_rfl) (by kernel_rfl) (fun _ _ _ h => h) (Or.inl ⟨by kernel_rfl, ?_⟩) (by assumption) ?_
  rotate_left
  · (intro w hSw; (try dsimp only at hSw); go_simp; all_goals (with_reducible rfl))
  (try simp only [Act.put, List.setIfInBounds_toArray, List.set_cons_zero, List.set_cons_succ])
  refine takeAt (i := 4) (d := 10) (v := ?_) rfl (by kernel_rfl) (by kernel_rfl) (by kernel_rfl) (by kernel_rfl) (fun _ _ _ h => h) (Or.inl ⟨by kernel_rfl, ?_⟩) (by assumption) ?_
  rotate_left
  · (intro w hSw; (try dsimp only at hSw); go_simp; all_goals (with_reducible rfl))
  (try simp only [Act.put, List.setIfInBounds_toArray, List.set_cons_zero, List.set_cons_succ])
  refine takeAt (i := 5) (d := 11) (v := ?_) rfl (by kernel_rfl) (by kernel_rfl) (by kernel_rfl) (by kernel_rfl) (fun _ _ _ h => h) (Or.inl ⟨by kernel_rfl, ?_⟩) (by assumption) ?_
  rotate_left
  · (intro w hSw; (try dsimp only at hSw); go_simp; all_goals (with_reducible rfl))
  (try simp only [Act.put, List.setIfInBounds_toArray, List.set_cons_zero, List.set_cons_succ])
  refine takeAt (i := 6) (d := 12) (v := ?_) rfl (by kernel_rfl) (by kernel_rfl) (by kernel_rfl) (by kernel_rfl) (fun _ _ _ h => h) (Or.inl ⟨by kernel_rfl, ?_⟩) (by assumption) ?_
  rotate_left
  · (intro w hSw; (try dsimp only at hSw); go_simp; all_goals (with_reducible rfl))
  (try simp only [Act.put, List.setIfInBounds_toArray, List.set_cons_zero, List.set_cons_succ])
  refine takeAt (i := 7) (d := 13) (v := ?_) rfl (by kernel_rfl) (by kernel_rfl) (by kernel_rfl) (by kernel_rfl) (fun _ _ _ h => h) (Or.inl ⟨by kernel_rfl, ?_⟩) (by assumption) ?_
  rotate_left
  · (intro w hSw; (try dsimp only at hSw); go_simp; all_goals (with_reducible rfl))
  (try simp only [Act.put, List.setIfInBounds_toArray, List.set_cons_zero, List.set_cons_succ])
  refine takeAt (i := 8) (d := 14) (v := ?_) rfl (by kernel_rfl) (by kernel_rfl) (by kernel_rfl) (by kernel_rfl) (fun _ _ _ h => h) (Or.inl ⟨by kernel_rfl, ?_⟩) (by assumption) ?_
  rotate_left
  · (intro w hSw; (try dsimp only at hSw); go_simp; all_goals (with_reducible rfl))
  (try simp only [Act.put, List.setIfInBounds_toArray, List.set_cons_zero, List.set_cons_succ])
  refine takeAt (i := 9) (d := 15) (v := ?_) rfl (by kernel_rfl) (by kernel_rfl) (by kernel_rfl) (by kernel_rfl) (fun _ _ _ h => h) (Or.inl ⟨by kernel_rfl, ?_⟩) (by assumption) ?_
  rotate_left
  · (intro w hSw; (try dsimp only at hSw); go_simp; all_goals (with_reducible rfl))
  (try simp only [Act.put, List.setIfInBounds_toArray, List.set_cons_zero, List.set_cons_succ])
  refine takeAt (i := 10) (d := 16) (v := ?_) rfl (by kernel_rfl) (by kernel_rfl) (by kernel_rfl) (by kernel_rfl) (fun _ _ _ h => h) (Or.inl ⟨by kernel_rfl, ?_⟩) (by assumption) ?_
  rotate_left
  · (intro w hSw; (try dsimp only at hSw); go_simp; all_goals (with_reducible rfl))
  (try simp only [Act.put, List.setIfInBounds_toArray, List.set_cons_zero, List.set_cons_succ])
  refine takeAt (i := 11) (d := 17) (v := ?_) rfl (by kernel_rfl) (by kernel_rfl) (by kernel_rfl) (by kernel_rfl) (fun _ _ _ h => h) (Or.inl ⟨by kernel_rfl, ?_⟩) (by assumption) ?_
  rotate_left
  · (intro w hSw; (try dsimp only at hSw); go_simp; all_goals (with_reducible rfl))
  (try simp only [Act.put, List.setIfInBounds_toArray, List.set_cons_zero, List.set_cons_succ])
  refine takeAt (i := 12) (d := 18) (v := ?_) rfl (by kernel_rfl) (by kernel_rfl) (by kernel_rfl) (by kernel_rfl) (fun _ _ _ h => h) (Or.inl ⟨by kernel_rfl, ?_⟩) (by assumption) ?_
  rotate_left
  · (intro w hSw; (try dsimp only at hSw); go_simp; all_goals (with_reducible rfl))
  (try simp only [Act.put, List.setIfInBounds_toArray, List.set_cons_zero, List.set_cons_succ])
  refine takeAt (i := 16) (d := 22) (v := ?_) rfl (by kernel_rfl) (by kernel_rfl) (by kernel_rfl) (by kernel_rfl) (fun _ _ _ h => h) (Or.inl ⟨by kernel_rfl, ?_⟩) (by assumption) ?_
  rotate_left
  · (intro w hSw; (try dsimp only at hSw); go_simp; all_goals (with_reducible rfl))
  (try simp only [Act.put, List.setIfInBounds_toArray, List.set_cons_zero, List.set_cons_succ])
  refine takeAt (i := 17) (d := 23) (v := ?_) rfl (by kernel_rfl) (by kernel_rfl) (by kernel_rfl) (by kernel_rfl) (fun _ _ _ h => h) (Or.inl ⟨by kernel_rfl, ?_⟩) (by assumption) ?_
  rotate_left
  · (intro w hSw; (try dsimp only at hSw); go_simp; all_goals (with_reducible rfl))
  (try simp only [Act.put, List.setIfInBounds_toArray, List.set_cons_zero, List.set_cons_succ])
  refine takeAt (i := 18) (d := 24) (v := ?_) rfl (by kernel_rfl) (by kernel_rfl) (by kernel_rfl) (by kernel_rfl) (fun _ _ _ h => h) (Or.inl ⟨by kernel_rfl, ?_⟩) (by assumption) ?_
  rotate_left
  · (intro w hSw; (try dsimp only at hSw); go_simp; all_goals (with_reducible rfl))
  (try simp only [Act.put, List.setIfInBounds_toArray, List.set_cons_zero, List.set_cons_succ])
  refine takeAt (i := 19) (d := 25) (v := ?_) rfl (by kernel_rfl) (by kernel_rfl) (by kernel_rfl) (by kernel_rfl) (fun _ _ _ h => h) (Or.inl ⟨by kernel_rfl, ?_⟩) (by assumption) ?_
  rotate_left
  · (intro w hSw; (try dsimp only at hSw); go_simp; all_goals (with_reducible rfl))
  (try simp only [Act.put, List.setIfInBounds_toArray, List.set_cons_zero, List.set_cons_succ])
  refine takeAt (i := 20) (d := 26) (v := ?_) rfl (by kernel_rfl) (by kernel_rfl) (by kernel_rfl) (by kernel_rfl) (fun _ _ _ h => h) (Or.inl ⟨by kernel_rfl, ?_⟩) (by assumption) ?_
  rotate_left
  · (intro w hSw; (try dsimp only at hSw); go_simp; all_goals (with_reducible rfl))
  (try simp only [Act.put, List.setIfInBounds_toArray, List.set_cons_zero, List.set_cons_succ])
  refine takeAt (i := 21) (d := 27) (v := ?_) rfl (by kernel_rfl) (by kernel_rfl) (by kernel_rfl) (by kernel_rfl) (fun _ _ _ h => h) (Or.inl ⟨by kernel_rfl, ?_⟩) (by assumption) ?_
  rotate_left
  · (intro w hSw; (try dsimp only at hSw); go_simp; all_goals (with_reducible rfl))
  (try simp only [Act.put, List.setIfInBounds_toArray, List.set_cons_zero, List.set_cons_succ])
  refine wpAnyH_ready (rs := [13]) (by kernel_rfl) (by simp) ?_
  refine AllReadyH.cons rfl (fun K hK => ?_) AllReadyH.nil
  go_simp
  refine (HI.out _).mono ?_
  rintro e w5 ⟨rfl, rfl⟩
  refine hK.out _ _ ⟨y0, x1, y20, x0, cS1, cS2⟩ (fun hHeld => ?_)
  (try refine stateAt (d := 19) (by kernel_rfl) ?_)
  (try simp only [Act.put, List.setIfInBounds_toArray, List.set_cons_zero, List.set_cons_succ])
  refine takeAt (i := 14) (d := 20) (v := ?_) rfl (by kernel_rfl) (by kernel_rfl) (by kernel_rfl) (by kernel_rfl) (fun _ _ _ h => h) (Or.inl ⟨by kernel_rfl, ?_⟩) (by assumption) ?_
  rotate_left
  · (intro w hSw; (try dsimp only at hSw); go_simp; all_goals (with_reducible rfl))
  (try simp only [Act.put, List.setIfInBounds_toArray, List.set_cons_zero, List.set_cons_succ])
  refine takeAt (i := 15) (d := 21) (v := ?_) rfl (by kernel_rfl) (by kernel_rfl) (by kernel_rfl) (by kernel_rfl) (fun _ _ _ h => h) (Or.inl ⟨by kernel_rfl, ?_⟩) (by assumption) ?_
  rotate_left
  · (intro w hSw; (try dsimp only at hSw); go_simp; all_goals (with_reducible rfl))
  (try simp only [Act.put, List.setIfInBounds_toArray, List.set_cons_zero, List.set_cons_succ])
  refine takeAt (i := 22) (d := 28) (v := ?_) rfl (by kernel_rfl) (by kernel_rfl) (by kernel_rfl) (by kernel_rfl) (fun _ _ _ h => h) (Or.inl ⟨by kernel_rfl, ?_⟩) (by assumption) ?_
  rotate_left
  · (intro w hSw; (try dsimp only at hSw); go_simp; all_goals (with_reducible rfl))
  (try simp only [Act.put, List.setIfInBounds_toArray, List.set_cons_zero, List.set_cons_succ])
  refine wpAnyH_ready (rs := [23]) (by kernel_rfl) (by simp) ?_
  refine AllReadyH.cons rfl (fun K hK => ?_) AllReadyH.nil
  go_simp
  have hba := below_alloc w1 (.cells #[.string par, .string res, .int .i64 at_, .int .u8 2, .string ⟨#[]⟩] 93)
  have hbs : Below w1.heap.size w1 (w1.alloc (.cells #[.string par, .string res, .int .i64 at_, .int .u8 2, .string ⟨#[]⟩] 93)).drew := hba.drew
  refine hK.out _ _ ⟨cell_below hba y0, cell_below hba x1, cell_below hba y20, cell_below hba x0, cell_below hba cS1, cell_below hba cS2⟩ (fun hHeld => ?_)
  (try refine stateAt (d := 29) (by kernel_rfl) ?_)
  (try simp only [Act.put, List.setIfInBounds_toArray, List.set_cons_zero, List.set_cons_succ])
  refine takeAt (i := 24) (d := 4) (v := ?_) rfl (by kernel_rfl) (by kernel_rfl) (by kernel_rfl) (by kernel_rfl) (fun _ _ _ h => h) (Or.inl ⟨by kernel_rfl, ?_⟩) (by assumption) ?_
  rotate_left
  · (intro w hSw; (try dsimp only at hSw); go_simp; all_goals (with_reducible rfl))
  (try simp only [Act.put, List.setIfInBounds_toArray, List.set_cons_zero, List.set_cons_succ])
  refine wpAnyH_done (by kernel_rfl) ?_ _
  have HFR := Lib.hid (HW.out.frs (Nat.le_refl _))
  have HXO : Hid (∀ b, k.X b → b ≠ w1.heap.size) := Lib.hid (fun b hb e => by have := (HW.out.al b hb).1; omega)
  have HW2 := Lib.hid (HW.out.on hbs)
  have HK2 := Lib.hid (HK.out.trans (Kn.on (k := k) hbs))
  have HN2 := Lib.hid ((hbs.block g (row_lt HN.out)).trans HN.out)
  have HG2 : Hid ((w1.alloc (.cells #[.string par, .string res, .int .i64 at_, .int .u8 2, .string ⟨#[]⟩] 93)).drew.heap[w1.heap.size]? = some (.cells #[.string par, .string res, .int .i64 at_, .int .u8 2, .string ⟨#[]⟩] 93 (0, 0))) := Lib.hid (heap_alloc_new w1 (.cells #[.string par, .string res, .int .i64 at_, .int .u8 2, .string ⟨#[]⟩] 93))
  have hBo : k.B ≤ w1.heap.size := HW.out.hi
  have hop : w1.heap.size ≠ k.p := by have := HW.out.lo; omega
  have hgo : g ≠ w1.heap.size := by have := row_lt HN.out; omega
  clear HW HK HN y0 x1 y20 x0 cS1 cS2 hba hbs HI hHeld
  generalize (w1.alloc (.cells #[.string par, .string res, .int .i64 at_, .int .u8 2, .string ⟨#[]⟩] 93)).drew = w2 at *
  generalize w1.heap.size = ob at *
  have x02 := row_cell HN2.out 0 rfl; have p0 := row_cell HG2.out 0 rfl
  simp only [List.getElem_toArray, List.getElem_cons_zero] at x02 p0
  go_wp2_with (first
    | ((go_at_call 56; refine (val_popsQ HW2.out hne hle (by omega) par (by omega)).mono ?_)
       rintro e w3 (⟨v2, h1, rfl, h2, h3⟩ | ⟨z, h1, rfl, h2, h3⟩)
       rotate_left
       · exact ⟨rfl, .inr ⟨z, opens_bad1 k.ctx HT.out HSG.out (by rw [if_neg (by decide)]) h1, rfl, h2, HK2.out.trans h3⟩⟩
       have y18 : w3.cell? ⟨k.p, 18, none⟩ = some (.string v2.shape) := h2.cell 18 rfl
       have hG3 := (h3.block ob (row_lt HG2.out) hop).trans HG2.out
       have fob := row_free hG3 4
       have cob : w3.cell? ⟨ob, 4, none⟩ = some (.string ⟨#[]⟩) := row_cell hG3 4 rfl
       have hs2 : v2.shape.size ≤ 256 := by rw [(pops_ok h1).1]; simp; omega
       have ho2 : v2.opens = v.opens := by rw [(pops_ok h1).1]
       have hf2 : v2.floors = v.floors := by rw [(pops_ok h1).1]
       have HG4 := Lib.hid (row_setCell hG3 4 (.string v2.shape))
       have HW3 := Lib.hid (h2.other HFR.out hBo 4 (.string v2.shape))
       have HK3 := Lib.hid ((HK2.out.trans h3).trans ((Keeps.refl (fun b => b ≠ ob) w3).setCell (a := ⟨ob, 4, none⟩) (by simp) (.string v2.shape)) (fun b hb => by rcases hb with hb | hb; (have := HW2.out.lo; omega); exact HXO.out b hb.2))
       have HP := Lib.hid h1
       have p03 := row_cell HG4.out 0 (u := .string par) rfl
       clear h1 h2 h3 hG3 HW2 HK2 HN2 HG2 x02 p0)
    | ((go_at_call 57; refine (val_pushesQ HW3.out (by omega) par (by omega)).mono ?_)
       rintro e w5 (⟨v3, h1, rfl, h2, h3⟩ | ⟨z, h1, rfl, h2, h3⟩)
       rotate_left
       · exact ⟨rfl, .inr ⟨z, opens_bad2 k.ctx HT.out HSG.out (by rw [if_neg (by decide)]) HP.out h1, rfl, h2, HK3.out.trans h3⟩⟩
       have hol3 : v3.opens.length ≤ 2147483648 := by rw [(pushes_ok h1).1]; show v2.opens.length ≤ _; rw [ho2]; exact hol
       have hf3 : at_ < v3.floors.length := by rw [(pushes_ok h1).1]; show at_ < v2.floors.length; rw [hf2]; exact hfl
       have HG5 := Lib.hid ((h3.block ob (row_lt HG4.out) hop).trans HG4.out)
       have HW5 := Lib.hid h2
       have HK5 := Lib.hid (HK3.out.trans h3)
       have HP2 := Lib.hid h1
       have hofl : OwnI k.B 3 w5 q.fv v3.floors := h2.fam.own (flE q v3) (by simp [Wq.ents])
       obtain ⟨gf, cf, efl, hgB, hgl, hgc, hgf⟩ := hofl.at_ hf3
       have y15 : w5.cell? ⟨k.p, 15, none⟩ = some q.fv := h2.cell 15 rfl
       have y20 : w5.cell? ⟨k.p, 20, none⟩ = some (.int .i64 at_) := h2.cell 20 rfl
       rw [efl] at y15
       have p4 : w5.cell? ⟨ob, 4, none⟩ = some (.string v2.shape) := row_cell HG5.out 4 (u := .string v2.shape) rfl
       have HGF : Hid (gf ≠ ob) := Lib.hid (fun e => own_ne hofl HG5.out (by decide) (by rw [efl, ← e]; rfl))
       have HEF := Lib.hid efl
       clear h1 h2 h3 HW3 HK3 HG4 hofl efl p03 ho2 hf2))
  go_still_tail 15, (by kernel_rfl)
  change wpList _ _ _ _ _ w5.drew
  have P := HW5.out.drew
  have HW6 := Lib.hid (P.1.floor HEF.out at_ (v2.shape.size : Nat)).1
  have HK6 := Lib.hid ((HK5.out.trans P.2).trans (P.1.floor HEF.out at_ (v2.shape.size : Nat)).2)
  have hgc' : w5.drew.cell? ⟨gf, at_, none⟩ = _ := hgc
  have hgf' : w5.drew.frozen? ⟨gf, at_, none⟩ = false := hgf
  have HG6 : Hid (w5.drew.heap[ob]? = _) := HG5
  clear HW5 HK5 HG5 P y15 y20 p4 hgc hgf hgl
  generalize w5.drew = w6 at *
  obtain ⟨w7, hw7⟩ : ∃ w7, w6.setCell ⟨gf, at_, none⟩ (.int .i64 (v2.shape.size : Nat)) = w7 := ⟨_, rfl⟩
  have HG7 : Hid (w7.heap[ob]? = some (.cells (opC ⟨par, res, at_, 2, v2.shape⟩) 93 (0, 0))) := Lib.hid (by
    rw [← hw7]
    exact (((Keeps.refl (fun b => b ≠ gf) w6).setCell (a := ⟨gf, at_, none⟩) (by simp) (.int .i64 (v2.shape.size : Nat))).block ob (row_lt HG6.out) (fun e => HGF.out e.symm)).trans HG6.out)
  rw [hw7] at HW6 HK6
  have y17 : w7.cell? ⟨k.p, 17, none⟩ = some q.ov := HW6.out.cell 17 rfl
  rw [← hw7] at y17
  have HA := Lib.hid (HW6.out.on (below_alloc w7 (.cells #[.pointer (some ⟨ob, 0, none⟩)] 91)))
  have HKA := Lib.hid (HK6.out.trans (Kn.on (k := k) (below_alloc w7 (.cells #[.pointer (some ⟨ob, 0, none⟩)] 91))))
  have HGA := Lib.hid (((below_alloc w7 (.cells #[.pointer (some ⟨ob, 0, none⟩)] 91)).block ob (row_lt HG7.out)).trans HG7.out)
  have HOA : Hid ((w7.alloc (.cells #[.pointer (some ⟨ob, 0, none⟩)] 91)).ownsRow k.B 91 1 q.ov v3.opens.length (q.ps.map ptrV)) := Lib.hid (HA.out.fam.own (opE q { v3 with floors := v3.floors.set at_ (v2.shape.size : Nat) }) (by simp [Wq.ents]))
  have HB7 : Hid (k.B ≤ (w7.alloc (.cells #[.pointer (some ⟨ob, 0, none⟩)] 91)).heap.size) := Lib.hid HA.out.hi
  clear HW6 HK6 HG6 HG7
  rw [← hw7] at HA HKA HGA HOA HB7
  clear hw7
  have HCN : Hid (∀ j u, [Value.pointer (some ⟨ob, 0, none⟩)][j]? = some u → ((w6.setCell ⟨gf, at_, none⟩ (.int .i64 (v2.shape.size : Nat))).alloc (.cells #[.pointer (some ⟨ob, 0, none⟩)] 91)).cell? ((⟨w6.heap.size, 0, none⟩ : Addr).add j) = some u) := Lib.hid (by
    have h9 := cells1_new (w6.setCell ⟨gf, at_, none⟩ (.int .i64 (v2.shape.size : Nat))) (.pointer (some ⟨ob, 0, none⟩)) 91
    rw [World.size_setCell] at h9
    exact h9)
  obtain ⟨oa, oc, hov, -⟩ := own_slice HOA.out
  have HOV := Lib.hid hov
  rw [hov] at y17 HOA
  clear hov
  go_wp2_with (at_builtin; (refine wpList_append_kept _ rfl _ _ 88 rfl k.B 91 i0 (.pointer none) 1 8 Tryd.underlying88 hi hz0 hz1 hz2 rfl (by decide) _ v3.opens.length (q.ps.map ptrV) rfl HOA.out ⟨_, 0, none⟩ 1 1 [.pointer (some ⟨ob, 0, none⟩)] rfl rfl HCN.out (by simp [Value.oneCell']) (by unfold maxLen; omega) (by omega) HB7.out ?_))
  intro v' w8 ho hk8 hf8
  rw [← HOV.out] at hk8 hf8
  obtain ⟨a8, c8, rfl, -⟩ := own_slice ho
  have hr8 := HA.out.kept_row hk8
  have f17 := row_free hr8 17
  have y17' := row_cell hr8 17 rfl
  obtain ⟨hP, hK⟩ := HA.out.push (x := ⟨par, res, at_, 2, v2.shape⟩) hk8 ho (fun g' hg' => by have := hf8 g' hg'; rw [World.size_alloc, World.size_setCell]; exact this) HGA.out
  have HPW := Lib.hid hP
  have HPK := Lib.hid (HKA.out.trans hK)
  clear ho hk8 hf8 hr8 hP hK HA HKA HGA HOA
  go_wp2
  exact bodyPost_end (results_none rfl _ _ _) rfl (.inl ⟨_, _, opens_end k.ctx HT.out HSG.out (by rw [if_neg (by decide)]) HP.out HP2.out, rfl, HPW.out, HPK.out⟩)
set_option maxRecDepth 100000 in
set_option maxHeartbeats 6400000 in
theorem val_opens_3 {at_ : Nat} (h : Wv k w v at_ q) (hm : MOk k.m) (hne : 0 < v.opens.length) (hle : v.top.base.size ≤ v.shape.size) (hsz : v.shape.size ≤ 256) (hfl : at_ < v.floors.length) (hol : v.opens.length ≤ 2147483648) (t : Nat) (l : List Int) (vl : Value) (ht : t < k.m.types.length) :
    Calls Tryd.prog 49 #[.pointer (some ⟨k.p, 0, none⟩), .agg #[.int .u8 3, .int .i64 t, vl]] w fun r w' => WE k w at_ (.tuple #[]) (opensV k.ctx v at_ ⟨3, t, l⟩) r w' := by
  obtain ⟨i0, hi, hz0, hz1, hz2⟩ := info_parts Tryd.infoOpP
  have hb := below_alloc w (.cells #[.int .u8 3, .int .i64 t, vl] 68)
  have hnw := heap_alloc_new w (.cells #[.int .u8 3, .int .i64 t, vl] 68)
  have HW := Lib.hid (h.on hb)
  have HK := Lib.hid (Kw.on (k := k) hb)
  have hgp : w.heap.size ≠ k.p := by have := row_lt h.row; omega
  have x0 := row_cell hnw 0 rfl; have x1 := row_cell hnw 1 rfl
  simp only [List.getElem_toArray, List.getElem_cons_zero, List.getElem_cons_succ] at x0 x1
  obtain ⟨bt, ot, ct, et, cS1, cS2, c2, l2⟩ := HW.out.rd.sig ht
  obtain ⟨z1, z2⟩ := sig_sz hm ht
  obtain ⟨⟨par, res⟩, hsg⟩ : ∃ sg, sigAt k.m.types t = sg := ⟨_, rfl⟩
  rw [hsg] at cS1 cS2 z1 z2
  simp only at cS1 cS2 z1 z2
  have HSG : Hid (sigAt k.ctx.types t = (par, res)) := Lib.hid hsg
  have HT : Hid (t < k.ctx.types.length) := Lib.hid ht
  have y0 : (w.alloc (.cells #[.int .u8 3, .int .i64 t, vl] 68)).cell? ⟨k.p, 0, none⟩ = some k.tv := HW.out.cell 0 rfl
  have y20 : (w.alloc (.cells #[.int .u8 3, .int .i64 t, vl] 68)).cell? ⟨k.p, 20, none⟩ = some (.int .i64 at_) := HW.out.cell 20 rfl
  rw [et] at y0
  have HI := Lib.hid (fun W : World => val_index_ok W t _ ht l2)
  clear h hb et hsg
  go_enter Tryd.func49, Tryd.ntmps49
  go_wp2_with fail
  generalize w.alloc (.cells #[.int .u8 3, .int .i64 t, vl] 68) = w1 at *
  have HN := Lib.hid hnw
  clear hnw
  generalize w.heap.size = g at *
  refine wp_region_held_drew (S := (fun wx => wx.cell? ⟨k.p, 0, none⟩ = some (.slice (some ⟨bt, ot, none⟩) k.m.types.length ct) ∧ wx.cell? ⟨g, 1, none⟩ = some (.int .i64 t) ∧ wx.cell? ⟨k.p, 20, none⟩ = some (.int .i64 at_) ∧ wx.cell? ⟨g, 0, none⟩ = some (.int .u8 3) ∧ wx.cell? ⟨bt, ot + t * 2, none⟩ = some (.string par) ∧ wx.cell? ⟨bt, ot + t * 2 + 1, none⟩ = some (.string res))) (by kernel_rfl) ⟨y0, x1, y20, x0, cS1, cS2⟩ (fun hHeld => ?_)
  refine takeAt (i := 0) (d := 6) (v := ?_) rfl (by kernel_rfl) (by kernel_rfl) (by kernel_rfl) (by kernel_rfl) (fun _ _ _ h => h) (Or.inl ⟨by kernel_rfl, ?_⟩) (by assumption) ?_
  rotate_left
  · (intro w hSw; (try dsimp only at hSw); go_simp; all_goals (with_reducible rfl))
  (try simp only [Act.put, List.setIfInBounds_toArray, List.set_cons_zero, List.set_cons_succ])
  refine takeAt (i := 1) (d := 7) (v := ?_) rfl (by kernel_rfl) (by kernel_rfl) (by kernel_rfl) (by kernel_rfl) (fun _ _ _ h => h) (Or.inl ⟨by kernel_rfl, ?_⟩) (by assumption) ?_
  rotate_left
  · (intro w hSw; (try dsimp only at hSw); go_simp; all_goals (with_reducible rfl))
  (try simp only [Act.put, List.setIfInBounds_toArray, List.set_cons_zero, List.set_cons_succ])
  refine takeAt (i := 2) (d := 8) (v := ?_) rfl (by kernel_rfl) (by kernel_rfl) (by kernel_rfl) (by kernel_rfl) (fun _ _ _ h => h) (Or.inl ⟨by kernel_rfl, ?_⟩) (by assumption) ?_
  rotate_left
  · (intro w hSw; (try dsimp only at hSw); go_simp; all_goals (with_reducible rfl))
  (try simp only [Act.put, List.setIfInBounds_toArray, List.set_cons_zero, List.set_cons_succ])
  refine takeAt (i := 3) (d := 9) (v := ?_) rfl (by kernel_rfl) (by kernel_rfl) (by kernel_rfl) (by kernel_rfl) (fun _ _ _ h => h) (Or.inl ⟨by kernel_rfl, ?_⟩) (by assumption) ?_
  rotate_left
  · (intro w hSw; (try dsimp only at hSw); go_simp; all_goals (with_reducible rfl))
  (try simp only [Act.put, List.setIfInBounds_toArray, List.set_cons_zero, List.set_cons_succ])
  refine takeAt (i := 4) (d := 10) (v := ?_) rfl (by kernel_rfl) (by kernel_rfl) (by kernel_rfl) (by kernel_rfl) (fun _ _ _ h => h) (Or.inl ⟨by kernel_rfl, ?_⟩) (by assumption) ?_
  rotate_left
  · (intro w hSw; (try dsimp only at hSw); go_simp; all_goals (with_reducible rfl))
  (try simp only [Act.put, List.setIfInBounds_toArray, List.set_cons_zero, List.set_cons_succ])
  refine takeAt (i := 5) (d := 11) (v := ?_) rfl (by kernel_rfl) (by kernel_rfl) (by kernel_rfl) (by kernel_rfl) (fun _ _ _ h => h) (Or.inl ⟨by kernel_rfl, ?_⟩) (by assumption) ?_
  rotate_left
  · (intro w hSw; (try dsimp only at hSw); go_simp; all_goals (with_reducible rfl))
  (try simp only [Act.put, List.setIfInBounds_toArray, List.set_cons_zero, List.set_cons_succ])
  refine takeAt (i := 6) (d := 12) (v := ?_) rfl (by kernel_rfl) (by kernel_rfl) (by kernel_rfl) (by kernel_rfl) (fun _ _ _ h => h) (Or.inl ⟨by kernel_rfl, ?_⟩) (by assumption) ?_
  rotate_left
  · (intro w hSw; (try dsimp only at hSw); go_simp; all_goals (with_reducible rfl))
  (try simp only [Act.put, List.setIfInBounds_toArray, List.set_cons_zero, List.set_cons_succ])
  refine takeAt (i := 7) (d := 13) (v := ?_) rfl (by kernel_rfl) (by kernel_rfl) (by kernel_rfl) (by kernel_rfl) (fun _ _ _ h => h) (Or.inl ⟨by kernel_rfl, ?_⟩) (by assumption) ?_
  rotate_left
  · (intro w hSw; (try dsimp only at hSw); go_simp; all_goals (with_reducible rfl))
  (try simp only [Act.put, List.setIfInBounds_toArray, List.set_cons_zero, List.set_cons_succ])
  refine takeAt (i := 8) (d := 14) (v := ?_) rfl (by kernel_rfl) (by kernel_rfl) (by kernel_rfl) (by kernel_rfl) (fun _ _ _ h => h) (Or.inl ⟨by kernel_rfl, ?_⟩) (by assumption) ?_
  rotate_left
  · (intro w hSw; (try dsimp only at hSw); go_simp; all_goals (with_reducible rfl))
  (try simp only [Act.put, List.setIfInBounds_toArray, List.set_cons_zero, List.set_cons_succ])
  refine takeAt (i := 9) (d := 15) (v := ?_) rfl (by kernel_rfl) (by kernel_rfl) (by kernel_rfl) (by kernel_rfl) (fun _ _ _ h => h) (Or.inl ⟨by kernel_rfl, ?_⟩) (by assumption) ?_
  rotate_left
  · (intro w hSw; (try dsimp only at hSw); go_simp; all_goals (with_reducible rfl))
  (try simp only [Act.put, List.setIfInBounds_toArray, List.set_cons_zero, List.set_cons_succ])
  refine takeAt (i := 10) (d := 16) (v := ?_) rfl (by kernel_rfl) (by kernel_rfl) (by kernel_rfl) (by kernel_rfl) (fun _ _ _ h => h) (Or.inl ⟨by kernel_rfl, ?_⟩) (by assumption) ?_
  rotate_left
  · (intro w hSw; (try dsimp only at hSw); go_simp; all_goals (with_reducible rfl))
  (try simp only [Act.put, List.setIfInBounds_toArray, List.set_cons_zero, List.set_cons_succ])
  refine takeAt (i := 11) (d := 17) (v := ?_) rfl (by kernel_rfl) (by kernel_rfl) (by kernel_rfl) (by kernel_rfl) (fun _ _ _ h => h) (Or.inl ⟨by kernel_rfl, ?_⟩) (by assumption) ?_
  rotate_left
  · (intro w hSw; (try dsimp only at hSw); go_simp; all_goals (with_reducible rfl))
  (try simp only [Act.put, List.setIfInBounds_toArray, List.set_cons_zero, List.set_cons_succ])
  refine takeAt (i := 12) (d := 18) (v := ?_) rfl (by kernel_rfl) (by kernel_rfl) (by kernel_rfl) (by kernel_rfl) (fun _ _ _ h => h) (Or.inl ⟨by kernel_rfl, ?_⟩) (by assumption) ?_
  rotate_left
  · (intro w hSw; (try dsimp only at hSw); go_simp; all_goals (with_reducible rfl))
  (try simp only [Act.put, List.setIfInBounds_toArray, List.set_cons_zero, List.set_cons_succ])
  refine takeAt (i := 16) (d := 22) (v := ?_) rfl (by kernel_rfl) (by kernel_rfl) (by kernel_rfl) (by kernel_rfl) (fun _ _ _ h => h) (Or.inl ⟨by kernel_rfl, ?_⟩) (by assumption) ?_
  rotate_left
  · (intro w hSw; (try dsimp only at hSw); go_simp; all_goals (with_reducible rfl))
  (try simp only [Act.put, List.setIfInBounds_toArray, List.set_cons_zero, List.set_cons_succ])
  refine takeAt (i := 17) (d := 23) (v := ?_) rfl (by kernel_rfl) (by kernel_rfl) (by kernel_rfl) (by kernel_rfl) (fun _ _ _ h => h) (Or.inl ⟨by kernel_rfl, ?_⟩) (by assumption) ?_
  rotate_left
  · (intro w hSw; (try dsimp only at hSw); go_simp; all_goals (with_reducible rfl))
  (try simp only [Act.put, List.setIfInBounds_toArray, List.set_cons_zero, List.set_cons_succ])
  refine takeAt (i := 18) (d := 24) (v := ?_) rfl (by kernel_rfl) (by kernel_rfl) (by kernel_rfl) (by kernel_rfl) (fun _ _ _ h => h) (Or.inl ⟨by kernel_rfl, ?_⟩) (by assumption) ?_
  rotate_left
  · (intro w hSw; (try dsimp only at hSw); go_simp; all_goals (with_reducible rfl))
  (try simp only [Act.put, List.setIfInBounds_toArray, List.set_cons_zero, List.set_cons_succ])
  refine takeAt (i := 19) (d := 25) (v := ?_) rfl (by kernel_rfl) (by kernel_rfl) (by kernel_rfl) (by kernel_rfl) (fun _ _ _ h => h) (Or.inl ⟨by kernel_rfl, ?_⟩) (by assumption) ?_
  rotate_left
  · (intro w hSw; (try dsimp only at hSw); go_simp; all_goals (with_reducible rfl))
  (try simp only [Act.put, List.setIfInBounds_toArray, List.set_cons_zero, List.set_cons_succ])
  refine takeAt (i := 20) (d := 26) (v := ?_) rfl (by kernel_rfl) (by kernel_rfl) (by kernel_rfl) (by kernel_rfl) (fun _ _ _ h => h) (Or.inl ⟨by kernel_rfl, ?_⟩) (by assumption) ?_
  rotate_left
  · (intro w hSw; (try dsimp only at hSw); go_simp; all_goals (with_reducible rfl))
  (try simp only [Act.put, List.setIfInBounds_toArray, List.set_cons_zero, List.set_cons_succ])
  refine takeAt (i := 21) (d := 27) (v := ?_) rfl (by kernel_rfl) (by kernel_rfl) (by kernel_rfl) (by kernel_rfl) (fun _ _ _ h => h) (Or.inl ⟨by kernel_rfl, ?_⟩) (by assumption) ?_
  rotate_left
  · (intro w hSw; (try dsimp only at hSw); go_simp; all_goals (with_reducible rfl))
  (try simp only [Act.put, List.setIfInBounds_toArray, List.set_cons_zero, List.set_cons_succ])
  refine wpAnyH_ready (rs := [13]) (by kernel_rfl) (by simp) ?_
  refine AllReadyH.cons rfl (fun K hK => ?_) AllReadyH.nil
  go_simp
  refine (HI.out _).mono ?_
  rintro e w5 ⟨rfl, rfl⟩
  refine hK.out _ _ ⟨y0, x1, y20, x0, cS1, cS2⟩ (fun hHeld => ?_)
  (try refine stateAt (d := 19) (by kernel_rfl) ?_)
  (try simp only [Act.put, List.setIfInBounds_toArray, List.set_cons_zero, List.set_cons_succ])
  refine takeAt (i := 14) (d := 20) (v := ?_) rfl (by kernel_rfl) (by kernel_rfl) (by kernel_rfl) (by kernel_rfl) (fun _ _ _ h => h) (Or.inl ⟨by kernel_rfl, ?_⟩) (by assumption) ?_
  rotate_left
  · (intro w hSw; (try dsimp only at hSw); go_simp; all_goals (with_reducible rfl))
  (try simp only [Act.put, List.setIfInBounds_toArray, List.set_cons_zero, List.set_cons_succ])
  refine takeAt (i := 15) (d := 21) (v := ?_) rfl (by kernel_rfl) (by kernel_rfl) (by kernel_rfl) (by kernel_rfl) (fun _ _ _ h => h) (Or.inl ⟨by kernel_rfl, ?_⟩) (by assumption) ?_
  rotate_left
  · (intro w hSw; (try dsimp only at hSw); go_simp; all_goals (with_reducible rfl))
  (try simp only [Act.put, List.setIfInBounds_toArray, List.set_cons_zero, List.set_cons_succ])
  refine takeAt (i := 22) (d := 28) (v := ?_) rfl (by kernel_rfl) (by kernel_rfl) (by kernel_rfl) (by kernel_rfl) (fun _ _ _ h => h) (Or.inl ⟨by kernel_rfl, ?_⟩) (by assumption) ?_
  rotate_left
  · (intro w hSw; (try dsimp only at hSw); go_simp; all_goals (with_reducible rfl))
  (try simp only [Act.put, List.setIfInBounds_toArray, List.set_cons_zero, List.set_cons_succ])
  refine wpAnyH_ready (rs := [23]) (by kernel_rfl) (by simp) ?_
  refine AllReadyH.cons rfl (fun K hK => ?_) AllReadyH.nil
  go_simp
  have hba := below_alloc w1 (.cells #[.string par, .string res, .int .i64 at_, .int .u8 3, .string ⟨#[]⟩] 93)
  have hbs : Below w1.heap.size w1 (w1.alloc (.cells #[.string par, .string res, .int .i64 at_, .int .u8 3, .string ⟨#[]⟩] 93)).drew := hba.drew
  refine hK.out _ _ ⟨cell_below hba y0, cell_below hba x1, cell_below hba y20, cell_below hba x0, cell_below hba cS1, cell_below hba cS2⟩ (fun hHeld => ?_)
  (try refine stateAt (d := 29) (by kernel_rfl) ?_)
  (try simp only [Act.put, List.setIfInBounds_toArray, List.set_cons_zero, List.set_cons_succ])
  refine takeAt (i := 24) (d := 4) (v := ?_) rfl (by kernel_rfl) (by kernel_rfl) (by kernel_rfl) (by kernel_rfl) (fun _ _ _ h => h) (Or.inl ⟨by kernel_rfl, ?_⟩) (by assumption) ?_
  rotate_left
  · (intro w hSw; (try dsimp only at hSw); go_simp; all_goals (with_reducible rfl))
  (try simp only [Act.put, List.setIfInBounds_toArray, List.set_cons_zero, List.set_cons_succ])
  refine wpAnyH_done (by kernel_rfl) ?_ _
  have HFR := Lib.hid (HW.out.frs (Nat.le_refl _))
  have HXO : Hid (∀ b, k.X b → b ≠ w1.heap.size) := Lib.hid (fun b hb e => by have := (HW.out.al b hb).1; omega)
  have HW2 := Lib.hid (HW.out.on hbs)
  have HK2 := Lib.hid (HK.out.trans (Kn.on (k := k) hbs))
  have HN2 := Lib.hid ((hbs.block g (row_lt HN.out)).trans HN.out)
  have HG2 : Hid ((w1.alloc (.cells #[.string par, .string res, .int .i64 at_, .int .u8 3, .string ⟨#[]⟩] 93)).drew.heap[w1.heap.size]? = some (.cells #[.string par, .string res, .int .i64 at_, .int .u8 3, .string ⟨#[]⟩] 93 (0, 0))) := Lib.hid (heap_alloc_new w1 (.cells #[.string par, .string res, .int .i64 at_, .int .u8 3, .string ⟨#[]⟩] 93))
  have hBo : k.B ≤ w1.heap.size := HW.out.hi
  have hop : w1.heap.size ≠ k.p := by have := HW.out.lo; omega
  have hgo : g ≠ w1.heap.size := by have := row_lt HN.out; omega
  clear HW HK HN y0 x1 y20 x0 cS1 cS2 hba hbs HI hHeld
  generalize (w1.alloc (.cells #[.string par, .string res, .int .i64 at_, .int .u8 3, .string ⟨#[]⟩] 93)).drew = w2 at *
  generalize w1.heap.size = ob at *
  have x02 := row_cell HN2.out 0 rfl; have p0 := row_cell HG2.out 0 rfl
  simp only [List.getElem_toArray, List.getElem_cons_zero] at x02 p0
  go_wp2_with (first
    | ((go_at_call 56; refine (val_popsQ HW2.out hne hle (by omega) par (by omega)).mono ?_)
       rintro e w3 (⟨v2, h1, rfl, h2, h3⟩ | ⟨z, h1, rfl, h2, h3⟩)
       rotate_left
       · exact ⟨rfl, .inr ⟨z, opens_bad1 k.ctx HT.out HSG.out (by rw [if_neg (by decide)]) h1, rfl, h2, HK2.out.trans h3⟩⟩
       have y18 : w3.cell? ⟨k.p, 18, none⟩ = some (.string v2.shape) := h2.cell 18 rfl
       have hG3 := (h3.block ob (row_lt HG2.out) hop).trans HG2.out
       have fob := row_free hG3 4
       have cob : w3.cell? ⟨ob, 4, none⟩ = some (.string ⟨#[]⟩) := row_cell hG3 4 rfl
       have hs2 : v2.shape.size ≤ 256 := by rw [(pops_ok h1).1]; simp; omega
       have ho2 : v2.opens = v.opens := by rw [(pops_ok h1).1]
       have hf2 : v2.floors = v.floors := by rw [(pops_ok h1).1]
       have HG4 := Lib.hid (row_setCell hG3 4 (.string v2.shape))
       have HW3 := Lib.hid (h2.other HFR.out hBo 4 (.string v2.shape))
       have HK3 := Lib.hid ((HK2.out.trans h3).trans ((Keeps.refl (fun b => b ≠ ob) w3).setCell (a := ⟨ob, 4, none⟩) (by simp) (.string v2.shape)) (fun b hb => by rcases hb with hb | hb; (have := HW2.out.lo; omega); exact HXO.out b hb.2))
       have HP := Lib.hid h1
       have p03 := row_cell HG4.out 0 (u := .string par) rfl
       clear h1 h2 h3 hG3 HW2 HK2 HN2 HG2 x02 p0)
    | ((go_at_call 57; refine (val_pushesQ HW3.out (by omega) par (by omega)).mono ?_)
       rintro e w5 (⟨v3, h1, rfl, h2, h3⟩ | ⟨z, h1, rfl, h2, h3⟩)
       rotate_left
       · exact ⟨rfl, .inr ⟨z, opens_bad2 k.ctx HT.out HSG.out (by rw [if_neg (by decide)]) HP.out h1, rfl, h2, HK3.out.trans h3⟩⟩
       have hol3 : v3.opens.length ≤ 2147483648 := by rw [(pushes_ok h1).1]; show v2.opens.length ≤ _; rw [ho2]; exact hol
       have hf3 : at_ < v3.floors.length := by rw [(pushes_ok h1).1]; show at_ < v2.floors.length; rw [hf2]; exact hfl
       have HG5 := Lib.hid ((h3.block ob (row_lt HG4.out) hop).trans HG4.out)
       have HW5 := Lib.hid h2
       have HK5 := Lib.hid (HK3.out.trans h3)
       have HP2 := Lib.hid h1
       have hofl : OwnI k.B 3 w5 q.fv v3.floors := h2.fam.own (flE q v3) (by simp [Wq.ents])
       obtain ⟨gf, cf, efl, hgB, hgl, hgc, hgf⟩ := hofl.at_ hf3
       have y15 : w5.cell? ⟨k.p, 15, none⟩ = some q.fv := h2.cell 15 rfl
       have y20 : w5.cell? ⟨k.p, 20, none⟩ = some (.int .i64 at_) := h2.cell 20 rfl
       rw [efl] at y15
       have p4 : w5.cell? ⟨ob, 4, none⟩ = some (.string v2.shape) := row_cell HG5.out 4 (u := .string v2.shape) rfl
       have HGF : Hid (gf ≠ ob) := Lib.hid (fun e => own_ne hofl HG5.out (by decide) (by rw [efl, ← e]; rfl))
       have HEF := Lib.hid efl
       clear h1 h2 h3 HW3 HK3 HG4 hofl efl p03 ho2 hf2))
  go_still_tail 15, (by kernel_rfl)
  change wpList _ _ _ _ _ w5.drew
  have P := HW5.out.drew
  have HW6 := Lib.hid (P.1.floor HEF.out at_ (v2.shape.size : Nat)).1
  have HK6 := Lib.hid ((HK5.out.trans P.2).trans (P.1.floor HEF.out at_ (v2.shape.size : Nat)).2)
  have hgc' : w5.drew.cell? ⟨gf, at_, none⟩ = _ := hgc
  have hgf' : w5.drew.frozen? ⟨gf, at_, none⟩ = false := hgf
  have HG6 : Hid (w5.drew.heap[ob]? = _) := HG5
  clear HW5 HK5 HG5 P y15 y20 p4 hgc hgf hgl
  generalize w5.drew = w6 at *
  obtain ⟨w7, hw7⟩ : ∃ w7, w6.setCell ⟨gf, at_, none⟩ (.int .i64 (v2.shape.size : Nat)) = w7 := ⟨_, rfl⟩
  have HG7 : Hid (w7.heap[ob]? = some (.cells (opC ⟨par, res, at_, 3, v2.shape⟩) 93 (0, 0))) := Lib.hid (by
    rw [← hw7]
    exact (((Keeps.refl (fun b => b ≠ gf) w6).setCell (a := ⟨gf, at_, none⟩) (by simp) (.int .i64 (v2.shape.size : Nat))).block ob (row_lt HG6.out) (fun e => HGF.out e.symm)).trans HG6.out)
  rw [hw7] at HW6 HK6
  have y17 : w7.cell? ⟨k.p, 17, none⟩ = some q.ov := HW6.out.cell 17 rfl
  rw [← hw7] at y17
  have HA := Lib.hid (HW6.out.on (below_alloc w7 (.cells #[.pointer (some ⟨ob, 0, none⟩)] 91)))
  have HKA := Lib.hid (HK6.out.trans (Kn.on (k := k) (below_alloc w7 (.cells #[.pointer (some ⟨ob, 0, none⟩)] 91))))
  have HGA := Lib.hid (((below_alloc w7 (.cells #[.pointer (some ⟨ob, 0, none⟩)] 91)).block ob (row_lt HG7.out)).trans HG7.out)
  have HOA : Hid ((w7.alloc (.cells #[.pointer (some ⟨ob, 0, none⟩)] 91)).ownsRow k.B 91 1 q.ov v3.opens.length (q.ps.map ptrV)) := Lib.hid (HA.out.fam.own (opE q { v3 with floors := v3.floors.set at_ (v2.shape.size : Nat) }) (by simp [Wq.ents]))
  have HB7 : Hid (k.B ≤ (w7.alloc (.cells #[.pointer (some ⟨ob, 0, none⟩)] 91)).heap.size) := Lib.hid HA.out.hi
  clear HW6 HK6 HG6 HG7
  rw [← hw7] at HA HKA HGA HOA HB7
  clear hw7
  have HCN : Hid (∀ j u, [Value.pointer (some ⟨ob, 0, none⟩)][j]? = some u → ((w6.setCell ⟨gf, at_, none⟩ (.int .i64 (v2.shape.size : Nat))).alloc (.cells #[.pointer (some ⟨ob, 0, none⟩)] 91)).cell? ((⟨w6.heap.size, 0, none⟩ : Addr).add j) = some u) := Lib.hid (by
    have h9 := cells1_new (w6.setCell ⟨gf, at_, none⟩ (.int .i64 (v2.shape.size : Nat))) (.pointer (some ⟨ob, 0, none⟩)) 91
    rw [World.size_setCell] at h9
    exact h9)
  obtain ⟨oa, oc, hov, -⟩ := own_slice HOA.out
  have HOV := Lib.hid hov
  rw [hov] at y17 HOA
  clear hov
  go_wp2_with (at_builtin; (refine wpList_append_kept _ rfl _ _ 88 rfl k.B 91 i0 (.pointer none) 1 8 Tryd.underlying88 hi hz0 hz1 hz2 rfl (by decide) _ v3.opens.length (q.ps.map ptrV) rfl HOA.out ⟨_, 0, none⟩ 1 1 [.pointer (some ⟨ob, 0, none⟩)] rfl rfl HCN.out (by simp [Value.oneCell']) (by unfold maxLen; omega) (by omega) HB7.out ?_))
  intro v' w8 ho hk8 hf8
  rw [← HOV.out] at hk8 hf8
  obtain ⟨a8, c8, rfl, -⟩ := own_slice ho
  have hr8 := HA.out.kept_row hk8
  have f17 := row_free hr8 17
  have y17' := row_cell hr8 17 rfl
  obtain ⟨hP, hK⟩ := HA.out.push (x := ⟨par, res, at_, 3, v2.shape⟩) hk8 ho (fun g' hg' => by have := hf8 g' hg'; rw [World.size_alloc, World.size_setCell]; exact this) HGA.out
  have HPW := Lib.hid hP
  have HPK := Lib.hid (HKA.out.trans hK)
  clear ho hk8 hf8 hr8 hP hK HA HKA HGA HOA
  go_wp2
  exact bodyPost_end (results_none rfl _ _ _) rfl (.inl ⟨_, _, opens_end k.ctx HT.out HSG.out (by rw [if_neg (by decide)]) HP.out HP2.out, rfl, HPW.out, HPK.out⟩)
set_option maxRecDepth 100000 in
set_option maxHeartbeats 6400000 in
theorem val_opens_4 {at_ : Nat} (h : Wv k w v at_ q) (hm : MOk k.m) (hne : 0 < v.opens.length) (hle : v.top.base.size ≤ v.shape.size) (hsz : v.shape.size ≤ 256) (hfl : at_ < v.floors.length) (hol : v.opens.length ≤ 2147483648) (t : Nat) (l : List Int) (vl : Value) (ht : t < k.m.types.length) :
    Calls Tryd.prog 49 #[.pointer (some ⟨k.p, 0, none⟩), .agg #[.int .u8 4, .int .i64 t, vl]] w fun r w' => WE k w at_ (.tuple #[]) (opensV k.ctx v at_ ⟨4, t, l⟩) r w' := by
  obtain ⟨i0, hi, hz0, hz1, hz2⟩ := info_parts Tryd.infoOpP
  have hb := below_alloc w (.cells #[.int .u8 4, .int .i64 t, vl] 68)
  have hnw := heap_alloc_new w (.cells #[.int .u8 4, .int .i64 t, vl] 68)
  have HW := Lib.hid (h.on hb)
  have HK := Lib.hid (Kw.on (k := k) hb)
  have hgp : w.heap.size ≠ k.p := by have := row_lt h.row; omega
  have x0 := row_cell hnw 0 rfl; have x1 := row_cell hnw 1 rfl
  simp only [List.getElem_toArray, List.getElem_cons_zero, List.getElem_cons_succ] at x0 x1
  obtain ⟨bt, ot, ct, et, cS1, cS2, c2, l2⟩ := HW.out.rd.sig ht
  obtain ⟨z1, z2⟩ := sig_sz hm ht
  obtain ⟨⟨par, res⟩, hsg⟩ : ∃ sg, sigAt k.m.types t = sg := ⟨_, rfl⟩
  rw [hsg] at cS1 cS2 z1 z2
  simp only at cS1 cS2 z1 z2
  have HSG : Hid (sigAt k.ctx.types t = (par, res)) := Lib.hid hsg
  have HT : Hid (t < k.ctx.types.length) := Lib.hid ht
  have y0 : (w.alloc (.cells #[.int .u8 4, .int .i64 t, vl] 68)).cell? ⟨k.p, 0, none⟩ = some k.tv := HW.out.cell 0 rfl
  have y20 : (w.alloc (.cells #[.int .u8 4, .int .i64 t, vl] 68)).cell? ⟨k.p, 20, none⟩ = some (.int .i64 at_) := HW.out.cell 20 rfl
  rw [et] at y0
  have HI := Lib.hid (fun W : World => val_index_ok W t _ ht l2)
  clear h hb et hsg
  go_enter Tryd.func49, Tryd.ntmps49
  go_wp2_with fail
  generalize w.alloc (.cells #[.int .u8 4, .int .i64 t, vl] 68) = w1 at *
  have HN := Lib.hid hnw
  clear hnw
  generalize w.heap.size = g at *
  refine wp_region_held_drew (S := (fun wx => wx.cell? ⟨k.p, 0, none⟩ = some (.slice (some ⟨bt, ot, none⟩) k.m.types.length ct) ∧ wx.cell? ⟨g, 1, none⟩ = some (.int .i64 t) ∧ wx.cell? ⟨k.p, 20, none⟩ = some (.int .i64 at_) ∧ wx.cell? ⟨g, 0, none⟩ = some (.int .u8 4) ∧ wx.cell? ⟨bt, ot + t * 2, none⟩ = some (.string par) ∧ wx.cell? ⟨bt, ot + t * 2 + 1, none⟩ = some (.string res))) (by kernel_rfl) ⟨y0, x1, y20, x0, cS1, cS2⟩ (fun hHeld => ?_)
  refine takeAt (i := 0) (d := 6) (v := ?_) rfl (by kernel_rfl) (by kernel_rfl) (by kernel_rfl) (by kernel_rfl) (fun _ _ _ h => h) (Or.inl ⟨by kernel_rfl, ?_⟩) (by assumption) ?_
  rotate_left
  · (intro w hSw; (try dsimp only at hSw); go_simp; all_goals (with_reducible rfl))
  (try simp only [Act.put, List.setIfInBounds_toArray, List.set_cons_zero, List.set_cons_succ])
  refine takeAt (i := 1) (d := 7) (v := ?_) rfl (by kernel_rfl) (by kernel_rfl) (by kernel_rfl) (by kernel_rfl) (fun _ _ _ h => h) (Or.inl ⟨by kernel_rfl, ?_⟩) (by assumption) ?_
  rotate_left
  · (intro w hSw; (try dsimp only at hSw); go_simp; all_goals (with_reducible rfl))
  (try simp only [Act.put, List.setIfInBounds_toArray, List.set_cons_zero, List.set_cons_succ])
  refine takeAt (i := 2) (d := 8) (v := ?_) rfl (by kernel_rfl) (by kernel_rfl) (by kernel_rfl) (by kernel_rfl) (fun _ _ _ h => h) (Or.inl ⟨by kernel_rfl, ?_⟩) (by assumption) ?_
  rotate_left
  · (intro w hSw; (try dsimp only at hSw); go_simp; all_goals (with_reducible rfl))
  (try simp only [Act.put, List.setIfInBounds_toArray, List.set_cons_zero, List.set_cons_succ])
  refine takeAt (i := 3) (d := 9) (v := ?_) rfl (by kernel_rfl) (by kernel_rfl) (by kernel_rfl) (by kernel_rfl) (fun _ _ _ h => h) (Or.inl ⟨by kernel_rfl, ?_⟩) (by assumption) ?_
  rotate_left
  · (intro w hSw; (try dsimp only at hSw); go_simp; all_goals (with_reducible rfl))
  (try simp only [Act.put, List.setIfInBounds_toArray, List.set_cons_zero, List.set_cons_succ])
  refine takeAt (i := 4) (d := 10) (v := ?_) rfl (by kernel_rfl) (by kernel_rfl) (by kernel_rfl) (by kernel_rfl) (fun _ _ _ h => h) (Or.inl ⟨by kernel_rfl, ?_⟩) (by assumption) ?_
  rotate_left
  · (intro w hSw; (try dsimp only at hSw); go_simp; all_goals (with_reducible rfl))
  (try simp only [Act.put, List.setIfInBounds_toArray, List.set_cons_zero, List.set_cons_succ])
  refine takeAt (i := 5) (d := 11) (v := ?_) rfl (by kernel_rfl) (by kernel_rfl) (by kernel_rfl) (by kernel_rfl) (fun _ _ _ h => h) (Or.inl ⟨by kernel_rfl, ?_⟩) (by assumption) ?_
  rotate_left
  · (intro w hSw; (try dsimp only at hSw); go_simp; all_goals (with_reducible rfl))
  (try simp only [Act.put, List.setIfInBounds_toArray, List.set_cons_zero, List.set_cons_succ])
  refine takeAt (i := 6) (d := 12) (v := ?_) rfl (by kernel_rfl) (by kernel_rfl) (by kernel_rfl) (by kernel_rfl) (fun _ _ _ h => h) (Or.inl ⟨by kernel_rfl, ?_⟩) (by assumption) ?_
  rotate_left
  · (intro w hSw; (try dsimp only at hSw); go_simp; all_goals (with_reducible rfl))
  (try simp only [Act.put, List.setIfInBounds_toArray, List.set_cons_zero, List.set_cons_succ])
  refine takeAt (i := 7) (d := 13) (v := ?_) rfl (by kernel_rfl) (by kernel_rfl) (by kernel_rfl) (by kernel_rfl) (fun _ _ _ h => h) (Or.inl ⟨by kernel_rfl, ?_⟩) (by assumption) ?_
  rotate_left
  · (intro w hSw; (try dsimp only at hSw); go_simp; all_goals (with_reducible rfl))
  (try simp only [Act.put, List.setIfInBounds_toArray, List.set_cons_zero, List.set_cons_succ])
  refine takeAt (i := 8) (d := 14) (v := ?_) rfl (by kernel_rfl) (by kernel_rfl) (by kernel_rfl) (by kernel_rfl) (fun _ _ _ h => h) (Or.inl ⟨by kernel_rfl, ?_⟩) (by assumption) ?_
  rotate_left
  · (intro w hSw; (try dsimp only at hSw); go_simp; all_goals (with_reducible rfl))
  (try simp only [Act.put, List.setIfInBounds_toArray, List.set_cons_zero, List.set_cons_succ])
  refine takeAt (i := 9) (d := 15) (v := ?_) rfl (by kernel_rfl) (by kernel_rfl) (by kernel_rfl) (by kernel_rfl) (fun _ _ _ h => h) (Or.inl ⟨by kernel_rfl, ?_⟩) (by assumption) ?_
  rotate_left
  · (intro w hSw; (try dsimp only at hSw); go_simp; all_goals (with_reducible rfl))
  (try simp only [Act.put, List.setIfInBounds_toArray, List.set_cons_zero, List.set_cons_succ])
  refine takeAt (i := 10) (d := 16) (v := ?_) rfl (by kernel_rfl) (by kernel_rfl) (by kernel_rfl) (by kernel_rfl) (fun _ _ _ h => h) (Or.inl ⟨by kernel_rfl, ?_⟩) (by assumption) ?_
  rotate_left
  · (intro w hSw; (try dsimp only at hSw); go_simp; all_goals (with_reducible rfl))
  (try simp only [Act.put, List.setIfInBounds_toArray, List.set_cons_zero, List.set_cons_succ])
  refine takeAt (i := 11) (d := 17) (v := ?_) rfl (by kernel_rfl) (by kernel_rfl) (by kernel_rfl) (by kernel_rfl) (fun _ _ _ h => h) (Or.inl ⟨by kernel_rfl, ?_⟩) (by assumption) ?_
  rotate_left
  · (intro w hSw; (try dsimp only at hSw); go_simp; all_goals (with_reducible rfl))
  (try simp only [Act.put, List.setIfInBounds_toArray, List.set_cons_zero, List.set_cons_succ])
  refine takeAt (i := 12) (d := 18) (v := ?_) rfl (by kernel_rfl) (by kernel_rfl) (by kernel_rfl) (by kernel_rfl) (fun _ _ _ h => h) (Or.inl ⟨by kernel_rfl, ?_⟩) (by assumption) ?_
  rotate_left
  · (intro w hSw; (try dsimp only at hSw); go_simp; all_goals (with_reducible rfl))
  (try simp only [Act.put, List.setIfInBounds_toArray, List.set_cons_zero, List.set_cons_succ])
  refine takeAt (i := 16) (d := 22) (v := ?_) rfl (by kernel_rfl) (by kernel_rfl) (by kernel_rfl) (by kernel_rfl) (fun _ _ _ h => h) (Or.inl ⟨by kernel_rfl, ?_⟩) (by assumption) ?_
  rotate_left
  · (intro w hSw; (try dsimp only at hSw); go_simp; all_goals (with_reducible rfl))
  (try simp only [Act.put, List.setIfInBounds_toArray, List.set_cons_zero, List.set_cons_succ])
  refine takeAt (i := 17) (d := 23) (v := ?_) rfl (by kernel_rfl) (by kernel_rfl) (by kernel_rfl) (by kernel_rfl) (fun _ _ _ h => h) (Or.inl ⟨by kernel_rfl, ?_⟩) (by assumption) ?_
  rotate_left
  · (intro w hSw; (try dsimp only at hSw); go_simp; all_goals (with_reducible rfl))
  (try simp only [Act.put, List.setIfInBounds_toArray, List.set_cons_zero, List.set_cons_succ])
  refine takeAt (i := 18) (d := 24) (v := ?_) rfl (by kernel_rfl) (by kernel_rfl) (by kernel_rfl) (by kernel_rfl) (fun _ _ _ h => h) (Or.inl ⟨by kernel_rfl, ?_⟩) (by assumption) ?_
  rotate_left
  · (intro w hSw; (try dsimp only at hSw); go_simp; all_goals (with_reducible rfl))
  (try simp only [Act.put, List.setIfInBounds_toArray, List.set_cons_zero, List.set_cons_succ])
  refine takeAt (i := 19) (d := 25) (v := ?_) rfl (by kernel_rfl) (by kernel_rfl) (by kernel_rfl) (by kernel_rfl) (fun _ _ _ h => h) (Or.inl ⟨by kernel_rfl, ?_⟩) (by assumption) ?_
  rotate_left
  · (intro w hSw; (try dsimp only at hSw); go_simp; all_goals (with_reducible rfl))
  (try simp only [Act.put, List.setIfInBounds_toArray, List.set_cons_zero, List.set_cons_succ])
  refine takeAt (i := 20) (d := 26) (v := ?_) rfl (by kernel_rfl) (by kernel_rfl) (by kernel_rfl) (by kernel_rfl) (fun _ _ _ h => h) (Or.inl ⟨by kernel_rfl, ?_⟩) (by assumption) ?_
  rotate_left
  · (intro w hSw; (try dsimp only at hSw); go_simp; all_goals (with_reducible rfl))
  (try simp only [Act.put, List.setIfInBounds_toArray, List.set_cons_zero, List.set_cons_succ])
  refine takeAt (i := 21) (d := 27) (v := ?_) rfl (by kernel_rfl) (by kernel_rfl) (by kernel_rfl) (by kernel_rfl) (fun _ _ _ h => h) (Or.inl ⟨by kernel_rfl, ?_⟩) (by assumption) ?_
  rotate_left
  · (intro w hSw; (try dsimp only at hSw); go_simp; all_goals (with_reducible rfl))
  (try simp only [Act.put, List.setIfInBounds_toArray, List.set_cons_zero, List.set_cons_succ])
  refine wpAnyH_ready (rs := [13]) (by kernel_rfl) (by simp) ?_
  refine AllReadyH.cons rfl (fun K hK => ?_) AllReadyH.nil
  go_simp
  refine (HI.out _).mono ?_
  rintro e w5 ⟨rfl, rfl⟩
  refine hK.out _ _ ⟨y0, x1, y20, x0, cS1, cS2⟩ (fun hHeld => ?_)
  (try refine stateAt (d := 19) (by kernel_rfl) ?_)
  (try simp only [Act.put, List.setIfInBounds_toArray, List.set_cons_zero, List.set_cons_succ])
  refine takeAt (i := 14) (d := 20) (v := ?_) rfl (by kernel_rfl) (by kernel_rfl) (by kernel_rfl) (by kernel_rfl) (fun _ _ _ h => h) (Or.inl ⟨by kernel_rfl, ?_⟩) (by assumption) ?_
  rotate_left
  · (intro w hSw; (try dsimp only at hSw); go_simp; all_goals (with_reducible rfl))
  (try simp only [Act.put, List.setIfInBounds_toArray, List.set_cons_zero, List.set_cons_succ])
  refine takeAt (i := 15) (d := 21) (v := ?_) rfl (by kernel_rfl) (by kernel_rfl) (by kernel_rfl) (by kernel_rfl) (fun _ _ _ h => h) (Or.inl ⟨by kernel_rfl, ?_⟩) (by assumption) ?_
  rotate_left
  · (intro w hSw; (try dsimp only at hSw); go_simp; all_goals (with_reducible rfl))
  (try simp only [Act.put, List.setIfInBounds_toArray, List.set_cons_zero, List.set_cons_succ])
  refine takeAt (i := 22) (d := 28) (v := ?_) rfl (by kernel_rfl) (by kernel_rfl) (by kernel_rfl) (by kernel_rfl) (fun _ _ _ h => h) (Or.inl ⟨by kernel_rfl, ?_⟩) (by assumption) ?_
  rotate_left
  · (intro w hSw; (try dsimp only at hSw); go_simp; all_goals (with_reducible rfl))
  (try simp only [Act.put, List.setIfInBounds_toArray, List.set_cons_zero, List.set_cons_succ])
  refine wpAnyH_ready (rs := [23]) (by kernel_rfl) (by simp) ?_
  refine AllReadyH.cons rfl (fun K hK => ?_) AllReadyH.nil
  go_simp
  have hba := below_alloc w1 (.cells #[.string par, .string res, .int .i64 at_, .int .u8 4, .string ⟨#[]⟩] 93)
  have hbs : Below w1.heap.size w1 (w1.alloc (.cells #[.string par, .string res, .int .i64 at_, .int .u8 4, .string ⟨#[]⟩] 93)).drew := hba.drew
  refine hK.out _ _ ⟨cell_below hba y0, cell_below hba x1, cell_below hba y20, cell_below hba x0, cell_below hba cS1, cell_below hba cS2⟩ (fun hHeld => ?_)
  (try refine stateAt (d := 29) (by kernel_rfl) ?_)
  (try simp only [Act.put, List.setIfInBounds_toArray, List.set_cons_zero, List.set_cons_succ])
  refine takeAt (i := 24) (d := 4) (v := ?_) rfl (by kernel_rfl) (by kernel_rfl) (by kernel_rfl) (by kernel_rfl) (fun _ _ _ h => h) (Or.inl ⟨by kernel_rfl, ?_⟩) (by assumption) ?_
  rotate_left
  · (intro w hSw; (try dsimp only at hSw); go_simp; all_goals (with_reducible rfl))
  (try simp only [Act.put, List.setIfInBounds_toArray, List.set_cons_zero, List.set_cons_succ])
  refine wpAnyH_done (by kernel_rfl) ?_ _
  have HFR := Lib.hid (HW.out.frs (Nat.le_refl _))
  have HXO : Hid (∀ b, k.X b → b ≠ w1.heap.size) := Lib.hid (fun b hb e => by have := (HW.out.al b hb).1; omega)
  have HW2 := Lib.hid (HW.out.on hbs)
  have HK2 := Lib.hid (HK.out.trans (Kn.on (k := k) hbs))
  have HN2 := Lib.hid ((hbs.block g (row_lt HN.out)).trans HN.out)
  have HG2 : Hid ((w1.alloc (.cells #[.string par, .string res, .int .i64 at_, .int .u8 4, .string ⟨#[]⟩] 93)).drew.heap[w1.heap.size]? = some (.cells #[.string par, .string res, .int .i64 at_, .int .u8 4, .string ⟨#[]⟩] 93 (0, 0))) := Lib.hid (heap_alloc_new w1 (.cells #[.string par, .string res, .int .i64 at_, .int .u8 4, .string ⟨#[]⟩] 93))
  have hBo : k.B ≤ w1.heap.size := HW.out.hi
  have hop : w1.heap.size ≠ k.p := by have := HW.out.lo; omega
  have hgo : g ≠ w1.heap.size := by have := row_lt HN.out; omega
  clear HW HK HN y0 x1 y20 x0 cS1 cS2 hba hbs HI hHeld
  generalize (w1.alloc (.cells #[.string par, .string res, .int .i64 at_, .int .u8 4, .string ⟨#[]⟩] 93)).drew = w2 at *
  generalize w1.heap.size = ob at *
  have x02 := row_cell HN2.out 0 rfl; have p0 := row_cell HG2.out 0 rfl
  simp only [List.getElem_toArray, List.getElem_cons_zero] at x02 p0
  have hcat : ¬ 9223372036854775807 < par.size + (⟨#[119]⟩ : ByteArray).size := by show ¬ 9223372036854775807 < par.size + 1; omega
  go_wp2_with (first
    | ((go_at_call 56; refine (val_popsQ HW2.out hne hle (by omega) (par ++ tWw) (by show (par ++ (⟨#[119]⟩ : ByteArray)).size ≤ 1000; rw [ByteArray.size_append]; show par.size + 1 ≤ 1000; omega)).mono ?_)
       rintro e w3 (⟨v2, h1, rfl, h2, h3⟩ | ⟨z, h1, rfl, h2, h3⟩)
       rotate_left
       · exact ⟨rfl, .inr ⟨z, opens_bad1 k.ctx HT.out HSG.out (by rw [if_pos rfl]) h1, rfl, h2, HK2.out.trans h3⟩⟩
       have y18 : w3.cell? ⟨k.p, 18, none⟩ = some (.string v2.shape) := h2.cell 18 rfl
       have hG3 := (h3.block ob (row_lt HG2.out) hop).trans HG2.out
       have fob := row_free hG3 4
       have cob : w3.cell? ⟨ob, 4, none⟩ = some (.string ⟨#[]⟩) := row_cell hG3 4 rfl
       have hs2 : v2.shape.size ≤ 256 := by rw [(pops_ok h1).1]; simp; omega
       have ho2 : v2.opens = v.opens := by rw [(pops_ok h1).1]
       have hf2 : v2.floors = v.floors := by rw [(pops_ok h1).1]
       have HG4 := Lib.hid (row_setCell hG3 4 (.string v2.shape))
       have HW3 := Lib.hid (h2.other HFR.out hBo 4 (.string v2.shape))
       have HK3 := Lib.hid ((HK2.out.trans h3).trans ((Keeps.refl (fun b => b ≠ ob) w3).setCell (a := ⟨ob, 4, none⟩) (by simp) (.string v2.shape)) (fun b hb => by rcases hb with hb | hb; (have := HW2.out.lo; omega); exact HXO.out b hb.2))
       have HP := Lib.hid h1
       have p03 := row_cell HG4.out 0 (u := .string par) rfl
       clear h1 h2 h3 hG3 HW2 HK2 HN2 HG2 x02 p0)
    | ((go_at_call 57; refine (val_pushesQ HW3.out (by omega) par (by omega)).mono ?_)
       rintro e w5 (⟨v3, h1, rfl, h2, h3⟩ | ⟨z, h1, rfl, h2, h3⟩)
       rotate_left
       · exact ⟨rfl, .inr ⟨z, opens_bad2 k.ctx HT.out HSG.out (by rw [if_pos rfl]) HP.out h1, rfl, h2, HK3.out.trans h3⟩⟩
       have hol3 : v3.opens.length ≤ 2147483648 := by rw [(pushes_ok h1).1]; show v2.opens.length ≤ _; rw [ho2]; exact hol
       have hf3 : at_ < v3.floors.length := by rw [(pushes_ok h1).1]; show at_ < v2.floors.length; rw [hf2]; exact hfl
       have HG5 := Lib.hid ((h3.block ob (row_lt HG4.out) hop).trans HG4.out)
       have HW5 := Lib.hid h2
       have HK5 := Lib.hid (HK3.out.trans h3)
       have HP2 := Lib.hid h1
       have hofl : OwnI k.B 3 w5 q.fv v3.floors := h2.fam.own (flE q v3) (by simp [Wq.ents])
       obtain ⟨gf, cf, efl, hgB, hgl, hgc, hgf⟩ := hofl.at_ hf3
       have y15 : w5.cell? ⟨k.p, 15, none⟩ = some q.fv := h2.cell 15 rfl
       have y20 : w5.cell? ⟨k.p, 20, none⟩ = some (.int .i64 at_) := h2.cell 20 rfl
       rw [efl] at y15
       have p4 : w5.cell? ⟨ob, 4, none⟩ = some (.string v2.shape) := row_cell HG5.out 4 (u := .string v2.shape) rfl
       have HGF : Hid (gf ≠ ob) := Lib.hid (fun e => own_ne hofl HG5.out (by decide) (by rw [efl, ← e]; rfl))
       have HEF := Lib.hid efl
       clear h1 h2 h3 HW3 HK3 HG4 hofl efl p03 ho2 hf2))
  go_still_tail 15, (by kernel_rfl)
  change wpList _ _ _ _ _ w5.drew
  have P := HW5.out.drew
  have HW6 := Lib.hid (P.1.floor HEF.out at_ (v2.shape.size : Nat)).1
  have HK6 := Lib.hid ((HK5.out.trans P.2).trans (P.1.floor HEF.out at_ (v2.shape.size : Nat)).2)
  have hgc' : w5.drew.cell? ⟨gf, at_, none⟩ = _ := hgc
  have hgf' : w5.drew.frozen? ⟨gf, at_, none⟩ = false := hgf
  have HG6 : Hid (w5.drew.heap[ob]? = _) := HG5
  clear HW5 HK5 HG5 P y15 y20 p4 hgc hgf hgl
  generalize w5.drew = w6 at *
  obtain ⟨w7, hw7⟩ : ∃ w7, w6.setCell ⟨gf, at_, none⟩ (.int .i64 (v2.shape.size : Nat)) = w7 := ⟨_, rfl⟩
  have HG7 : Hid (w7.heap[ob]? = some (.cells (opC ⟨par, res, at_, 4, v2.shape⟩) 93 (0, 0))) := Lib.hid (by
    rw [← hw7]
    exact (((Keeps.refl (fun b => b ≠ gf) w6).setCell (a := ⟨gf, at_, none⟩) (by simp) (.int .i64 (v2.shape.size : Nat))).block ob (row_lt HG6.out) (fun e => HGF.out e.symm)).trans HG6.out)
  rw [hw7] at HW6 HK6
  have y17 : w7.cell? ⟨k.p, 17, none⟩ = some q.ov := HW6.out.cell 17 rfl
  rw [← hw7] at y17
  have HA := Lib.hid (HW6.out.on (below_alloc w7 (.cells #[.pointer (some ⟨ob, 0, none⟩)] 91)))
  have HKA := Lib.hid (HK6.out.trans (Kn.on (k := k) (below_alloc w7 (.cells #[.pointer (some ⟨ob, 0, none⟩)] 91))))
  have HGA := Lib.hid (((below_alloc w7 (.cells #[.pointer (some ⟨ob, 0, none⟩)] 91)).block ob (row_lt HG7.out)).trans HG7.out)
  have HOA : Hid ((w7.alloc (.cells #[.pointer (some ⟨ob, 0, none⟩)] 91)).ownsRow k.B 91 1 q.ov v3.opens.length (q.ps.map ptrV)) := Lib.hid (HA.out.fam.own (opE q { v3 with floors := v3.floors.set at_ (v2.shape.size : Nat) }) (by simp [Wq.ents]))
  have HB7 : Hid (k.B ≤ (w7.alloc (.cells #[.pointer (some ⟨ob, 0, none⟩)] 91)).heap.size) := Lib.hid HA.out.hi
  clear HW6 HK6 HG6 HG7
  rw [← hw7] at HA HKA HGA HOA HB7
  clear hw7
  have HCN : Hid (∀ j u, [Value.pointer (some ⟨ob, 0, none⟩)][j]? = some u → ((w6.setCell ⟨gf, at_, none⟩ (.int .i64 (v2.shape.size : Nat))).alloc (.cells #[.pointer (some ⟨ob, 0, none⟩)] 91)).cell? ((⟨w6.heap.size, 0, none⟩ : Addr).add j) = some u) := Lib.hid (by
    have h9 := cells1_new (w6.setCell ⟨gf, at_, none⟩ (.int .i64 (v2.shape.size : Nat))) (.pointer (some ⟨ob, 0, none⟩)) 91
    rw [World.size_setCell] at h9
    exact h9)
  obtain ⟨oa, oc, hov, -⟩ := own_slice HOA.out
  have HOV := Lib.hid hov
  rw [hov] at y17 HOA
  clear hov
  go_wp2_with (at_builtin; (refine wpList_append_kept _ rfl _ _ 88 rfl k.B 91 i0 (.pointer none) 1 8 Tryd.underlying88 hi hz0 hz1 hz2 rfl (by decide) _ v3.opens.length (q.ps.map ptrV) rfl HOA.out ⟨_, 0, none⟩ 1 1 [.pointer (some ⟨ob, 0, none⟩)] rfl rfl HCN.out (by simp [Value.oneCell']) (by unfold maxLen; omega) (by omega) HB7.out ?_))
  intro v' w8 ho hk8 hf8
  rw [← HOV.out] at hk8 hf8
  obtain ⟨a8, c8, rfl, -⟩ := own_slice ho
  have hr8 := HA.out.kept_row hk8
  have f17 := row_free hr8 17
  have y17' := row_cell hr8 17 rfl
  obtain ⟨hP, hK⟩ := HA.out.push (x := ⟨par, res, at_, 4, v2.shape⟩) hk8 ho (fun g' hg' => by have := hf8 g' hg'; rw [World.size_alloc, World.size_setCell]; exact this) HGA.out
  have HPW := Lib.hid hP
  have HPK := Lib.hid (HKA.out.trans hK)
  clear ho hk8 hf8 hr8 hP hK HA HKA HGA HOA
  go_wp2
  exact bodyPost_end (results_none rfl _ _ _) rfl (.inl ⟨_, _, opens_end k.ctx HT.out HSG.out (by rw [if_pos rfl]) HP.out HP2.out, rfl, HPW.out, HPK.out⟩)
theorem val_opens {at_ : Nat} (h : Wv k w v at_ q) (hm : MOk k.m) (hne : 0 < v.opens.length) (hle : v.top.base.size ≤ v.shape.size) (hsz : v.shape.size ≤ 256) (hfl : at_ < v.floors.length) (hol : v.opens.length ≤ 2147483648) (x : InsD) (vl : Value) (hx : i64P x.a) (hop : x.op = 2 ∨ x.op = 3 ∨ x.op = 4) :
    Calls Tryd.prog 49 #[.pointer (some ⟨k.p, 0, none⟩), .agg (insW x vl)] w fun r w' => WE k w at_ (.tuple #[]) (opensV k.ctx v at_ x) r w' := by
  obtain ⟨op, a, l⟩ := x
  simp only at hx hop
  by_cases hno : 0 ≤ a ∧ a < k.m.types.length
  · obtain ⟨t, rfl⟩ : ∃ t : Nat, a = t := ⟨a.toNat, by omega⟩
    have ht : t < k.m.types.length := by omega
    rcases hop with rfl | rfl | rfl
    · exact val_opens_2 h hm hne hle hsz hfl hol t l vl ht
    · exact val_opens_3 h hm hne hle hsz hfl hol t l vl ht
    · exact val_opens_4 h hm hne hle hsz hfl hol t l vl ht
  · exact val_opens_no h op a l vl hx hno
end
end Go.Proofs.YtfhkjahjenpbgaaDoor
