/- The validator's rows: names. -/
import Derived.Test.YtfhkjahjenpbgaaDoorMVw4
namespace Go.Proofs.YtfhkjahjenpbgaaDoor
open Go Go.RowKit

section
variable {k : Wc} {w w' w1 : World} {v v1 : VwD} {pc : Int} {q : Wq} {b : Nat}
/-- What follows a letter. -/
theorem names_step (c : VcD) (x : InsD) {s : ByteArray} (h : letterV c x = .ok s) : namesV c v x = andV (if x.op ≠ 18 ∧ x.op ≠ 21 then popsV v s else .ok v) fun v1 => if x.op ≠ 19 ∧ x.op ≠ 22 then pushesV v1 s else .ok v1 := by
  unfold namesV; rw [h]; rfl
theorem letter_loc {c : VcD} {op : Nat} {a : Int} {l : List Int} (ho : op = 18 ∨ op = 19 ∨ op = 20) {n : Nat} (h : a = n) (hn : n < c.locals.size) : letterV c ⟨op, a, l⟩ = .ok (c.locals.extract n (n + 1)) := by
  subst h
  unfold letterV
  rw [if_neg (show ¬ (op = 21 ∨ op = 22) by omega), index_yes ⟨show (0 : Int) ≤ (n : Int) by omega, show (n : Int) < _ by omega⟩]; rfl
theorem letter_loc_no {c : VcD} {op : Nat} {a : Int} {l : List Int} (ho : op = 18 ∨ op = 19 ∨ op = 20) (h : ¬ (0 ≤ a ∧ a < c.locals.size)) : namesV c v ⟨op, a, l⟩ = .error 30 := by
  unfold namesV letterV
  rw [if_neg (show ¬ (op = 21 ∨ op = 22) by omega), index_no h]; rfl
theorem letter_glob_no {c : VcD} {op : Nat} {a : Int} {l : List Int} (ho : op = 21 ∨ op = 22) (h : ¬ (0 ≤ a ∧ a < c.globals.length)) : namesV c v ⟨op, a, l⟩ = .error 30 := by
  unfold namesV letterV
  rw [if_pos (show op = 21 ∨ op = 22 from ho), index_no h]; rfl
theorem letter_glob {c : VcD} {op : Nat} {a : Int} {l : List Int} (ho : op = 21 ∨ op = 22) {n : Nat} (h : a = n) (hn : n < c.globals.length) {le vv : Nat} {mu : Bool} (hg : c.globals.getD n ⟨0, false, 0⟩ = ⟨le, mu, vv⟩) (hm : op = 21 ∨ mu = true) : letterV c ⟨op, a, l⟩ = .ok ⟨#[UInt8.ofNat le]⟩ := by
  subst h
  unfold letterV
  rw [if_pos (show op = 21 ∨ op = 22 from ho), index_yes ⟨show (0 : Int) ≤ (n : Int) by omega, show (n : Int) < _ by omega⟩]
  simp only [andV, Int.toNat_natCast, hg]
  rw [if_pos hm]
theorem letter_mut {c : VcD} {a : Int} {l : List Int} {n : Nat} (h : a = n) (hn : n < c.globals.length) {le vv : Nat} (hg : c.globals.getD n ⟨0, false, 0⟩ = ⟨le, false, vv⟩) : namesV c v ⟨22, a, l⟩ = .error 39 := by
  subst h
  unfold namesV letterV
  rw [if_pos (by simp), index_yes ⟨show (0 : Int) ≤ (n : Int) by omega, show (n : Int) < _ by omega⟩]
  simp only [andV, Int.toNat_natCast, hg]
  simp
theorem set3_rowV {w : World} {g : Nat} {o0 o1 o2 : Value} {T : Nat} {fr : Nat × Nat} (h : w.heap[g]? = some (.cells #[o0, o1, o2] T fr)) (v0 v1 v2 : Value) :
    (((w.setCell ⟨g, 0, none⟩ v0).setCell ⟨g, 1, none⟩ v1).setCell ⟨g, 2, none⟩ v2).heap[g]? = some (.cells #[v0, v1, v2] T fr) := by
  simpa using row_setCell (row_setCell (row_setCell h 0 v0) 1 v1) 2 v2
theorem enc_small {n : Nat} (h : n < 128) : Utf8.encode (n : Int) = ⟨#[UInt8.ofNat n]⟩ := by
  have hv : Utf8.valid (n : Int) = true := by
    unfold Utf8.valid
    simp
    omega
  unfold Utf8.encode
  simp [h, hv]
theorem andV_pure {α : Type} (r : Except Int α) : (andV r fun x => .ok x) = r := by cases r <;> rfl
theorem pops1 (s : ByteArray) (n : Nat) (h : n < s.size) : (s.extract n (n + 1)).size = 1 := by simp; omega
set_option maxRecDepth 100000 in
set_option maxHeartbeats 1600000 in
theorem names_loc_no (h : Wv k w v pc q) (hlc : k.loc.size ≤ 140737488355328) (op : Nat) (a : Int) (l : List Int) (vl : Value) (ha : i64P a) (ho : op = 18 ∨ op = 19 ∨ op = 20) (hno : ¬ (0 ≤ a ∧ a < k.loc.size)) :
    Calls Tryd.prog 54 #[.pointer (some ⟨k.p, 0, none⟩), .agg #[.int .u8 op, .int .i64 a, vl]] w fun r w' => WE k w pc (.tuple #[]) (namesV k.ctx v ⟨op, a, l⟩) r w' := by
  have hb := below_alloc w (.cells #[.int .u8 op, .int .i64 a, vl] 68)
  have hnw := heap_alloc_new w (.cells #[.int .u8 op, .int .i64 a, vl] 68)
  have HW := Lib.hid (h.on hb)
  have HK := Lib.hid (Kw.on (k := k) hb)
  have x0 := row_cell hnw 0 rfl; have x1 := row_cell hnw 1 rfl
  simp only [List.getElem_toArray, List.getElem_cons_zero, List.getElem_cons_succ] at x0 x1
  have y10 : (w.alloc (.cells #[.int .u8 op, .int .i64 a, vl] 68)).cell? ⟨k.p, 10, none⟩ = some (.string k.loc) := HW.out.cell 10 rfl
  have HR : Hid (namesV k.ctx v ⟨op, a, l⟩ = .error 30) := Lib.hid (letter_loc_no ho hno)
  have HI := Lib.hid (fun W : World => val_index_no W a _ ha hno hlc)
  have c21 : ((op : Int) == 21) = false := by simp; omega
  have c22 : ((op : Int) == 22) = false := by simp; omega
  clear h hb hnw hno ho
  go_enter Tryd.func54, Tryd.ntmps54
  go_wp2_with fail
  generalize w.alloc (.cells #[.int .u8 op, .int .i64 a, vl] 68) = w1 at *
  generalize w.heap.size = g at *
  refine wp_region_held_drew (S := (fun wx => wx.cell? ⟨k.p, 10, none⟩ = some (.string k.loc) ∧ wx.cell? ⟨g, 1, none⟩ = some (.int .i64 a))) (by kernel_rfl) ⟨y10, x1⟩ (fun hHeld => ?_)
  refine takeAt (i := 0) (d := 43) (v := ?_) rfl (by kernel_rfl) (by kernel_rfl) (by kernel_rfl) (by kernel_rfl) (fun _ _ _ h => h) (Or.inl ⟨by kernel_rfl, ?_⟩) (by assumption) ?_
  rotate_left
  · (intro w hSw; (try dsimp only at hSw); go_simp; all_goals (with_reducible rfl))
  (try simp only [Act.put, List.setIfInBounds_toArray, List.set_cons_zero, List.set_cons_succ])
  refine takeAt (i := 1) (d := 44) (v := ?_) rfl (by kernel_rfl) (by kernel_rfl) (by kernel_rfl) (by kernel_rfl) (fun _ _ _ h => h) (Or.inl ⟨by kernel_rfl, ?_⟩) (by assumption) ?_
  rotate_left
  · (intro w hSw; (try dsimp only at hSw); go_simp; all_goals (with_reducible rfl))
  (try simp only [Act.put, List.setIfInBounds_toArray, List.set_cons_zero, List.set_cons_succ])
  refine takeAt (i := 2) (d := 45) (v := ?_) rfl (by kernel_rfl) (by kernel_rfl) (by kernel_rfl) (by kernel_rfl) (fun _ _ _ h => h) (Or.inl ⟨by kernel_rfl, ?_⟩) (by assumption) ?_
  rotate_left
  · (intro w hSw; (try dsimp only at hSw); go_simp; all_goals (with_reducible rfl))
  (try simp only [Act.put, List.setIfInBounds_toArray, List.set_cons_zero, List.set_cons_succ])
  refine takeAt (i := 3) (d := 46) (v := ?_) rfl (by kernel_rfl) (by kernel_rfl) (by kernel_rfl) (by kernel_rfl) (fun _ _ _ h => h) (Or.inl ⟨by kernel_rfl, ?_⟩) (by assumption) ?_
  rotate_left
  · (intro w hSw; (try dsimp only at hSw); go_simp; all_goals (with_reducible rfl))
  (try simp only [Act.put, List.setIfInBounds_toArray, List.set_cons_zero, List.set_cons_succ])
  refine takeAt (i := 4) (d := 47) (v := ?_) rfl (by kernel_rfl) (by kernel_rfl) (by kernel_rfl) (by kernel_rfl) (fun _ _ _ h => h) (Or.inl ⟨by kernel_rfl, ?_⟩) (by assumption) ?_
  rotate_left
  · (intro w hSw; (try dsimp only at hSw); go_simp; all_goals (with_reducible rfl))
  (try simp only [Act.put, List.setIfInBounds_toArray, List.set_cons_zero, List.set_cons_succ])
  refine takeAt (i := 5) (d := 48) (v := ?_) rfl (by kernel_rfl) (by kernel_rfl) (by kernel_rfl) (by kernel_rfl) (fun _ _ _ h => h) (Or.inl ⟨by kernel_rfl, ?_⟩) (by assumption) ?_
  rotate_left
  · (intro w hSw; (try dsimp only at hSw); go_simp; all_goals (with_reducible rfl))
  (try simp only [Act.put, List.setIfInBounds_toArray, List.set_cons_zero, List.set_cons_succ])
  refine takeAt (i := 6) (d := 49) (v := ?_) rfl (by kernel_rfl) (by kernel_rfl) (by kernel_rfl) (by kernel_rfl) (fun _ _ _ h => h) (Or.inl ⟨by kernel_rfl, ?_⟩) (by assumption) ?_
  rotate_left
  · (intro w hSw; (try dsimp only at hSw); go_simp; all_goals (with_reducible rfl))
  (try simp only [Act.put, List.setIfInBounds_toArray, List.set_cons_zero, List.set_cons_succ])
  refine wpAnyH_ready (rs := [7]) (by kernel_rfl) (by simp) ?_
  refine AllReadyH.cons rfl (fun K hK => ?_) AllReadyH.nil
  go_simp
  refine (HI.out _).mono ?_
  rintro e w5 ⟨rfl, rfl⟩
  exact ⟨rfl, .inr ⟨30, HR.out, rfl, HW.out.drew.1.cell 20 rfl, HK.out.trans HW.out.drew.2⟩⟩
set_option maxRecDepth 100000 in
set_option maxHeartbeats 3200000 in
theorem names_loc_18 (h : Wv k w v pc q) (hsz : v.shape.size ≤ 1000) (hlc : k.loc.size ≤ 140737488355328) (n : Nat) (l : List Int) (vl : Value) (hn : n < k.loc.size) :
    Calls Tryd.prog 54 #[.pointer (some ⟨k.p, 0, none⟩), .agg #[.int .u8 18, .int .i64 n, vl]] w fun r w' => WE k w pc (.tuple #[]) (namesV k.ctx v ⟨18, n, l⟩) r w' := by
  have hb := below_alloc w (.cells #[.int .u8 18, .int .i64 n, vl] 68)
  have hnw := heap_alloc_new w (.cells #[.int .u8 18, .int .i64 n, vl] 68)
  have HW := Lib.hid (h.on hb)
  have HK := Lib.hid (Kw.on (k := k) hb)
  have hgp : w.heap.size ≠ k.p := by have := row_lt h.row; omega
  have x0 := row_cell hnw 0 rfl; have x1 := row_cell hnw 1 rfl
  simp only [List.getElem_toArray, List.getElem_cons_zero, List.getElem_cons_succ] at x0 x1
  have y10 : (w.alloc (.cells #[.int .u8 18, .int .i64 n, vl] 68)).cell? ⟨k.p, 10, none⟩ = some (.string k.loc) := HW.out.cell 10 rfl
  obtain ⟨s, hs⟩ : ∃ s, k.loc.extract n (n + 1) = s := ⟨_, rfl⟩
  have hs1 : s.size = 1 := by rw [← hs]; exact pops1 _ _ hn
  have HR : Hid (namesV k.ctx v ⟨18, n, l⟩ = pushesV v s) := Lib.hid (by
    rw [names_step k.ctx _ (letter_loc (by omega) rfl hn), show k.ctx.locals = k.loc from rfl, hs]; rfl)
  have HI := Lib.hid (fun W : World => val_index_ok W n _ hn hlc)
  clear h hb
  go_enter Tryd.func54, Tryd.ntmps54
  go_wp2_with fail
  generalize w.alloc (.cells #[.int .u8 18, .int .i64 n, vl] 68) = w1 at *
  generalize w.heap.size = g at *
  have HN := Lib.hid hnw
  clear hnw
  go_quiet ((go_at_call 62; exact Calls.quiet_of_same (HI.out _)))
  have hq : Below w1.heap.size w1 (w1.drewN nq) := bel_drewV (Below.refl _ _) nq
  have HW1 := Lib.hid (HW.out.on hq)
  have HK1 := Lib.hid (HK.out.trans (Kn.on (k := k) hq))
  have HN1 : Hid ((w1.drewN nq).heap[g]? = _) := HN
  have x01 : (w1.drewN nq).cell? ⟨g, 0, none⟩ = _ := x0
  have y101 : (w1.drewN nq).cell? ⟨k.p, 10, none⟩ = _ := y10
  clear HW HK x0 x1 y10 HI hq HN
  have HN := HN1
  clear HN1
  generalize w1.drewN nq = w2 at *
  have e1 : IntKind.i64.wrap ((n : Int) + 1) = (n : Int) + 1 := IntWalk.i64_in _ (by omega)
  have e2 : ((n : Int) + 1).toNat = n + 1 := by omega
  have e3 : (n : Int) ≤ (n : Int) + 1 := by omega
  have e4 : (n : Int) + 1 ≤ k.loc.size := by omega
  have e5 : (0 : Int) ≤ (n : Int) + 1 := by omega
  go_wp2_with (first
    | ((go_at_call 57; refine (val_pushes HW1.out hsz _ (by omega)).mono ?_)
       rintro e w4 (⟨v3, q3, h1, rfl, h2, h3⟩ | ⟨z, h1, rfl, h2, h3⟩)
       rotate_left
       · exact ⟨rfl, .inr ⟨z, HR.out.trans h1, rfl, h2, HK1.out.trans h3⟩⟩))
  exact bodyPost_end (results_none rfl _ _ _) rfl (.inl ⟨v3, q3, HR.out.trans h1, rfl, h2, HK1.out.trans h3⟩)
set_option maxRecDepth 100000 in
set_option maxHeartbeats 3200000 in
theorem names_loc_19 (h : Wv k w v pc q) (hne : 0 < v.opens.length) (hle : v.top.base.size ≤ v.shape.size) (hsz : v.shape.size ≤ 1000) (hlc : k.loc.size ≤ 140737488355328) (n : Nat) (l : List Int) (vl : Value) (hn : n < k.loc.size) :
    Calls Tryd.prog 54 #[.pointer (some ⟨k.p, 0, none⟩), .agg #[.int .u8 19, .int .i64 n, vl]] w fun r w' => WE k w pc (.tuple #[]) (namesV k.ctx v ⟨19, n, l⟩) r w' := by
  have hb := below_alloc w (.cells #[.int .u8 19, .int .i64 n, vl] 68)
  have hnw := heap_alloc_new w (.cells #[.int .u8 19, .int .i64 n, vl] 68)
  have HW := Lib.hid (h.on hb)
  have HK := Lib.hid (Kw.on (k := k) hb)
  have hgp : w.heap.size ≠ k.p := by have := row_lt h.row; omega
  have x0 := row_cell hnw 0 rfl; have x1 := row_cell hnw 1 rfl
  simp only [List.getElem_toArray, List.getElem_cons_zero, List.getElem_cons_succ] at x0 x1
  have y10 : (w.alloc (.cells #[.int .u8 19, .int .i64 n, vl] 68)).cell? ⟨k.p, 10, none⟩ = some (.string k.loc) := HW.out.cell 10 rfl
  obtain ⟨s, hs⟩ : ∃ s, k.loc.extract n (n + 1) = s := ⟨_, rfl⟩
  have hs1 : s.size = 1 := by rw [← hs]; exact pops1 _ _ hn
  have HR : Hid (namesV k.ctx v ⟨19, n, l⟩ = popsV v s) := Lib.hid (by
    rw [names_step k.ctx _ (letter_loc (by omega) rfl hn), show k.ctx.locals = k.loc from rfl, hs]; exact andV_pure _)
  have HI := Lib.hid (fun W : World => val_index_ok W n _ hn hlc)
  clear h hb
  go_enter Tryd.func54, Tryd.ntmps54
  go_wp2_with fail
  generalize w.alloc (.cells #[.int .u8 19, .int .i64 n, vl] 68) = w1 at *
  generalize w.heap.size = g at *
  have HN := Lib.hid hnw
  clear hnw
  go_quiet ((go_at_call 62; exact Calls.quiet_of_same (HI.out _)))
  have hq : Below w1.heap.size w1 (w1.drewN nq) := bel_drewV (Below.refl _ _) nq
  have HW1 := Lib.hid (HW.out.on hq)
  have HK1 := Lib.hid (HK.out.trans (Kn.on (k := k) hq))
  have HN1 : Hid ((w1.drewN nq).heap[g]? = _) := HN
  have x01 : (w1.drewN nq).cell? ⟨g, 0, none⟩ = _ := x0
  have y101 : (w1.drewN nq).cell? ⟨k.p, 10, none⟩ = _ := y10
  clear HW HK x0 x1 y10 HI hq HN
  have HN := HN1
  clear HN1
  generalize w1.drewN nq = w2 at *
  have e1 : IntKind.i64.wrap ((n : Int) + 1) = (n : Int) + 1 := IntWalk.i64_in _ (by omega)
  have e2 : ((n : Int) + 1).toNat = n + 1 := by omega
  have e3 : (n : Int) ≤ (n : Int) + 1 := by omega
  have e4 : (n : Int) + 1 ≤ k.loc.size := by omega
  have e5 : (0 : Int) ≤ (n : Int) + 1 := by omega
  go_wp2_with (first
    | ((go_at_call 56; refine (val_pops HW1.out hne hle hsz _ (by omega)).mono ?_)
       rintro e w3 (⟨v2, q2, h1, rfl, h2, h3⟩ | ⟨z, h1, rfl, h2, h3⟩)
       rotate_left
       · exact ⟨rfl, .inr ⟨z, by rw [HR.out, h1], rfl, h2, HK1.out.trans h3⟩⟩
       have HW3 := Lib.hid h2
       have HK3 := Lib.hid (HK1.out.trans h3)
       have x03 := row_cell ((h3.block g (row_lt HN.out) hgp).trans HN.out) 0 rfl
       simp only [List.getElem_toArray, List.getElem_cons_zero] at x03
       have HR3 := Lib.hid (HR.out.trans h1)
       clear h1 HR
       clear h2 h3 HW1 HK1))
  exact bodyPost_end (results_none rfl _ _ _) rfl (.inl ⟨v2, q2, HR3.out, rfl, HW3.out, HK3.out⟩)
set_option maxRecDepth 100000 in
set_option maxHeartbeats 3200000 in
theorem names_loc_20 (h : Wv k w v pc q) (hne : 0 < v.opens.length) (hle : v.top.base.size ≤ v.shape.size) (hsz : v.shape.size ≤ 1000) (hlc : k.loc.size ≤ 140737488355328) (n : Nat) (l : List Int) (vl : Value) (hn : n < k.loc.size) :
    Calls Tryd.prog 54 #[.pointer (some ⟨k.p, 0, none⟩), .agg #[.int .u8 20, .int .i64 n, vl]] w fun r w' => WE k w pc (.tuple #[]) (namesV k.ctx v ⟨20, n, l⟩) r w' := by
  have hb := below_alloc w (.cells #[.int .u8 20, .int .i64 n, vl] 68)
  have hnw := heap_alloc_new w (.cells #[.int .u8 20, .int .i64 n, vl] 68)
  have HW := Lib.hid (h.on hb)
  have HK := Lib.hid (Kw.on (k := k) hb)
  have hgp : w.heap.size ≠ k.p := by have := row_lt h.row; omega
  have x0 := row_cell hnw 0 rfl; have x1 := row_cell hnw 1 rfl
  simp only [List.getElem_toArray, List.getElem_cons_zero, List.getElem_cons_succ] at x0 x1
  have y10 : (w.alloc (.cells #[.int .u8 20, .int .i64 n, vl] 68)).cell? ⟨k.p, 10, none⟩ = some (.string k.loc) := HW.out.cell 10 rfl
  obtain ⟨s, hs⟩ : ∃ s, k.loc.extract n (n + 1) = s := ⟨_, rfl⟩
  have hs1 : s.size = 1 := by rw [← hs]; exact pops1 _ _ hn
  have HR : Hid (namesV k.ctx v ⟨20, n, l⟩ = andV (popsV v s) fun v1 => pushesV v1 s) := Lib.hid (by
    rw [names_step k.ctx _ (letter_loc (by omega) rfl hn), show k.ctx.locals = k.loc from rfl, hs]; rfl)
  have HI := Lib.hid (fun W : World => val_index_ok W n _ hn hlc)
  clear h hb
  go_enter Tryd.func54, Tryd.ntmps54
  go_wp2_with fail
  generalize w.alloc (.cells #[.int .u8 20, .int .i64 n, vl] 68) = w1 at *
  generalize w.heap.size = g at *
  have HN := Lib.hid hnw
  clear hnw
  go_quiet ((go_at_call 62; exact Calls.quiet_of_same (HI.out _)))
  have hq : Below w1.heap.size w1 (w1.drewN nq) := bel_drewV (Below.refl _ _) nq
  have HW1 := Lib.hid (HW.out.on hq)
  have HK1 := Lib.hid (HK.out.trans (Kn.on (k := k) hq))
  have HN1 : Hid ((w1.drewN nq).heap[g]? = _) := HN
  have x01 : (w1.drewN nq).cell? ⟨g, 0, none⟩ = _ := x0
  have y101 : (w1.drewN nq).cell? ⟨k.p, 10, none⟩ = _ := y10
  clear HW HK x0 x1 y10 HI hq HN
  have HN := HN1
  clear HN1
  generalize w1.drewN nq = w2 at *
  have e1 : IntKind.i64.wrap ((n : Int) + 1) = (n : Int) + 1 := IntWalk.i64_in _ (by omega)
  have e2 : ((n : Int) + 1).toNat = n + 1 := by omega
  have e3 : (n : Int) ≤ (n : Int) + 1 := by omega
  have e4 : (n : Int) + 1 ≤ k.loc.size := by omega
  have e5 : (0 : Int) ≤ (n : Int) + 1 := by omega
  go_wp2_with (first
    | ((go_at_call 56; refine (val_pops HW1.out hne hle hsz _ (by omega)).mono ?_)
       rintro e w3 (⟨v2, q2, h1, rfl, h2, h3⟩ | ⟨z, h1, rfl, h2, h3⟩)
       rotate_left
       · exact ⟨rfl, .inr ⟨z, by rw [HR.out, h1]; rfl, rfl, h2, HK1.out.trans h3⟩⟩
       have HW3 := Lib.hid h2
       have HK3 := Lib.hid (HK1.out.trans h3)
       have x03 := row_cell ((h3.block g (row_lt HN.out) hgp).trans HN.out) 0 rfl
       simp only [List.getElem_toArray, List.getElem_cons_zero] at x03
       have HR2 : Hid (namesV k.ctx v ⟨20, n, l⟩ = pushesV v2 s) := Lib.hid (by rw [HR.out, h1]; rfl)
       have hsz2 : v2.shape.size ≤ 1000 := by rw [(pops_ok h1).1]; simp; omega
       clear h1 HR
       clear h2 h3 HW1 HK1)
    | ((go_at_call 57; refine (val_pushes HW3.out hsz2 _ (by omega)).mono ?_)
       rintro e w4 (⟨v3, q3, h1, rfl, h2, h3⟩ | ⟨z, h1, rfl, h2, h3⟩)
       rotate_left
       · exact ⟨rfl, .inr ⟨z, HR2.out.trans h1, rfl, h2, HK3.out.trans h3⟩⟩))
  exact bodyPost_end (results_none rfl _ _ _) rfl (.inl ⟨v3, q3, HR2.out.trans h1, rfl, h2, HK3.out.trans h3⟩)
set_option maxRecDepth 100000 in
set_option maxHeartbeats 1600000 in
theorem names_glob_no (h : Wv k w v pc q) (op : Nat) (a : Int) (l : List Int) (vl : Value) (ha : i64P a) (ho : op = 21 ∨ op = 22) (hno : ¬ (0 ≤ a ∧ a < k.m.globals.length)) :
    Calls Tryd.prog 54 #[.pointer (some ⟨k.p, 0, none⟩), .agg #[.int .u8 op, .int .i64 a, vl]] w fun r w' => WE k w pc (.tuple #[]) (namesV k.ctx v ⟨op, a, l⟩) r w' := by
  have hb := below_alloc w (.cells #[.int .u8 op, .int .i64 a, vl] 68)
  have hnw := heap_alloc_new w (.cells #[.int .u8 op, .int .i64 a, vl] 68)
  have HW := Lib.hid (h.on hb)
  have HK := Lib.hid (Kw.on (k := k) hb)
  have x0 := row_cell hnw 0 rfl; have x1 := row_cell hnw 1 rfl
  simp only [List.getElem_toArray, List.getElem_cons_zero, List.getElem_cons_succ] at x0 x1
  obtain ⟨-, -, ⟨ag, cg, eg, lg⟩, -⟩ := h.rd.lens
  have y2 : (w.alloc (.cells #[.int .u8 op, .int .i64 a, vl] 68)).cell? ⟨k.p, 2, none⟩ = some k.gv := HW.out.cell 2 rfl
  rw [eg] at y2
  have HR : Hid (namesV k.ctx v ⟨op, a, l⟩ = .error 30) := Lib.hid (letter_glob_no ho hno)
  have HI := Lib.hid (fun W : World => val_index_no W a _ ha hno lg)
  have c21 : ((op : Int) == 21 || (op : Int) == 22) = true := by simp; omega
  clear h hb hnw hno eg
  rcases ho with rfl | rfl
  · go_enter Tryd.func54, Tryd.ntmps54
    go_wp2_with fail
    generalize w.alloc (.cells #[.int .u8 21, .int .i64 a, vl] 68) = w1 at *
    generalize w.heap.size = g at *
    refine wp_region_held_drew (S := (fun wx => wx.cell? ⟨k.p, 2, none⟩ = some (.slice ag k.m.globals.length cg) ∧ wx.cell? ⟨g, 1, none⟩ = some (.int .i64 a))) (by kernel_rfl) ⟨y2, x1⟩ (fun hHeld => ?_)
    refine takeAt (i := 0) (d := 15) (v := ?_) rfl (by kernel_rfl) (by kernel_rfl) (by kernel_rfl) (by kernel_rfl) (fun _ _ _ h => h) (Or.inl ⟨by kernel_rfl, ?_⟩) (by assumption) ?_
    rotate_left
    · (intro w hSw; (try dsimp only at hSw); go_simp; all_goals (with_reducible rfl))
    (try simp only [Act.put, List.setIfInBounds_toArray, List.set_cons_zero, List.set_cons_succ])
    refine takeAt (i := 1) (d := 16) (v := ?_) rfl (by kernel_rfl) (by kernel_rfl) (by kernel_rfl) (by kernel_rfl) (fun _ _ _ h => h) (Or.inl ⟨by kernel_rfl, ?_⟩) (by assumption) ?_
    rotate_left
    · (intro w hSw; (try dsimp only at hSw); go_simp; all_goals (with_reducible rfl))
    (try simp only [Act.put, List.setIfInBounds_toArray, List.set_cons_zero, List.set_cons_succ])
    refine takeAt (i := 2) (d := 17) (v := ?_) rfl (by kernel_rfl) (by kernel_rfl) (by kernel_rfl) (by kernel_rfl) (fun _ _ _ h => h) (Or.inl ⟨by kernel_rfl, ?_⟩) (by assumption) ?_
    rotate_left
    · (intro w hSw; (try dsimp only at hSw); go_simp; all_goals (with_reducible rfl))
    (try simp only [Act.put, List.setIfInBounds_toArray, List.set_cons_zero, List.set_cons_succ])
    refine takeAt (i := 3) (d := 18) (v := ?_) rfl (by kernel_rfl) (by kernel_rfl) (by kernel_rfl) (by kernel_rfl) (fun _ _ _ h => h) (Or.inl ⟨by kernel_rfl, ?_⟩) (by assumption) ?_
    rotate_left
    · (intro w hSw; (try dsimp only at hSw); go_simp; all_goals (with_reducible rfl))
    (try simp only [Act.put, List.setIfInBounds_toArray, List.set_cons_zero, List.set_cons_succ])
    refine takeAt (i := 4) (d := 19) (v := ?_) rfl (by kernel_rfl) (by kernel_rfl) (by kernel_rfl) (by kernel_rfl) (fun _ _ _ h => h) (Or.inl ⟨by kernel_rfl, ?_⟩) (by assumption) ?_
    rotate_left
    · (intro w hSw; (try dsimp only at hSw); go_simp; all_goals (with_reducible rfl))
    (try simp only [Act.put, List.setIfInBounds_toArray, List.set_cons_zero, List.set_cons_succ])
    refine takeAt (i := 5) (d := 20) (v := ?_) rfl (by kernel_rfl) (by kernel_rfl) (by kernel_rfl) (by kernel_rfl) (fun _ _ _ h => h) (Or.inl ⟨by kernel_rfl, ?_⟩) (by assumption) ?_
    rotate_left
    · (intro w hSw; (try dsimp only at hSw); go_simp; all_goals (with_reducible rfl))
    (try simp only [Act.put, List.setIfInBounds_toArray, List.set_cons_zero, List.set_cons_succ])
    refine takeAt (i := 6) (d := 21) (v := ?_) rfl (by kernel_rfl) (by kernel_rfl) (by kernel_rfl) (by kernel_rfl) (fun _ _ _ h => h) (Or.inl ⟨by kernel_rfl, ?_⟩) (by assumption) ?_
    rotate_left
    · (intro w hSw; (try dsimp only at hSw); go_simp; all_goals (with_reducible rfl))
    (try simp only [Act.put, List.setIfInBounds_toArray, List.set_cons_zero, List.set_cons_succ])
    refine takeAt (i := 7) (d := 22) (v := ?_) rfl (by kernel_rfl) (by kernel_rfl) (by kernel_rfl) (by kernel_rfl) (fun _ _ _ h => h) (Or.inl ⟨by kernel_rfl, ?_⟩) (by assumption) ?_
    rotate_left
    · (intro w hSw; (try dsimp only at hSw); go_simp; all_goals (with_reducible rfl))
    (try simp only [Act.put, List.setIfInBounds_toArray, List.set_cons_zero, List.set_cons_succ])
    refine takeAt (i := 8) (d := 23) (v := ?_) rfl (by kernel_rfl) (by kernel_rfl) (by kernel_rfl) (by kernel_rfl) (fun _ _ _ h => h) (Or.inl ⟨by kernel_rfl, ?_⟩) (by assumption) ?_
    rotate_left
    · (intro w hSw; (try dsimp only at hSw); go_simp; all_goals (with_reducible rfl))
    (try simp only [Act.put, List.setIfInBounds_toArray, List.set_cons_zero, List.set_cons_succ])
    refine takeAt (i := 9) (d := 24) (v := ?_) rfl (by kernel_rfl) (by kernel_rfl) (by kernel_rfl) (by kernel_rfl) (fun _ _ _ h => h) (Or.inl ⟨by kernel_rfl, ?_⟩) (by assumption) ?_
    rotate_left
    · (intro w hSw; (try dsimp only at hSw); go_simp; all_goals (with_reducible rfl))
    (try simp only [Act.put, List.setIfInBounds_toArray, List.set_cons_zero, List.set_cons_succ])
    refine takeAt (i := 10) (d := 25) (v := ?_) rfl (by kernel_rfl) (by kernel_rfl) (by kernel_rfl) (by kernel_rfl) (fun _ _ _ h => h) (Or.inl ⟨by kernel_rfl, ?_⟩) (by assumption) ?_
    rotate_left
    · (intro w hSw; (try dsimp only at hSw); go_simp; all_goals (with_reducible rfl))
    (try simp only [Act.put, List.setIfInBounds_toArray, List.set_cons_zero, List.set_cons_succ])
    refine takeAt (i := 11) (d := 26) (v := ?_) rfl (by kernel_rfl) (by kernel_rfl) (by kernel_rfl) (by kernel_rfl) (fun _ _ _ h => h) (Or.inl ⟨by kernel_rfl, ?_⟩) (by assumption) ?_
    rotate_left
    · (intro w hSw; (try dsimp only at hSw); go_simp; all_goals (with_reducible rfl))
    (try simp only [Act.put, List.setIfInBounds_toArray, List.set_cons_zero, List.set_cons_succ])
    refine takeAt (i := 12) (d := 27) (v := ?_) rfl (by kernel_rfl) (by kernel_rfl) (by kernel_rfl) (by kernel_rfl) (fun _ _ _ h => h) (Or.inl ⟨by kernel_rfl, ?_⟩) (by assumption) ?_
    rotate_left
    · (intro w hSw; (try dsimp only at hSw); go_simp; all_goals (with_reducible rfl))
    (try simp only [Act.put, List.setIfInBounds_toArray, List.set_cons_zero, List.set_cons_succ])
    refine wpAnyH_ready (rs := [13, 16]) (by kernel_rfl) (by simp) ?_
    refine AllReadyH.cons rfl (fun K hK => ?_) (AllReadyH.cons rfl (fun K hK => ?_) AllReadyH.nil)
    · go_simp
      refine (HI.out _).mono ?_
      rintro e w5 ⟨rfl, rfl⟩
      exact ⟨rfl, .inr ⟨30, HR.out, rfl, HW.out.drew.1.cell 20 rfl, HK.out.trans HW.out.drew.2⟩⟩
    · go_simp
      have P := HW.out.drew
      have hba := below_alloc w1.drew (.cells #[.int .u8 0, .bool false, .int .u64 0] 66)
      have HWA := Lib.hid (P.1.on hba)
      have HKA := Lib.hid ((HK.out.trans P.2).trans (Kn.on (k := k) hba))
      have z0 := cell_below hba (show w1.drew.cell? _ = _ from y2)
      have z1 := cell_below hba (show w1.drew.cell? _ = _ from x1)
      refine hK.out _ _ ⟨z0, z1⟩ (fun hHeld => ?_)
      (try refine stateAt (d := 5) (by kernel_rfl) ?_)
      (try simp only [Act.put, List.setIfInBounds_toArray, List.set_cons_zero, List.set_cons_succ])
      refine wpAnyH_ready (rs := [13]) (by kernel_rfl) (by simp) ?_
      refine AllReadyH.cons rfl (fun K hK => ?_) AllReadyH.nil
      go_simp
      refine (HI.out _).mono ?_
      rintro e w5 ⟨rfl, rfl⟩
      exact ⟨rfl, .inr ⟨30, HR.out, rfl, HWA.out.cell 20 rfl, HKA.out⟩⟩
  · go_enter Tryd.func54, Tryd.ntmps54
    go_wp2_with fail
    generalize w.alloc (.cells #[.int .u8 22, .int .i64 a, vl] 68) = w1 at *
    generalize w.heap.size = g at *
    refine wp_region_held_drew (S := (fun wx => wx.cell? ⟨k.p, 2, none⟩ = some (.slice ag k.m.globals.length cg) ∧ wx.cell? ⟨g, 1, none⟩ = some (.int .i64 a))) (by kernel_rfl) ⟨y2, x1⟩ (fun hHeld => ?_)
    refine takeAt (i := 0) (d := 15) (v := ?_) rfl (by kernel_rfl) (by kernel_rfl) (by kernel_rfl) (by kernel_rfl) (fun _ _ _ h => h) (Or.inl ⟨by kernel_rfl, ?_⟩) (by assumption) ?_
    rotate_left
    · (intro w hSw; (try dsimp only at hSw); go_simp; all_goals (with_reducible rfl))
    (try simp only [Act.put, List.setIfInBounds_toArray, List.set_cons_zero, List.set_cons_succ])
    refine takeAt (i := 1) (d := 16) (v := ?_) rfl (by kernel_rfl) (by kernel_rfl) (by kernel_rfl) (by kernel_rfl) (fun _ _ _ h => h) (Or.inl ⟨by kernel_rfl, ?_⟩) (by assumption) ?_
    rotate_left
    · (intro w hSw; (try dsimp only at hSw); go_simp; all_goals (with_reducible rfl))
    (try simp only [Act.put, List.setIfInBounds_toArray, List.set_cons_zero, List.set_cons_succ])
    refine takeAt (i := 2) (d := 17) (v := ?_) rfl (by kernel_rfl) (by kernel_rfl) (by kernel_rfl) (by kernel_rfl) (fun _ _ _ h => h) (Or.inl ⟨by kernel_rfl, ?_⟩) (by assumption) ?_
    rotate_left
    · (intro w hSw; (try dsimp only at hSw); go_simp; all_goals (with_reducible rfl))
    (try simp only [Act.put, List.setIfInBounds_toArray, List.set_cons_zero, List.set_cons_succ])
    refine takeAt (i := 3) (d := 18) (v := ?_) rfl (by kernel_rfl) (by kernel_rfl) (by kernel_rfl) (by kernel_rfl) (fun _ _ _ h => h) (Or.inl ⟨by kernel_rfl, ?_⟩) (by assumption) ?_
    rotate_left
    · (intro w hSw; (try dsimp only at hSw); go_simp; all_goals (with_reducible rfl))
    (try simp only [Act.put, List.setIfInBounds_toArray, List.set_cons_zero, List.set_cons_succ])
    refine takeAt (i := 4) (d := 19) (v := ?_) rfl (by kernel_rfl) (by kernel_rfl) (by kernel_rfl) (by kernel_rfl) (fun _ _ _ h => h) (Or.inl ⟨by kernel_rfl, ?_⟩) (by assumption) ?_
    rotate_left
    · (intro w hSw; (try dsimp only at hSw); go_simp; all_goals (with_reducible rfl))
    (try simp only [Act.put, List.setIfInBounds_toArray, List.set_cons_zero, List.set_cons_succ])
    refine takeAt (i := 5) (d := 20) (v := ?_) rfl (by kernel_rfl) (by kernel_rfl) (by kernel_rfl) (by kernel_rfl) (fun _ _ _ h => h) (Or.inl ⟨by kernel_rfl, ?_⟩) (by assumption) ?_
    rotate_left
    · (intro w hSw; (try dsimp only at hSw); go_simp; all_goals (with_reducible rfl))
    (try simp only [Act.put, List.setIfInBounds_toArray, List.set_cons_zero, List.set_cons_succ])
    refine takeAt (i := 6) (d := 21) (v := ?_) rfl (by kernel_rfl) (by kernel_rfl) (by kernel_rfl) (by kernel_rfl) (fun _ _ _ h => h) (Or.inl ⟨by kernel_rfl, ?_⟩) (by assumption) ?_
    rotate_left
    · (intro w hSw; (try dsimp only at hSw); go_simp; all_goals (with_reducible rfl))
    (try simp only [Act.put, List.setIfInBounds_toArray, List.set_cons_zero, List.set_cons_succ])
    refine takeAt (i := 7) (d := 22) (v := ?_) rfl (by kernel_rfl) (by kernel_rfl) (by kernel_rfl) (by kernel_rfl) (fun _ _ _ h => h) (Or.inl ⟨by kernel_rfl, ?_⟩) (by assumption) ?_
    rotate_left
    · (intro w hSw; (try dsimp only at hSw); go_simp; all_goals (with_reducible rfl))
    (try simp only [Act.put, List.setIfInBounds_toArray, List.set_cons_zero, List.set_cons_succ])
    refine takeAt (i := 8) (d := 23) (v := ?_) rfl (by kernel_rfl) (by kernel_rfl) (by kernel_rfl) (by kernel_rfl) (fun _ _ _ h => h) (Or.inl ⟨by kernel_rfl, ?_⟩) (by assumption) ?_
    rotate_left
    · (intro w hSw; (try dsimp only at hSw); go_simp; all_goals (with_reducible rfl))
    (try simp only [Act.put, List.setIfInBounds_toArray, List.set_cons_zero, List.set_cons_succ])
    refine takeAt (i := 9) (d := 24) (v := ?_) rfl (by kernel_rfl) (by kernel_rfl) (by kernel_rfl) (by kernel_rfl) (fun _ _ _ h => h) (Or.inl ⟨by kernel_rfl, ?_⟩) (by assumption) ?_
    rotate_left
    · (intro w hSw; (try dsimp only at hSw); go_simp; all_goals (with_reducible rfl))
    (try simp only [Act.put, List.setIfInBounds_toArray, List.set_cons_zero, List.set_cons_succ])
    refine takeAt (i := 10) (d := 25) (v := ?_) rfl (by kernel_rfl) (by kernel_rfl) (by kernel_rfl) (by kernel_rfl) (fun _ _ _ h => h) (Or.inl ⟨by kernel_rfl, ?_⟩) (by assumption) ?_
    rotate_left
    · (intro w hSw; (try dsimp only at hSw); go_simp; all_goals (with_reducible rfl))
    (try simp only [Act.put, List.setIfInBounds_toArray, List.set_cons_zero, List.set_cons_succ])
    refine takeAt (i := 11) (d := 26) (v := ?_) rfl (by kernel_rfl) (by kernel_rfl) (by kernel_rfl) (by kernel_rfl) (fun _ _ _ h => h) (Or.inl ⟨by kernel_rfl, ?_⟩) (by assumption) ?_
    rotate_left
    · (intro w hSw; (try dsimp only at hSw); go_simp; all_goals (with_reducible rfl))
    (try simp only [Act.put, List.setIfInBounds_toArray, List.set_cons_zero, List.set_cons_succ])
    refine takeAt (i := 12) (d := 27) (v := ?_) rfl (by kernel_rfl) (by kernel_rfl) (by kernel_rfl) (by kernel_rfl) (fun _ _ _ h => h) (Or.inl ⟨by kernel_rfl, ?_⟩) (by assumption) ?_
    rotate_left
    · (intro w hSw; (try dsimp only at hSw); go_simp; all_goals (with_reducible rfl))
    (try simp only [Act.put, List.setIfInBounds_toArray, List.set_cons_zero, List.set_cons_succ])
    refine wpAnyH_ready (rs := [13, 16]) (by kernel_rfl) (by simp) ?_
    refine AllReadyH.cons rfl (fun K hK => ?_) (AllReadyH.cons rfl (fun K hK => ?_) AllReadyH.nil)
    · go_simp
      refine (HI.out _).mono ?_
      rintro e w5 ⟨rfl, rfl⟩
      exact ⟨rfl, .inr ⟨30, HR.out, rfl, HW.out.drew.1.cell 20 rfl, HK.out.trans HW.out.drew.2⟩⟩
    · go_simp
      have P := HW.out.drew
      have hba := below_alloc w1.drew (.cells #[.int .u8 0, .bool false, .int .u64 0] 66)
      have HWA := Lib.hid (P.1.on hba)
      have HKA := Lib.hid ((HK.out.trans P.2).trans (Kn.on (k := k) hba))
      have z0 := cell_below hba (show w1.drew.cell? _ = _ from y2)
      have z1 := cell_below hba (show w1.drew.cell? _ = _ from x1)
      refine hK.out _ _ ⟨z0, z1⟩ (fun hHeld => ?_)
      (try refine stateAt (d := 5) (by kernel_rfl) ?_)
      (try simp only [Act.put, List.setIfInBounds_toArray, List.set_cons_zero, List.set_cons_succ])
      refine wpAnyH_ready (rs := [13]) (by kernel_rfl) (by simp) ?_
      refine AllReadyH.cons rfl (fun K hK => ?_) AllReadyH.nil
      go_simp
      refine (HI.out _).mono ?_
      rintro e w5 ⟨rfl, rfl⟩
      exact ⟨rfl, .inr ⟨30, HR.out, rfl, HWA.out.cell 20 rfl, HKA.out⟩⟩
set_option maxRecDepth 100000 in
set_option maxHeartbeats 6400000 in
theorem names_glob_21 (h : Wv k w v pc q) (hsz : v.shape.size ≤ 1000) (hm : MOk k.m) (n : Nat) (l : List Int) (vl : Value) (hn : n < k.m.globals.length) :
    Calls Tryd.prog 54 #[.pointer (some ⟨k.p, 0, none⟩), .agg #[.int .u8 21, .int .i64 n, vl]] w fun r w' => WE k w pc (.tuple #[]) (namesV k.ctx v ⟨21, n, l⟩) r w' := by
  have hb := below_alloc w (.cells #[.int .u8 21, .int .i64 n, vl] 68)
  have hnw := heap_alloc_new w (.cells #[.int .u8 21, .int .i64 n, vl] 68)
  have HW := Lib.hid (h.on hb)
  have HK := Lib.hid (Kw.on (k := k) hb)
  have hgp : w.heap.size ≠ k.p := by have := row_lt h.row; omega
  have x0 := row_cell hnw 0 rfl; have x1 := row_cell hnw 1 rfl
  simp only [List.getElem_toArray, List.getElem_cons_zero, List.getElem_cons_succ] at x0 x1
  have y2 : (w.alloc (.cells #[.int .u8 21, .int .i64 n, vl] 68)).cell? ⟨k.p, 2, none⟩ = some k.gv := HW.out.cell 2 rfl
  obtain ⟨bg, og, cg, eg, cG, c1, lg⟩ := HW.out.rd.glob hn
  rw [eg] at y2
  obtain ⟨⟨le, mu, vv⟩, hg⟩ : ∃ gd, k.m.globals.getD n ⟨0, false, 0⟩ = gd := ⟨_, rfl⟩
  rw [hg] at cG
  have g0 := cG 0 (by omega); have g1 := cG 1 (by omega); have g2 := cG 2 (by omega)
  simp only [List.getElem?_cons_zero, List.getElem?_cons_succ, Nat.add_zero] at g0 g1 g2
  have hlt : le < 128 := by
    have h1 := hm.gl _ (List.getElem_mem hn)
    have h2 : k.m.globals[n] = ⟨le, mu, vv⟩ := by rw [← hg, List.getD_eq_getElem?_getD, List.getElem?_eq_getElem hn]; rfl
    rw [h2] at h1; exact h1
  have HGD := Lib.hid hg
  have HI := Lib.hid (fun W : World => val_index_ok W n _ hn lg)
  clear h hb cG eg hm hg
  go_enter Tryd.func54, Tryd.ntmps54
  go_wp2_with fail
  generalize w.alloc (.cells #[.int .u8 21, .int .i64 n, vl] 68) = w1 at *
  have HN := Lib.hid hnw
  clear hnw
  generalize w.heap.size = g at *
  go_cut [5] (fun c5 wx => ∃ g5, c5 = .pointer (some ⟨g5, 0, none⟩) ∧ Hid (wx.heap[g5]? = some (.cells #[.int .u8 le, .bool mu, .int .u64 vv] 66 (0, 0))) ∧ Hid (Wv k wx v pc q) ∧ Hid (Kw k w wx) ∧ Hid (wx.heap[g]? = some (.cells #[.int .u8 21, .int .i64 n, vl] 68 (0, 0))))
  case first =>
    refine wp_region_held_drew (S := (fun wx => wx.cell? ⟨k.p, 2, none⟩ = some (.slice (some ⟨bg, og, none⟩) k.m.globals.length cg) ∧ wx.cell? ⟨g, 1, none⟩ = some (.int .i64 n) ∧ wx.cell? ⟨bg, og + n * 3, none⟩ = some (.int .u8 le) ∧ wx.cell? ⟨bg, og + n * 3 + 1, none⟩ = some (.bool mu) ∧ wx.cell? ⟨bg, og + n * 3 + 2, none⟩ = some (.int .u64 vv))) (by kernel_rfl) ⟨y2, x1, g0, g1, g2⟩ (fun hHeld => ?_)
    refine takeAt (i := 0) (d := 15) (v := ?_) rfl (by kernel_rfl) (by kernel_rfl) (by kernel_rfl) (by kernel_rfl) (fun _ _ _ h => h) (Or.inl ⟨by kernel_rfl, ?_⟩) (by assumption) ?_
    rotate_left
    · (intro w hSw; (try dsimp only at hSw); go_simp; all_goals (with_reducible rfl))
    (try simp only [Act.put, List.setIfInBounds_toArray, List.set_cons_zero, List.set_cons_succ])
    refine takeAt (i := 1) (d := 16) (v := ?_) rfl (by kernel_rfl) (by kernel_rfl) (by kernel_rfl) (by kernel_rfl) (fun _ _ _ h => h) (Or.inl ⟨by kernel_rfl, ?_⟩) (by assumption) ?_
    rotate_left
    · (intro w hSw; (try dsimp only at hSw); go_simp; all_goals (with_reducible rfl))
    (try simp only [Act.put, List.setIfInBounds_toArray, List.set_cons_zero, List.set_cons_succ])
    refine takeAt (i := 2) (d := 17) (v := ?_) rfl (by kernel_rfl) (by kernel_rfl) (by kernel_rfl) (by kernel_rfl) (fun _ _ _ h => h) (Or.inl ⟨by kernel_rfl, ?_⟩) (by assumption) ?_
    rotate_left
    · (intro w hSw; (try dsimp only at hSw); go_simp; all_goals (with_reducible rfl))
    (try simp only [Act.put, List.setIfInBounds_toArray, List.set_cons_zero, List.set_cons_succ])
    refine takeAt (i := 3) (d := 18) (v := ?_) rfl (by kernel_rfl) (by kernel_rfl) (by kernel_rfl) (by kernel_rfl) (fun _ _ _ h => h) (Or.inl ⟨by kernel_rfl, ?_⟩) (by assumption) ?_
    rotate_left
    · (intro w hSw; (try dsimp only at hSw); go_simp; all_goals (with_reducible rfl))
    (try simp only [Act.put, List.setIfInBounds_toArray, List.set_cons_zero, List.set_cons_succ])
    refine takeAt (i := 4) (d := 19) (v := ?_) rfl (by kernel_rfl) (by kernel_rfl) (by kernel_rfl) (by kernel_rfl) (fun _ _ _ h => h) (Or.inl ⟨by kernel_rfl, ?_⟩) (by assumption) ?_
    rotate_left
    · (intro w hSw; (try dsimp only at hSw); go_simp; all_goals (with_reducible rfl))
    (try simp only [Act.put, List.setIfInBounds_toArray, List.set_cons_zero, List.set_cons_succ])
    refine takeAt (i := 5) (d := 20) (v := ?_) rfl (by kernel_rfl) (by kernel_rfl) (by kernel_rfl) (by kernel_rfl) (fun _ _ _ h => h) (Or.inl ⟨by kernel_rfl, ?_⟩) (by assumption) ?_
    rotate_left
    · (intro w hSw; (try dsimp only at hSw); go_simp; all_goals (with_reducible rfl))
    (try simp only [Act.put, List.setIfInBounds_toArray, List.set_cons_zero, List.set_cons_succ])
    refine takeAt (i := 6) (d := 21) (v := ?_) rfl (by kernel_rfl) (by kernel_rfl) (by kernel_rfl) (by kernel_rfl) (fun _ _ _ h => h) (Or.inl ⟨by kernel_rfl, ?_⟩) (by assumption) ?_
    rotate_left
    · (intro w hSw; (try dsimp only at hSw); go_simp; all_goals (with_reducible rfl))
    (try simp only [Act.put, List.setIfInBounds_toArray, List.set_cons_zero, List.set_cons_succ])
    refine takeAt (i := 7) (d := 22) (v := ?_) rfl (by kernel_rfl) (by kernel_rfl) (by kernel_rfl) (by kernel_rfl) (fun _ _ _ h => h) (Or.inl ⟨by kernel_rfl, ?_⟩) (by assumption) ?_
    rotate_left
    · (intro w hSw; (try dsimp only at hSw); go_simp; all_goals (with_reducible rfl))
    (try simp only [Act.put, List.setIfInBounds_toArray, List.set_cons_zero, List.set_cons_succ])
    refine takeAt (i := 8) (d := 23) (v := ?_) rfl (by kernel_rfl) (by kernel_rfl) (by kernel_rfl) (by kernel_rfl) (fun _ _ _ h => h) (Or.inl ⟨by kernel_rfl, ?_⟩) (by assumption) ?_
    rotate_left
    · (intro w hSw; (try dsimp only at hSw); go_simp; all_goals (with_reducible rfl))
    (try simp only [Act.put, List.setIfInBounds_toArray, List.set_cons_zero, List.set_cons_succ])
    refine takeAt (i := 9) (d := 24) (v := ?_) rfl (by kernel_rfl) (by kernel_rfl) (by kernel_rfl) (by kernel_rfl) (fun _ _ _ h => h) (Or.inl ⟨by kernel_rfl, ?_⟩) (by assumption) ?_
    rotate_left
    · (intro w hSw; (try dsimp only at hSw); go_simp; all_goals (with_reducible rfl))
    (try simp only [Act.put, List.setIfInBounds_toArray, List.set_cons_zero, List.set_cons_succ])
    refine takeAt (i := 10) (d := 25) (v := ?_) rfl (by kernel_rfl) (by kernel_rfl) (by kernel_rfl) (by kernel_rfl) (fun _ _ _ h => h) (Or.inl ⟨by kernel_rfl, ?_⟩) (by assumption) ?_
    rotate_left
    · (intro w hSw; (try dsimp only at hSw); go_simp; all_goals (with_reducible rfl))
    (try simp only [Act.put, List.setIfInBounds_toArray, List.set_cons_zero, List.set_cons_succ])
    refine takeAt (i := 11) (d := 26) (v := ?_) rfl (by kernel_rfl) (by kernel_rfl) (by kernel_rfl) (by kernel_rfl) (fun _ _ _ h => h) (Or.inl ⟨by kernel_rfl, ?_⟩) (by assumption) ?_
    rotate_left
    · (intro w hSw; (try dsimp only at hSw); go_simp; all_goals (with_reducible rfl))
    (try simp only [Act.put, List.setIfInBounds_toArray, List.set_cons_zero, List.set_cons_succ])
    refine takeAt (i := 12) (d := 27) (v := ?_) rfl (by kernel_rfl) (by kernel_rfl) (by kernel_rfl) (by kernel_rfl) (fun _ _ _ h => h) (Or.inl ⟨by kernel_rfl, ?_⟩) (by assumption) ?_
    rotate_left
    · (intro w hSw; (try dsimp only at hSw); go_simp; all_goals (with_reducible rfl))
    (try simp only [Act.put, List.setIfInBounds_toArray, List.set_cons_zero, List.set_cons_succ])
    refine wpAnyH_ready (rs := [13, 16]) (by kernel_rfl) (by simp) ?_
    refine AllReadyH.cons rfl (fun K hK => ?_) (AllReadyH.cons rfl (fun K hK => ?_) AllReadyH.nil)
    · go_simp
      refine (HI.out _).mono ?_
      rintro e w5 ⟨rfl, rfl⟩
      refine hK.out _ _ ⟨y2, x1, g0, g1, g2⟩ (fun hHeld => ?_)
      (try refine stateAt (d := 28) (by kernel_rfl) ?_)
      (try simp only [Act.put, List.setIfInBounds_toArray, List.set_cons_zero, List.set_cons_succ])
      refine takeAt (i := 14) (d := 29) (v := ?_) rfl (by kernel_rfl) (by kernel_rfl) (by kernel_rfl) (by kernel_rfl) (fun _ _ _ h => h) (Or.inl ⟨by kernel_rfl, ?_⟩) (by assumption) ?_
      rotate_left
      · (intro w hSw; (try dsimp only at hSw); go_simp; all_goals (with_reducible rfl))
      (try simp only [Act.put, List.setIfInBounds_toArray, List.set_cons_zero, List.set_cons_succ])
      refine takeAt (i := 15) (d := 30) (v := ?_) rfl (by kernel_rfl) (by kernel_rfl) (by kernel_rfl) (by kernel_rfl) (fun _ _ _ h => h) (Or.inl ⟨by kernel_rfl, ?_⟩) (by assumption) ?_
      rotate_left
      · (intro w hSw; (try dsimp only at hSw); go_simp; all_goals (with_reducible rfl))
      (try simp only [Act.put, List.setIfInBounds_toArray, List.set_cons_zero, List.set_cons_succ])
      refine wpAnyH_ready (rs := [16]) (by kernel_rfl) (by simp) ?_
      refine AllReadyH.cons rfl (fun K hK => ?_) AllReadyH.nil
      go_simp
      refine hK.out _ _ ⟨cell_below (below_alloc w1.drew (.cells #[.int .u8 0, .bool false, .int .u64 0] 66)) y2, cell_below (below_alloc w1.drew (.cells #[.int .u8 0, .bool false, .int .u64 0] 66)) x1, cell_below (below_alloc w1.drew (.cells #[.int .u8 0, .bool false, .int .u64 0] 66)) g0, cell_below (below_alloc w1.drew (.cells #[.int .u8 0, .bool false, .int .u64 0] 66)) g1, cell_below (below_alloc w1.drew (.cells #[.int .u8 0, .bool false, .int .u64 0] 66)) g2⟩ (fun hHeld => ?_)
      (try refine stateAt (d := 5) (by kernel_rfl) ?_)
      (try simp only [Act.put, List.setIfInBounds_toArray, List.set_cons_zero, List.set_cons_succ])
      refine wpAnyH_ready (rs := [17]) (by kernel_rfl) (by simp) ?_
      refine AllReadyH.cons rfl (fun K hK => ?_) AllReadyH.nil
      have r0 := heap_alloc_new w1.drew (.cells #[.int .u8 0, .bool false, .int .u64 0] 66)
      have fr0 := row_free r0 0; have fr1 := row_free r0 1; have fr2 := row_free r0 2
      go_simp
      have hba := below_alloc w1 (.cells #[.int .u8 le, .bool mu, .int .u64 vv] 66)
      have hbs : Below w1.heap.size w1 (w1.alloc (.cells #[.int .u8 le, .bool mu, .int .u64 vv] 66)).drew := hba.drew
      have HW3 := Lib.hid (HW.out.on hbs)
      have HK3 := Lib.hid (HK.out.trans (Kn.on (k := k) hbs))
      have HN3 := Lib.hid ((hbs.block g (row_lt HN.out)).trans HN.out)
      have HG3 : Hid ((w1.alloc (.cells #[.int .u8 le, .bool mu, .int .u64 vv] 66)).drew.heap[w1.heap.size]? = some (.cells #[.int .u8 le, .bool mu, .int .u64 vv] 66 (0, 0))) := Lib.hid (heap_alloc_new w1 (.cells #[.int .u8 le, .bool mu, .int .u64 vv] 66))
      refine hK.out _ _ ⟨cell_below hba y2, cell_below hba x1, cell_below hba g0, cell_below hba g1, cell_below hba g2⟩ (fun hHeld => ?_)
      (try simp only [Act.put, List.setIfInBounds_toArray, List.set_cons_zero, List.set_cons_succ])
      refine wpAnyH_done (by kernel_rfl) ?_ _
      go_wp2_with fail
      go_meet
      exact ⟨_, rfl, HG3, HW3, HK3, HN3⟩
    · go_simp
      refine hK.out _ _ ⟨cell_below (below_alloc w1.drew (.cells #[.int .u8 0, .bool false, .int .u64 0] 66)) y2, cell_below (below_alloc w1.drew (.cells #[.int .u8 0, .bool false, .int .u64 0] 66)) x1, cell_below (below_alloc w1.drew (.cells #[.int .u8 0, .bool false, .int .u64 0] 66)) g0, cell_below (below_alloc w1.drew (.cells #[.int .u8 0, .bool false, .int .u64 0] 66)) g1, cell_below (below_alloc w1.drew (.cells #[.int .u8 0, .bool false, .int .u64 0] 66)) g2⟩ (fun hHeld => ?_)
      (try refine stateAt (d := 5) (by kernel_rfl) ?_)
      (try simp only [Act.put, List.setIfInBounds_toArray, List.set_cons_zero, List.set_cons_succ])
      refine wpAnyH_ready (rs := [13]) (by kernel_rfl) (by simp) ?_
      refine AllReadyH.cons rfl (fun K hK => ?_) AllReadyH.nil
      go_simp
      refine (HI.out _).mono ?_
      rintro e w5 ⟨rfl, rfl⟩
      refine hK.out _ _ hHeld (fun hHeld => ?_)
      (try refine stateAt (d := 28) (by kernel_rfl) ?_)
      (try simp only [Act.put, List.setIfInBounds_toArray, List.set_cons_zero, List.set_cons_succ])
      refine takeAt (i := 14) (d := 29) (v := ?_) rfl (by kernel_rfl) (by kernel_rfl) (by kernel_rfl) (by kernel_rfl) (fun _ _ _ h => h) (Or.inl ⟨by kernel_rfl, ?_⟩) (by assumption) ?_
      rotate_left
      · (intro w hSw; (try dsimp only at hSw); go_simp; all_goals (with_reducible rfl))
      (try simp only [Act.put, List.setIfInBounds_toArray, List.set_cons_zero, List.set_cons_succ])
      refine takeAt (i := 15) (d := 30) (v := ?_) rfl (by kernel_rfl) (by kernel_rfl) (by kernel_rfl) (by kernel_rfl) (fun _ _ _ h => h) (Or.inl ⟨by kernel_rfl, ?_⟩) (by assumption) ?_
      rotate_left
      · (intro w hSw; (try dsimp only at hSw); go_simp; all_goals (with_reducible rfl))
      (try simp only [Act.put, List.setIfInBounds_toArray, List.set_cons_zero, List.set_cons_succ])
      refine wpAnyH_ready (rs := [17]) (by kernel_rfl) (by simp) ?_
      refine AllReadyH.cons rfl (fun K hK => ?_) AllReadyH.nil
      have r0 := heap_alloc_new w1.drew (.cells #[.int .u8 0, .bool false, .int .u64 0] 66)
      have fr0 := row_free r0 0; have fr1 := row_free r0 1; have fr2 := row_free r0 2
      go_simp
      have hba := below_alloc w1 (.cells #[.int .u8 le, .bool mu, .int .u64 vv] 66)
      have hbs : Below w1.heap.size w1 (w1.alloc (.cells #[.int .u8 le, .bool mu, .int .u64 vv] 66)).drew := hba.drew
      have HW3 := Lib.hid (HW.out.on hbs)
      have HK3 := Lib.hid (HK.out.trans (Kn.on (k := k) hbs))
      have HN3 := Lib.hid ((hbs.block g (row_lt HN.out)).trans HN.out)
      have HG3 : Hid ((w1.alloc (.cells #[.int .u8 le, .bool mu, .int .u64 vv] 66)).drew.heap[w1.heap.size]? = some (.cells #[.int .u8 le, .bool mu, .int .u64 vv] 66 (0, 0))) := Lib.hid (heap_alloc_new w1 (.cells #[.int .u8 le, .bool mu, .int .u64 vv] 66))
      refine hK.out _ _ ⟨cell_below hba y2, cell_below hba x1, cell_below hba g0, cell_below hba g1, cell_below hba g2⟩ (fun hHeld => ?_)
      (try simp only [Act.put, List.setIfInBounds_toArray, List.set_cons_zero, List.set_cons_succ])
      refine wpAnyH_done (by kernel_rfl) ?_ _
      go_wp2_with fail
      go_meet
      exact ⟨_, rfl, HG3, HW3, HK3, HN3⟩
  case rest =>
    obtain ⟨g5, rfl, HG, HW2, HK2, HN⟩ := hcut
    clear HW HK y2 x0 x1 g0 g1 g2 HI
    have x02 := row_cell HN.out 0 rfl; have z0 := row_cell HG.out 0 rfl; have z1 := row_cell HG.out 1 rfl
    simp only [List.getElem_toArray, List.getElem_cons_zero, List.getElem_cons_succ] at x02 z0 z1
    have hs1 : (Utf8.encode (le : Int)).size = 1 := by rw [enc_small hlt]; rfl
    have HR : Hid (namesV k.ctx v ⟨21, n, l⟩ = pushesV v (Utf8.encode (le : Int))) := Lib.hid (by
      rw [names_step k.ctx _ (letter_glob (op := 21) (.inl rfl) rfl hn HGD.out (.inl rfl)), enc_small hlt]; rfl)
    go_wp2_with (first
      | (go_at_call 33; refine (val_must_ok _ _).mono ?_; rintro r w3 ⟨rfl, rfl⟩)
      | ((go_at_call 57; refine (val_pushes HW2.out hsz _ (by omega)).mono ?_)
         rintro e w4 (⟨v3, q3, h1, rfl, h2, h3⟩ | ⟨z, h1, rfl, h2, h3⟩)
         rotate_left
         · exact ⟨rfl, .inr ⟨z, HR.out.trans h1, rfl, h2, HK2.out.trans h3⟩⟩))
    exact bodyPost_end (results_none rfl _ _ _) rfl (.inl ⟨v3, q3, HR.out.trans h1, rfl, h2, HK2.out.trans h3⟩)
set_option maxRecDepth 100000 in
set_option maxHeartbeats 6400000 in
theorem names_glob_22 (h : Wv k w v pc q) (hne : 0 < v.opens.length) (hle : v.top.base.size ≤ v.shape.size) (hsz : v.shape.size ≤ 1000) (hm : MOk k.m) (n : Nat) (l : List Int) (vl : Value) (hn : n < k.m.globals.length) :
    Calls Tryd.prog 54 #[.pointer (some ⟨k.p, 0, none⟩), .agg #[.int .u8 22, .int .i64 n, vl]] w fun r w' => WE k w pc (.tuple #[]) (namesV k.ctx v ⟨22, n, l⟩) r w' := by
  have hb := below_alloc w (.cells #[.int .u8 22, .int .i64 n, vl] 68)
  have hnw := heap_alloc_new w (.cells #[.int .u8 22, .int .i64 n, vl] 68)
  have HW := Lib.hid (h.on hb)
  have HK := Lib.hid (Kw.on (k := k) hb)
  have hgp : w.heap.size ≠ k.p := by have := row_lt h.row; omega
  have x0 := row_cell hnw 0 rfl; have x1 := row_cell hnw 1 rfl
  simp only [List.getElem_toArray, List.getElem_cons_zero, List.getElem_cons_succ] at x0 x1
  have y2 : (w.alloc (.cells #[.int .u8 22, .int .i64 n, vl] 68)).cell? ⟨k.p, 2, none⟩ = some k.gv := HW.out.cell 2 rfl
  obtain ⟨bg, og, cg, eg, cG, c1, lg⟩ := HW.out.rd.glob hn
  rw [eg] at y2
  obtain ⟨⟨le, mu, vv⟩, hg⟩ : ∃ gd, k.m.globals.getD n ⟨0, false, 0⟩ = gd := ⟨_, rfl⟩
  rw [hg] at cG
  have g0 := cG 0 (by omega); have g1 := cG 1 (by omega); have g2 := cG 2 (by omega)
  simp only [List.getElem?_cons_zero, List.getElem?_cons_succ, Nat.add_zero] at g0 g1 g2
  have hlt : le < 128 := by
    have h1 := hm.gl _ (List.getElem_mem hn)
    have h2 : k.m.globals[n] = ⟨le, mu, vv⟩ := by rw [← hg, List.getD_eq_getElem?_getD, List.getElem?_eq_getElem hn]; rfl
    rw [h2] at h1; exact h1
  have HGD := Lib.hid hg
  have HI := Lib.hid (fun W : World => val_index_ok W n _ hn lg)
  clear h hb cG eg hm hg
  go_enter Tryd.func54, Tryd.ntmps54
  go_wp2_with fail
  generalize w.alloc (.cells #[.int .u8 22, .int .i64 n, vl] 68) = w1 at *
  have HN := Lib.hid hnw
  clear hnw
  generalize w.heap.size = g at *
  go_cut [5] (fun c5 wx => ∃ g5, c5 = .pointer (some ⟨g5, 0, none⟩) ∧ Hid (wx.heap[g5]? = some (.cells #[.int .u8 le, .bool mu, .int .u64 vv] 66 (0, 0))) ∧ Hid (Wv k wx v pc q) ∧ Hid (Kw k w wx) ∧ Hid (wx.heap[g]? = some (.cells #[.int .u8 22, .int .i64 n, vl] 68 (0, 0))))
  case first =>
    refine wp_region_held_drew (S := (fun wx => wx.cell? ⟨k.p, 2, none⟩ = some (.slice (some ⟨bg, og, none⟩) k.m.globals.length cg) ∧ wx.cell? ⟨g, 1, none⟩ = some (.int .i64 n) ∧ wx.cell? ⟨bg, og + n * 3, none⟩ = some (.int .u8 le) ∧ wx.cell? ⟨bg, og + n * 3 + 1, none⟩ = some (.bool mu) ∧ wx.cell? ⟨bg, og + n * 3 + 2, none⟩ = some (.int .u64 vv))) (by kernel_rfl) ⟨y2, x1, g0, g1, g2⟩ (fun hHeld => ?_)
    refine takeAt (i := 0) (d := 15) (v := ?_) rfl (by kernel_rfl) (by kernel_rfl) (by kernel_rfl) (by kernel_rfl) (fun _ _ _ h => h) (Or.inl ⟨by kernel_rfl, ?_⟩) (by assumption) ?_
    rotate_left
    · (intro w hSw; (try dsimp only at hSw); go_simp; all_goals (with_reducible rfl))
    (try simp only [Act.put, List.setIfInBounds_toArray, List.set_cons_zero, List.set_cons_succ])
    refine takeAt (i := 1) (d := 16) (v := ?_) rfl (by kernel_rfl) (by kernel_rfl) (by kernel_rfl) (by kernel_rfl) (fun _ _ _ h => h) (Or.inl ⟨by kernel_rfl, ?_⟩) (by assumption) ?_
    rotate_left
    · (intro w hSw; (try dsimp only at hSw); go_simp; all_goals (with_reducible rfl))
    (try simp only [Act.put, List.setIfInBounds_toArray, List.set_cons_zero, List.set_cons_succ])
    refine takeAt (i := 2) (d := 17) (v := ?_) rfl (by kernel_rfl) (by kernel_rfl) (by kernel_rfl) (by kernel_rfl) (fun _ _ _ h => h) (Or.inl ⟨by kernel_rfl, ?_⟩) (by assumption) ?_
    rotate_left
    · (intro w hSw; (try dsimp only at hSw); go_simp; all_goals (with_reducible rfl))
    (try simp only [Act.put, List.setIfInBounds_toArray, List.set_cons_zero, List.set_cons_succ])
    refine takeAt (i := 3) (d := 18) (v := ?_) rfl (by kernel_rfl) (by kernel_rfl) (by kernel_rfl) (by kernel_rfl) (fun _ _ _ h => h) (Or.inl ⟨by kernel_rfl, ?_⟩) (by assumption) ?_
    rotate_left
    · (intro w hSw; (try dsimp only at hSw); go_simp; all_goals (with_reducible rfl))
    (try simp only [Act.put, List.setIfInBounds_toArray, List.set_cons_zero, List.set_cons_succ])
    refine takeAt (i := 4) (d := 19) (v := ?_) rfl (by kernel_rfl) (by kernel_rfl) (by kernel_rfl) (by kernel_rfl) (fun _ _ _ h => h) (Or.inl ⟨by kernel_rfl, ?_⟩) (by assumption) ?_
    rotate_left
    · (intro w hSw; (try dsimp only at hSw); go_simp; all_goals (with_reducible rfl))
    (try simp only [Act.put, List.setIfInBounds_toArray, List.set_cons_zero, List.set_cons_succ])
    refine takeAt (i := 5) (d := 20) (v := ?_) rfl (by kernel_rfl) (by kernel_rfl) (by kernel_rfl) (by kernel_rfl) (fun _ _ _ h => h) (Or.inl ⟨by kernel_rfl, ?_⟩) (by assumption) ?_
    rotate_left
    · (intro w hSw; (try dsimp only at hSw); go_simp; all_goals (with_reducible rfl))
    (try simp only [Act.put, List.setIfInBounds_toArray, List.set_cons_zero, List.set_cons_succ])
    refine takeAt (i := 6) (d := 21) (v := ?_) rfl (by kernel_rfl) (by kernel_rfl) (by kernel_rfl) (by kernel_rfl) (fun _ _ _ h => h) (Or.inl ⟨by kernel_rfl, ?_⟩) (by assumption) ?_
    rotate_left
    · (intro w hSw; (try dsimp only at hSw); go_simp; all_goals (with_reducible rfl))
    (try simp only [Act.put, List.setIfInBounds_toArray, List.set_cons_zero, List.set_cons_succ])
    refine takeAt (i := 7) (d := 22) (v := ?_) rfl (by kernel_rfl) (by kernel_rfl) (by kernel_rfl) (by kernel_rfl) (fun _ _ _ h => h) (Or.inl ⟨by kernel_rfl, ?_⟩) (by assumption) ?_
    rotate_left
    · (intro w hSw; (try dsimp only at hSw); go_simp; all_goals (with_reducible rfl))
    (try simp only [Act.put, List.setIfInBounds_toArray, List.set_cons_zero, List.set_cons_succ])
    refine takeAt (i := 8) (d := 23) (v := ?_) rfl (by kernel_rfl) (by kernel_rfl) (by kernel_rfl) (by kernel_rfl) (fun _ _ _ h => h) (Or.inl ⟨by kernel_rfl, ?_⟩) (by assumption) ?_
    rotate_left
    · (intro w hSw; (try dsimp only at hSw); go_simp; all_goals (with_reducible rfl))
    (try simp only [Act.put, List.setIfInBounds_toArray, List.set_cons_zero, List.set_cons_succ])
    refine takeAt (i := 9) (d := 24) (v := ?_) rfl (by kernel_rfl) (by kernel_rfl) (by kernel_rfl) (by kernel_rfl) (fun _ _ _ h => h) (Or.inl ⟨by kernel_rfl, ?_⟩) (by assumption) ?_
    rotate_left
    · (intro w hSw; (try dsimp only at hSw); go_simp; all_goals (with_reducible rfl))
    (try simp only [Act.put, List.setIfInBounds_toArray, List.set_cons_zero, List.set_cons_succ])
    refine takeAt (i := 10) (d := 25) (v := ?_) rfl (by kernel_rfl) (by kernel_rfl) (by kernel_rfl) (by kernel_rfl) (fun _ _ _ h => h) (Or.inl ⟨by kernel_rfl, ?_⟩) (by assumption) ?_
    rotate_left
    · (intro w hSw; (try dsimp only at hSw); go_simp; all_goals (with_reducible rfl))
    (try simp only [Act.put, List.setIfInBounds_toArray, List.set_cons_zero, List.set_cons_succ])
    refine takeAt (i := 11) (d := 26) (v := ?_) rfl (by kernel_rfl) (by kernel_rfl) (by kernel_rfl) (by kernel_rfl) (fun _ _ _ h => h) (Or.inl ⟨by kernel_rfl, ?_⟩) (by assumption) ?_
    rotate_left
    · (intro w hSw; (try dsimp only at hSw); go_simp; all_goals (with_reducible rfl))
    (try simp only [Act.put, List.setIfInBounds_toArray, List.set_cons_zero, List.set_cons_succ])
    refine takeAt (i := 12) (d := 27) (v := ?_) rfl (by kernel_rfl) (by kernel_rfl) (by kernel_rfl) (by kernel_rfl) (fun _ _ _ h => h) (Or.inl ⟨by kernel_rfl, ?_⟩) (by assumption) ?_
    rotate_left
    · (intro w hSw; (try dsimp only at hSw); go_simp; all_goals (with_reducible rfl))
    (try simp only [Act.put, List.setIfInBounds_toArray, List.set_cons_zero, List.set_cons_succ])
    refine wpAnyH_ready (rs := [13, 16]) (by kernel_rfl) (by simp) ?_
    refine AllReadyH.cons rfl (fun K hK => ?_) (AllReadyH.cons rfl (fun K hK => ?_) AllReadyH.nil)
    · go_simp
      refine (HI.out _).mono ?_
      rintro e w5 ⟨rfl, rfl⟩
      refine hK.out _ _ ⟨y2, x1, g0, g1, g2⟩ (fun hHeld => ?_)
      (try refine stateAt (d := 28) (by kernel_rfl) ?_)
      (try simp only [Act.put, List.setIfInBounds_toArray, List.set_cons_zero, List.set_cons_succ])
      refine takeAt (i := 14) (d := 29) (v := ?_) rfl (by kernel_rfl) (by kernel_rfl) (by kernel_rfl) (by kernel_rfl) (fun _ _ _ h => h) (Or.inl ⟨by kernel_rfl, ?_⟩) (by assumption) ?_
      rotate_left
      · (intro w hSw; (try dsimp only at hSw); go_simp; all_goals (with_reducible rfl))
      (try simp only [Act.put, List.setIfInBounds_toArray, List.set_cons_zero, List.set_cons_succ])
      refine takeAt (i := 15) (d := 30) (v := ?_) rfl (by kernel_rfl) (by kernel_rfl) (by kernel_rfl) (by kernel_rfl) (fun _ _ _ h => h) (Or.inl ⟨by kernel_rfl, ?_⟩) (by assumption) ?_
      rotate_left
      · (intro w hSw; (try dsimp only at hSw); go_simp; all_goals (with_reducible rfl))
      (try simp only [Act.put, List.setIfInBounds_toArray, List.set_cons_zero, List.set_cons_succ])
      refine wpAnyH_ready (rs := [16]) (by kernel_rfl) (by simp) ?_
      refine AllReadyH.cons rfl (fun K hK => ?_) AllReadyH.nil
      go_simp
      refine hK.out _ _ ⟨cell_below (below_alloc w1.drew (.cells #[.int .u8 0, .bool false, .int .u64 0] 66)) y2, cell_below (below_alloc w1.drew (.cells #[.int .u8 0, .bool false, .int .u64 0] 66)) x1, cell_below (below_alloc w1.drew (.cells #[.int .u8 0, .bool false, .int .u64 0] 66)) g0, cell_below (below_alloc w1.drew (.cells #[.int .u8 0, .bool false, .int .u64 0] 66)) g1, cell_below (below_alloc w1.drew (.cells #[.int .u8 0, .bool false, .int .u64 0] 66)) g2⟩ (fun hHeld => ?_)
      (try refine stateAt (d := 5) (by kernel_rfl) ?_)
      (try simp only [Act.put, List.setIfInBounds_toArray, List.set_cons_zero, List.set_cons_succ])
      refine wpAnyH_ready (rs := [17]) (by kernel_rfl) (by simp) ?_
      refine AllReadyH.cons rfl (fun K hK => ?_) AllReadyH.nil
      have r0 := heap_alloc_new w1.drew (.cells #[.int .u8 0, .bool false, .int .u64 0] 66)
      have fr0 := row_free r0 0; have fr1 := row_free r0 1; have fr2 := row_free r0 2
      go_simp
      have hba := below_alloc w1 (.cells #[.int .u8 le, .bool mu, .int .u64 vv] 66)
      have hbs : Below w1.heap.size w1 (w1.alloc (.cells #[.int .u8 le, .bool mu, .int .u64 vv] 66)).drew := hba.drew
      have HW3 := Lib.hid (HW.out.on hbs)
      have HK3 := Lib.hid (HK.out.trans (Kn.on (k := k) hbs))
      have HN3 := Lib.hid ((hbs.block g (row_lt HN.out)).trans HN.out)
      have HG3 : Hid ((w1.alloc (.cells #[.int .u8 le, .bool mu, .int .u64 vv] 66)).drew.heap[w1.heap.size]? = some (.cells #[.int .u8 le, .bool mu, .int .u64 vv] 66 (0, 0))) := Lib.hid (heap_alloc_new w1 (.cells #[.int .u8 le, .bool mu, .int .u64 vv] 66))
      refine hK.out _ _ ⟨cell_below hba y2, cell_below hba x1, cell_below hba g0, cell_below hba g1, cell_below hba g2⟩ (fun hHeld => ?_)
      (try simp only [Act.put, List.setIfInBounds_toArray, List.set_cons_zero, List.set_cons_succ])
      refine wpAnyH_done (by kernel_rfl) ?_ _
      go_wp2_with fail
      go_meet
      exact ⟨_, rfl, HG3, HW3, HK3, HN3⟩
    · go_simp
      refine hK.out _ _ ⟨cell_below (below_alloc w1.drew (.cells #[.int .u8 0, .bool false, .int .u64 0] 66)) y2, cell_below (below_alloc w1.drew (.cells #[.int .u8 0, .bool false, .int .u64 0] 66)) x1, cell_below (below_alloc w1.drew (.cells #[.int .u8 0, .bool false, .int .u64 0] 66)) g0, cell_below (below_alloc w1.drew (.cells #[.int .u8 0, .bool false, .int .u64 0] 66)) g1, cell_below (below_alloc w1.drew (.cells #[.int .u8 0, .bool false, .int .u64 0] 66)) g2⟩ (fun hHeld => ?_)
      (try refine stateAt (d := 5) (by kernel_rfl) ?_)
      (try simp only [Act.put, List.setIfInBounds_toArray, List.set_cons_zero, List.set_cons_succ])
      refine wpAnyH_ready (rs := [13]) (by kernel_rfl) (by simp) ?_
      refine AllReadyH.cons rfl (fun K hK => ?_) AllReadyH.nil
      go_simp
      refine (HI.out _).mono ?_
      rintro e w5 ⟨rfl, rfl⟩
      refine hK.out _ _ hHeld (fun hHeld => ?_)
      (try refine stateAt (d := 28) (by kernel_rfl) ?_)
      (try simp only [Act.put, List.setIfInBounds_toArray, List.set_cons_zero, List.set_cons_succ])
      refine takeAt (i := 14) (d := 29) (v := ?_) rfl (by kernel_rfl) (by kernel_rfl) (by kernel_rfl) (by kernel_rfl) (fun _ _ _ h => h) (Or.inl ⟨by kernel_rfl, ?_⟩) (by assumption) ?_
      rotate_left
      · (intro w hSw; (try dsimp only at hSw); go_simp; all_goals (with_reducible rfl))
      (try simp only [Act.put, List.setIfInBounds_toArray, List.set_cons_zero, List.set_cons_succ])
      refine takeAt (i := 15) (d := 30) (v := ?_) rfl (by kernel_rfl) (by kernel_rfl) (by kernel_rfl) (by kernel_rfl) (fun _ _ _ h => h) (Or.inl ⟨by kernel_rfl, ?_⟩) (by assumption) ?_
      rotate_left
      · (intro w hSw; (try dsimp only at hSw); go_simp; all_goals (with_reducible rfl))
      (try simp only [Act.put, List.setIfInBounds_toArray, List.set_cons_zero, List.set_cons_succ])
      refine wpAnyH_ready (rs := [17]) (by kernel_rfl) (by simp) ?_
      refine AllReadyH.cons rfl (fun K hK => ?_) AllReadyH.nil
      have r0 := heap_alloc_new w1.drew (.cells #[.int .u8 0, .bool false, .int .u64 0] 66)
      have fr0 := row_free r0 0; have fr1 := row_free r0 1; have fr2 := row_free r0 2
      go_simp
      have hba := below_alloc w1 (.cells #[.int .u8 le, .bool mu, .int .u64 vv] 66)
      have hbs : Below w1.heap.size w1 (w1.alloc (.cells #[.int .u8 le, .bool mu, .int .u64 vv] 66)).drew := hba.drew
      have HW3 := Lib.hid (HW.out.on hbs)
      have HK3 := Lib.hid (HK.out.trans (Kn.on (k := k) hbs))
      have HN3 := Lib.hid ((hbs.block g (row_lt HN.out)).trans HN.out)
      have HG3 : Hid ((w1.alloc (.cells #[.int .u8 le, .bool mu, .int .u64 vv] 66)).drew.heap[w1.heap.size]? = some (.cells #[.int .u8 le, .bool mu, .int .u64 vv] 66 (0, 0))) := Lib.hid (heap_alloc_new w1 (.cells #[.int .u8 le, .bool mu, .int .u64 vv] 66))
      refine hK.out _ _ ⟨cell_below hba y2, cell_below hba x1, cell_below hba g0, cell_below hba g1, cell_below hba g2⟩ (fun hHeld => ?_)
      (try simp only [Act.put, List.setIfInBounds_toArray, List.set_cons_zero, List.set_cons_succ])
      refine wpAnyH_done (by kernel_rfl) ?_ _
      go_wp2_with fail
      go_meet
      exact ⟨_, rfl, HG3, HW3, HK3, HN3⟩
  case rest =>
    obtain ⟨g5, rfl, HG, HW2, HK2, HN⟩ := hcut
    clear HW HK y2 x0 x1 g0 g1 g2 HI
    have x02 := row_cell HN.out 0 rfl; have z0 := row_cell HG.out 0 rfl; have z1 := row_cell HG.out 1 rfl
    simp only [List.getElem_toArray, List.getElem_cons_zero, List.getElem_cons_succ] at x02 z0 z1
    have hs1 : (Utf8.encode (le : Int)).size = 1 := by rw [enc_small hlt]; rfl
    cases mu with
    | false =>
      have HR : Hid (namesV k.ctx v ⟨22, n, l⟩ = .error 39) := Lib.hid (letter_mut rfl hn HGD.out)
      go_wp2_with (first
        | (go_at_call 33; refine (val_must_no _ _).mono ?_; rintro r w3 ⟨rfl, rfl⟩))
      exact ⟨rfl, .inr ⟨39, HR.out, rfl, HW2.out.cell 20 rfl, HK2.out⟩⟩
    | true =>
      have HR : Hid (namesV k.ctx v ⟨22, n, l⟩ = popsV v (Utf8.encode (le : Int))) := Lib.hid (by
        rw [names_step k.ctx _ (letter_glob (op := 22) (.inr rfl) rfl hn HGD.out (.inr rfl)), enc_small hlt]; exact andV_pure _)
      go_wp2_with (first
        | (go_at_call 33; refine (val_must_ok _ _).mono ?_; rintro r w3 ⟨rfl, rfl⟩)
        | ((go_at_call 56; refine (val_pops HW2.out hne hle hsz _ (by omega)).mono ?_)
           rintro e w3 (⟨v2, q2, h1, rfl, h2, h3⟩ | ⟨z, h1, rfl, h2, h3⟩)
           rotate_left
           · exact ⟨rfl, .inr ⟨z, by rw [HR.out, h1], rfl, h2, HK2.out.trans h3⟩⟩
           have HW3 := Lib.hid h2
           have HK3 := Lib.hid (HK2.out.trans h3)
           have x03 := row_cell ((h3.block g (row_lt HN.out) hgp).trans HN.out) 0 rfl
           simp only [List.getElem_toArray, List.getElem_cons_zero] at x03
           have HR3 := Lib.hid (HR.out.trans h1)
           clear h1 HR
           clear h2 h3 HW2 HK2))
      exact bodyPost_end (results_none rfl _ _ _) rfl (.inl ⟨v2, q2, HR3.out, rfl, HW3.out, HK3.out⟩)
theorem val_names (h : Wv k w v pc q) (hm : MOk k.m) (hlc : k.loc.size ≤ 140737488355328) (hne : 0 < v.opens.length) (hle : v.top.base.size ≤ v.shape.size) (hsz : v.shape.size ≤ 1000) (x : InsD) (vl : Value) (hx : i64P x.a) (hop : x.op = 18 ∨ x.op = 19 ∨ x.op = 20 ∨ x.op = 21 ∨ x.op = 22) :
    Calls Tryd.prog 54 #[.pointer (some ⟨k.p, 0, none⟩), .agg (insW x vl)] w fun r w' => WE k w pc (.tuple #[]) (namesV k.ctx v x) r w' := by
  obtain ⟨op, a, l⟩ := x
  simp only at hx hop
  by_cases ho : op = 18 ∨ op = 19 ∨ op = 20
  · by_cases hno : 0 ≤ a ∧ a < k.loc.size
    · obtain ⟨n, rfl⟩ : ∃ n : Nat, a = n := ⟨a.toNat, by omega⟩
      have hn : n < k.loc.size := by omega
      rcases ho with rfl | rfl | rfl
      · exact names_loc_18 h hsz hlc n l vl hn
      · exact names_loc_19 h hne hle hsz hlc n l vl hn
      · exact names_loc_20 h hne hle hsz hlc n l vl hn
    · exact names_loc_no h hlc op a l vl hx ho hno
  · have ho : op = 21 ∨ op = 22 := by omega
    by_cases hno : 0 ≤ a ∧ a < k.m.globals.length
    · obtain ⟨n, rfl⟩ : ∃ n : Nat, a = n := ⟨a.toNat, by omega⟩
      have hn : n < k.m.globals.length := by omega
      rcases ho with rfl | rfl
      · exact names_glob_21 h hsz hm n l vl hn
      · exact names_glob_22 h hne hle hsz hm n l vl hn
    · exact names_glob_no h op a l vl hx ho hno
end
end Go.Proofs.YtfhkjahjenpbgaaDoor
