/- The validator's rows: picks. The validator's rows: trap, br, brif, return. The validator's rows: brtable; what goes elsewhere. -/
import Derived.Test.YtfhkjahjenpbgaaDoorVw3
namespace Go.Proofs.YtfhkjahjenpbgaaDoor
open Go Go.RowKit

section
variable {k : Wc} {w w' w1 : World} {v v1 : VwD} {pc : Int} {q : Wq} {b : Nat}
theorem ba_toList (s : ByteArray) : s.toList = s.data.toList := ByteArray.toList_eq s
theorem ba_empty {s : ByteArray} (h : s.size = 0) : s = ⟨#[]⟩ := by
  apply ByteArray.ext
  apply Array.eq_empty_of_size_eq_zero
  simpa using h
theorem ba_nz {s : ByteArray} (h : s.size ≠ 0) : (s.toList == []) = false := by
  rw [ba_toList]
  cases hs : s.data.toList with
  | nil => exact absurd (by rw [← ByteArray.size_data, ← Array.length_toList, hs]; rfl) h
  | cons a l => rfl
set_option maxRecDepth 100000 in
set_option maxHeartbeats 3200000 in
theorem val_drop (h : Wv k w v pc q) (hne : 0 < v.opens.length) (hle : v.top.base.size ≤ v.shape.size) (hsz : v.shape.size ≤ 1000) (a : Int) (l : List Int) (vl : Value) :
    Calls Tryd.prog 53 #[.pointer (some ⟨k.p, 0, none⟩), .agg #[.int .u8 16, .int .i64 a, vl]] w fun r w' => WE k w pc (.tuple #[]) (picksV v ⟨16, a, l⟩) r w' := by
  have hb := below_alloc w (.cells #[.int .u8 16, .int .i64 a, vl] 68)
  have hnw := heap_alloc_new w (.cells #[.int .u8 16, .int .i64 a, vl] 68)
  have HW := Lib.hid (h.on hb)
  have HK := Lib.hid (Kw.on (k := k) hb)
  have x0 := row_cell hnw 0 rfl
  simp only [List.getElem_toArray, List.getElem_cons_zero] at x0
  obtain ⟨b, ht, hb4, -⟩ := HW.out.topAt hne
  have HT := Lib.hid (show ∀ n, Calls Tryd.prog 34 #[.pointer (some ⟨k.p, 0, none⟩)] ((w.alloc (.cells #[.int .u8 16, .int .i64 a, vl] 68)).drewN n) fun r w' => r = .returned (.pointer (some ⟨b, 0, none⟩)) ∧ ∃ m, w' = ((w.alloc (.cells #[.int .u8 16, .int .i64 a, vl] 68)).drewN n).drewN m from fun n => val_topQ (w := (w.alloc (.cells #[.int .u8 16, .int .i64 a, vl] 68)).drewN n) hne ht)
  have y18 : (w.alloc (.cells #[.int .u8 16, .int .i64 a, vl] 68)).cell? ⟨k.p, 18, none⟩ = some (.string v.shape) := HW.out.cell 18 rfl
  have f18 : (w.alloc (.cells #[.int .u8 16, .int .i64 a, vl] 68)).frozen? ⟨k.p, 18, none⟩ = false := HW.out.free 18
  have b4 : (w.alloc (.cells #[.int .u8 16, .int .i64 a, vl] 68)).cell? ⟨b, 4, none⟩ = some (.string v.top.base) := row_cell hb4 4 rfl
  clear ht hb4 h hne hb hnw
  by_cases hz : v.above.size = 0
  · have HR : Hid (picksV v ⟨16, a, l⟩ = .error 33) := Lib.hid (by unfold picksV; rw [if_pos rfl, if_pos hz])
    have he : v.shape.extract v.top.base.size v.shape.size = ⟨#[]⟩ := ba_empty hz
    clear hz
    go_enter Tryd.func53, Tryd.ntmps53
    go_wp2_with fail
    go_quiet ((go_at_call 34; exact Calls.quiet_of (HT.out _)))
    have hw1 := bel_drewV (Below.refl (w.alloc (.cells #[.int .u8 16, .int .i64 a, vl] 68)).heap.size (w.alloc (.cells #[.int .u8 16, .int .i64 a, vl] 68))) nq
    have HW1 := Lib.hid (HW.out.on hw1)
    have HK1 := Lib.hid (HK.out.trans (Kw.on (k := k) hw1))
    have x01 : ((w.alloc (.cells #[.int .u8 16, .int .i64 a, vl] 68)).drewN nq).cell? _ = _ := x0
    clear y18 f18 b4 HT HW HK hw1 x0
    generalize (w.alloc (.cells #[.int .u8 16, .int .i64 a, vl] 68)).drewN nq = w1 at *
    go_wp2_with (first
      | (go_at_call 33; refine (val_must_no _ _).mono ?_; rintro r w3 ⟨rfl, rfl⟩))
    exact ⟨rfl, .inr ⟨33, HR.out, rfl, HW1.out.cell 20 rfl, HK1.out⟩⟩
  · have HR : Hid (picksV v ⟨16, a, l⟩ = .ok { v with shape := v.shape.extract 0 (v.shape.size - 1) }) := Lib.hid (by unfold picksV; rw [if_pos rfl, if_neg hz])
    have hz1 : 1 ≤ v.shape.size := by
      unfold VwD.above at hz; simp at hz; omega
    have hz2 : (1 : Int) ≤ v.shape.size := by omega
    have hnz := ba_nz hz
    unfold VwD.above at hnz
    clear hz
    go_enter Tryd.func53, Tryd.ntmps53
    go_wp2_with fail
    go_quiet ((go_at_call 34; exact Calls.quiet_of (HT.out _)))
    have hw1 := bel_drewV (Below.refl (w.alloc (.cells #[.int .u8 16, .int .i64 a, vl] 68)).heap.size (w.alloc (.cells #[.int .u8 16, .int .i64 a, vl] 68))) nq
    have HW1 := Lib.hid (HW.out.on hw1)
    have HK1 := Lib.hid (HK.out.trans (Kw.on (k := k) hw1))
    have x01 : ((w.alloc (.cells #[.int .u8 16, .int .i64 a, vl] 68)).drewN nq).cell? _ = _ := x0
    have y18' : ((w.alloc (.cells #[.int .u8 16, .int .i64 a, vl] 68)).drewN nq).cell? ⟨k.p, 18, none⟩ = some (.string v.shape) := y18
    have f18' : ((w.alloc (.cells #[.int .u8 16, .int .i64 a, vl] 68)).drewN nq).frozen? ⟨k.p, 18, none⟩ = false := f18
    clear y18 f18 b4 HT HW HK hw1 x0
    generalize (w.alloc (.cells #[.int .u8 16, .int .i64 a, vl] 68)).drewN nq = w1 at *
    have ea : IntKind.i64.wrap ((v.shape.size : Int) - 1) = (v.shape.size : Int) - 1 := IntWalk.i64_in _ (by omega)
    have eb : ((v.shape.size : Int) - 1).toNat = v.shape.size - 1 := by omega
    have ec : (0 : Int) ≤ (v.shape.size : Int) - 1 := by omega
    have ed : (v.shape.size : Int) - 1 ≤ v.shape.size := by omega
    go_wp2_with (first
      | (go_at_call 33; refine (val_must_ok _ _).mono ?_; rintro r w3 ⟨rfl, rfl⟩))
    go_still_tail 14, (by kernel_rfl)
    change wpList _ _ _ _ _ w3.drew
    have P := HW1.out.drew
    have HW3 := Lib.hid P.1
    have HK3 := Lib.hid (HK1.out.trans P.2)
    have f18 : w3.drew.frozen? ⟨k.p, 18, none⟩ = false := HW3.out.free 18
    have y18 : w3.drew.cell? ⟨k.p, 18, none⟩ = some (.string v.shape) := HW3.out.cell 18 rfl
    clear HW1 HK1 P y18' f18'
    generalize w3.drew = w4 at *
    go_wp2
    obtain ⟨hP, hK⟩ := HW3.out.put (v' := { v with shape := v.shape.extract 0 (v.shape.size - 1) }) (q' := q) (pc' := pc) 18 (.string (v.shape.extract 0 (v.shape.size - 1))) rfl rfl rfl rfl
    exact bodyPost_ret (results_none rfl _ _ _) rfl (.inl ⟨_, q, HR.out, rfl, hP, HK3.out.trans hK⟩)
set_option maxRecDepth 100000 in
set_option maxHeartbeats 3200000 in
theorem val_select (h : Wv k w v pc q) (hne : 0 < v.opens.length) (hle : v.top.base.size ≤ v.shape.size) (hsz : v.shape.size ≤ 1000) (a : Int) (l : List Int) (vl : Value) :
    Calls Tryd.prog 53 #[.pointer (some ⟨k.p, 0, none⟩), .agg #[.int .u8 17, .int .i64 a, vl]] w fun r w' => WE k w pc (.tuple #[]) (picksV v ⟨17, a, l⟩) r w' := by
  have hb := below_alloc w (.cells #[.int .u8 17, .int .i64 a, vl] 68)
  have hnw := heap_alloc_new w (.cells #[.int .u8 17, .int .i64 a, vl] 68)
  have HW := Lib.hid (h.on hb)
  have HK := Lib.hid (Kw.on (k := k) hb)
  have x0 := row_cell hnw 0 rfl
  simp only [List.getElem_toArray, List.getElem_cons_zero] at x0
  obtain ⟨b, ht, hb4, -⟩ := HW.out.topAt hne
  have HT := Lib.hid (show ∀ n, Calls Tryd.prog 34 #[.pointer (some ⟨k.p, 0, none⟩)] ((w.alloc (.cells #[.int .u8 17, .int .i64 a, vl] 68)).drewN n) fun r w' => r = .returned (.pointer (some ⟨b, 0, none⟩)) ∧ ∃ m, w' = ((w.alloc (.cells #[.int .u8 17, .int .i64 a, vl] 68)).drewN n).drewN m from fun n => val_topQ (w := (w.alloc (.cells #[.int .u8 17, .int .i64 a, vl] 68)).drewN n) hne ht)
  have y18 : (w.alloc (.cells #[.int .u8 17, .int .i64 a, vl] 68)).cell? ⟨k.p, 18, none⟩ = some (.string v.shape) := HW.out.cell 18 rfl
  have f18 : (w.alloc (.cells #[.int .u8 17, .int .i64 a, vl] 68)).frozen? ⟨k.p, 18, none⟩ = false := HW.out.free 18
  have b4 : (w.alloc (.cells #[.int .u8 17, .int .i64 a, vl] 68)).cell? ⟨b, 4, none⟩ = some (.string v.top.base) := row_cell hb4 4 rfl
  clear ht hb4 h hb hnw
  have hsa : (v.shape.extract v.top.base.size v.shape.size).size ≤ 1000 := by simp; omega
  by_cases hz : v.above.size < 3
  · have HR : Hid (picksV v ⟨17, a, l⟩ = .error 33) := Lib.hid (by unfold picksV; rw [if_neg (show ¬ (17 : Nat) = 16 by decide), if_pos hz])
    unfold VwD.above at hz
    go_enter Tryd.func53, Tryd.ntmps53
    go_wp2_with fail
    go_quiet ((go_at_call 34; exact Calls.quiet_of (HT.out _)))
    have hw1 := bel_drewV (Below.refl (w.alloc (.cells #[.int .u8 17, .int .i64 a, vl] 68)).heap.size (w.alloc (.cells #[.int .u8 17, .int .i64 a, vl] 68))) nq
    have HW1 := Lib.hid (HW.out.on hw1)
    have HK1 := Lib.hid (HK.out.trans (Kw.on (k := k) hw1))
    have x01 : ((w.alloc (.cells #[.int .u8 17, .int .i64 a, vl] 68)).drewN nq).cell? _ = _ := x0
    clear y18 f18 b4 HT HW HK hw1 x0
    generalize (w.alloc (.cells #[.int .u8 17, .int .i64 a, vl] 68)).drewN nq = w1 at *
    generalize v.shape.extract v.top.base.size v.shape.size = ab at *
    have hd : decide ((ab.size : Int) ≥ 3) = false := decide_eq_false (by omega)
    go_wp2_with (first
      | (go_at_call 33; refine (val_must_no _ _).mono ?_; rintro r w3 ⟨rfl, rfl⟩))
    exact ⟨rfl, .inr ⟨33, HR.out, rfl, HW1.out.cell 20 rfl, HK1.out⟩⟩
  · have HR : Hid (picksV v ⟨17, a, l⟩ = andV (popsV v ((v.shape.extract v.top.base.size v.shape.size).extract ((v.shape.extract v.top.base.size v.shape.size).size - 2) ((v.shape.extract v.top.base.size v.shape.size).size - 1) ++ (v.shape.extract v.top.base.size v.shape.size).extract ((v.shape.extract v.top.base.size v.shape.size).size - 2) ((v.shape.extract v.top.base.size v.shape.size).size - 1) ++ tWw)) fun v1 => pushesV v1 ((v.shape.extract v.top.base.size v.shape.size).extract ((v.shape.extract v.top.base.size v.shape.size).size - 2) ((v.shape.extract v.top.base.size v.shape.size).size - 1))) := Lib.hid (by unfold picksV; rw [if_neg (show ¬ (17 : Nat) = 16 by decide), if_neg hz]; rfl)
    unfold VwD.above at hz
    go_enter Tryd.func53, Tryd.ntmps53
    go_wp2_with fail
    go_quiet ((go_at_call 34; exact Calls.quiet_of (HT.out _)))
    have hw1 := bel_drewV (Below.refl (w.alloc (.cells #[.int .u8 17, .int .i64 a, vl] 68)).heap.size (w.alloc (.cells #[.int .u8 17, .int .i64 a, vl] 68))) nq
    have HW1 := Lib.hid (HW.out.on hw1)
    have HK1 := Lib.hid (HK.out.trans (Kw.on (k := k) hw1))
    have x01 : ((w.alloc (.cells #[.int .u8 17, .int .i64 a, vl] 68)).drewN nq).cell? _ = _ := x0
    clear y18 f18 b4 HT HW HK hw1 x0
    generalize (w.alloc (.cells #[.int .u8 17, .int .i64 a, vl] 68)).drewN nq = w1 at *
    generalize v.shape.extract v.top.base.size v.shape.size = ab at *
    have hd : decide ((ab.size : Int) ≥ 3) = true := decide_eq_true (by omega)
    have hz2 : (2 : Int) ≤ ab.size := by omega
    have hz1 : (1 : Int) ≤ ab.size := by omega
    obtain ⟨L, hL, hLs⟩ : ∃ L, ab.extract (ab.size - 2) (ab.size - 1) = L ∧ L.size ≤ 8 := ⟨_, rfl, by simp; omega⟩
    rw [hL] at HR
    have hpz : (L ++ L ++ (⟨#[119]⟩ : ByteArray)).size ≤ 1000 := by rw [ByteArray.size_append, ByteArray.size_append]; show L.size + L.size + 1 ≤ 1000; omega
    go_wp2_with (first
      | (go_at_call 33; refine (val_must_ok _ _).mono ?_; rintro r w3 ⟨rfl, rfl⟩)
      | ((go_at_call 56; refine (val_pops HW1.out hne hle hsz _ hpz).mono ?_)
         rintro e w5 (⟨v2, q2, h1, rfl, h2, h3⟩ | ⟨z, h1, rfl, h2, h3⟩)
         rotate_left
         · exact ⟨rfl, .inr ⟨z, by rw [HR.out]; show andV (popsV v (L ++ L ++ ⟨#[119]⟩)) _ = _; rw [h1]; rfl, rfl, h2, HK1.out.trans h3⟩⟩
         have HW2 := Lib.hid h2
         have HK2 := Lib.hid (HK1.out.trans h3)
         have HR2 : Hid (picksV v ⟨17, a, l⟩ = pushesV v2 L) := Lib.hid (by rw [HR.out]; show andV (popsV v (L ++ L ++ ⟨#[119]⟩)) _ = _; rw [h1]; rfl)
         have hsz2 : v2.shape.size ≤ 1000 := by rw [(pops_ok h1).1]; simp; omega
         clear h1 h2 h3 HW1 HK1 HR)
      | ((go_at_call 57; refine (val_pushes HW2.out hsz2 _ (by omega)).mono ?_)
         rintro e w6 (⟨v3, q3, h1, rfl, h2, h3⟩ | ⟨z, h1, rfl, h2, h3⟩)
         rotate_left
         · exact ⟨rfl, .inr ⟨z, HR2.out.trans h1, rfl, h2, HK2.out.trans h3⟩⟩))
    exact bodyPost_end (results_none rfl _ _ _) rfl (.inl ⟨v3, q3, HR2.out.trans h1, rfl, h2, HK2.out.trans h3⟩)
theorem val_picks (h : Wv k w v pc q) (hne : 0 < v.opens.length) (hle : v.top.base.size ≤ v.shape.size) (hsz : v.shape.size ≤ 1000) (x : InsD) (vl : Value) (hop : x.op = 16 ∨ x.op = 17) :
    Calls Tryd.prog 53 #[.pointer (some ⟨k.p, 0, none⟩), .agg (insW x vl)] w fun r w' => WE k w pc (.tuple #[]) (picksV v x) r w' := by
  obtain ⟨op, a, l⟩ := x
  rcases hop with rfl | rfl
  · exact val_drop h hne hle hsz a l vl
  · exact val_select h hne hle hsz a l vl
end
end Go.Proofs.YtfhkjahjenpbgaaDoor
namespace Go.Proofs.YtfhkjahjenpbgaaDoor
open Go Go.RowKit

/-- The openers' letters are few. -/
def ObOk (v : VwD) : Prop := ∀ o ∈ v.opens, o.par.size ≤ 8 ∧ o.res.size ≤ 8
theorem ObOk.brings {v : VwD} (h : ObOk v) {o : OpD} (ho : o ∈ v.opens) : o.brings.size ≤ 8 := by
  have := h o ho
  unfold OpD.brings
  split <;> omega
section
variable {k : Wc} {w w' w1 : World} {v v1 : VwD} {pc : Int} {q : Wq} {b : Nat}
set_option maxRecDepth 100000 in
set_option maxHeartbeats 3200000 in
theorem bran_7 (h : Wv k w v pc q) (hne : 0 < v.opens.length) (hle : v.top.base.size ≤ v.shape.size) (hsz : v.shape.size ≤ 1000) (hob : ObOk v) (a : Int) (l : List Int) (vl : Value) (ha : i64P a) :
    Calls Tryd.prog 51 #[.pointer (some ⟨k.p, 0, none⟩), .agg #[.int .u8 7, .int .i64 a, vl]] w fun r w' => WE k w pc (.tuple #[]) (branchesV k.ctx v ⟨7, a, l⟩) r w' := by
  have hb := below_alloc w (.cells #[.int .u8 7, .int .i64 a, vl] 68)
  have hnw := heap_alloc_new w (.cells #[.int .u8 7, .int .i64 a, vl] 68)
  have HW := Lib.hid (h.on hb)
  have HK := Lib.hid (Kw.on (k := k) hb)
  have x0 := row_cell hnw 0 rfl; have x1 := row_cell hnw 1 rfl
  simp only [List.getElem_toArray, List.getElem_cons_zero, List.getElem_cons_succ] at x0 x1
  clear h hb hnw
  go_enter Tryd.func51, Tryd.ntmps51
  go_wp2_with fail
  generalize w.alloc (.cells #[.int .u8 7, .int .i64 a, vl] 68) = w1 at *
  generalize w.heap.size = g at *
  go_wp2_with (first
    | ((go_at_call 64; refine (val_label HW.out a ha).mono ?_)
       rintro e w2 ⟨hb2, ⟨o, b, h1, rfl, h2, h3, h4⟩ | ⟨h1, rfl, h3⟩⟩
       rotate_left
       · exact ⟨rfl, .inr ⟨31, by unfold branchesV; rw [if_pos rfl]; rw [h1]; rfl, rfl, h3.cell 20 rfl, HK.out.trans (Kn.on (k := k) hb2)⟩⟩
       have HB2 := Lib.hid h2
       have HW2 := Lib.hid h3
       have HK2 := Lib.hid (HK.out.trans (Kn.on (k := k) hb2))
       have HR2 : Hid (branchesV k.ctx v ⟨7, a, l⟩ = andV (popsV v o.brings) fun v1 => .ok { v1 with dead := true }) := Lib.hid (by unfold branchesV; rw [if_pos rfl]; rw [h1]; rfl)
       have hbs := hob.brings h4
       obtain ⟨s, hs⟩ : ∃ s, o.brings = s := ⟨_, rfl⟩
       rw [hs] at hbs HR2
       have HS := Lib.hid hs
       clear h1 h2 h3 h4 hb2 hs HW HK)
    | ((go_at_call 65; refine (val_brings _ b o HB2.out).mono ?_); rintro e w3 ⟨rfl, rfl⟩; rw [HS.out])
    | ((go_at_call 56; refine (val_pops HW2.out hne hle hsz _ (by omega)).mono ?_)
       rintro e w4 (⟨v2, q2, h1, rfl, h2, h3⟩ | ⟨z, h1, rfl, h2, h3⟩)
       rotate_left
       · exact ⟨rfl, .inr ⟨z, by rw [HR2.out]; (try unfold tWw); rw [h1]; rfl, rfl, h2, HK2.out.trans h3⟩⟩
       have HW3 := Lib.hid h2
       have HK3 := Lib.hid (HK2.out.trans h3)
       have f19 := h2.free 19
       have y19 := h2.cell 19 rfl
       have HR3 : Hid (branchesV k.ctx v ⟨7, a, l⟩ = .ok { v2 with dead := true }) := Lib.hid (by rw [HR2.out]; (try unfold tWw); rw [h1]; rfl)
       clear h1 h2 h3 HW2 HK2 HR2))
  obtain ⟨hP, hK⟩ := HW3.out.put (v' := { v2 with dead := true }) (q' := q2) (pc' := pc) 19 (.bool true) rfl rfl rfl rfl
  exact bodyPost_end (results_none rfl _ _ _) rfl (.inl ⟨_, q2, HR3.out, rfl, hP, HK3.out.trans hK⟩)
set_option maxRecDepth 100000 in
set_option maxHeartbeats 3200000 in
theorem bran_8 (h : Wv k w v pc q) (hne : 0 < v.opens.length) (hle : v.top.base.size ≤ v.shape.size) (hsz : v.shape.size ≤ 1000) (hob : ObOk v) (a : Int) (l : List Int) (vl : Value) (ha : i64P a) :
    Calls Tryd.prog 51 #[.pointer (some ⟨k.p, 0, none⟩), .agg #[.int .u8 8, .int .i64 a, vl]] w fun r w' => WE k w pc (.tuple #[]) (branchesV k.ctx v ⟨8, a, l⟩) r w' := by
  have hb := below_alloc w (.cells #[.int .u8 8, .int .i64 a, vl] 68)
  have hnw := heap_alloc_new w (.cells #[.int .u8 8, .int .i64 a, vl] 68)
  have HW := Lib.hid (h.on hb)
  have HK := Lib.hid (Kw.on (k := k) hb)
  have x0 := row_cell hnw 0 rfl; have x1 := row_cell hnw 1 rfl
  simp only [List.getElem_toArray, List.getElem_cons_zero, List.getElem_cons_succ] at x0 x1
  clear h hb hnw
  go_enter Tryd.func51, Tryd.ntmps51
  go_wp2_with fail
  generalize w.alloc (.cells #[.int .u8 8, .int .i64 a, vl] 68) = w1 at *
  generalize w.heap.size = g at *
  go_wp2_with (first
    | ((go_at_call 64; refine (val_label HW.out a ha).mono ?_)
       rintro e w2 ⟨hb2, ⟨o, b, h1, rfl, h2, h3, h4⟩ | ⟨h1, rfl, h3⟩⟩
       rotate_left
       · exact ⟨rfl, .inr ⟨31, by unfold branchesV; rw [if_neg (show ¬ (8 : Nat) = 7 by decide), if_pos rfl]; rw [h1]; rfl, rfl, h3.cell 20 rfl, HK.out.trans (Kn.on (k := k) hb2)⟩⟩
       have HB2 := Lib.hid h2
       have HW2 := Lib.hid h3
       have HK2 := Lib.hid (HK.out.trans (Kn.on (k := k) hb2))
       have HR2 : Hid (branchesV k.ctx v ⟨8, a, l⟩ = andV (popsV v (o.brings ++ tWw)) fun v1 => .ok { v1 with shape := v1.shape ++ o.brings }) := Lib.hid (by unfold branchesV; rw [if_neg (show ¬ (8 : Nat) = 7 by decide), if_pos rfl]; rw [h1]; rfl)
       have hbs := hob.brings h4
       obtain ⟨s, hs⟩ : ∃ s, o.brings = s := ⟨_, rfl⟩
       rw [hs] at hbs HR2
       have HS := Lib.hid hs
       clear h1 h2 h3 h4 hb2 hs HW HK)
    | ((go_at_call 65; refine (val_brings _ b o HB2.out).mono ?_); rintro e w3 ⟨rfl, rfl⟩; rw [HS.out]; have hcat : ¬ 9223372036854775807 < s.size + (⟨#[119]⟩ : ByteArray).size := (by show ¬ 9223372036854775807 < s.size + 1; omega); have hpz : (s ++ (⟨#[119]⟩ : ByteArray)).size ≤ 1000 := (by rw [ByteArray.size_append]; show s.size + 1 ≤ 1000; omega))
    | ((go_at_call 56; refine (val_pops HW2.out hne hle hsz _ hpz).mono ?_)
       rintro e w4 (⟨v2, q2, h1, rfl, h2, h3⟩ | ⟨z, h1, rfl, h2, h3⟩)
       rotate_left
       · exact ⟨rfl, .inr ⟨z, by rw [HR2.out]; (try unfold tWw); rw [h1]; rfl, rfl, h2, HK2.out.trans h3⟩⟩
       have HW3 := Lib.hid h2
       have HK3 := Lib.hid (HK2.out.trans h3)
       have f18 := h2.free 18
       have y18 : w4.cell? ⟨k.p, 18, none⟩ = some (.string v2.shape) := h2.cell 18 rfl
       have hsz2 : v2.shape.size ≤ 1000 := by rw [(pops_ok h1).1]; simp; omega
       have hcat2 : ¬ 9223372036854775807 < v2.shape.size + s.size := by omega
       have HR3 : Hid (branchesV k.ctx v ⟨8, a, l⟩ = .ok { v2 with shape := v2.shape ++ s }) := Lib.hid (by rw [HR2.out]; unfold tWw; rw [h1]; rfl)
       clear h1 h2 h3 HW2 HK2 HR2))
  obtain ⟨hP, hK⟩ := HW3.out.put (v' := { v2 with shape := v2.shape ++ s }) (q' := q2) (pc' := pc) 18 (.string (v2.shape ++ s)) rfl rfl rfl rfl
  exact bodyPost_ret (results_none rfl _ _ _) rfl (.inl ⟨_, q2, HR3.out, rfl, hP, HK3.out.trans hK⟩)
set_option maxRecDepth 100000 in
set_option maxHeartbeats 3200000 in
theorem bran_10 (h : Wv k w v pc q) (hne : 0 < v.opens.length) (hle : v.top.base.size ≤ v.shape.size) (hsz : v.shape.size ≤ 1000) (hs2 : k.s2.size ≤ 8) (a : Int) (l : List Int) (vl : Value) :
    Calls Tryd.prog 51 #[.pointer (some ⟨k.p, 0, none⟩), .agg #[.int .u8 10, .int .i64 a, vl]] w fun r w' => WE k w pc (.tuple #[]) (branchesV k.ctx v ⟨10, a, l⟩) r w' := by
  have hb := below_alloc w (.cells #[.int .u8 10, .int .i64 a, vl] 68)
  have hnw := heap_alloc_new w (.cells #[.int .u8 10, .int .i64 a, vl] 68)
  have HW := Lib.hid (h.on hb)
  have HK := Lib.hid (Kw.on (k := k) hb)
  have x0 := row_cell hnw 0 rfl
  simp only [List.getElem_toArray, List.getElem_cons_zero] at x0
  have y9 : (w.alloc (.cells #[.int .u8 10, .int .i64 a, vl] 68)).cell? ⟨k.p, 9, none⟩ = some (.string k.s2) := HW.out.cell 9 rfl
  have HR : Hid (branchesV k.ctx v ⟨10, a, l⟩ = andV (popsV v k.s2) fun v1 => .ok { v1 with dead := true }) := Lib.hid (by
    unfold branchesV; rw [if_neg (show ¬ (10 : Nat) = 7 by decide), if_neg (show ¬ (10 : Nat) = 8 by decide), if_neg (show ¬ (10 : Nat) = 9 by decide), if_pos rfl]; rfl)
  clear h hb hnw
  go_enter Tryd.func51, Tryd.ntmps51
  go_wp2_with fail
  generalize w.alloc (.cells #[.int .u8 10, .int .i64 a, vl] 68) = w1 at *
  generalize w.heap.size = g at *
  go_wp2_with (first
    | ((go_at_call 56; refine (val_pops HW.out hne hle hsz _ (by omega)).mono ?_)
       rintro e w4 (⟨v2, q2, h1, rfl, h2, h3⟩ | ⟨z, h1, rfl, h2, h3⟩)
       rotate_left
       · exact ⟨rfl, .inr ⟨z, by rw [HR.out]; (try unfold tWw); rw [h1]; rfl, rfl, h2, HK.out.trans h3⟩⟩
       have HW3 := Lib.hid h2
       have HK3 := Lib.hid (HK.out.trans h3)
       have f19 := h2.free 19
       have y19 := h2.cell 19 rfl
       have HR3 : Hid (branchesV k.ctx v ⟨10, a, l⟩ = .ok { v2 with dead := true }) := Lib.hid (by rw [HR.out]; (try unfold tWw); rw [h1]; rfl)
       clear h1 h2 h3 HW HK HR))
  obtain ⟨hP, hK⟩ := HW3.out.put (v' := { v2 with dead := true }) (q' := q2) (pc' := pc) 19 (.bool true) rfl rfl rfl rfl
  exact bodyPost_end (results_none rfl _ _ _) rfl (.inl ⟨_, q2, HR3.out, rfl, hP, HK3.out.trans hK⟩)
set_option maxRecDepth 100000 in
set_option maxHeartbeats 3200000 in
theorem bran_0 (h : Wv k w v pc q) (a : Int) (l : List Int) (vl : Value) :
    Calls Tryd.prog 51 #[.pointer (some ⟨k.p, 0, none⟩), .agg #[.int .u8 0, .int .i64 a, vl]] w fun r w' => WE k w pc (.tuple #[]) (branchesV k.ctx v ⟨0, a, l⟩) r w' := by
  have hb := below_alloc w (.cells #[.int .u8 0, .int .i64 a, vl] 68)
  have hnw := heap_alloc_new w (.cells #[.int .u8 0, .int .i64 a, vl] 68)
  have HW := Lib.hid (h.on hb)
  have HK := Lib.hid (Kw.on (k := k) hb)
  have x0 := row_cell hnw 0 rfl
  simp only [List.getElem_toArray, List.getElem_cons_zero] at x0
  have f19 := HW.out.free 19
  have y19 := HW.out.cell 19 rfl
  have HR : Hid (branchesV k.ctx v ⟨0, a, l⟩ = .ok { v with dead := true }) := Lib.hid rfl
  clear h hb hnw
  go_enter Tryd.func51, Tryd.ntmps51
  go_wp2_with fail
  generalize w.alloc (.cells #[.int .u8 0, .int .i64 a, vl] 68) = w1 at *
  generalize w.heap.size = g at *
  go_wp2
  obtain ⟨hP, hK⟩ := HW.out.put (v' := { v with dead := true }) (q' := q) (pc' := pc) 19 (.bool true) rfl rfl rfl rfl
  exact bodyPost_end (results_none rfl _ _ _) rfl (.inl ⟨_, q, HR.out, rfl, hP, HK.out.trans hK⟩)
end
end Go.Proofs.YtfhkjahjenpbgaaDoor
namespace Go.Proofs.YtfhkjahjenpbgaaDoor
open Go Go.RowKit

theorem andV_assoc {α β γ : Type} (r : Except Int α) (f : α → Except Int β) (g : β → Except Int γ) : andV (andV r f) g = andV r fun x => andV (f x) g := by cases r <;> rfl
theorem labels_app {v : VwD} : ∀ (a b : List Int), labelsV v (a ++ b) = andV (labelsV v a) fun _ => labelsV v b
  | [], b => rfl
  | n :: a, b => by
    show andV (labelV v n) (fun _ => labelsV v (a ++ b)) = andV (andV (labelV v n) fun _ => labelsV v a) fun _ => labelsV v b
    rw [andV_assoc]
    congr 1
    funext _
    exact labels_app a b
theorem same_app {v : VwD} {s : ByteArray} : ∀ (a b : List Int), sameV v s (a ++ b) = andV (sameV v s a) fun _ => sameV v s b
  | [], b => rfl
  | n :: a, b => by
    show andV (labelV v n) (fun o => if o.brings = s then sameV v s (a ++ b) else .error 32) = andV (andV (labelV v n) fun o => if o.brings = s then sameV v s a else .error 32) fun _ => sameV v s b
    rw [andV_assoc]
    congr 1
    funext o
    by_cases h : o.brings = s
    · rw [if_pos h, if_pos h]; exact same_app a b
    · rw [if_neg h, if_neg h]; rfl
theorem split_at {α : Type} {l : List α} {j : Nat} (h : j < l.length) : l = l.take j ++ (l[j] :: l.drop (j + 1)) := by
  rw [List.getElem_cons_drop, List.take_append_drop]
theorem labels_bad {v : VwD} {l : List Int} {j : Nat} {e : Int} (h : j < l.length) (h1 : labelsV v (l.take j) = .ok ()) (h2 : labelV v l[j] = .error e) : labelsV v l = .error e := by
  rw [split_at h, labels_app, h1]
  show andV (labelV v l[j]) _ = _
  rw [h2]; rfl
theorem labels_more {v : VwD} {l : List Int} {j : Nat} {o : OpD} (h : j < l.length) (h1 : labelsV v (l.take j) = .ok ()) (h2 : labelV v l[j] = .ok o) : labelsV v (l.take (j + 1)) = .ok () := by
  rw [List.take_succ_eq_append_getElem h, labels_app, h1]
  show andV (labelV v l[j]) _ = _
  rw [h2]; rfl
theorem same_bad {v : VwD} {s : ByteArray} {l : List Int} {j : Nat} {o : OpD} (h : j < l.length) (h1 : sameV v s (l.take j) = .ok ()) (h2 : labelV v l[j] = .ok o) (h3 : o.brings ≠ s) : sameV v s l = .error 32 := by
  rw [split_at h, same_app, h1]
  show andV (labelV v l[j]) _ = _
  rw [h2]
  show (if o.brings = s then _ else _) = _
  rw [if_neg h3]
theorem same_lost {v : VwD} {s : ByteArray} {l : List Int} {j : Nat} {e : Int} (h : j < l.length) (h1 : sameV v s (l.take j) = .ok ()) (h2 : labelV v l[j] = .error e) : sameV v s l = .error e := by
  rw [split_at h, same_app, h1]
  show andV (labelV v l[j]) _ = _
  rw [h2]; rfl
theorem same_more {v : VwD} {s : ByteArray} {l : List Int} {j : Nat} {o : OpD} (h : j < l.length) (h1 : sameV v s (l.take j) = .ok ()) (h2 : labelV v l[j] = .ok o) (h3 : o.brings = s) : sameV v s (l.take (j + 1)) = .ok () := by
  rw [List.take_succ_eq_append_getElem h, same_app, h1]
  show andV (labelV v l[j]) _ = _
  rw [h2]
  show (if o.brings = s then _ else _) = _
  rw [if_pos h3]; rfl
/-- How the two loops stand. -/
structure Bt (k : Wc) (w : World) (v : VwD) (pc : Int) (q : Wq) (g : Nat) (c : Array Value) (va : Option Addr) (vc : Nat) (l : List Int) (wr : World) : Prop where
  wv : Wv k wr v pc q
  kw : Kw k w wr
  row : wr.heap[g]? = some (.cells c 68 (0, 0))
  rd : RdI .i64 (· < wr.heap.size) wr (.slice va l.length vc) l
section
variable {k : Wc} {w w' w1 : World} {v v1 : VwD} {pc : Int} {q : Wq} {b : Nat}
theorem Bt.on {g : Nat} {c : Array Value} {va : Option Addr} {vc : Nat} {l : List Int} (h : Bt k w v pc q g c va vc l w1) (hb : Below w1.heap.size w1 w') : Bt k w v pc q g c va vc l w' :=
  ⟨h.wv.on hb, h.kw.trans (Kn.on (k := k) hb), (hb.block _ (row_lt h.row)).trans h.row, h.rd.bel hb⟩
theorem Bt.at_ {g : Nat} {c : Array Value} {va : Option Addr} {vc : Nat} {l : List Int} (h : Bt k w v pc q g c va vc l w1) {j : Nat} (hj : j < l.length) : ∃ b off, va = some ⟨b, off, none⟩ ∧ w1.cell? ⟨b, off + j, none⟩ = some (.int .i64 l[j]) := by
  obtain ⟨a, c', e, -, -, h3⟩ := h.rd
  simp only [Value.slice.injEq] at e
  obtain ⟨rfl, -, rfl⟩ := e
  obtain ⟨b, off, e1, -, e2⟩ := h3 j hj
  exact ⟨b, off, e1, e2⟩
theorem bran9_1 {c : VcD} {a : Int} {l : List Int} {e : Int} (h : labelsV v l = .error e) : branchesV c v ⟨9, a, l⟩ = .error e := by
  unfold branchesV
  rw [if_neg (show ¬ (9 : Nat) = 7 by decide), if_neg (show ¬ (9 : Nat) = 8 by decide), if_pos rfl]
  show andV (labelsV v l) _ = _
  rw [h]; rfl
theorem bran9_2 {c : VcD} {a : Int} {l : List Int} (h : labelsV v l = .ok ()) (h0 : 0 < l.length) : branchesV c v ⟨9, a, l⟩ = andV (labelV v l[0]) fun o => andV (sameV v o.brings l) fun _ => andV (popsV v (o.brings ++ tWw)) fun v1 => .ok { v1 with dead := true } := by
  unfold branchesV
  rw [if_neg (show ¬ (9 : Nat) = 7 by decide), if_neg (show ¬ (9 : Nat) = 8 by decide), if_pos rfl]
  show andV (labelsV v l) _ = _
  rw [h]
  show andV (labelV v (l.getD 0 0)) _ = _
  rw [List.getD_eq_getElem?_getD, List.getElem?_eq_getElem h0]; rfl
set_option maxRecDepth 100000 in
set_option maxHeartbeats 6400000 in
theorem bran_9 (h : Wv k w v pc q) (hne : 0 < v.opens.length) (hle : v.top.base.size ≤ v.shape.size) (hsz : v.shape.size ≤ 1000) (hob : ObOk v) (a : Int) (l : List Int) (vl : Value) (hl : RdI .i64 (· < w.heap.size) w vl l) (hl0 : 0 < l.length) (hln : ∀ n ∈ l, i64P n) :
    Calls Tryd.prog 51 #[.pointer (some ⟨k.p, 0, none⟩), .agg #[.int .u8 9, .int .i64 a, vl]] w fun r w' => WE k w pc (.tuple #[]) (branchesV k.ctx v ⟨9, a, l⟩) r w' := by
  have hlm : l.length ≤ 140737488355328 := by obtain ⟨_, _, _, _, h2, _⟩ := hl; exact h2
  obtain ⟨va, vc, rfl, hlc⟩ := hl.lenc
  have hb := below_alloc w (.cells #[.int .u8 9, .int .i64 a, .slice va l.length vc] 68)
  have hnw := heap_alloc_new w (.cells #[.int .u8 9, .int .i64 a, .slice va l.length vc] 68)
  have x0 := row_cell hnw 0 rfl; have x2 := row_cell hnw 2 rfl
  simp only [List.getElem_toArray, List.getElem_cons_zero, List.getElem_cons_succ] at x0 x2
  have HB0 : Hid (Bt k w v pc q w.heap.size #[.int .u8 9, .int .i64 a, .slice va l.length vc] va vc l (w.alloc (.cells #[.int .u8 9, .int .i64 a, .slice va l.length vc] 68))) := Lib.hid ⟨h.on hb, Kw.on hb, hnw, hl.bel hb⟩
  have HLN := Lib.hid hln
  clear h hb hnw hl hln
  go_enter Tryd.func51, Tryd.ntmps51
  go_wp2_with fail
  generalize w.alloc (.cells #[.int .u8 9, .int .i64 a, .slice va l.length vc] 68) = w1 at *
  generalize w.heap.size = g at *
  go_wp2_with fail
  go_loopw [45] (fun i wr => ∃ j : Nat, j ≤ l.length ∧ i = .int .i64 j ∧ Hid (labelsV v (l.take j) = .ok ()) ∧ Hid (Bt k w v pc q g #[.int .u8 9, .int .i64 a, .slice va l.length vc] va vc l wr)) (fun i _ => l.length - (intOf i).toNat)
  case atStart => exact ⟨0, by omega, rfl, Lib.hid rfl, HB0⟩
  case round =>
    clear x0 x2 HB0
    obtain ⟨j, hj, rfl, HP, HB⟩ := hrel
    by_cases hlt : j < l.length
    · obtain ⟨bl, ol, rfl, hcell⟩ := HB.out.at_ hlt
      have hn : i64P l[j] := HLN.out _ (List.getElem_mem hlt)
      obtain ⟨n, hnj⟩ : ∃ n, l[j] = n := ⟨_, rfl⟩
      rw [hnj] at hcell hn
      have HJ := Lib.hid hnj
      clear hnj
      go_wp2_with (first
        | ((go_at_call 64; refine (val_label HB.out.wv n hn).mono ?_)
           rintro e w2 ⟨hb2, ⟨o, b, h1, rfl, h2, h3, h4⟩ | ⟨h1, rfl, h3⟩⟩
           rotate_left
           · exact ⟨rfl, .inr ⟨31, bran9_1 (labels_bad hlt HP.out (by rw [HJ.out]; exact h1)), rfl, h3.cell 20 rfl, HB.out.kw.trans (Kn.on (k := k) hb2)⟩⟩
           have HB2 := Lib.hid (HB.out.on hb2)
           have HP2 : Hid (labelsV v (l.take (j + 1)) = .ok ()) := Lib.hid (labels_more hlt HP.out (by rw [HJ.out]; exact h1))
           clear h1 h2 h3 h4 hb2 HB HP))
      go_roundw
      case rel => exact ⟨j + 1, by omega, by go_num, HP2, HB2⟩
      case measure => simp [intOf]; omega
    · obtain rfl : j = l.length := by omega
      have HR : Hid (branchesV k.ctx v ⟨9, a, l⟩ = andV (labelV v l[0]) fun o => andV (sameV v o.brings l) fun _ => andV (popsV v (o.brings ++ tWw)) fun v1 => .ok { v1 with dead := true }) := Lib.hid (bran9_2 (by have := HP.out; rw [List.take_length] at this; exact this) hl0)
      obtain ⟨bl, ol, rfl, hcell⟩ := HB.out.at_ hl0
      have x2 := row_cell HB.out.row 2 rfl
      have hn : i64P l[0] := HLN.out _ (List.getElem_mem hl0)
      obtain ⟨n, hnj⟩ : ∃ n, l[0] = n := ⟨_, rfl⟩
      rw [hnj] at hcell hn HR
      simp only [List.getElem_toArray, List.getElem_cons_zero, List.getElem_cons_succ, Nat.add_zero] at x2 hcell
      clear HP hnj
      go_wp2_with (first
        | ((go_at_call 64; refine (val_label HB.out.wv n hn).mono ?_)
           rintro e w2 ⟨hb2, ⟨o, b, h1, rfl, h2, h3, h4⟩ | ⟨h1, rfl, h3⟩⟩
           rotate_left
           · exact ⟨rfl, .inr ⟨31, by rw [HR.out, h1]; rfl, rfl, h3.cell 20 rfl, HB.out.kw.trans (Kn.on (k := k) hb2)⟩⟩
           have HO := Lib.hid h2
           have HB2 := Lib.hid (HB.out.on hb2)
           have x22 := row_cell HB2.out.row 2 rfl
           simp only [List.getElem_toArray, List.getElem_cons_zero, List.getElem_cons_succ] at x22
           have hbs := hob.brings h4
           obtain ⟨s, hs⟩ : ∃ s, o.brings = s := ⟨_, rfl⟩
           have HR2 : Hid (branchesV k.ctx v ⟨9, a, l⟩ = andV (sameV v s l) fun _ => andV (popsV v (s ++ tWw)) fun v1 => .ok { v1 with dead := true }) := Lib.hid (by rw [HR.out, h1, ← hs]; rfl)
           rw [hs] at hbs
           have HS := Lib.hid hs
           clear h1 h2 h3 h4 hb2 hs HB HR)
        | ((go_at_call 65; refine (val_brings _ b o HO.out).mono ?_); rintro e w3 ⟨rfl, rfl⟩; rw [HS.out]))
      clear x2 hcell hn HO HS
      go_loopw [63] (fun i wr => ∃ j : Nat, j ≤ l.length ∧ i = .int .i64 j ∧ Hid (sameV v s (l.take j) = .ok ()) ∧ Hid (Bt k w v pc q g #[.int .u8 9, .int .i64 a, .slice (some ⟨bl, ol, none⟩) l.length vc] (some ⟨bl, ol, none⟩) vc l wr)) (fun i _ => l.length - (intOf i).toNat)
      case atStart => exact ⟨0, by omega, rfl, Lib.hid rfl, HB2⟩
      case round =>
        clear x22 HB2
        obtain ⟨j, hj, rfl, HP, HB⟩ := hrel
        by_cases hlt : j < l.length
        · obtain ⟨bl2, ol2, e1, hcell⟩ := HB.out.at_ hlt
          simp only [Option.some.injEq, Addr.mk.injEq, and_true] at e1
          obtain ⟨rfl, rfl⟩ := e1
          have hn : i64P l[j] := HLN.out _ (List.getElem_mem hlt)
          obtain ⟨n, hnj⟩ : ∃ n, l[j] = n := ⟨_, rfl⟩
          rw [hnj] at hcell hn
          have HJ := Lib.hid hnj
          clear hnj
          go_wp2_with (first
            | ((go_at_call 64; refine (val_label HB.out.wv n hn).mono ?_)
               rintro e w4 ⟨hb2, ⟨o1, b1, h1, rfl, h2, h3, h4⟩ | ⟨h1, rfl, h3⟩⟩
               rotate_left
               · exact ⟨rfl, .inr ⟨31, by rw [HR2.out, same_lost hlt HP.out (by rw [HJ.out]; exact h1)]; rfl, rfl, h3.cell 20 rfl, HB.out.kw.trans (Kn.on (k := k) hb2)⟩⟩
               have HO1 := Lib.hid h2
               have HB3 := Lib.hid (HB.out.on hb2)
               have HL1 : Hid (labelV v l[j] = .ok o1) := Lib.hid (by rw [HJ.out]; exact h1)
               clear h1 h2 h3 h4 hb2 HB)
            | ((go_at_call 65; refine (val_brings _ b1 o1 HO1.out).mono ?_); rintro e w5 ⟨rfl, rfl⟩)
            | ((go_at_call 33; refine (val_must _ _ _).mono ?_)
               rintro e w6 ⟨rfl, rfl⟩
               by_cases he : o1.brings = s
               rotate_left
               · rw [if_neg (by simpa using fun e => he (ba_inj5 e))]
                 exact ⟨rfl, .inr ⟨32, by rw [HR2.out, same_bad hlt HP.out HL1.out he]; rfl, rfl, HB3.out.wv.cell 20 rfl, HB3.out.kw⟩⟩
               rw [if_pos (by rw [he]; simp)]
               have HP2 : Hid (sameV v s (l.take (j + 1)) = .ok ()) := Lib.hid (same_more hlt HP.out HL1.out he)
               clear HP he))
          go_roundw
          case rel => exact ⟨j + 1, by omega, by go_num, HP2, HB3⟩
          case measure => simp [intOf]; omega
        · obtain rfl : j = l.length := by omega
          have HR3 : Hid (branchesV k.ctx v ⟨9, a, l⟩ = andV (popsV v (s ++ tWw)) fun v1 => .ok { v1 with dead := true }) := Lib.hid (by
            have := HP.out
            rw [List.take_length] at this
            rw [HR2.out, this]; rfl)
          clear HP HR2
          have hcat : ¬ 9223372036854775807 < s.size + (⟨#[119]⟩ : ByteArray).size := by show ¬ 9223372036854775807 < s.size + 1; omega
          have hpz : (s ++ (⟨#[119]⟩ : ByteArray)).size ≤ 1000 := by rw [ByteArray.size_append]; show s.size + 1 ≤ 1000; omega
          go_wp2_with (first
            | ((go_at_call 56; refine (val_pops HB.out.wv hne hle hsz _ hpz).mono ?_)
               rintro e w7 (⟨v2, q2, h1, rfl, h2, h3⟩ | ⟨z, h1, rfl, h2, h3⟩)
               rotate_left
               · exact ⟨rfl, .inr ⟨z, by rw [HR3.out]; unfold tWw; rw [h1]; rfl, rfl, h2, HB.out.kw.trans h3⟩⟩
               have f19 := h2.free 19
               have y19 := h2.cell 19 rfl
               have HR4 : Hid (branchesV k.ctx v ⟨9, a, l⟩ = .ok { v2 with dead := true }) := Lib.hid (by rw [HR3.out]; unfold tWw; rw [h1]; rfl)
               have HW3 := Lib.hid h2
               have HK3 := Lib.hid (HB.out.kw.trans h3)
               clear h1 h2 h3 HB HR3))
          obtain ⟨hP, hK⟩ := HW3.out.put (v' := { v2 with dead := true }) (q' := q2) (pc' := pc) 19 (.bool true) rfl rfl rfl rfl
          exact bodyPost_end (results_none rfl _ _ _) rfl (.inl ⟨_, q2, HR4.out, rfl, hP, HK3.out.trans hK⟩)
theorem val_branches (h : Wv k w v pc q) (hne : 0 < v.opens.length) (hle : v.top.base.size ≤ v.shape.size) (hsz : v.shape.size ≤ 1000) (hob : ObOk v) (hs2 : k.s2.size ≤ 8) (x : InsD) (vl : Value) (hx : i64P x.a) (hl : RdI .i64 (· < w.heap.size) w vl x.l) (hl0 : x.op = 9 → 0 < x.l.length) (hln : ∀ n ∈ x.l, i64P n) (hop : x.op = 0 ∨ x.op = 7 ∨ x.op = 8 ∨ x.op = 9 ∨ x.op = 10) :
    Calls Tryd.prog 51 #[.pointer (some ⟨k.p, 0, none⟩), .agg (insW x vl)] w fun r w' => WE k w pc (.tuple #[]) (branchesV k.ctx v x) r w' := by
  obtain ⟨op, a, l⟩ := x
  simp only at hx hl hl0 hln hop
  rcases hop with rfl | rfl | rfl | rfl | rfl
  · exact bran_0 h a l vl
  · exact bran_7 h hne hle hsz hob a l vl hx
  · exact bran_8 h hne hle hsz hob a l vl hx
  · exact bran_9 h hne hle hsz hob a l vl hl (hl0 rfl) hln
  · exact bran_10 h hne hle hsz hs2 a l vl
end
end Go.Proofs.YtfhkjahjenpbgaaDoor
