/- The validator's rows: all of them. -/
import Derived.Test.YtfhkjahjenpbgaaDoorVw5
import Derived.Test.YtfhkjahjenpbgaaDoorMVw4
import Derived.Test.YtfhkjahjenpbgaaDoorMVw8
import Derived.Test.YtfhkjahjenpbgaaDoorVw10
import Derived.Test.YtfhkjahjenpbgaaDoorMOps4
namespace Go.Proofs.YtfhkjahjenpbgaaDoor
open Go Go.RowKit

theorem plain_sz : ∀ op : Fin 256, (if isOp op.val then (progRow op.val).pops else []).length ≤ 8 ∧ (if isOp op.val then (progRow op.val).pushes else []).length ≤ 8 := by decide +kernel
def plPops (op : Nat) : ByteArray := ⟨(if isOp op then (progRow op).pops else []).toArray⟩
def plPush (op : Nat) : ByteArray := ⟨(if isOp op then (progRow op).pushes else []).toArray⟩
theorem rowVal_plain (op : Nat) : ∃ (x : Int) (s : ByteArray) (t : Int) (b : Bool), rowVal op = [.int .u8 x, .string s, .int .i8 t, .string (plPops op), .string (plPush op), .bool b] := by
  unfold rowVal plPops plPush
  cases h : isOp op
  · exact ⟨_, _, _, _, rfl⟩
  · exact ⟨_, _, _, _, rfl⟩
theorem plain_step (v : VwD) (x : InsD) : plainV v x = andV (popsV v (plPops x.op)) fun v1 => pushesV v1 (plPush x.op) := rfl
/-- What a row asks of an instruction and of the walk. -/
structure RowH (k : Wc) (w : World) (v : VwD) (at_ : Nat) (q : Wq) (x : InsD) (vl : Value) : Prop where
  wv : Wv k w v at_ q
  hm : MOk k.m
  vr : VR k.elses.length v at_
  lc : k.loc.size ≤ 140737488355328
  s2 : k.s2.size ≤ 8
  le : at_ ≤ 1048576
  ia : i64P x.a
  il : RdI .i64 (· < w.heap.size) w vl x.l
  i0 : x.op = 9 → 0 < x.l.length
  iln : ∀ n ∈ x.l, i64P n
  op : x.op < 256
  tb : Tb w
section
variable {k : Wc} {w w' : World} {v : VwD} {at_ : Nat} {q : Wq} {x : InsD} {vl : Value}
theorem RowH.on (h : RowH k w v at_ q x vl) (hb : Below w.heap.size w w') : RowH k w' v at_ q x vl :=
  ⟨h.wv.on hb, h.hm, h.vr, h.lc, h.s2, h.le, h.ia, h.il.bel hb, h.i0, h.iln, h.op, h.tb.bel hb⟩
theorem RowH.sz (h : RowH k w v at_ q x vl) : v.shape.size ≤ 1000 := Nat.le_trans h.vr.j.sz (by decide)
theorem RowH.ob (h : RowH k w v at_ q x vl) : ObOk v := fun o ho => ⟨(h.vr.j.ops o ho).par, (h.vr.j.ops o ho).res⟩
theorem RowH.top (h : RowH k w v at_ q x vl) : OpOk k.elses.length v.top := h.vr.j.ops _ (top_mem h.vr.ne)
end
set_option maxRecDepth 100000 in
set_option maxHeartbeats 1600000 in
theorem row_2 {k : Wc} {w : World} {v : VwD} {at_ : Nat} {q : Wq} (a : Int) (l : List Int) (va : Option Addr) (vc : Nat) (H0 : RowH k w v at_ q ⟨2, a, l⟩ (.slice va l.length vc)) :
    Calls Tryd.prog 35 #[.pointer (some ⟨k.p, 0, none⟩), .agg #[.int .u8 2, .int .i64 a, .slice va l.length vc]] w fun r w' => WE k w at_ (.tuple #[]) (rowV k.ctx v at_ ⟨2, a, l⟩) r w' := by
  have hb := below_alloc w (.cells #[.int .u8 2, .int .i64 a, .slice va l.length vc] 68)
  have hnw := heap_alloc_new w (.cells #[.int .u8 2, .int .i64 a, .slice va l.length vc] 68)
  have x0 := row_cell hnw 0 rfl; have x1 := row_cell hnw 1 rfl; have x2 := row_cell hnw 2 rfl
  simp only [List.getElem_toArray, List.getElem_cons_zero, List.getElem_cons_succ] at x0 x1 x2
  have H := H0.on hb
  have HK := Lib.hid (Kw.on (k := k) hb)
  have HC := Lib.hid (val_opens H.wv H.hm H.vr.ne H.vr.j.le H.vr.j.sz (by have := H.vr.fl; omega) (by have := H.vr.ol; have := H.le; omega) ⟨2, a, l⟩ (.slice va l.length vc) H.ia (by simp))
  have HR : Hid (rowV k.ctx v at_ ⟨2, a, l⟩ = opensV k.ctx v at_ ⟨2, a, l⟩) := Lib.hid rfl
  clear H0 H hb hnw
  go_enter Tryd.func35, Tryd.ntmps35
  go_wp2_with (first
    | ((go_at_call 49; refine HC.out.mono ?_)
       rintro e w2 (⟨v1, q1, h1, rfl, h2, h3⟩ | ⟨z, h1, rfl, h2, h3⟩)
       rotate_left
       · exact ⟨rfl, .inr ⟨z, HR.out.trans h1, rfl, h2, HK.out.trans h3⟩⟩))
  exact bodyPost_end (results_none rfl _ _ _) rfl (.inl ⟨v1, q1, HR.out.trans h1, rfl, h2, HK.out.trans h3⟩)
set_option maxRecDepth 100000 in
set_option maxHeartbeats 1600000 in
theorem row_3 {k : Wc} {w : World} {v : VwD} {at_ : Nat} {q : Wq} (a : Int) (l : List Int) (va : Option Addr) (vc : Nat) (H0 : RowH k w v at_ q ⟨3, a, l⟩ (.slice va l.length vc)) :
    Calls Tryd.prog 35 #[.pointer (some ⟨k.p, 0, none⟩), .agg #[.int .u8 3, .int .i64 a, .slice va l.length vc]] w fun r w' => WE k w at_ (.tuple #[]) (rowV k.ctx v at_ ⟨3, a, l⟩) r w' := by
  have hb := below_alloc w (.cells #[.int .u8 3, .int .i64 a, .slice va l.length vc] 68)
  have hnw := heap_alloc_new w (.cells #[.int .u8 3, .int .i64 a, .slice va l.length vc] 68)
  have x0 := row_cell hnw 0 rfl; have x1 := row_cell hnw 1 rfl; have x2 := row_cell hnw 2 rfl
  simp only [List.getElem_toArray, List.getElem_cons_zero, List.getElem_cons_succ] at x0 x1 x2
  have H := H0.on hb
  have HK := Lib.hid (Kw.on (k := k) hb)
  have HC := Lib.hid (val_opens H.wv H.hm H.vr.ne H.vr.j.le H.vr.j.sz (by have := H.vr.fl; omega) (by have := H.vr.ol; have := H.le; omega) ⟨3, a, l⟩ (.slice va l.length vc) H.ia (by simp))
  have HR : Hid (rowV k.ctx v at_ ⟨3, a, l⟩ = opensV k.ctx v at_ ⟨3, a, l⟩) := Lib.hid rfl
  clear H0 H hb hnw
  go_enter Tryd.func35, Tryd.ntmps35
  go_wp2_with (first
    | ((go_at_call 49; refine HC.out.mono ?_)
       rintro e w2 (⟨v1, q1, h1, rfl, h2, h3⟩ | ⟨z, h1, rfl, h2, h3⟩)
       rotate_left
       · exact ⟨rfl, .inr ⟨z, HR.out.trans h1, rfl, h2, HK.out.trans h3⟩⟩))
  exact bodyPost_end (results_none rfl _ _ _) rfl (.inl ⟨v1, q1, HR.out.trans h1, rfl, h2, HK.out.trans h3⟩)
set_option maxRecDepth 100000 in
set_option maxHeartbeats 1600000 in
theorem row_4 {k : Wc} {w : World} {v : VwD} {at_ : Nat} {q : Wq} (a : Int) (l : List Int) (va : Option Addr) (vc : Nat) (H0 : RowH k w v at_ q ⟨4, a, l⟩ (.slice va l.length vc)) :
    Calls Tryd.prog 35 #[.pointer (some ⟨k.p, 0, none⟩), .agg #[.int .u8 4, .int .i64 a, .slice va l.length vc]] w fun r w' => WE k w at_ (.tuple #[]) (rowV k.ctx v at_ ⟨4, a, l⟩) r w' := by
  have hb := below_alloc w (.cells #[.int .u8 4, .int .i64 a, .slice va l.length vc] 68)
  have hnw := heap_alloc_new w (.cells #[.int .u8 4, .int .i64 a, .slice va l.length vc] 68)
  have x0 := row_cell hnw 0 rfl; have x1 := row_cell hnw 1 rfl; have x2 := row_cell hnw 2 rfl
  simp only [List.getElem_toArray, List.getElem_cons_zero, List.getElem_cons_succ] at x0 x1 x2
  have H := H0.on hb
  have HK := Lib.hid (Kw.on (k := k) hb)
  have HC := Lib.hid (val_opens H.wv H.hm H.vr.ne H.vr.j.le H.vr.j.sz (by have := H.vr.fl; omega) (by have := H.vr.ol; have := H.le; omega) ⟨4, a, l⟩ (.slice va l.length vc) H.ia (by simp))
  have HR : Hid (rowV k.ctx v at_ ⟨4, a, l⟩ = opensV k.ctx v at_ ⟨4, a, l⟩) := Lib.hid rfl
  clear H0 H hb hnw
  go_enter Tryd.func35, Tryd.ntmps35
  go_wp2_with (first
    | ((go_at_call 49; refine HC.out.mono ?_)
       rintro e w2 (⟨v1, q1, h1, rfl, h2, h3⟩ | ⟨z, h1, rfl, h2, h3⟩)
       rotate_left
       · exact ⟨rfl, .inr ⟨z, HR.out.trans h1, rfl, h2, HK.out.trans h3⟩⟩))
  exact bodyPost_end (results_none rfl _ _ _) rfl (.inl ⟨v1, q1, HR.out.trans h1, rfl, h2, HK.out.trans h3⟩)
set_option maxRecDepth 100000 in
set_option maxHeartbeats 1600000 in
theorem row_5 {k : Wc} {w : World} {v : VwD} {at_ : Nat} {q : Wq} (a : Int) (l : List Int) (va : Option Addr) (vc : Nat) (H0 : RowH k w v at_ q ⟨5, a, l⟩ (.slice va l.length vc)) :
    Calls Tryd.prog 35 #[.pointer (some ⟨k.p, 0, none⟩), .agg #[.int .u8 5, .int .i64 a, .slice va l.length vc]] w fun r w' => WE k w at_ (.tuple #[]) (rowV k.ctx v at_ ⟨5, a, l⟩) r w' := by
  have hb := below_alloc w (.cells #[.int .u8 5, .int .i64 a, .slice va l.length vc] 68)
  have hnw := heap_alloc_new w (.cells #[.int .u8 5, .int .i64 a, .slice va l.length vc] 68)
  have x0 := row_cell hnw 0 rfl; have x1 := row_cell hnw 1 rfl; have x2 := row_cell hnw 2 rfl
  simp only [List.getElem_toArray, List.getElem_cons_zero, List.getElem_cons_succ] at x0 x1 x2
  have H := H0.on hb
  have HK := Lib.hid (Kw.on (k := k) hb)
  have HC := Lib.hid (val_ends H.wv H.vr.ne ⟨H.top.base, H.top.res⟩ H.top.pc ⟨5, a, l⟩ (.slice va l.length vc) (by simp))
  have HR : Hid (rowV k.ctx v at_ ⟨5, a, l⟩ = endsV k.ctx v ⟨5, a, l⟩) := Lib.hid rfl
  clear H0 H hb hnw
  go_enter Tryd.func35, Tryd.ntmps35
  go_wp2_with (first
    | ((go_at_call 50; refine HC.out.mono ?_)
       rintro e w2 (⟨v1, q1, h1, rfl, h2, h3⟩ | ⟨z, h1, rfl, h2, h3⟩)
       rotate_left
       · exact ⟨rfl, .inr ⟨z, HR.out.trans h1, rfl, h2, HK.out.trans h3⟩⟩))
  exact bodyPost_end (results_none rfl _ _ _) rfl (.inl ⟨v1, q1, HR.out.trans h1, rfl, h2, HK.out.trans h3⟩)
set_option maxRecDepth 100000 in
set_option maxHeartbeats 1600000 in
theorem row_6 {k : Wc} {w : World} {v : VwD} {at_ : Nat} {q : Wq} (a : Int) (l : List Int) (va : Option Addr) (vc : Nat) (H0 : RowH k w v at_ q ⟨6, a, l⟩ (.slice va l.length vc)) :
    Calls Tryd.prog 35 #[.pointer (some ⟨k.p, 0, none⟩), .agg #[.int .u8 6, .int .i64 a, .slice va l.length vc]] w fun r w' => WE k w at_ (.tuple #[]) (rowV k.ctx v at_ ⟨6, a, l⟩) r w' := by
  have hb := below_alloc w (.cells #[.int .u8 6, .int .i64 a, .slice va l.length vc] 68)
  have hnw := heap_alloc_new w (.cells #[.int .u8 6, .int .i64 a, .slice va l.length vc] 68)
  have x0 := row_cell hnw 0 rfl; have x1 := row_cell hnw 1 rfl; have x2 := row_cell hnw 2 rfl
  simp only [List.getElem_toArray, List.getElem_cons_zero, List.getElem_cons_succ] at x0 x1 x2
  have H := H0.on hb
  have HK := Lib.hid (Kw.on (k := k) hb)
  have HC := Lib.hid (val_ends H.wv H.vr.ne ⟨H.top.base, H.top.res⟩ H.top.pc ⟨6, a, l⟩ (.slice va l.length vc) (by simp))
  have HR : Hid (rowV k.ctx v at_ ⟨6, a, l⟩ = endsV k.ctx v ⟨6, a, l⟩) := Lib.hid rfl
  clear H0 H hb hnw
  go_enter Tryd.func35, Tryd.ntmps35
  go_wp2_with (first
    | ((go_at_call 50; refine HC.out.mono ?_)
       rintro e w2 (⟨v1, q1, h1, rfl, h2, h3⟩ | ⟨z, h1, rfl, h2, h3⟩)
       rotate_left
       · exact ⟨rfl, .inr ⟨z, HR.out.trans h1, rfl, h2, HK.out.trans h3⟩⟩))
  exact bodyPost_end (results_none rfl _ _ _) rfl (.inl ⟨v1, q1, HR.out.trans h1, rfl, h2, HK.out.trans h3⟩)
set_option maxRecDepth 100000 in
set_option maxHeartbeats 1600000 in
theorem row_0 {k : Wc} {w : World} {v : VwD} {at_ : Nat} {q : Wq} (a : Int) (l : List Int) (va : Option Addr) (vc : Nat) (H0 : RowH k w v at_ q ⟨0, a, l⟩ (.slice va l.length vc)) :
    Calls Tryd.prog 35 #[.pointer (some ⟨k.p, 0, none⟩), .agg #[.int .u8 0, .int .i64 a, .slice va l.length vc]] w fun r w' => WE k w at_ (.tuple #[]) (rowV k.ctx v at_ ⟨0, a, l⟩) r w' := by
  have hb := below_alloc w (.cells #[.int .u8 0, .int .i64 a, .slice va l.length vc] 68)
  have hnw := heap_alloc_new w (.cells #[.int .u8 0, .int .i64 a, .slice va l.length vc] 68)
  have x0 := row_cell hnw 0 rfl; have x1 := row_cell hnw 1 rfl; have x2 := row_cell hnw 2 rfl
  simp only [List.getElem_toArray, List.getElem_cons_zero, List.getElem_cons_succ] at x0 x1 x2
  have H := H0.on hb
  have HK := Lib.hid (Kw.on (k := k) hb)
  have HC := Lib.hid (val_branches H.wv H.vr.ne H.vr.j.le H.sz H.ob H.s2 ⟨0, a, l⟩ (.slice va l.length vc) H.ia H.il H.i0 H.iln (by simp))
  have HR : Hid (rowV k.ctx v at_ ⟨0, a, l⟩ = branchesV k.ctx v ⟨0, a, l⟩) := Lib.hid rfl
  clear H0 H hb hnw
  go_enter Tryd.func35, Tryd.ntmps35
  go_wp2_with (first
    | ((go_at_call 51; refine HC.out.mono ?_)
       rintro e w2 (⟨v1, q1, h1, rfl, h2, h3⟩ | ⟨z, h1, rfl, h2, h3⟩)
       rotate_left
       · exact ⟨rfl, .inr ⟨z, HR.out.trans h1, rfl, h2, HK.out.trans h3⟩⟩))
  exact bodyPost_end (results_none rfl _ _ _) rfl (.inl ⟨v1, q1, HR.out.trans h1, rfl, h2, HK.out.trans h3⟩)
set_option maxRecDepth 100000 in
set_option maxHeartbeats 1600000 in
theorem row_7 {k : Wc} {w : World} {v : VwD} {at_ : Nat} {q : Wq} (a : Int) (l : List Int) (va : Option Addr) (vc : Nat) (H0 : RowH k w v at_ q ⟨7, a, l⟩ (.slice va l.length vc)) :
    Calls Tryd.prog 35 #[.pointer (some ⟨k.p, 0, none⟩), .agg #[.int .u8 7, .int .i64 a, .slice va l.length vc]] w fun r w' => WE k w at_ (.tuple #[]) (rowV k.ctx v at_ ⟨7, a, l⟩) r w' := by
  have hb := below_alloc w (.cells #[.int .u8 7, .int .i64 a, .slice va l.length vc] 68)
  have hnw := heap_alloc_new w (.cells #[.int .u8 7, .int .i64 a, .slice va l.length vc] 68)
  have x0 := row_cell hnw 0 rfl; have x1 := row_cell hnw 1 rfl; have x2 := row_cell hnw 2 rfl
  simp only [List.getElem_toArray, List.getElem_cons_zero, List.getElem_cons_succ] at x0 x1 x2
  have H := H0.on hb
  have HK := Lib.hid (Kw.on (k := k) hb)
  have HC := Lib.hid (val_branches H.wv H.vr.ne H.vr.j.le H.sz H.ob H.s2 ⟨7, a, l⟩ (.slice va l.length vc) H.ia H.il H.i0 H.iln (by simp))
  have HR : Hid (rowV k.ctx v at_ ⟨7, a, l⟩ = branchesV k.ctx v ⟨7, a, l⟩) := Lib.hid rfl
  clear H0 H hb hnw
  go_enter Tryd.func35, Tryd.ntmps35
  go_wp2_with (first
    | ((go_at_call 51; refine HC.out.mono ?_)
       rintro e w2 (⟨v1, q1, h1, rfl, h2, h3⟩ | ⟨z, h1, rfl, h2, h3⟩)
       rotate_left
       · exact ⟨rfl, .inr ⟨z, HR.out.trans h1, rfl, h2, HK.out.trans h3⟩⟩))
  exact bodyPost_end (results_none rfl _ _ _) rfl (.inl ⟨v1, q1, HR.out.trans h1, rfl, h2, HK.out.trans h3⟩)
set_option maxRecDepth 100000 in
set_option maxHeartbeats 1600000 in
theorem row_8 {k : Wc} {w : World} {v : VwD} {at_ : Nat} {q : Wq} (a : Int) (l : List Int) (va : Option Addr) (vc : Nat) (H0 : RowH k w v at_ q ⟨8, a, l⟩ (.slice va l.length vc)) :
    Calls Tryd.prog 35 #[.pointer (some ⟨k.p, 0, none⟩), .agg #[.int .u8 8, .int .i64 a, .slice va l.length vc]] w fun r w' => WE k w at_ (.tuple #[]) (rowV k.ctx v at_ ⟨8, a, l⟩) r w' := by
  have hb := below_alloc w (.cells #[.int .u8 8, .int .i64 a, .slice va l.length vc] 68)
  have hnw := heap_alloc_new w (.cells #[.int .u8 8, .int .i64 a, .slice va l.length vc] 68)
  have x0 := row_cell hnw 0 rfl; have x1 := row_cell hnw 1 rfl; have x2 := row_cell hnw 2 rfl
  simp only [List.getElem_toArray, List.getElem_cons_zero, List.getElem_cons_succ] at x0 x1 x2
  have H := H0.on hb
  have HK := Lib.hid (Kw.on (k := k) hb)
  have HC := Lib.hid (val_branches H.wv H.vr.ne H.vr.j.le H.sz H.ob H.s2 ⟨8, a, l⟩ (.slice va l.length vc) H.ia H.il H.i0 H.iln (by simp))
  have HR : Hid (rowV k.ctx v at_ ⟨8, a, l⟩ = branchesV k.ctx v ⟨8, a, l⟩) := Lib.hid rfl
  clear H0 H hb hnw
  go_enter Tryd.func35, Tryd.ntmps35
  go_wp2_with (first
    | ((go_at_call 51; refine HC.out.mono ?_)
       rintro e w2 (⟨v1, q1, h1, rfl, h2, h3⟩ | ⟨z, h1, rfl, h2, h3⟩)
       rotate_left
       · exact ⟨rfl, .inr ⟨z, HR.out.trans h1, rfl, h2, HK.out.trans h3⟩⟩))
  exact bodyPost_end (results_none rfl _ _ _) rfl (.inl ⟨v1, q1, HR.out.trans h1, rfl, h2, HK.out.trans h3⟩)
set_option maxRecDepth 100000 in
set_option maxHeartbeats 1600000 in
theorem row_9 {k : Wc} {w : World} {v : VwD} {at_ : Nat} {q : Wq} (a : Int) (l : List Int) (va : Option Addr) (vc : Nat) (H0 : RowH k w v at_ q ⟨9, a, l⟩ (.slice va l.length vc)) :
    Calls Tryd.prog 35 #[.pointer (some ⟨k.p, 0, none⟩), .agg #[.int .u8 9, .int .i64 a, .slice va l.length vc]] w fun r w' => WE k w at_ (.tuple #[]) (rowV k.ctx v at_ ⟨9, a, l⟩) r w' := by
  have hb := below_alloc w (.cells #[.int .u8 9, .int .i64 a, .slice va l.length vc] 68)
  have hnw := heap_alloc_new w (.cells #[.int .u8 9, .int .i64 a, .slice va l.length vc] 68)
  have x0 := row_cell hnw 0 rfl; have x1 := row_cell hnw 1 rfl; have x2 := row_cell hnw 2 rfl
  simp only [List.getElem_toArray, List.getElem_cons_zero, List.getElem_cons_succ] at x0 x1 x2
  have H := H0.on hb
  have HK := Lib.hid (Kw.on (k := k) hb)
  have HC := Lib.hid (val_branches H.wv H.vr.ne H.vr.j.le H.sz H.ob H.s2 ⟨9, a, l⟩ (.slice va l.length vc) H.ia H.il H.i0 H.iln (by simp))
  have HR : Hid (rowV k.ctx v at_ ⟨9, a, l⟩ = branchesV k.ctx v ⟨9, a, l⟩) := Lib.hid rfl
  clear H0 H hb hnw
  go_enter Tryd.func35, Tryd.ntmps35
  go_wp2_with (first
    | ((go_at_call 51; refine HC.out.mono ?_)
       rintro e w2 (⟨v1, q1, h1, rfl, h2, h3⟩ | ⟨z, h1, rfl, h2, h3⟩)
       rotate_left
       · exact ⟨rfl, .inr ⟨z, HR.out.trans h1, rfl, h2, HK.out.trans h3⟩⟩))
  exact bodyPost_end (results_none rfl _ _ _) rfl (.inl ⟨v1, q1, HR.out.trans h1, rfl, h2, HK.out.trans h3⟩)
set_option maxRecDepth 100000 in
set_option maxHeartbeats 1600000 in
theorem row_10 {k : Wc} {w : World} {v : VwD} {at_ : Nat} {q : Wq} (a : Int) (l : List Int) (va : Option Addr) (vc : Nat) (H0 : RowH k w v at_ q ⟨10, a, l⟩ (.slice va l.length vc)) :
    Calls Tryd.prog 35 #[.pointer (some ⟨k.p, 0, none⟩), .agg #[.int .u8 10, .int .i64 a, .slice va l.length vc]] w fun r w' => WE k w at_ (.tuple #[]) (rowV k.ctx v at_ ⟨10, a, l⟩) r w' := by
  have hb := below_alloc w (.cells #[.int .u8 10, .int .i64 a, .slice va l.length vc] 68)
  have hnw := heap_alloc_new w (.cells #[.int .u8 10, .int .i64 a, .slice va l.length vc] 68)
  have x0 := row_cell hnw 0 rfl; have x1 := row_cell hnw 1 rfl; have x2 := row_cell hnw 2 rfl
  simp only [List.getElem_toArray, List.getElem_cons_zero, List.getElem_cons_succ] at x0 x1 x2
  have H := H0.on hb
  have HK := Lib.hid (Kw.on (k := k) hb)
  have HC := Lib.hid (val_branches H.wv H.vr.ne H.vr.j.le H.sz H.ob H.s2 ⟨10, a, l⟩ (.slice va l.length vc) H.ia H.il H.i0 H.iln (by simp))
  have HR : Hid (rowV k.ctx v at_ ⟨10, a, l⟩ = branchesV k.ctx v ⟨10, a, l⟩) := Lib.hid rfl
  clear H0 H hb hnw
  go_enter Tryd.func35, Tryd.ntmps35
  go_wp2_with (first
    | ((go_at_call 51; refine HC.out.mono ?_)
       rintro e w2 (⟨v1, q1, h1, rfl, h2, h3⟩ | ⟨z, h1, rfl, h2, h3⟩)
       rotate_left
       · exact ⟨rfl, .inr ⟨z, HR.out.trans h1, rfl, h2, HK.out.trans h3⟩⟩))
  exact bodyPost_end (results_none rfl _ _ _) rfl (.inl ⟨v1, q1, HR.out.trans h1, rfl, h2, HK.out.trans h3⟩)
set_option maxRecDepth 100000 in
set_option maxHeartbeats 1600000 in
theorem row_11 {k : Wc} {w : World} {v : VwD} {at_ : Nat} {q : Wq} (a : Int) (l : List Int) (va : Option Addr) (vc : Nat) (H0 : RowH k w v at_ q ⟨11, a, l⟩ (.slice va l.length vc)) :
    Calls Tryd.prog 35 #[.pointer (some ⟨k.p, 0, none⟩), .agg #[.int .u8 11, .int .i64 a, .slice va l.length vc]] w fun r w' => WE k w at_ (.tuple #[]) (rowV k.ctx v at_ ⟨11, a, l⟩) r w' := by
  have hb := below_alloc w (.cells #[.int .u8 11, .int .i64 a, .slice va l.length vc] 68)
  have hnw := heap_alloc_new w (.cells #[.int .u8 11, .int .i64 a, .slice va l.length vc] 68)
  have x0 := row_cell hnw 0 rfl; have x1 := row_cell hnw 1 rfl; have x2 := row_cell hnw 2 rfl
  simp only [List.getElem_toArray, List.getElem_cons_zero, List.getElem_cons_succ] at x0 x1 x2
  have H := H0.on hb
  have HK := Lib.hid (Kw.on (k := k) hb)
  have HC := Lib.hid (val_calls H.wv H.hm H.vr.ne H.vr.j.le H.sz ⟨11, a, l⟩ (.slice va l.length vc) H.ia (by simp))
  have HR : Hid (rowV k.ctx v at_ ⟨11, a, l⟩ = callsV k.ctx v ⟨11, a, l⟩) := Lib.hid rfl
  clear H0 H hb hnw
  go_enter Tryd.func35, Tryd.ntmps35
  go_wp2_with (first
    | ((go_at_call 52; refine HC.out.mono ?_)
       rintro e w2 (⟨v1, q1, h1, rfl, h2, h3⟩ | ⟨z, h1, rfl, h2, h3⟩)
       rotate_left
       · exact ⟨rfl, .inr ⟨z, HR.out.trans h1, rfl, h2, HK.out.trans h3⟩⟩))
  exact bodyPost_end (results_none rfl _ _ _) rfl (.inl ⟨v1, q1, HR.out.trans h1, rfl, h2, HK.out.trans h3⟩)
set_option maxRecDepth 100000 in
set_option maxHeartbeats 1600000 in
theorem row_12 {k : Wc} {w : World} {v : VwD} {at_ : Nat} {q : Wq} (a : Int) (l : List Int) (va : Option Addr) (vc : Nat) (H0 : RowH k w v at_ q ⟨12, a, l⟩ (.slice va l.length vc)) :
    Calls Tryd.prog 35 #[.pointer (some ⟨k.p, 0, none⟩), .agg #[.int .u8 12, .int .i64 a, .slice va l.length vc]] w fun r w' => WE k w at_ (.tuple #[]) (rowV k.ctx v at_ ⟨12, a, l⟩) r w' := by
  have hb := below_alloc w (.cells #[.int .u8 12, .int .i64 a, .slice va l.length vc] 68)
  have hnw := heap_alloc_new w (.cells #[.int .u8 12, .int .i64 a, .slice va l.length vc] 68)
  have x0 := row_cell hnw 0 rfl; have x1 := row_cell hnw 1 rfl; have x2 := row_cell hnw 2 rfl
  simp only [List.getElem_toArray, List.getElem_cons_zero, List.getElem_cons_succ] at x0 x1 x2
  have H := H0.on hb
  have HK := Lib.hid (Kw.on (k := k) hb)
  have HC := Lib.hid (val_calls H.wv H.hm H.vr.ne H.vr.j.le H.sz ⟨12, a, l⟩ (.slice va l.length vc) H.ia (by simp))
  have HR : Hid (rowV k.ctx v at_ ⟨12, a, l⟩ = callsV k.ctx v ⟨12, a, l⟩) := Lib.hid rfl
  clear H0 H hb hnw
  go_enter Tryd.func35, Tryd.ntmps35
  go_wp2_with (first
    | ((go_at_call 52; refine HC.out.mono ?_)
       rintro e w2 (⟨v1, q1, h1, rfl, h2, h3⟩ | ⟨z, h1, rfl, h2, h3⟩)
       rotate_left
       · exact ⟨rfl, .inr ⟨z, HR.out.trans h1, rfl, h2, HK.out.trans h3⟩⟩))
  exact bodyPost_end (results_none rfl _ _ _) rfl (.inl ⟨v1, q1, HR.out.trans h1, rfl, h2, HK.out.trans h3⟩)
set_option maxRecDepth 100000 in
set_option maxHeartbeats 1600000 in
theorem row_16 {k : Wc} {w : World} {v : VwD} {at_ : Nat} {q : Wq} (a : Int) (l : List Int) (va : Option Addr) (vc : Nat) (H0 : RowH k w v at_ q ⟨16, a, l⟩ (.slice va l.length vc)) :
    Calls Tryd.prog 35 #[.pointer (some ⟨k.p, 0, none⟩), .agg #[.int .u8 16, .int .i64 a, .slice va l.length vc]] w fun r w' => WE k w at_ (.tuple #[]) (rowV k.ctx v at_ ⟨16, a, l⟩) r w' := by
  have hb := below_alloc w (.cells #[.int .u8 16, .int .i64 a, .slice va l.length vc] 68)
  have hnw := heap_alloc_new w (.cells #[.int .u8 16, .int .i64 a, .slice va l.length vc] 68)
  have x0 := row_cell hnw 0 rfl; have x1 := row_cell hnw 1 rfl; have x2 := row_cell hnw 2 rfl
  simp only [List.getElem_toArray, List.getElem_cons_zero, List.getElem_cons_succ] at x0 x1 x2
  have H := H0.on hb
  have HK := Lib.hid (Kw.on (k := k) hb)
  have HC := Lib.hid (val_picks H.wv H.vr.ne H.vr.j.le H.sz ⟨16, a, l⟩ (.slice va l.length vc) (by simp))
  have HR : Hid (rowV k.ctx v at_ ⟨16, a, l⟩ = picksV v ⟨16, a, l⟩) := Lib.hid rfl
  clear H0 H hb hnw
  go_enter Tryd.func35, Tryd.ntmps35
  go_wp2_with (first
    | ((go_at_call 53; refine HC.out.mono ?_)
       rintro e w2 (⟨v1, q1, h1, rfl, h2, h3⟩ | ⟨z, h1, rfl, h2, h3⟩)
       rotate_left
       · exact ⟨rfl, .inr ⟨z, HR.out.trans h1, rfl, h2, HK.out.trans h3⟩⟩))
  exact bodyPost_end (results_none rfl _ _ _) rfl (.inl ⟨v1, q1, HR.out.trans h1, rfl, h2, HK.out.trans h3⟩)
set_option maxRecDepth 100000 in
set_option maxHeartbeats 1600000 in
theorem row_17 {k : Wc} {w : World} {v : VwD} {at_ : Nat} {q : Wq} (a : Int) (l : List Int) (va : Option Addr) (vc : Nat) (H0 : RowH k w v at_ q ⟨17, a, l⟩ (.slice va l.length vc)) :
    Calls Tryd.prog 35 #[.pointer (some ⟨k.p, 0, none⟩), .agg #[.int .u8 17, .int .i64 a, .slice va l.length vc]] w fun r w' => WE k w at_ (.tuple #[]) (rowV k.ctx v at_ ⟨17, a, l⟩) r w' := by
  have hb := below_alloc w (.cells #[.int .u8 17, .int .i64 a, .slice va l.length vc] 68)
  have hnw := heap_alloc_new w (.cells #[.int .u8 17, .int .i64 a, .slice va l.length vc] 68)
  have x0 := row_cell hnw 0 rfl; have x1 := row_cell hnw 1 rfl; have x2 := row_cell hnw 2 rfl
  simp only [List.getElem_toArray, List.getElem_cons_zero, List.getElem_cons_succ] at x0 x1 x2
  have H := H0.on hb
  have HK := Lib.hid (Kw.on (k := k) hb)
  have HC := Lib.hid (val_picks H.wv H.vr.ne H.vr.j.le H.sz ⟨17, a, l⟩ (.slice va l.length vc) (by simp))
  have HR : Hid (rowV k.ctx v at_ ⟨17, a, l⟩ = picksV v ⟨17, a, l⟩) := Lib.hid rfl
  clear H0 H hb hnw
  go_enter Tryd.func35, Tryd.ntmps35
  go_wp2_with (first
    | ((go_at_call 53; refine HC.out.mono ?_)
       rintro e w2 (⟨v1, q1, h1, rfl, h2, h3⟩ | ⟨z, h1, rfl, h2, h3⟩)
       rotate_left
       · exact ⟨rfl, .inr ⟨z, HR.out.trans h1, rfl, h2, HK.out.trans h3⟩⟩))
  exact bodyPost_end (results_none rfl _ _ _) rfl (.inl ⟨v1, q1, HR.out.trans h1, rfl, h2, HK.out.trans h3⟩)
set_option maxRecDepth 100000 in
set_option maxHeartbeats 1600000 in
theorem row_18 {k : Wc} {w : World} {v : VwD} {at_ : Nat} {q : Wq} (a : Int) (l : List Int) (va : Option Addr) (vc : Nat) (H0 : RowH k w v at_ q ⟨18, a, l⟩ (.slice va l.length vc)) :
    Calls Tryd.prog 35 #[.pointer (some ⟨k.p, 0, none⟩), .agg #[.int .u8 18, .int .i64 a, .slice va l.length vc]] w fun r w' => WE k w at_ (.tuple #[]) (rowV k.ctx v at_ ⟨18, a, l⟩) r w' := by
  have hb := below_alloc w (.cells #[.int .u8 18, .int .i64 a, .slice va l.length vc] 68)
  have hnw := heap_alloc_new w (.cells #[.int .u8 18, .int .i64 a, .slice va l.length vc] 68)
  have x0 := row_cell hnw 0 rfl; have x1 := row_cell hnw 1 rfl; have x2 := row_cell hnw 2 rfl
  simp only [List.getElem_toArray, List.getElem_cons_zero, List.getElem_cons_succ] at x0 x1 x2
  have H := H0.on hb
  have HK := Lib.hid (Kw.on (k := k) hb)
  have HC := Lib.hid (val_names H.wv H.hm H.lc H.vr.ne H.vr.j.le H.sz ⟨18, a, l⟩ (.slice va l.length vc) H.ia (by simp))
  have HR : Hid (rowV k.ctx v at_ ⟨18, a, l⟩ = namesV k.ctx v ⟨18, a, l⟩) := Lib.hid rfl
  clear H0 H hb hnw
  go_enter Tryd.func35, Tryd.ntmps35
  go_wp2_with (first
    | ((go_at_call 54; refine HC.out.mono ?_)
       rintro e w2 (⟨v1, q1, h1, rfl, h2, h3⟩ | ⟨z, h1, rfl, h2, h3⟩)
       rotate_left
       · exact ⟨rfl, .inr ⟨z, HR.out.trans h1, rfl, h2, HK.out.trans h3⟩⟩))
  exact bodyPost_end (results_none rfl _ _ _) rfl (.inl ⟨v1, q1, HR.out.trans h1, rfl, h2, HK.out.trans h3⟩)
set_option maxRecDepth 100000 in
set_option maxHeartbeats 1600000 in
theorem row_19 {k : Wc} {w : World} {v : VwD} {at_ : Nat} {q : Wq} (a : Int) (l : List Int) (va : Option Addr) (vc : Nat) (H0 : RowH k w v at_ q ⟨19, a, l⟩ (.slice va l.length vc)) :
    Calls Tryd.prog 35 #[.pointer (some ⟨k.p, 0, none⟩), .agg #[.int .u8 19, .int .i64 a, .slice va l.length vc]] w fun r w' => WE k w at_ (.tuple #[]) (rowV k.ctx v at_ ⟨19, a, l⟩) r w' := by
  have hb := below_alloc w (.cells #[.int .u8 19, .int .i64 a, .slice va l.length vc] 68)
  have hnw := heap_alloc_new w (.cells #[.int .u8 19, .int .i64 a, .slice va l.length vc] 68)
  have x0 := row_cell hnw 0 rfl; have x1 := row_cell hnw 1 rfl; have x2 := row_cell hnw 2 rfl
  simp only [List.getElem_toArray, List.getElem_cons_zero, List.getElem_cons_succ] at x0 x1 x2
  have H := H0.on hb
  have HK := Lib.hid (Kw.on (k := k) hb)
  have HC := Lib.hid (val_names H.wv H.hm H.lc H.vr.ne H.vr.j.le H.sz ⟨19, a, l⟩ (.slice va l.length vc) H.ia (by simp))
  have HR : Hid (rowV k.ctx v at_ ⟨19, a, l⟩ = namesV k.ctx v ⟨19, a, l⟩) := Lib.hid rfl
  clear H0 H hb hnw
  go_enter Tryd.func35, Tryd.ntmps35
  go_wp2_with (first
    | ((go_at_call 54; refine HC.out.mono ?_)
       rintro e w2 (⟨v1, q1, h1, rfl, h2, h3⟩ | ⟨z, h1, rfl, h2, h3⟩)
       rotate_left
       · exact ⟨rfl, .inr ⟨z, HR.out.trans h1, rfl, h2, HK.out.trans h3⟩⟩))
  exact bodyPost_end (results_none rfl _ _ _) rfl (.inl ⟨v1, q1, HR.out.trans h1, rfl, h2, HK.out.trans h3⟩)
set_option maxRecDepth 100000 in
set_option maxHeartbeats 1600000 in
theorem row_20 {k : Wc} {w : World} {v : VwD} {at_ : Nat} {q : Wq} (a : Int) (l : List Int) (va : Option Addr) (vc : Nat) (H0 : RowH k w v at_ q ⟨20, a, l⟩ (.slice va l.length vc)) :
    Calls Tryd.prog 35 #[.pointer (some ⟨k.p, 0, none⟩), .agg #[.int .u8 20, .int .i64 a, .slice va l.length vc]] w fun r w' => WE k w at_ (.tuple #[]) (rowV k.ctx v at_ ⟨20, a, l⟩) r w' := by
  have hb := below_alloc w (.cells #[.int .u8 20, .int .i64 a, .slice va l.length vc] 68)
  have hnw := heap_alloc_new w (.cells #[.int .u8 20, .int .i64 a, .slice va l.length vc] 68)
  have x0 := row_cell hnw 0 rfl; have x1 := row_cell hnw 1 rfl; have x2 := row_cell hnw 2 rfl
  simp only [List.getElem_toArray, List.getElem_cons_zero, List.getElem_cons_succ] at x0 x1 x2
  have H := H0.on hb
  have HK := Lib.hid (Kw.on (k := k) hb)
  have HC := Lib.hid (val_names H.wv H.hm H.lc H.vr.ne H.vr.j.le H.sz ⟨20, a, l⟩ (.slice va l.length vc) H.ia (by simp))
  have HR : Hid (rowV k.ctx v at_ ⟨20, a, l⟩ = namesV k.ctx v ⟨20, a, l⟩) := Lib.hid rfl
  clear H0 H hb hnw
  go_enter Tryd.func35, Tryd.ntmps35
  go_wp2_with (first
    | ((go_at_call 54; refine HC.out.mono ?_)
       rintro e w2 (⟨v1, q1, h1, rfl, h2, h3⟩ | ⟨z, h1, rfl, h2, h3⟩)
       rotate_left
       · exact ⟨rfl, .inr ⟨z, HR.out.trans h1, rfl, h2, HK.out.trans h3⟩⟩))
  exact bodyPost_end (results_none rfl _ _ _) rfl (.inl ⟨v1, q1, HR.out.trans h1, rfl, h2, HK.out.trans h3⟩)
set_option maxRecDepth 100000 in
set_option maxHeartbeats 1600000 in
theorem row_21 {k : Wc} {w : World} {v : VwD} {at_ : Nat} {q : Wq} (a : Int) (l : List Int) (va : Option Addr) (vc : Nat) (H0 : RowH k w v at_ q ⟨21, a, l⟩ (.slice va l.length vc)) :
    Calls Tryd.prog 35 #[.pointer (some ⟨k.p, 0, none⟩), .agg #[.int .u8 21, .int .i64 a, .slice va l.length vc]] w fun r w' => WE k w at_ (.tuple #[]) (rowV k.ctx v at_ ⟨21, a, l⟩) r w' := by
  have hb := below_alloc w (.cells #[.int .u8 21, .int .i64 a, .slice va l.length vc] 68)
  have hnw := heap_alloc_new w (.cells #[.int .u8 21, .int .i64 a, .slice va l.length vc] 68)
  have x0 := row_cell hnw 0 rfl; have x1 := row_cell hnw 1 rfl; have x2 := row_cell hnw 2 rfl
  simp only [List.getElem_toArray, List.getElem_cons_zero, List.getElem_cons_succ] at x0 x1 x2
  have H := H0.on hb
  have HK := Lib.hid (Kw.on (k := k) hb)
  have HC := Lib.hid (val_names H.wv H.hm H.lc H.vr.ne H.vr.j.le H.sz ⟨21, a, l⟩ (.slice va l.length vc) H.ia (by simp))
  have HR : Hid (rowV k.ctx v at_ ⟨21, a, l⟩ = namesV k.ctx v ⟨21, a, l⟩) := Lib.hid rfl
  clear H0 H hb hnw
  go_enter Tryd.func35, Tryd.ntmps35
  go_wp2_with (first
    | ((go_at_call 54; refine HC.out.mono ?_)
       rintro e w2 (⟨v1, q1, h1, rfl, h2, h3⟩ | ⟨z, h1, rfl, h2, h3⟩)
       rotate_left
       · exact ⟨rfl, .inr ⟨z, HR.out.trans h1, rfl, h2, HK.out.trans h3⟩⟩))
  exact bodyPost_end (results_none rfl _ _ _) rfl (.inl ⟨v1, q1, HR.out.trans h1, rfl, h2, HK.out.trans h3⟩)
set_option maxRecDepth 100000 in
set_option maxHeartbeats 1600000 in
theorem row_22 {k : Wc} {w : World} {v : VwD} {at_ : Nat} {q : Wq} (a : Int) (l : List Int) (va : Option Addr) (vc : Nat) (H0 : RowH k w v at_ q ⟨22, a, l⟩ (.slice va l.length vc)) :
    Calls Tryd.prog 35 #[.pointer (some ⟨k.p, 0, none⟩), .agg #[.int .u8 22, .int .i64 a, .slice va l.length vc]] w fun r w' => WE k w at_ (.tuple #[]) (rowV k.ctx v at_ ⟨22, a, l⟩) r w' := by
  have hb := below_alloc w (.cells #[.int .u8 22, .int .i64 a, .slice va l.length vc] 68)
  have hnw := heap_alloc_new w (.cells #[.int .u8 22, .int .i64 a, .slice va l.length vc] 68)
  have x0 := row_cell hnw 0 rfl; have x1 := row_cell hnw 1 rfl; have x2 := row_cell hnw 2 rfl
  simp only [List.getElem_toArray, List.getElem_cons_zero, List.getElem_cons_succ] at x0 x1 x2
  have H := H0.on hb
  have HK := Lib.hid (Kw.on (k := k) hb)
  have HC := Lib.hid (val_names H.wv H.hm H.lc H.vr.ne H.vr.j.le H.sz ⟨22, a, l⟩ (.slice va l.length vc) H.ia (by simp))
  have HR : Hid (rowV k.ctx v at_ ⟨22, a, l⟩ = namesV k.ctx v ⟨22, a, l⟩) := Lib.hid rfl
  clear H0 H hb hnw
  go_enter Tryd.func35, Tryd.ntmps35
  go_wp2_with (first
    | ((go_at_call 54; refine HC.out.mono ?_)
       rintro e w2 (⟨v1, q1, h1, rfl, h2, h3⟩ | ⟨z, h1, rfl, h2, h3⟩)
       rotate_left
       · exact ⟨rfl, .inr ⟨z, HR.out.trans h1, rfl, h2, HK.out.trans h3⟩⟩))
  exact bodyPost_end (results_none rfl _ _ _) rfl (.inl ⟨v1, q1, HR.out.trans h1, rfl, h2, HK.out.trans h3⟩)
set_option maxRecDepth 100000 in
set_option maxHeartbeats 3200000 in
theorem row_plain {k : Wc} {w : World} {v : VwD} {at_ : Nat} {q : Wq} (op : Nat) (a : Int) (l : List Int) (va : Option Addr) (vc : Nat) (H0 : RowH k w v at_ q ⟨op, a, l⟩ (.slice va l.length vc)) (hno : op ≠ 2 ∧ op ≠ 3 ∧ op ≠ 4 ∧ op ≠ 5 ∧ op ≠ 6 ∧ op ≠ 0 ∧ op ≠ 7 ∧ op ≠ 8 ∧ op ≠ 9 ∧ op ≠ 10 ∧ op ≠ 11 ∧ op ≠ 12 ∧ op ≠ 16 ∧ op ≠ 17 ∧ op ≠ 18 ∧ op ≠ 19 ∧ op ≠ 20 ∧ op ≠ 21 ∧ op ≠ 22) :
    Calls Tryd.prog 35 #[.pointer (some ⟨k.p, 0, none⟩), .agg #[.int .u8 op, .int .i64 a, .slice va l.length vc]] w fun r w' => WE k w at_ (.tuple #[]) (rowV k.ctx v at_ ⟨op, a, l⟩) r w' := by
  have hb := below_alloc w (.cells #[.int .u8 op, .int .i64 a, .slice va l.length vc] 68)
  have hnw := heap_alloc_new w (.cells #[.int .u8 op, .int .i64 a, .slice va l.length vc] 68)
  have x0 := row_cell hnw 0 rfl
  simp only [List.getElem_toArray, List.getElem_cons_zero] at x0
  have H := H0.on hb
  have HK := Lib.hid (Kw.on (k := k) hb)
  have hop := H.op
  have hne := H.vr.ne; have hle := H.vr.j.le; have hsz := H.sz
  have HW := Lib.hid H.wv
  have HC := Lib.hid (ops_Of _ op hop H.tb)
  obtain ⟨ri, rs, rt, rb, hrv⟩ := rowVal_plain op
  obtain ⟨zp, zq⟩ := plain_sz ⟨op, hop⟩
  have zp' : (plPops op).size ≤ 8 := by simpa [plPops, ByteArray.size] using zp
  have zq' : (plPush op).size ≤ 8 := by simpa [plPush, ByteArray.size] using zq
  rw [hrv] at HC
  have HR : Hid (rowV k.ctx v at_ ⟨op, a, l⟩ = andV (popsV v (plPops op)) fun v1 => pushesV v1 (plPush op)) := Lib.hid (by
    unfold rowV
    simp only
    rw [if_neg (by omega), if_neg (by omega), if_neg (by omega), if_neg (by omega), if_neg (by omega), if_neg (by omega)]
    rfl)
  have d2 : ((op : Int) == 2) = false := by simp; omega
  have d3 : ((op : Int) == 3) = false := by simp; omega
  have d4 : ((op : Int) == 4) = false := by simp; omega
  have d5 : ((op : Int) == 5) = false := by simp; omega
  have d6 : ((op : Int) == 6) = false := by simp; omega
  have d0 : ((op : Int) == 0) = false := by simp; omega
  have d7 : ((op : Int) == 7) = false := by simp; omega
  have d8 : ((op : Int) == 8) = false := by simp; omega
  have d9 : ((op : Int) == 9) = false := by simp; omega
  have d10 : ((op : Int) == 10) = false := by simp; omega
  have d11 : ((op : Int) == 11) = false := by simp; omega
  have d12 : ((op : Int) == 12) = false := by simp; omega
  have d16 : ((op : Int) == 16) = false := by simp; omega
  have d17 : ((op : Int) == 17) = false := by simp; omega
  have d18 : ((op : Int) == 18) = false := by simp; omega
  have d19 : ((op : Int) == 19) = false := by simp; omega
  have d20 : ((op : Int) == 20) = false := by simp; omega
  have d21 : ((op : Int) == 21) = false := by simp; omega
  have d22 : ((op : Int) == 22) = false := by simp; omega
  clear H0 H hb hnw hno hop hrv zp zq
  go_enter Tryd.func35, Tryd.ntmps35
  go_wp2_with fail
  generalize w.alloc (.cells #[.int .u8 op, .int .i64 a, .slice va l.length vc] 68) = w1 at *
  refine HC.out.mono ?_
  rintro e w2 ⟨rfl, hb2⟩
  have hba := below_alloc w2 (.cells #[.int .u8 ri, .string rs, .int .i8 rt, .string (plPops op), .string (plPush op), .bool rb] 132)
  have hbn := below_next hb2 hba
  have HW2 := Lib.hid (HW.out.on hbn)
  have HK2 := Lib.hid (HK.out.trans (Kn.on (k := k) hbn))
  have hgp : w2.heap.size ≠ k.p := by have := (HW.out.on hb2).row; have := row_lt this; omega
  have r0 := heap_alloc_new w2 (.cells #[.int .u8 0, .string ⟨#[]⟩, .int .i8 0, .string ⟨#[]⟩, .string ⟨#[]⟩, .bool false] 132)
  have fr0 := row_free r0 0; have fr1 := row_free r0 1; have fr2 := row_free r0 2; have fr3 := row_free r0 3; have fr4 := row_free r0 4; have fr5 := row_free r0 5
  have r1 := heap_alloc_new w2 (.cells #[.int .u8 ri, .string rs, .int .i8 rt, .string (plPops op), .string (plPush op), .bool rb] 132)
  have p3 := row_cell r1 3 rfl
  have HRW := Lib.hid r1
  simp only [List.getElem_toArray, List.getElem_cons_zero, List.getElem_cons_succ] at p3
  clear HW HK hb2 hba hbn r0 r1
  go_wp2_with (first
    | ((go_at_call 56; refine (val_pops HW2.out hne hle hsz _ (by omega)).mono ?_)
       rintro e w3 (⟨v2, q2, h1, rfl, h2, h3⟩ | ⟨z, h1, rfl, h2, h3⟩)
       rotate_left
       · exact ⟨rfl, .inr ⟨z, by rw [HR.out, h1]; rfl, rfl, h2, HK2.out.trans h3⟩⟩
       have HW3 := Lib.hid h2
       have HK3 := Lib.hid (HK2.out.trans h3)
       have HR2 : Hid (rowV k.ctx v at_ ⟨op, a, l⟩ = pushesV v2 (plPush op)) := Lib.hid (by rw [HR.out, h1]; rfl)
       have hsz2 : v2.shape.size ≤ 1000 := by rw [(pops_ok h1).1]; simp; omega
       have p4 : w3.cell? ⟨w2.heap.size, 4, none⟩ = some (.string (plPush op)) := row_cell ((h3.block _ (row_lt HRW.out) hgp).trans HRW.out) 4 rfl
       clear h1 h2 h3 HR HW2 HK2)
    | ((go_at_call 57; refine (val_pushes HW3.out hsz2 _ (by omega)).mono ?_)
       rintro e w4 (⟨v3, q3, h1, rfl, h2, h3⟩ | ⟨z, h1, rfl, h2, h3⟩)
       rotate_left
       · exact ⟨rfl, .inr ⟨z, HR2.out.trans h1, rfl, h2, HK3.out.trans h3⟩⟩))
  exact bodyPost_end (results_none rfl _ _ _) rfl (.inl ⟨v3, q3, HR2.out.trans h1, rfl, h2, HK3.out.trans h3⟩)
/-- Every row. -/
theorem val_row {k : Wc} {w : World} {v : VwD} {at_ : Nat} {q : Wq} (x : InsD) (vl : Value) (H : RowH k w v at_ q x vl) :
    Calls Tryd.prog 35 #[.pointer (some ⟨k.p, 0, none⟩), .agg #[.int .u8 x.op, .int .i64 x.a, vl]] w fun r w' => WE k w at_ (.tuple #[]) (rowV k.ctx v at_ x) r w' := by
  obtain ⟨op, a, l⟩ := x
  obtain ⟨va, vc, rfl, -⟩ := H.il.lenc
  by_cases e2 : op = 2
  · subst e2; exact row_2 a l va vc H
  by_cases e3 : op = 3
  · subst e3; exact row_3 a l va vc H
  by_cases e4 : op = 4
  · subst e4; exact row_4 a l va vc H
  by_cases e5 : op = 5
  · subst e5; exact row_5 a l va vc H
  by_cases e6 : op = 6
  · subst e6; exact row_6 a l va vc H
  by_cases e0 : op = 0
  · subst e0; exact row_0 a l va vc H
  by_cases e7 : op = 7
  · subst e7; exact row_7 a l va vc H
  by_cases e8 : op = 8
  · subst e8; exact row_8 a l va vc H
  by_cases e9 : op = 9
  · subst e9; exact row_9 a l va vc H
  by_cases e10 : op = 10
  · subst e10; exact row_10 a l va vc H
  by_cases e11 : op = 11
  · subst e11; exact row_11 a l va vc H
  by_cases e12 : op = 12
  · subst e12; exact row_12 a l va vc H
  by_cases e16 : op = 16
  · subst e16; exact row_16 a l va vc H
  by_cases e17 : op = 17
  · subst e17; exact row_17 a l va vc H
  by_cases e18 : op = 18
  · subst e18; exact row_18 a l va vc H
  by_cases e19 : op = 19
  · subst e19; exact row_19 a l va vc H
  by_cases e20 : op = 20
  · subst e20; exact row_20 a l va vc H
  by_cases e21 : op = 21
  · subst e21; exact row_21 a l va vc H
  by_cases e22 : op = 22
  · subst e22; exact row_22 a l va vc H
  exact row_plain op a l va vc H ⟨e2, e3, e4, e5, e6, e0, e7, e8, e9, e10, e11, e12, e16, e17, e18, e19, e20, e21, e22⟩
end Go.Proofs.YtfhkjahjenpbgaaDoor
