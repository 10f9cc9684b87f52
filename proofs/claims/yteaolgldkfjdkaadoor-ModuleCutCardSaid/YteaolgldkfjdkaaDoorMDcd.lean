/- module.Decode: its deferred closure, its magic, what it answers. module.Decode. -/
import Derived.Test.YteaolgldkfjdkaaDoorRb5
import Derived.Test.YteaolgldkfjdkaaDoorRh5
import Derived.Test.YteaolgldkfjdkaaDoorMSmall
import Derived.Test.YteaolgldkfjdkaaDoorMMod
import Derived.Test.YteaolgldkfjdkaaDoorHead5
import Derived.Laws.BytesArg
namespace Go.Proofs.YteaolgldkfjdkaaDoor
open Go Go.RowKit

theorem dec1_ok (w : World) (eb : Nat) (y : Value) (u : FrameMode) (he : w.heap[eb]? = some (.cells #[.int .i64 0] 33 (0, 0))) :
    CallsD Tryd.prog 21 #[.pointer (some ⟨eb, 0, none⟩), y] u w fun r u' w' => u' = u ∧ (r = .returned (.tuple #[]) ∧ w' = w) := by
  have ce := row_cell he 0 rfl
  simp only [List.getElem_toArray, List.getElem_cons_zero] at ce
  go_enter_d Tryd.func21, Tryd.ntmps21
  go_wp2
  exact bodyPost_end (results_none rfl _ _ _) rfl ⟨rfl, rfl⟩
theorem row8 {w : World} {m T : Nat} {fr : Nat × Nat} {a0 a1 a2 a3 a4 a5 a6 a7 : Value} (h : w.heap[m]? = some (.cells #[a0, a1, a2, a3, a4, a5, a6, a7] T fr)) (v0 v1 v2 v3 v4 v5 v6 v7 : Value) : ((((((((w.setCell ⟨m, 0, none⟩ v0).setCell ⟨m, 1, none⟩ v1).setCell ⟨m, 2, none⟩ v2).setCell ⟨m, 3, none⟩ v3).setCell ⟨m, 4, none⟩ v4).setCell ⟨m, 5, none⟩ v5).setCell ⟨m, 6, none⟩ v6).setCell ⟨m, 7, none⟩ v7).heap[m]? = some (.cells #[v0, v1, v2, v3, v4, v5, v6, v7] T fr) := by simpa using (row_setCell (row_setCell (row_setCell (row_setCell (row_setCell (row_setCell (row_setCell (row_setCell h 0 v0) 1 v1) 2 v2) 3 v3) 4 v4) 5 v5) 6 v6) 7 v7)
theorem keep8 (w : World) (m : Nat) (v0 v1 v2 v3 v4 v5 v6 v7 : Value) : Keeps (fun b => b ≠ m) w ((((((((w.setCell ⟨m, 0, none⟩ v0).setCell ⟨m, 1, none⟩ v1).setCell ⟨m, 2, none⟩ v2).setCell ⟨m, 3, none⟩ v3).setCell ⟨m, 4, none⟩ v4).setCell ⟨m, 5, none⟩ v5).setCell ⟨m, 6, none⟩ v6).setCell ⟨m, 7, none⟩ v7) := (((((((((Keeps.refl (fun b => b ≠ m) w).setCell (a := ⟨m, 0, none⟩) (by simp) v0).setCell (a := ⟨m, 1, none⟩) (by simp) v1).setCell (a := ⟨m, 2, none⟩) (by simp) v2).setCell (a := ⟨m, 3, none⟩) (by simp) v3).setCell (a := ⟨m, 4, none⟩) (by simp) v4).setCell (a := ⟨m, 5, none⟩) (by simp) v5).setCell (a := ⟨m, 6, none⟩) (by simp) v6).setCell (a := ⟨m, 7, none⟩) (by simp) v7)
set_option maxHeartbeats 1600000 in
theorem dec1_no (w : World) (eb mb : Nat) (u : FrameMode) (e : Int) (hne : e ≠ 0) (he : w.heap[eb]? = some (.cells #[.int .i64 e] 33 (0, 0))) (hb : w.heap[mb]? = some (.cells mqZ.cells 29 (0, 0))) :
    CallsD Tryd.prog 21 #[.pointer (some ⟨eb, 0, none⟩), .pointer (some ⟨mb, 0, none⟩)] u w fun r u' w' => u' = u ∧ (r = .returned (.tuple #[]) ∧ w'.heap[mb]? = some (.cells mqZ.cells 29 (0, 0)) ∧ Keeps (fun b => b ≠ mb) w w') := by
  have ce := row_cell he 0 rfl
  have b0 := row_cell hb 0 rfl; have b1 := row_cell hb 1 rfl; have b2 := row_cell hb 2 rfl; have b3 := row_cell hb 3 rfl; have b4 := row_cell hb 4 rfl; have b5 := row_cell hb 5 rfl; have b6 := row_cell hb 6 rfl; have b7 := row_cell hb 7 rfl
  have f0 := row_free hb 0; have f1 := row_free hb 1; have f2 := row_free hb 2; have f3 := row_free hb 3; have f4 := row_free hb 4; have f5 := row_free hb 5; have f6 := row_free hb 6; have f7 := row_free hb 7
  have HB := Lib.hid hb
  simp only [mqZ, Mq.cells, nilV, List.getElem_toArray, List.getElem_cons_zero, List.getElem_cons_succ] at ce b0 b1 b2 b3 b4 b5 b6 b7
  have hz : (e != 0) = true := by simpa using hne
  have hz' : (e == 0) = false := by simpa using hne
  clear hb
  go_enter_d Tryd.func21, Tryd.ntmps21
  go_wp2
  all_goals (first | (exfalso; simp_all; done) | exact bodyPost_end (results_none rfl _ _ _) rfl ⟨rfl, row8 HB.out _ _ _ _ _ _ _ _, keep8 _ _ _ _ _ _ _ _ _ _⟩)
/-- The magic is there. -/
theorem of_mg5 : (strOfNums magicM).toList = [70, 76, 71, 78, 1] := by decide +kernel
theorem mg_of5 {l : List Int} (hl : l.length = 5) (hb : Bytes l) (e : (strOfNums l).toList = [70, 76, 71, 78, 1]) : l = magicM := by
  match l, hl, hb with
  | [x0, x1, x2, x3, x4], _, hb =>
    have e2 : [UInt8.ofNat x0.toNat, UInt8.ofNat x1.toNat, UInt8.ofNat x2.toNat, UInt8.ofNat x3.toNat, UInt8.ofNat x4.toNat] = ([70, 76, 71, 78, 1] : List UInt8) := by
      have e3 : (strOfNums [x0, x1, x2, x3, x4]).toList = (strOfNums [70, 76, 71, 78, 1]).toList := by rw [e]; decide +kernel
      rw [ByteArray.toList_eq, ByteArray.toList_eq] at e3
      exact e3
    have q : ∀ (x : Int) (n : UInt8), 0 ≤ x ∧ x ≤ 255 → UInt8.ofNat x.toNat = n → x = n.toNat := by
      intro x n hx hn
      have := congrArg UInt8.toNat hn
      simp only [UInt8.toNat_ofNat', Nat.reducePow] at this
      omega
    simp only [List.cons.injEq, and_true] at e2
    obtain ⟨a0, a1, a2, a3, a4⟩ := e2
    have b0 := q _ _ (hb x0 (by simp)) a0; have b1 := q _ _ (hb x1 (by simp)) a1; have b2 := q _ _ (hb x2 (by simp)) a2; have b3 := q _ _ (hb x3 (by simp)) a3; have b4 := q _ _ (hb x4 (by simp)) a4
    rw [b0, b1, b2, b3, b4]; rfl
theorem rd5_cells {S : Nat → Prop} {w : World} {b : List Int} {bb off n c : Nat} (h : RdI .u8 S w (.slice (some ⟨bb, off, none⟩) n c) b) (hl : 5 ≤ b.length) : ∀ i, i < 5 → w.cell? ⟨bb, off + i, none⟩ = some (.int .u8 ((b.take 5).getD i 0)) := by
  intro i hi
  obtain ⟨a', c', e0, _, _, hr⟩ := h
  obtain ⟨b', o', e, _, hc⟩ := hr i (by omega)
  simp only [Value.slice.injEq] at e0
  rw [← e0.1] at e
  simp only [Option.some.injEq, Addr.mk.injEq, and_true] at e
  obtain ⟨rfl, rfl⟩ := e
  have e : (b.take 5).getD i 0 = b[i] := by
    rw [List.getD_eq_getElem?_getD, List.getElem?_take, if_pos hi, List.getElem?_eq_getElem (by omega)]; rfl
  rw [e]
  exact hc
/-- What is asked of a module that may be written bounds it. -/
theorem parts_sm {m : ModD} (h : partsM m = 0) : SmM m := by
  unfold partsM at h
  simp only [thenE_0, errMany_0] at h
  obtain ⟨h1, h2, h3, h4, h5, h6, h7, h8⟩ := h
  have f1 : 0 ≤ m.first ∧ m.first ≤ 64 := by unfold errFirst at h4; split at h4 <;> omega
  have f2 : 0 ≤ m.most ∧ m.most ≤ 64 := by unfold errMost at h5; split at h5 <;> omega
  have e0 : ∀ (s : ByteArray) (n : Nat), errT n s = 0 → s.size ≤ n := fun s n hs => (errT_0.1 hs).1
  have s1 := okL_each (P := fun x : SigD => x.1.size ≤ 8 ∧ x.2.size ≤ 8) (fun a x hx => by unfold errS at hx; rw [thenE_0, thenE_0] at hx; exact ⟨e0 _ _ hx.1, e0 _ _ hx.2.1⟩) _ _ h1.2
  have s2 := okL_each (P := fun x : Int => 0 ≤ x ∧ x < m.types.length) (fun a x hx => errI_0.1 hx) _ _ h2.2
  have s3 := okL_each (P := fun x : GlobD => x.letter < 256) (fun a x hx => by
    unfold errG at hx
    split at hx
    · exact absurd hx (by decide)
    · rename_i hl
      simp only [isLet, Bool.not_eq_false, Bool.or_eq_true, beq_iff_eq] at hl
      omega) _ _ h3.2
  have s6 := okL_each (P := fun x : FunD => (0 ≤ x.t ∧ x.t < m.types.length) ∧ x.locals.size ≤ 64) (fun a x hx => by
    unfold errF at hx
    rw [thenE_0, thenE_0] at hx
    exact ⟨errI_0.1 hx.1, by have := e0 _ _ hx.2.1; have := roomT_le m.types x.t; omega⟩) _ _ h6.2
  have s7 := okL_each (P := fun x : DatD => 0 ≤ x.at_ ∧ x.at_ ≤ 262144) (fun a x hx => by have := errD_end hx; omega) _ _ h7.2
  have s8 := okL_each (P := fun x : ExpD => x.name.size ≤ 32 ∧ (0 ≤ x.f ∧ x.f < m.funs.length)) (fun a x hx => by
    unfold errE at hx
    rw [thenE_0] at hx
    exact ⟨errName_32 hx.1, errI_0.1 hx.2⟩) _ _ h8.2
  have i6 : ∀ z : Int, -1000000 ≤ z → z ≤ 1000000 → i64P z := fun z h1 h2 => ⟨by omega, by omega⟩
  exact ⟨fun x hx => by have := s1 x hx; omega, fun x hx => by have := s6 x hx; omega, fun x hx => by have := s8 x hx; omega, fun x hx => by have := s2 x hx; exact i6 _ (by omega) (by omega),
    fun x hx => by have := s6 x hx; exact i6 _ (by omega) (by omega), fun x hx => by have := s7 x hx; exact i6 _ (by omega) (by omega), fun x hx => by have := s8 x hx; exact i6 _ (by omega) (by omega), i6 _ (by omega) (by omega), i6 _ (by omega) (by omega), s3⟩
/-- The lists of a module that may be written are short. -/
theorem parts_len {x : Mq} (h : partsM x.m = 0) : ∀ e ∈ x.ents, e.n ≤ 140737488355328 := by
  unfold partsM at h
  simp only [thenE_0, errMany_0, Mq.m, List.length_map] at h
  obtain ⟨h1, h2, h3, h4, h5, h6, h7, h8⟩ := h
  have f1 : 0 ≤ x.first ∧ x.first ≤ 64 := by unfold errFirst at h4; split at h4 <;> omega
  have s6 := okL_each (P := fun f : FunD => f.code.length ≤ 2048 ∧ ∀ i ∈ f.code, i.l.length ≤ 16) (fun a f hx => by
    unfold errF at hx
    rw [thenE_0, thenE_0] at hx
    have h := hx.2.2
    split at h
    · exact absurd h (by decide)
    split at h
    · exact absurd h (by decide)
    refine ⟨by omega, okL_each (P := fun i : InsD => i.l.length ≤ 16) (fun _ i hi => ?_) _ _ ((errL_0 _ _).1 h)⟩
    unfold checkI at hi
    split at hi
    · exact absurd hi (by decide)
    split at hi
    · exact absurd hi (by decide)
    split at hi
    · split at hi
      · exact absurd hi (by decide)
      · omega
    · split at hi
      · exact absurd hi (by decide)
      · omega) _ _ h6.2
  have s7 := okL_each (P := fun d : DatD => d.b.length ≤ 262144) (fun a d hx => by have := errD_end hx; omega) _ _ h7.2
  intro e he
  simp only [Mq.ents, List.mem_append, List.mem_cons, List.mem_flatMap, List.mem_map, List.not_mem_nil, or_false] at he
  rcases he with ((((rfl | rfl | rfl | rfl) | ⟨f, hf, he⟩) | (rfl | ⟨d, hd, rfl⟩))) | rfl
  · show x.ts.length ≤ _; omega
  · show x.hs.length ≤ _; omega
  · show x.gs.length ≤ _; omega
  · show x.fs.length ≤ _; omega
  · have := s6 f.f (List.mem_map_of_mem hf)
    simp only [fqE, List.mem_cons, List.mem_map] at he
    rcases he with rfl | ⟨i, hi, rfl⟩
    · show f.code.length ≤ _
      have h1 := this.1
      simp only [Fq5.f, List.length_map] at h1
      omega
    · show i.1.l.length ≤ _
      have := this.2 i.1 (List.mem_map_of_mem hi)
      omega
  · show x.ds.length ≤ _; omega
  · show d.1.b.length ≤ _
    have := s7 d.1 (List.mem_map_of_mem hd)
    omega
  · show x.es.length ≤ _; omega
end Go.Proofs.YteaolgldkfjdkaaDoor
namespace Go.Proofs.YteaolgldkfjdkaaDoor
open Go Go.RowKit

/-- What Decode answers. -/
def DcP (w : World) (b : List Int) (r : Ending) (w' : World) : Prop := ∃ (x : Mq) (B : Nat), r = .returned (.tuple #[.agg x.cells, .int .i64 (decM b).2.1, .int .i64 ((decM b).2.2 : Nat)]) ∧ Below w.heap.size w w' ∧ x.m = (decM b).1 ∧ w.heap.size ≤ B ∧ Fam B w' x.ents
/-- How Decode stands: its boxes. -/
structure Dc (n : Nat) (w wx : World) : Prop where
  bel : Below n w wx
  mbox : wx.heap[n]? = some (.cells mqZ.cells 29 (0, 0))
  ebox : wx.heap[n + 1]? = some (.cells #[.int .i64 0] 33 (0, 0))
  abox : wx.heap[n + 1 + 1]? = some (.cells #[.int .i64 0] 3 (0, 0))
theorem Dc.on {n : Nat} {w wx wy : World} (h : Dc n w wx) (hn : n ≤ w.heap.size) (hk : Kp (n + 1 + 1 + 1 + 1 + 1) (n + 1 + 1 + 1 + 1) (n + 1 + 1 + 1) wx wy) : Dc n w wy :=
  ⟨h.bel.trans (Keeps.below hk (Nat.le_trans hn h.bel.size) fun b hb => ⟨by omega, by omega, by omega⟩), (hk.block _ (row_lt h.mbox) ⟨by omega, by omega, by omega⟩).trans h.mbox, (hk.block _ (row_lt h.ebox) ⟨by omega, by omega, by omega⟩).trans h.ebox,
    (hk.block _ (row_lt h.abox) ⟨by omega, by omega, by omega⟩).trans h.abox⟩
def dcW (w : World) (bv : Value) : World := ((((w.alloc (.cells mqZ.cells 29)).alloc (.cells #[.int .i64 0] 33)).alloc (.cells #[.int .i64 0] 3)).alloc (.cells mqZ.cells 29)).alloc (.cells #[.pointer (some ⟨w.heap.size + 1 + 1 + 1, 0, none⟩), .int .i64 0, bv, .int .i64 5] 68)
theorem Dc.start (w : World) (S : Nat → Prop) (hS : ∀ y, S y → y < w.heap.size) (bv : Value) (b : List Int) (hr : RdI .u8 S w bv b) (hl : 5 ≤ b.length) :
    Dc w.heap.size w (dcW w bv) ∧ Md S (w.heap.size + 1 + 1 + 1 + 1 + 1) (dcW w bv) (w.heap.size + 1 + 1 + 1 + 1) (w.heap.size + 1 + 1 + 1) bv b 0 5 mqZ [] ∧ Below w.heap.size w (dcW w bv) := by
  have st : ∀ (W : World) (o : Obj), Below W.heap.size W (W.alloc o) ∧ (W.alloc o).heap[W.heap.size]? = some o ∧ (W.alloc o).heap.size = W.heap.size + 1 := fun W o => ⟨below_alloc W o, heap_alloc_new W o, World.size_alloc ..⟩
  unfold dcW
  obtain ⟨b1, r1, s1⟩ := st w (.cells mqZ.cells 29)
  generalize w.alloc (.cells mqZ.cells 29) = w1 at *
  obtain ⟨b2, r2, s2⟩ := st w1 (.cells #[.int .i64 0] 33)
  generalize w1.alloc (.cells #[.int .i64 0] 33) = w2 at *
  obtain ⟨b3, r3, s3⟩ := st w2 (.cells #[.int .i64 0] 3)
  generalize w2.alloc (.cells #[.int .i64 0] 3) = w3 at *
  obtain ⟨b4, r4, s4⟩ := st w3 (.cells mqZ.cells 29)
  generalize w3.alloc (.cells mqZ.cells 29) = w4 at *
  obtain ⟨b5, r5, s5⟩ := st w4 (.cells #[.pointer (some ⟨w.heap.size + 1 + 1 + 1, 0, none⟩), .int .i64 0, bv, .int .i64 5] 68)
  generalize w4.alloc (.cells #[.pointer (some ⟨w.heap.size + 1 + 1 + 1, 0, none⟩), .int .i64 0, bv, .int .i64 5] 68) = w5 at *
  rw [s1] at r2
  rw [s2, s1] at r3
  rw [s3, s2, s1] at r4
  rw [s4, s3, s2, s1] at r5
  have b45 := b5
  have b35 := below_next b4 b45
  have b25 := below_next b3 b35
  have b15 := below_next b2 b25
  have b05 := below_next b1 b15
  refine ⟨⟨b05, (b15.block _ (by omega)).trans r1, (b25.block _ (by omega)).trans r2, (b35.block _ (by omega)).trans r3⟩, ⟨⟨r5, hr.keeps (Keeps.all S b05), hl⟩, (b45.block _ (by omega)).trans r4, by rw [List.append_nil]; exact fam_Z _ _, ⟨by omega, by omega⟩, by omega, fun y hy => by have := hS y hy; omega⟩, b05⟩
theorem dec_err {b : List Int} (h1 : ¬ 65536 < b.length) (h2 : b.take 5 = magicM) {e : Int} {k : Nat} (h : rmod b 5 = .error (e, k)) : decM b = (modZ, e, k) := by
  unfold decM; rw [if_neg h1, if_neg (by rw [h2]; simp), h]
theorem dec_rest {b : List Int} (h1 : ¬ 65536 < b.length) (h2 : b.take 5 = magicM) {m : ModD} {q : Nat} (h : rmod b 5 = .ok (m, q)) (hq : q ≠ b.length) : decM b = (modZ, 19, q) := by
  unfold decM; rw [if_neg h1, if_neg (by rw [h2]; simp), h]; simp only [if_neg hq]
theorem dec_well {b : List Int} (h1 : ¬ 65536 < b.length) (h2 : b.take 5 = magicM) {m : ModD} (h : rmod b 5 = .ok (m, b.length)) : decM b = (m, 0, 0) := by
  unfold decM; rw [if_neg h1, if_neg (by rw [h2]; simp), h]; simp only [if_true]
set_option maxHeartbeats 1600000 in
theorem dec_ret {w W : World} {b : List Int} {n : Nat} {c0 c1 c2 c3 c4 c5 c6 c7 : Value} {e a : Int} (hm : W.heap[n]? = some (.cells #[c0, c1, c2, c3, c4, c5, c6, c7] 29 (0, 0))) (he : W.heap[n + 1]? = some (.cells #[.int .i64 e] 33 (0, 0))) (ha : W.heap[n + 1 + 1]? = some (.cells #[.int .i64 a] 3 (0, 0)))
    (tmps : Array Value) (h2 : tmps.getD 2 undef = .pointer (some ⟨n, 0, none⟩)) (h3 : tmps.getD 3 undef = .pointer (some ⟨n + 1, 0, none⟩)) (h4 : tmps.getD 4 undef = .pointer (some ⟨n + 1 + 1, 0, none⟩)) (hp : DcP w b (.returned (.tuple #[.agg #[c0, c1, c2, c3, c4, c5, c6, c7], .int .i64 e, .int .i64 a])) W) :
    bodyPostD Tryd.prog Tryd.f9 (DcP w b) Exit.ret ⟨tmps, []⟩ W := by
  have y0 := row_cell hm 0 rfl; have y1 := row_cell hm 1 rfl; have y2 := row_cell hm 2 rfl; have y3 := row_cell hm 3 rfl; have y4 := row_cell hm 4 rfl; have y5 := row_cell hm 5 rfl; have y6 := row_cell hm 6 rfl; have y7 := row_cell hm 7 rfl
  have k1 := row_cell he 0 rfl; have k2 := row_cell ha 0 rfl
  simp only [List.getElem_toArray, List.getElem_cons_zero, List.getElem_cons_succ] at y0 y1 y2 y3 y4 y5 y6 y7 k1 k2
  have h2' : tmps[2]?.getD undef = .pointer (some ⟨n, 0, none⟩) := by simpa using h2
  have h3' : tmps[3]?.getD undef = .pointer (some ⟨n + 1, 0, none⟩) := by simpa using h3
  have h4' : tmps[4]?.getD undef = .pointer (some ⟨n + 1 + 1, 0, none⟩) := by simpa using h4
  simp [bodyPostD, Leaves, results, Tryd.results9, go_sem, k1, k2, h2', h3', h4', y0, y1, y2, y3, y4, y5, y6, y7, hp]
set_option maxHeartbeats 1600000 in
theorem dec_fail {w w7 : World} {b : List Int} (H : Dc w.heap.size w w7) {e : Int} {k : Nat} (he : e ≠ 0) (hm : decM b = (modZ, e, k)) (tmps : Array Value) (h2 : tmps.getD 2 undef = .pointer (some ⟨w.heap.size, 0, none⟩)) (h3 : tmps.getD 3 undef = .pointer (some ⟨w.heap.size + 1, 0, none⟩)) (h4 : tmps.getD 4 undef = .pointer (some ⟨w.heap.size + 1 + 1, 0, none⟩)) :
    bodyPostD Tryd.prog Tryd.f9 (DcP w b) (Exit.panic (thrown e (k : Nat))) ⟨tmps, [{ target := Target.fn (Fn.func 17) #[], args := #[.pointer (some ⟨w.heap.size + 1, 0, none⟩), .pointer (some ⟨w.heap.size + 1 + 1, 0, none⟩)] }, { target := Target.fn (Fn.func 21) #[.pointer (some ⟨w.heap.size + 1, 0, none⟩), .pointer (some ⟨w.heap.size, 0, none⟩)], args := #[] }]⟩ w7 := by
  refine leaves_cons (f := 17) (args := #[.pointer (some ⟨w.heap.size + 1, 0, none⟩), .pointer (some ⟨w.heap.size + 1 + 1, 0, none⟩)]) (by simp) (by simp [go_sem]) ?_
  refine (caught_panicking _ _ (by omega) 0 0 e (k : Nat) [] w7 H.ebox H.abox).mono ?_
  rintro r u' w8 ⟨rfl, rfl, hc8⟩
  have hb8 := (hc8.keep.block w.heap.size (row_lt H.mbox) ⟨by omega, by omega⟩).trans H.mbox
  refine leaves_cons (f := 21) (args := #[.pointer (some ⟨w.heap.size + 1, 0, none⟩), .pointer (some ⟨w.heap.size, 0, none⟩)]) (by simp [settle]) (by simp [go_sem]) ?_
  refine (dec1_no w8 _ _ _ e he hc8.re hb8).mono ?_
  rintro r u' w9 ⟨rfl, rfl, h9, hk9⟩
  have he9 := (hk9.block _ (row_lt hc8.re) (by omega)).trans hc8.re
  have ha9 := (hk9.block _ (row_lt hc8.ra) (by omega)).trans hc8.ra
  have hbel : Below w.heap.size w w9 := H.bel.trans ((hc8.keep.trans' (T := fun b => b < w.heap.size) hk9 fun b _ hb' => ⟨⟨by omega, by omega⟩, by omega⟩).below H.bel.size fun b hb' => hb')
  have hp : DcP w b (.returned (.tuple #[.agg mqZ.cells, .int .i64 e, .int .i64 (k : Nat)])) w9 := ⟨mqZ, w.heap.size, by rw [hm], hbel, by rw [hm]; rfl, Nat.le_refl _, fam_Z _ _⟩
  have y0 := row_cell h9 0 rfl; have y1 := row_cell h9 1 rfl; have y2 := row_cell h9 2 rfl; have y3 := row_cell h9 3 rfl; have y4 := row_cell h9 4 rfl; have y5 := row_cell h9 5 rfl; have y6 := row_cell h9 6 rfl; have y7 := row_cell h9 7 rfl
  have k1 := row_cell he9 0 rfl; have k2 := row_cell ha9 0 rfl
  simp only [mqZ, Mq.cells, nilV, List.getElem_toArray, List.getElem_cons_zero, List.getElem_cons_succ] at y0 y1 y2 y3 y4 y5 y6 y7 k1 k2 hp
  have h2' : tmps[2]?.getD undef = .pointer (some ⟨w.heap.size, 0, none⟩) := by simpa using h2
  have h3' : tmps[3]?.getD undef = .pointer (some ⟨w.heap.size + 1, 0, none⟩) := by simpa using h3
  have h4' : tmps[4]?.getD undef = .pointer (some ⟨w.heap.size + 1 + 1, 0, none⟩) := by simpa using h4
  simp [Leaves, settle, results, Tryd.results9, go_sem, k1, k2, h2', h3', h4', y0, y1, y2, y3, y4, y5, y6, y7, hp]
set_option maxHeartbeats 1600000 in
theorem dec_done {w w9 : World} {b : List Int} {tv hv gv fv dv ev : Value} {fi mo : Int} (h9 : w9.heap[w.heap.size]? = some (.cells #[tv, hv, gv, .int .i64 fi, .int .i64 mo, fv, dv, ev] 29 (0, 0))) (he9 : w9.heap[w.heap.size + 1]? = some (.cells #[.int .i64 0] 33 (0, 0))) (ha9 : w9.heap[w.heap.size + 1 + 1]? = some (.cells #[.int .i64 0] 3 (0, 0)))
    (hp : DcP w b (.returned (.tuple #[.agg #[tv, hv, gv, .int .i64 fi, .int .i64 mo, fv, dv, ev], .int .i64 0, .int .i64 0])) w9) (tmps : Array Value) (h2 : tmps.getD 2 undef = .pointer (some ⟨w.heap.size, 0, none⟩)) (h3 : tmps.getD 3 undef = .pointer (some ⟨w.heap.size + 1, 0, none⟩)) (h4 : tmps.getD 4 undef = .pointer (some ⟨w.heap.size + 1 + 1, 0, none⟩)) :
    bodyPostD Tryd.prog Tryd.f9 (DcP w b) Exit.ret ⟨tmps, [{ target := Target.fn (Fn.func 17) #[], args := #[.pointer (some ⟨w.heap.size + 1, 0, none⟩), .pointer (some ⟨w.heap.size + 1 + 1, 0, none⟩)] }, { target := Target.fn (Fn.func 21) #[.pointer (some ⟨w.heap.size + 1, 0, none⟩), .pointer (some ⟨w.heap.size, 0, none⟩)], args := #[] }]⟩ w9 := by
  refine leaves_cons (f := 17) (args := #[.pointer (some ⟨w.heap.size + 1, 0, none⟩), .pointer (some ⟨w.heap.size + 1 + 1, 0, none⟩)]) (by simp) (by simp [go_sem]) ?_
  refine (caught_idle w9 _ _).mono ?_
  rintro r u' w10 ⟨rfl, rfl, rfl⟩
  refine leaves_cons (f := 21) (args := #[.pointer (some ⟨w.heap.size + 1, 0, none⟩), .pointer (some ⟨w.heap.size, 0, none⟩)]) (by simp [settle]) (by simp [go_sem]) ?_
  refine (dec1_ok w10 _ _ _ he9).mono ?_
  rintro r u' w11 ⟨rfl, rfl, rfl⟩
  have y0 := row_cell h9 0 rfl; have y1 := row_cell h9 1 rfl; have y2 := row_cell h9 2 rfl; have y3 := row_cell h9 3 rfl; have y4 := row_cell h9 4 rfl; have y5 := row_cell h9 5 rfl; have y6 := row_cell h9 6 rfl; have y7 := row_cell h9 7 rfl
  have k1 := row_cell he9 0 rfl; have k2 := row_cell ha9 0 rfl
  simp only [List.getElem_toArray, List.getElem_cons_zero, List.getElem_cons_succ] at y0 y1 y2 y3 y4 y5 y6 y7 k1 k2
  have h2' : tmps[2]?.getD undef = .pointer (some ⟨w.heap.size, 0, none⟩) := by simpa using h2
  have h3' : tmps[3]?.getD undef = .pointer (some ⟨w.heap.size + 1, 0, none⟩) := by simpa using h3
  have h4' : tmps[4]?.getD undef = .pointer (some ⟨w.heap.size + 1 + 1, 0, none⟩) := by simpa using h4
  simp [Leaves, settle, results, Tryd.results9, go_sem, k1, k2, h2', h3', h4', y0, y1, y2, y3, y4, y5, y6, y7, hp]
theorem dec_early {w : World} {b : List Int} {e : Int} (hm : decM b = (modZ, e, 0)) (tmps : Array Value) (h2 : tmps.getD 2 undef = .pointer (some ⟨w.heap.size, 0, none⟩)) (h3 : tmps.getD 3 undef = .pointer (some ⟨w.heap.size + 1, 0, none⟩)) (h4 : tmps.getD 4 undef = .pointer (some ⟨w.heap.size + 1 + 1, 0, none⟩)) :
    bodyPostD Tryd.prog Tryd.f9 (DcP w b) Exit.ret ⟨tmps, []⟩ (((w.alloc (.cells #[.slice none 0 0, .slice none 0 0, .slice none 0 0, .int .i64 0, .int .i64 0, .slice none 0 0, .slice none 0 0, .slice none 0 0] 29)).alloc (.cells #[.int .i64 e] 33)).alloc (.cells #[.int .i64 0] 3)) := by
  have st : ∀ (W : World) (o : Obj), Below W.heap.size W (W.alloc o) ∧ (W.alloc o).heap[W.heap.size]? = some o ∧ (W.alloc o).heap.size = W.heap.size + 1 := fun W o => ⟨below_alloc W o, heap_alloc_new W o, World.size_alloc ..⟩
  obtain ⟨b1, r1, s1⟩ := st w (.cells #[.slice none 0 0, .slice none 0 0, .slice none 0 0, .int .i64 0, .int .i64 0, .slice none 0 0, .slice none 0 0, .slice none 0 0] 29)
  generalize w.alloc (.cells #[.slice none 0 0, .slice none 0 0, .slice none 0 0, .int .i64 0, .int .i64 0, .slice none 0 0, .slice none 0 0, .slice none 0 0] 29) = w1 at *
  obtain ⟨b2, r2, s2⟩ := st w1 (.cells #[.int .i64 e] 33)
  generalize w1.alloc (.cells #[.int .i64 e] 33) = w2 at *
  obtain ⟨b3, r3, s3⟩ := st w2 (.cells #[.int .i64 0] 3)
  generalize w2.alloc (.cells #[.int .i64 0] 3) = w3 at *
  rw [s1] at r2
  rw [s2, s1] at r3
  have b13 := below_next b2 b3
  exact dec_ret ((b13.block _ (by omega)).trans r1) ((b3.block _ (by omega)).trans r2) r3 tmps h2 h3 h4 ⟨mqZ, w.heap.size, by rw [hm]; rfl, below_next b1 b13, by rw [hm]; rfl, Nat.le_refl _, fam_Z _ _⟩
set_option maxRecDepth 100000 in
set_option maxHeartbeats 3200000 in
theorem mod_Decode (w : World) (S : Nat → Prop) (hS : ∀ y, S y → y < w.heap.size) (bv : Value) (b : List Int) (hb : Bytes b) (hr : RdI .u8 S w bv b) (ht : Tb w) :
    Calls Tryd.prog 9 #[bv] w (DcP w b) := by
  have hmf : ∀ (fn : Fn) (first cap : Array Value) (w : World), (Instr.makeFunc fn first cap).run Tryd.prog w = .ok (.func fn first cap) w := fun _ _ _ _ => rfl
  obtain ⟨ba, bc, rfl, hbl⟩ := hr.len
  have HB := Lib.hid hb; have HRD := Lib.hid hr; have HS := Lib.hid hS; have HT := Lib.hid ht
  have hbc : b.length ≤ bc := by obtain ⟨_, _, e, h, _⟩ := hr; simp only [Value.slice.injEq] at e; obtain ⟨_, _, rfl⟩ := e; exact h
  clear hb hS ht
  by_cases hlong : 65536 < b.length
  · have E : Hid (decM b = (modZ, 13, 0)) := Lib.hid (by unfold decM; rw [if_pos hlong])
    clear hr
    go_enter_defers Tryd.func9, Tryd.ntmps9
    go_wp2_with fail
    exact dec_early E.out _ rfl rfl rfl
  by_cases h5 : b.length < 5
  · have E : Hid (decM b = (modZ, 14, 0)) := Lib.hid (by unfold decM; rw [if_neg hlong, if_pos (fun e => by have := congrArg List.length e; rw [List.length_take] at this; have h2 : magicM.length = 5 := rfl; omega)])
    clear hr
    go_enter_defers Tryd.func9, Tryd.ntmps9
    go_wp2_with fail
    exact dec_early E.out _ rfl rfl rfl
  have h5' : 5 ≤ b.length := by omega
  obtain ⟨bb, off, rfl⟩ : ∃ bb off, ba = some ⟨bb, off, none⟩ := by
    obtain ⟨a', c', e0, _, _, hr⟩ := hr
    obtain ⟨b', o', e, _, _⟩ := hr 0 (by omega)
    simp only [Value.slice.injEq] at e0
    exact ⟨b', o', by rw [e0.1, e]⟩
  have hk3 : Keeps S w (((w.alloc (.cells #[.slice none 0 0, .slice none 0 0, .slice none 0 0, .int .i64 0, .int .i64 0, .slice none 0 0, .slice none 0 0, .slice none 0 0] 29)).alloc (.cells #[.int .i64 0] 33)).alloc (.cells #[.int .i64 0] 3)) := (((Keeps.refl _ w).alloc _).alloc _).alloc _
  have hcv := run_convert_bytes_arg (P := Tryd.prog) (((w.alloc (.cells #[.slice none 0 0, .slice none 0 0, .slice none 0 0, .int .i64 0, .int .i64 0, .slice none 0 0, .slice none 0 0, .slice none 0 0] 29)).alloc (.cells #[.int .i64 0] 33)).alloc (.cells #[.int .i64 0] 3)) 30 5 Tryd.underlying30 Tryd.underlying5 bb off 5 bc (b.take 5) (by rw [List.length_take]; omega) (rd5_cells (hr.keeps hk3) h5') 9 Tryd.underlying9
  have h5c : 5 ≤ bc := by omega
  clear hk3 hr h5
  by_cases hm : b.take 5 = magicM
  · have hs : (strOfNums (b.take 5)).toList = [70, 76, 71, 78, 1] := by rw [hm]; exact of_mg5
    generalize strOfNums (b.take 5) = str at *
    have hs1 : (str.toList == [70, 76, 71, 78, 1]) = true := by simpa using hs
    have hs2 : (str.toList != [70, 76, 71, 78, 1]) = false := by simpa using hs
    have HMG := Lib.hid hm
    clear hs hm
    have hst := Dc.start w S HS.out (.slice (some ⟨bb, off, none⟩) b.length bc) b HRD.out h5'
    have hW : dcW w (.slice (some ⟨bb, off, none⟩) b.length bc) = (((((w.alloc (.cells #[.slice none 0 0, .slice none 0 0, .slice none 0 0, .int .i64 0, .int .i64 0, .slice none 0 0, .slice none 0 0, .slice none 0 0] 29)).alloc (.cells #[.int .i64 0] 33)).alloc (.cells #[.int .i64 0] 3)).alloc (.cells #[.slice none 0 0, .slice none 0 0, .slice none 0 0, .int .i64 0, .int .i64 0, .slice none 0 0, .slice none 0 0, .slice none 0 0] 29)).alloc (.cells #[.pointer (some ⟨w.heap.size + 1 + 1 + 1, 0, none⟩), .int .i64 0, .slice (some ⟨bb, off, none⟩) b.length bc, .int .i64 5] 68)) := rfl
    rw [hW] at hst
    have HST := Lib.hid hst
    clear hW hst
    go_enter_defers Tryd.func9, Tryd.ntmps9
    go_wp2_with fail
    generalize (((((w.alloc (.cells #[.slice none 0 0, .slice none 0 0, .slice none 0 0, .int .i64 0, .int .i64 0, .slice none 0 0, .slice none 0 0, .slice none 0 0] 29)).alloc (.cells #[.int .i64 0] 33)).alloc (.cells #[.int .i64 0] 3)).alloc (.cells #[.slice none 0 0, .slice none 0 0, .slice none 0 0, .int .i64 0, .int .i64 0, .slice none 0 0, .slice none 0 0, .slice none 0 0] 29)).alloc (.cells #[.pointer (some ⟨w.heap.size + 1 + 1 + 1, 0, none⟩), .int .i64 0, .slice (some ⟨bb, off, none⟩) b.length bc, .int .i64 5] 68)) = w5 at *
    clear hcv hs1 hs2
    refine (rm_head S (w.heap.size + 1 + 1 + 1 + 1 + 1) _ (w.heap.size + 1 + 1 + 1 + 1) (w.heap.size + 1 + 1 + 1) _ b 0 5 HST.out.2.1 HB.out (by omega)).mono ?_
    rintro e w6 (⟨z, q, h1, rfl, ⟨x, hM, hQ⟩, hK⟩ | ⟨e1, k, h1, rfl, hK⟩)
    rotate_left
    · have HE := Lib.hid (HST.out.1.on (Nat.le_refl _) hK)
      exact dec_fail HE.out (errs_rmod b 5 (e1, k) (rmod_bad1 h1)) (dec_err hlong HMG.out (rmod_bad1 h1)) _ rfl rfl rfl
    have HE6 := Lib.hid (HST.out.1.on (Nat.le_refl _) hK)
    have HM6 := Lib.hid hM
    have HZ := Lib.hid (rhd_ok h1 HB.out h5')
    have HQ := Lib.hid hQ
    have H1 := Lib.hid h1
    have hBz : Bz w w6 (w.heap.size + 1 + 1 + 1 + 1 + 1) (w.heap.size + 1 + 1 + 1 + 1) (w.heap.size + 1 + 1 + 1) := ⟨HT.out, HE6.out.bel, by omega⟩
    have HBZ := Lib.hid hBz
    clear h1 hM hQ hK HST hBz
    go_wp2_with fail
    refine (rm_body S (w.heap.size + 1 + 1 + 1 + 1 + 1) w w6 (w.heap.size + 1 + 1 + 1 + 1) (w.heap.size + 1 + 1 + 1) _ b q x HM6.out HB.out (by omega) (by rw [HQ.out.1]; exact HZ.out.1) (by rw [HQ.out.1]; exact HZ.out.2.1) z.2.2.2.1.toNat (by rw [HQ.out.2.2.2.1]; have := HZ.out; omega) (by have := HZ.out; omega) HQ.out.2.2.2.2.2.2.2.2.1 HQ.out.2.2.2.2.2.2.2.2.2 HBZ.out).mono ?_
    rintro e w7 (⟨y, h2, rfl, ⟨x', al', hM', hm'⟩, hK2⟩ | ⟨y, q2, h2, hne, rfl, hK2⟩ | ⟨e1, k, h2, rfl, hK2⟩)
    · rw [HQ.out.1, HQ.out.2.2.2.1] at h2
      rw [HQ.out.1, HQ.out.2.1, HQ.out.2.2.1, HQ.out.2.2.2.1, HQ.out.2.2.2.2.1] at hm'
      have HE7 := Lib.hid (HE6.out.on (Nat.le_refl _) hK2)
      have E : Hid (decM b = (x'.m, 0, 0)) := Lib.hid (by rw [dec_well hlong HMG.out (rmod_good H1.out h2), hm'])
      clear h2 hm' hK2 HE6 HM6 HZ HQ H1 HBZ
      obtain ⟨tv, hv, gv, fv, dv, ev, ts, hs, gs, first, most, fs, ds, es⟩ := x'
      obtain ⟨ta, tc, htv, _⟩ := own_slice (hM'.fam.own (tyE tv ts) (by simp [Mq.ents]))
      have htv : tv = .slice ta ts.length tc := htv
      subst htv
      obtain ⟨ha, hc, hhv, _⟩ := own_slice (hM'.fam.own (hoE hv hs) (by simp [Mq.ents]))
      have hhv : hv = .slice ha hs.length hc := hhv
      subst hhv
      obtain ⟨ga, gc, hgv, _⟩ := own_slice (hM'.fam.own (glE gv gs) (by simp [Mq.ents]))
      have hgv : gv = .slice ga gs.length gc := hgv
      subst hgv
      obtain ⟨fa, fc, hfv, _⟩ := own_slice (hM'.fam.own (fuE fv fs) (by simp [Mq.ents]))
      have hfv : fv = .slice fa fs.length fc := hfv
      subst hfv
      obtain ⟨da, dc, hdv, _⟩ := own_slice (hM'.fam.own (daE dv ds) (by simp [Mq.ents]))
      have hdv : dv = .slice da ds.length dc := hdv
      subst hdv
      obtain ⟨ea, ec, hev, _⟩ := own_slice (hM'.fam.own (exE ev es) (by simp [Mq.ents]))
      have hev : ev = .slice ea es.length ec := hev
      subst hev
      have HM7 := Lib.hid hM'
      have y0 := row_cell hM'.mrow 0 rfl; have y1 := row_cell hM'.mrow 1 rfl; have y2 := row_cell hM'.mrow 2 rfl; have y3 := row_cell hM'.mrow 3 rfl; have y4 := row_cell hM'.mrow 4 rfl; have y5 := row_cell hM'.mrow 5 rfl; have y6 := row_cell hM'.mrow 6 rfl; have y7 := row_cell hM'.mrow 7 rfl
      have b0 := row_cell HE7.out.mbox 0 rfl; have b1 := row_cell HE7.out.mbox 1 rfl; have b2 := row_cell HE7.out.mbox 2 rfl; have b3 := row_cell HE7.out.mbox 3 rfl; have b4 := row_cell HE7.out.mbox 4 rfl; have b5 := row_cell HE7.out.mbox 5 rfl; have b6 := row_cell HE7.out.mbox 6 rfl; have b7 := row_cell HE7.out.mbox 7 rfl
      have f0 := row_free HE7.out.mbox 0; have f1 := row_free HE7.out.mbox 1; have f2 := row_free HE7.out.mbox 2; have f3 := row_free HE7.out.mbox 3; have f4 := row_free HE7.out.mbox 4; have f5 := row_free HE7.out.mbox 5; have f6 := row_free HE7.out.mbox 6; have f7 := row_free HE7.out.mbox 7
      have e0 := row_cell HE7.out.ebox 0 rfl; have ef := row_free HE7.out.ebox 0
      have a0 := row_cell HE7.out.abox 0 rfl; have af := row_free HE7.out.abox 0
      simp only [mqZ, Mq.cells, nilV, List.getElem_toArray, List.getElem_cons_zero, List.getElem_cons_succ] at y0 y1 y2 y3 y4 y5 y6 y7 b0 b1 b2 b3 b4 b5 b6 b7 e0 a0
      clear hM'
      go_wp2_with fail
      have r8 := row8 HE7.out.mbox (.slice ta ts.length tc) (.slice ha hs.length hc) (.slice ga gs.length gc) (.int .i64 first) (.int .i64 most) (.slice fa fs.length fc) (.slice da ds.length dc) (.slice ea es.length ec)
      have k8 := keep8 w7 w.heap.size (.slice ta ts.length tc) (.slice ha hs.length hc) (.slice ga gs.length gc) (.int .i64 first) (.int .i64 most) (.slice fa fs.length fc) (.slice da ds.length dc) (.slice ea es.length ec)
      have e8 := (k8.block _ (row_lt HE7.out.ebox) (by omega)).trans HE7.out.ebox
      have a8 := (k8.block _ (row_lt HE7.out.abox) (by omega)).trans HE7.out.abox
      generalize ((((((((w7.setCell ⟨w.heap.size, 0, none⟩ (.slice ta ts.length tc)).setCell ⟨w.heap.size, 1, none⟩ (.slice ha hs.length hc)).setCell ⟨w.heap.size, 2, none⟩ (.slice ga gs.length gc)).setCell ⟨w.heap.size, 3, none⟩ (.int .i64 first)).setCell ⟨w.heap.size, 4, none⟩ (.int .i64 most)).setCell ⟨w.heap.size, 5, none⟩ (.slice fa fs.length fc)).setCell ⟨w.heap.size, 6, none⟩ (.slice da ds.length dc)).setCell ⟨w.heap.size, 7, none⟩ (.slice ea es.length ec)) = w8 at *
      have k9 := (Keeps.refl (fun b => b ≠ w.heap.size + 1) w8).setCell (a := ⟨w.heap.size + 1, 0, none⟩) (by simp) (.int .i64 0)
      have e9 : (w8.setCell ⟨w.heap.size + 1, 0, none⟩ (.int .i64 0)).heap[w.heap.size + 1]? = some (.cells #[.int .i64 0] 33 (0, 0)) := by simpa using row_setCell e8 0 (.int .i64 0)
      have r9 := (k9.block _ (row_lt r8) (by omega)).trans r8
      have a9 := (k9.block _ (row_lt a8) (by omega)).trans a8
      generalize w8.setCell ⟨w.heap.size + 1, 0, none⟩ (.int .i64 0) = w9 at *
      have k10 := (Keeps.refl (fun b => b ≠ w.heap.size + 1 + 1) w9).setCell (a := ⟨w.heap.size + 1 + 1, 0, none⟩) (by simp) (.int .i64 0)
      have a10 : (w9.setCell ⟨w.heap.size + 1 + 1, 0, none⟩ (.int .i64 0)).heap[w.heap.size + 1 + 1]? = some (.cells #[.int .i64 0] 3 (0, 0)) := by simpa using row_setCell a9 0 (.int .i64 0)
      have r10 := (k10.block _ (row_lt r9) (by omega)).trans r9
      have e10 := (k10.block _ (row_lt e9) (by omega)).trans e9
      generalize w9.setCell ⟨w.heap.size + 1 + 1, 0, none⟩ (.int .i64 0) = w10 at *
      have kk : Keeps (fun b => b < w.heap.size ∨ w.heap.size + 1 + 1 + 1 ≤ b) w7 w10 := ((k8.mono fun b _ h => by omega).trans (k9.mono fun b _ h => by omega)).trans (k10.mono fun b _ h => by omega)
      have hbel : Below w.heap.size w w10 := HE7.out.bel.trans (kk.below HE7.out.bel.size fun b hb' => .inl hb')
      have hfam := HM7.out.fam.keeps kk fun b h1 h2 => .inr (by omega)
      rw [List.append_nil] at hfam
      exact dec_done r10 e10 a10 ⟨⟨(.slice ta ts.length tc), (.slice ha hs.length hc), (.slice ga gs.length gc), (.slice fa fs.length fc), (.slice da ds.length dc), (.slice ea es.length ec), ts, hs, gs, first, most, fs, ds, es⟩, (w.heap.size + 1 + 1 + 1 + 1 + 1), by rw [E.out]; rfl, hbel, by rw [E.out], by omega, hfam⟩ _ rfl rfl rfl
    · have HE := Lib.hid (HE6.out.on (Nat.le_refl _) hK2)
      rw [HQ.out.1, HQ.out.2.2.2.1] at h2
      exact dec_fail HE.out (by decide) (dec_rest hlong HMG.out (rmod_good H1.out h2) hne) _ rfl rfl rfl
    · have HE := Lib.hid (HE6.out.on (Nat.le_refl _) hK2)
      rw [HQ.out.1, HQ.out.2.2.2.1] at h2
      exact dec_fail HE.out (errs_rmod b 5 (e1, k) (rmod_bad2 H1.out h2)) (dec_err hlong HMG.out (rmod_bad2 H1.out h2)) _ rfl rfl rfl
  · have hs : (strOfNums (b.take 5)).toList ≠ [70, 76, 71, 78, 1] := fun e => hm (mg_of5 (by rw [List.length_take]; omega) (fun x hx => HB.out x (List.mem_of_mem_take hx)) e)
    have E : Hid (decM b = (modZ, 14, 0)) := Lib.hid (by unfold decM; rw [if_neg hlong, if_pos hm])
    generalize strOfNums (b.take 5) = str at *
    have hs1 : (str.toList == [70, 76, 71, 78, 1]) = false := by simpa using hs
    have hs2 : (str.toList != [70, 76, 71, 78, 1]) = true := by simpa using hs
    clear hm hs
    go_enter_defers Tryd.func9, Tryd.ntmps9
    go_wp2_with fail
    exact dec_early E.out _ rfl rfl rfl
end Go.Proofs.YteaolgldkfjdkaaDoor
