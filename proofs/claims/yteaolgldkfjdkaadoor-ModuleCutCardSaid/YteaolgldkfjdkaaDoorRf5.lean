/- module's reader: function. -/
import Derived.Test.YteaolgldkfjdkaaDoorMRf0
import Derived.Maps.AppendAt
namespace Go.Proofs.YteaolgldkfjdkaaDoor
open Go Go.RowKit

/-- The frame of function: but the reader, the module and the list of functions. -/
abbrev Kf (x : Mq) (p mb : Nat) (w w' : World) : Prop := Keeps (fun b => b ≠ p ∧ b ≠ mb ∧ x.fv.ownBlock ≠ some b) w w'
section
variable {S : Nat → Prop} {B p mb : Nat} {bv : Value} {b : List Int} {al : Int} {at_ : Nat} {x : Mq} {X : List Ent} {w w1 w2 : World}
theorem Kf.read (h : Kf x p mb w w1) (hk : Keeps (fun b => b ≠ p) w1 w2) : Kf x p mb w w2 := Keeps.trans h (hk.mono fun _ _ h => h.1)
theorem Kf.on (h : Kf x p mb w w1) (hb : Below w1.heap.size w1 w2) : Kf x p mb w w2 := Keeps.trans h (Keeps.all _ hb)
theorem Kf.far {T : Nat → Prop} (h : Kf x p mb w w1) (hk : Keeps T w1 w2) (hT : ∀ b, b < w.heap.size → b ≠ mb → x.fv.ownBlock ≠ some b → T b) : Kf x p mb w w2 :=
  Keeps.trans' h hk fun b hb h1 => ⟨h1, hT b hb h1.2.1 h1.2.2⟩
theorem Kf.kp (h : Kf x p mb w w1) (hm : Md S B w p mb bv b al at_ x X) : Kp B p mb w w1 :=
  Keeps.mono h fun g _ hg => ⟨hg.2.1, hg.2.2, fun e => by have := (hm.fam.lt (mem_entBs.2 ⟨fuE x.fv x.fs, by simp [Mq.ents], e⟩)).1; omega⟩
end
/-- The ends of function. -/
def RfE (S : Nat → Prop) (B : Nat) (w : World) (p mb : Nat) (bv : Value) (b : List Int) (at_ : Nat) (x : Mq) (r : Ending) (w' : World) : Prop :=
  (∃ (f : FunD) (q : Nat), rfun x.ts (x.fs.map Fq5.f) b at_ = .ok (f, q) ∧ r = .returned (.tuple #[]) ∧ (∃ (y : Fq5) (fv' : Value), y.f = f ∧ Md S B w' p mb bv b ((allOf ((x.fs ++ [y]).map Fq5.f) : Nat) : Int) q { x with fv := fv', fs := x.fs ++ [y] } []) ∧ Kf x p mb w w') ∨
  (∃ e k, rfun x.ts (x.fs.map Fq5.f) b at_ = .error (e, k) ∧ r = .panicked (thrown e (k : Nat)) ∧ Kf x p mb w w')
set_option maxRecDepth 100000 in
set_option maxHeartbeats 3200000 in
theorem rm_function (S : Nat → Prop) (B : Nat) (w0 w : World) (p mb : Nat) (bv : Value) (b : List Int) (al : Nat) (at_ : Nat) (x : Mq) (h : Md S B w p mb bv b al at_ x []) (hb : Bytes b) (hal : allOf (x.fs.map Fq5.f) = al) (hal2 : al ≤ 16384) (htl : x.ts.length ≤ 64) (hfl : x.fs.length ≤ 128)
    (hts : ∀ s ∈ x.ts, s.1.size ≤ 64) (hbz : Bz w0 w B p mb) :
    Calls Tryd.prog 51 #[.pointer (some ⟨p, 0, none⟩)] w (RfE S B w p mb bv b at_ x) := by
  have hmf : ∀ (fn : Fn) (first cap : Array Value) (w : World), (Instr.makeFunc fn first cap).run Tryd.prog w = .ok (.func fn first cap) w := fun _ _ _ _ => rfl
  obtain ⟨i0, hi, hz0, hz1, hz2⟩ := info_parts Tryd.infoInsF
  obtain ⟨i1, hj, hy0, hy1, hy2⟩ := info_parts Tryd.infoFunF
  have HM0 := Lib.hid h
  have HB := Lib.hid hb
  have hSp := fun y hy => (h.sS y hy).2.1
  have HSP := Lib.hid hSp
  have HAL := Lib.hid hal
  have HTS := Lib.hid hts
  have HZ := Lib.hid hbz
  have hb1 := below_alloc w (.cells #[.pointer (some ⟨p, 0, none⟩)] 66)
  have hr1 := heap_alloc_new w (.cells #[.pointer (some ⟨p, 0, none⟩)] 66)
  have HM1 := Lib.hid (h.on hb1)
  have HK1 : Hid (Kf x p mb w (w.alloc (.cells #[.pointer (some ⟨p, 0, none⟩)] 66))) := Lib.hid (Kf.on (Keeps.refl _ w) hb1)
  have HR1 := Lib.hid hr1
  have q0 := row_cell hr1 0 rfl
  simp only [List.getElem_toArray, List.getElem_cons_zero] at q0
  clear h hb hSp hb1 hr1 hal hts hbz
  obtain ⟨a', c', hvt, _⟩ := own_slice (HM1.out.fam.own (tyE x.tv x.ts) (by simp [Mq.ents]))
  have hvt : x.tv = .slice a' x.ts.length c' := hvt
  have HVT := Lib.hid hvt
  clear hvt
  go_enter Tryd.func51, Tryd.ntmps51
  go_wp2_with fail
  generalize w.alloc (.cells #[.pointer (some ⟨p, 0, none⟩)] 66) = w1 at *
  obtain ⟨rb, hrb⟩ : ∃ rb, w.heap.size = rb := ⟨_, rfl⟩
  rw [hrb] at q0 HR1 ⊢
  clear hrb
  obtain ⟨p0, _, _, _⟩ := HM1.out.pc
  have m0 : w1.cell? ⟨mb, 0, none⟩ = some (.slice a' x.ts.length c') := by rw [← HVT.out]; exact (HM1.out.mc (i := 0) rfl).1
  go_cut [2] (fun c2 wx => ∃ (g : Nat) (t : Int) (q1 : Nat), c2 = .pointer (some ⟨g, 0, none⟩) ∧ Hid (ridx x.ts.length b at_ = .ok (t, q1)) ∧ Hid (Md S B wx p mb bv b al q1 x []) ∧ Hid (Kf x p mb w wx) ∧ Hid (wx.heap[rb]? = some (.cells #[.pointer (some ⟨p, 0, none⟩)] 66 (0, 0))) ∧ Hid (wx.heap[g]? = some (.cells #[.int .i64 t, .string ⟨#[]⟩, nilV] 49 (0, 0))) ∧ Hid (B ≤ g ∧ g ∉ entBs (x.ents ++ [])) ∧ Hid (w.heap.size ≤ g))
  case first =>
    refine wp_region_held_drew (S := (fun wx => wx.cell? ⟨rb, 0, none⟩ = some (.pointer (some ⟨p, 0, none⟩)) ∧ wx.cell? ⟨p, 0, none⟩ = some (.pointer (some ⟨mb, 0, none⟩)) ∧ wx.cell? ⟨mb, 0, none⟩ = some (.slice a' x.ts.length c'))) (by kernel_rfl) ⟨q0, p0, m0⟩ (fun hHeld => ?_)
    refine takeAt (i := 0) (d := 7) (v := ?_) rfl (by kernel_rfl) (by kernel_rfl) (by kernel_rfl) (by kernel_rfl) (fun _ _ _ h => h) (Or.inl ⟨by kernel_rfl, ?_⟩) (by assumption) ?_
    rotate_left
    · (intro w hSw; (try dsimp only at hSw); go_simp; all_goals (with_reducible rfl))
    (try simp only [Act.put, List.setIfInBounds_toArray, List.set_cons_zero, List.set_cons_succ])
    refine takeAt (i := 1) (d := 8) (v := ?_) rfl (by kernel_rfl) (by kernel_rfl) (by kernel_rfl) (by kernel_rfl) (fun _ _ _ h => h) (Or.inl ⟨by kernel_rfl, ?_⟩) (by assumption) ?_
    rotate_left
    · (intro w hSw; (try dsimp only at hSw); go_simp; all_goals (with_reducible rfl))
    (try simp only [Act.put, List.setIfInBounds_toArray, List.set_cons_zero, List.set_cons_succ])
    refine takeAt (i := 2) (d := 9) (v := ?_) rfl (by kernel_rfl) (by kernel_rfl) (by kernel_rfl) (by kernel_rfl) (fun _ _ _ h => h) (Or.inl ⟨by kernel_rfl, ?_⟩) (by assumption) ?_
    rotate_left
    · (intro w hSw; (try dsimp only at hSw); go_simp; all_goals (with_reducible rfl))
    (try simp only [Act.put, List.setIfInBounds_toArray, List.set_cons_zero, List.set_cons_succ])
    refine takeAt (i := 3) (d := 10) (v := ?_) rfl (by kernel_rfl) (by kernel_rfl) (by kernel_rfl) (by kernel_rfl) (fun _ _ _ h => h) (Or.inl ⟨by kernel_rfl, ?_⟩) (by assumption) ?_
    rotate_left
    · (intro w hSw; (try dsimp only at hSw); go_simp; all_goals (with_reducible rfl))
    (try simp only [Act.put, List.setIfInBounds_toArray, List.set_cons_zero, List.set_cons_succ])
    refine takeAt (i := 4) (d := 11) (v := ?_) rfl (by kernel_rfl) (by kernel_rfl) (by kernel_rfl) (by kernel_rfl) (fun _ _ _ h => h) (Or.inl ⟨by kernel_rfl, ?_⟩) (by assumption) ?_
    rotate_left
    · (intro w hSw; (try dsimp only at hSw); go_simp; all_goals (with_reducible rfl))
    (try simp only [Act.put, List.setIfInBounds_toArray, List.set_cons_zero, List.set_cons_succ])
    refine takeAt (i := 5) (d := 12) (v := ?_) rfl (by kernel_rfl) (by kernel_rfl) (by kernel_rfl) (by kernel_rfl) (fun _ _ _ h => h) (Or.inl ⟨by kernel_rfl, ?_⟩) (by assumption) ?_
    rotate_left
    · (intro w hSw; (try dsimp only at hSw); go_simp; all_goals (with_reducible rfl))
    (try simp only [Act.put, List.setIfInBounds_toArray, List.set_cons_zero, List.set_cons_succ])
    refine takeAt (i := 6) (d := 13) (v := ?_) rfl (by kernel_rfl) (by kernel_rfl) (by kernel_rfl) (by kernel_rfl) (fun _ _ _ h => h) (Or.inl ⟨by kernel_rfl, ?_⟩) (by assumption) ?_
    rotate_left
    · (intro w hSw; (try dsimp only at hSw); go_simp; all_goals (with_reducible rfl))
    (try simp only [Act.put, List.setIfInBounds_toArray, List.set_cons_zero, List.set_cons_succ])
    refine takeAt (i := 7) (d := 14) (v := ?_) rfl (by kernel_rfl) (by kernel_rfl) (by kernel_rfl) (by kernel_rfl) (fun _ _ _ h => h) (Or.inl ⟨by kernel_rfl, ?_⟩) (by assumption) ?_
    rotate_left
    · (intro w hSw; (try dsimp only at hSw); go_simp; all_goals (with_reducible rfl))
    (try simp only [Act.put, List.setIfInBounds_toArray, List.set_cons_zero, List.set_cons_succ])
    refine takeAt (i := 8) (d := 15) (v := ?_) rfl (by kernel_rfl) (by kernel_rfl) (by kernel_rfl) (by kernel_rfl) (fun _ _ _ h => h) (Or.inl ⟨by kernel_rfl, ?_⟩) (by assumption) ?_
    rotate_left
    · (intro w hSw; (try dsimp only at hSw); go_simp; all_goals (with_reducible rfl))
    (try simp only [Act.put, List.setIfInBounds_toArray, List.set_cons_zero, List.set_cons_succ])
    refine takeAt (i := 9) (d := 16) (v := ?_) rfl (by kernel_rfl) (by kernel_rfl) (by kernel_rfl) (by kernel_rfl) (fun _ _ _ h => h) (Or.inl ⟨by kernel_rfl, ?_⟩) (by assumption) ?_
    rotate_left
    · (intro w hSw; (try dsimp only at hSw); go_simp; all_goals (with_reducible rfl))
    (try simp only [Act.put, List.setIfInBounds_toArray, List.set_cons_zero, List.set_cons_succ])
    have HMD := Lib.hid (HM1.out.on (drew_bel w1))
    have HKD : Hid (Kf x p mb w w1.drew) := Lib.hid (HK1.out.on (drew_bel w1))
    have HRD := Lib.hid (((drew_bel w1).block _ (row_lt HR1.out)).trans HR1.out)
    refine wpAnyH_ready (rs := [10, 12]) (by kernel_rfl) (by simp) ?_
    refine AllReadyH.cons rfl (fun K hK => ?_) (AllReadyH.cons rfl (fun K hK => ?_) AllReadyH.nil)
    · clear hHeld
      go_simp
      refine (rm_index HMD.out.rm HB.out HSP.out x.ts.length (by omega)).mono ?_
      rintro e w5 (⟨t, q1, h1, rfl, h2, h3⟩ | ⟨z, kk, h1, rfl, h3⟩)
      rotate_left
      · exact ⟨rfl, .inr ⟨_, _, rfun_1 h1, rfl, HKD.out.read h3⟩⟩
      have S1 := Lib.hid h1
      have HM5 := Lib.hid (HMD.out.read h2 h3)
      have HK5 : Hid (Kf x p mb w w5) := Lib.hid (HKD.out.read h3)
      have HR5 := Lib.hid ((h3.block _ (row_lt HRD.out) (row_ne HRD.out HMD.out.rm.row (by decide))).trans HRD.out)
      have r5 := row_cell HR5.out 0 rfl
      have p5 := HM5.out.pc.1
      have m5 : w5.cell? ⟨mb, 0, none⟩ = some (.slice a' x.ts.length c') := by rw [← HVT.out]; exact (HM5.out.mc (i := 0) rfl).1
      simp only [List.getElem_toArray, List.getElem_cons_zero] at r5
      go_wp2_with fail
      refine hK.out _ _ ⟨r5, p5, m5⟩ (fun hHeld => ?_)
      clear hK K
      (try refine stateAt (d := 17) (by kernel_rfl) ?_)
      (try simp only [Act.put, List.setIfInBounds_toArray, List.set_cons_zero, List.set_cons_succ])
      refine takeAt (i := 11) (d := 18) (v := ?_) rfl (by kernel_rfl) (by kernel_rfl) (by kernel_rfl) (by kernel_rfl) (fun _ _ _ h => h) (Or.inl ⟨by kernel_rfl, ?_⟩) (by assumption) ?_
      rotate_left
      · (intro w hSw; (try dsimp only at hSw); go_simp; all_goals (with_reducible rfl))
      (try simp only [Act.put, List.setIfInBounds_toArray, List.set_cons_zero, List.set_cons_succ])
      refine wpAnyH_ready (rs := [12]) (by kernel_rfl) (by simp) ?_
      refine AllReadyH.cons rfl (fun K hK => ?_) AllReadyH.nil
      have hba := below_alloc w5 (.cells #[.int .i64 0, .string ⟨#[]⟩, .slice none 0 0] 49)
      have hra := heap_alloc_new w5 (.cells #[.int .i64 0, .string ⟨#[]⟩, .slice none 0 0] 49)
      have a0 := row_cell hra 0 rfl; have a1 := row_cell hra 1 rfl; have a2 := row_cell hra 2 rfl
      have f0 := row_free hra 0; have f1 := row_free hra 1; have f2 := row_free hra 2
      simp only [List.getElem_toArray, List.getElem_cons_zero, List.getElem_cons_succ] at a0 a1 a2
      go_simp
      refine hK.out _ _ ⟨cell_below hba r5, cell_below hba p5, cell_below hba m5⟩ (fun hHeld => ?_)
      clear hK K
      (try refine stateAt (d := 2) (by kernel_rfl) ?_)
      (try simp only [Act.put, List.setIfInBounds_toArray, List.set_cons_zero, List.set_cons_succ])
      refine wpAnyH_ready (rs := [13]) (by kernel_rfl) (by simp) ?_
      refine AllReadyH.cons rfl (fun K hK => ?_) AllReadyH.nil
      have hb9 := below_alloc w5 (.cells #[.int .i64 t, .string ⟨#[]⟩, .slice none 0 0] 49)
      go_simp
      refine hK.out _ _ ⟨cell_below hb9 r5, cell_below hb9 p5, cell_below hb9 m5⟩ (fun hHeld => ?_)
      clear hK K
      (try simp only [Act.put, List.setIfInBounds_toArray, List.set_cons_zero, List.set_cons_succ])
      refine wpAnyH_done (by kernel_rfl) ?_ _
      have HM9 := Lib.hid (HM5.out.on hb9)
      have HK9 := Lib.hid (HK5.out.on hb9)
      have HR9 := Lib.hid ((hb9.block _ (row_lt HR5.out)).trans HR5.out)
      have HG9 := Lib.hid (heap_alloc_new w5 (.cells #[.int .i64 t, .string ⟨#[]⟩, .slice none 0 0] 49))
      have HF9 := Lib.hid (And.intro HM5.out.hi (HM5.out.fresh (Nat.le_refl w5.heap.size)))
      have HW9 : Hid (w.heap.size ≤ w5.heap.size) := Lib.hid HK5.out.size
      clear hHeld r5 p5 m5 hba hra a0 a1 a2 f0 f1 f2 hb9
      go_wp2_with fail
      go_meet
      exact ⟨w5.heap.size, t, q1, rfl, S1, HM9, HK9, HR9, HG9, HF9, HW9⟩
    · go_simp
      have hba := below_alloc w1.drew (.cells #[.int .i64 0, .string ⟨#[]⟩, .slice none 0 0] 49)
      have hra := heap_alloc_new w1.drew (.cells #[.int .i64 0, .string ⟨#[]⟩, .slice none 0 0] 49)
      have HMA := Lib.hid (HMD.out.on hba)
      have HKA := Lib.hid (HKD.out.on hba)
      have HRA := Lib.hid ((hba.block _ (row_lt HRD.out)).trans HRD.out)
      refine hK.out _ _ ⟨cell_below hba q0, cell_below hba p0, cell_below hba m0⟩ (fun hHeld => ?_)
      clear hK K
      (try refine stateAt (d := 2) (by kernel_rfl) ?_)
      (try simp only [Act.put, List.setIfInBounds_toArray, List.set_cons_zero, List.set_cons_succ])
      refine wpAnyH_ready (rs := [10]) (by kernel_rfl) (by simp) ?_
      refine AllReadyH.cons rfl (fun K hK => ?_) AllReadyH.nil
      clear hHeld
      go_simp
      refine (rm_index HMA.out.rm HB.out HSP.out x.ts.length (by omega)).mono ?_
      rintro e w5 (⟨t, q1, h1, rfl, h2, h3⟩ | ⟨z, kk, h1, rfl, h3⟩)
      rotate_left
      · exact ⟨rfl, .inr ⟨_, _, rfun_1 h1, rfl, HKA.out.read h3⟩⟩
      have S1 := Lib.hid h1
      have HM5 := Lib.hid (HMA.out.read h2 h3)
      have HK5 : Hid (Kf x p mb w w5) := Lib.hid (HKA.out.read h3)
      have HR5 := Lib.hid ((h3.block _ (row_lt HRA.out) (row_ne HRA.out HMA.out.rm.row (by decide))).trans HRA.out)
      have r5 := row_cell HR5.out 0 rfl
      have p5 := HM5.out.pc.1
      have m5 : w5.cell? ⟨mb, 0, none⟩ = some (.slice a' x.ts.length c') := by rw [← HVT.out]; exact (HM5.out.mc (i := 0) rfl).1
      simp only [List.getElem_toArray, List.getElem_cons_zero] at r5
      have hne : w1.heap.size ≠ p := row_ne hra HMA.out.rm.row (by decide)
      have HG5 : Hid (w5.heap[w1.heap.size]? = some (.cells #[.int .i64 0, .string ⟨#[]⟩, .slice none 0 0] 49 (0, 0))) := Lib.hid ((h3.block _ (row_lt hra) hne).trans hra)
      have a0 := row_cell HG5.out 0 rfl; have a1 := row_cell HG5.out 1 rfl; have a2 := row_cell HG5.out 2 rfl
      have f0 := row_free HG5.out 0; have f1 := row_free HG5.out 1; have f2 := row_free HG5.out 2
      simp only [List.getElem_toArray, List.getElem_cons_zero, List.getElem_cons_succ] at a0 a1 a2
      go_wp2_with fail
      refine hK.out _ _ ⟨r5, p5, m5⟩ (fun hHeld => ?_)
      clear hK K
      (try refine stateAt (d := 17) (by kernel_rfl) ?_)
      (try simp only [Act.put, List.setIfInBounds_toArray, List.set_cons_zero, List.set_cons_succ])
      refine takeAt (i := 11) (d := 18) (v := ?_) rfl (by kernel_rfl) (by kernel_rfl) (by kernel_rfl) (by kernel_rfl) (fun _ _ _ h => h) (Or.inl ⟨by kernel_rfl, ?_⟩) (by assumption) ?_
      rotate_left
      · (intro w hSw; (try dsimp only at hSw); go_simp; all_goals (with_reducible rfl))
      (try simp only [Act.put, List.setIfInBounds_toArray, List.set_cons_zero, List.set_cons_succ])
      refine wpAnyH_ready (rs := [13]) (by kernel_rfl) (by simp) ?_
      refine AllReadyH.cons rfl (fun K hK => ?_) AllReadyH.nil
      go_simp
      have hgB : B ≤ w1.heap.size := HM1.out.hi
      have hgf : w1.heap.size ∉ entBs (x.ents ++ []) := HM1.out.fresh (Nat.le_refl _)
      have P1 := HM5.out.cell (i := 0) (.int .i64 t) hgB hgf
      have P2 := P1.1.cell (i := 1) (.string ⟨#[]⟩) hgB hgf
      have P3 := P2.1.cell (i := 2) (.slice none 0 0) hgB hgf
      have kg := (((Keeps.refl (fun b => b ≠ w1.heap.size) w5).setCell (a := ⟨w1.heap.size, 0, none⟩) (by simp) (.int .i64 t)).setCell (a := ⟨w1.heap.size, 1, none⟩) (by simp) (.string ⟨#[]⟩)).setCell (a := ⟨w1.heap.size, 2, none⟩) (by simp) (.slice none 0 0)
      have HM9 := Lib.hid P3.1
      have HK9 := Lib.hid (HK5.out.far kg (fun b hb _ _ => by have := HK1.out.size; omega))
      have HR9 := Lib.hid ((kg.block _ (row_lt HR5.out) (row_ne HR5.out HG5.out (by decide))).trans HR5.out)
      have HG9 : Hid ((((w5.setCell ⟨w1.heap.size, 0, none⟩ (.int .i64 t)).setCell ⟨w1.heap.size, 1, none⟩ (.string ⟨#[]⟩)).setCell ⟨w1.heap.size, 2, none⟩ (.slice none 0 0)).heap[w1.heap.size]? = some (.cells #[.int .i64 t, .string ⟨#[]⟩, .slice none 0 0] 49 (0, 0))) := Lib.hid (by simpa using row_setCell (row_setCell (row_setCell HG5.out 0 (.int .i64 t)) 1 (.string ⟨#[]⟩)) 2 (.slice none 0 0))
      have HF9 := Lib.hid (And.intro hgB hgf)
      have HW9 : Hid (w.heap.size ≤ w1.heap.size) := Lib.hid HK1.out.size
      clear hHeld r5 p5 m5 hba hra a0 a1 a2 f0 f1 f2 P1 P2 P3 kg hgB hgf hne
      have r9 := row_cell HR9.out 0 rfl
      have p9 := HM9.out.pc.1
      have m9 := (HM9.out.mc (i := 0) (u := x.tv) rfl).1
      rw [HVT.out] at m9
      simp only [List.getElem_toArray, List.getElem_cons_zero] at r9
      refine hK.out _ _ ⟨r9, p9, m9⟩ (fun hHeld => ?_)
      clear hK K hHeld r9 p9 m9
      (try simp only [Act.put, List.setIfInBounds_toArray, List.set_cons_zero, List.set_cons_succ])
      refine wpAnyH_done (by kernel_rfl) ?_ _
      go_wp2_with fail
      go_meet
      exact ⟨w1.heap.size, t, q1, rfl, S1, HM9, HK9, HR9, HG9, HF9, HW9⟩
  case rest =>
    clear HM1 HK1 HR1 q0 p0 m0
    obtain ⟨g, t, q1, rfl, S1, HM, HK, HR, HG, HF, HFW⟩ := hcut
    obtain ⟨t1, rfl, ht1⟩ := ridx_ok5 S1.out
    have q0 := row_cell HR.out 0 rfl
    have y0 := row_cell HG.out 0 rfl
    simp only [List.getElem_toArray, List.getElem_cons_zero] at q0 y0
    obtain ⟨R, hR⟩ : ∃ R, roomT x.ts (t1 : Int) = R := ⟨_, rfl⟩
    have hR64 : R ≤ 64 := by rw [← hR]; exact roomT_le x.ts (t1 : Int)
    go_wp2_with fail
    go_cut [] (fun wy => ∃ (lo : ByteArray) (q2 : Nat), Hid (rlett (roomT x.ts (t1 : Int)) b q1 = .ok (lo, q2)) ∧ Hid (Md S B wy p mb bv b al q2 x []) ∧ Hid (Kf x p mb w wy) ∧ Hid (wy.heap[rb]? = some (.cells #[.pointer (some ⟨p, 0, none⟩)] 66 (0, 0))) ∧ Hid (wy.heap[g]? = some (.cells #[.int .i64 t1, .string lo, nilV] 49 (0, 0))))
    case first =>
      refine wp_region_held_drew (S := (fun wy => wy.cell? ⟨rb, 0, none⟩ = some (.pointer (some ⟨p, 0, none⟩)) ∧ wy.cell? ⟨g, 0, none⟩ = some (.int .i64 t1))) (by kernel_rfl) ⟨q0, y0⟩ (fun hHeld => ?_)
      refine takeAt (i := 0) (d := 19) (v := ?_) rfl (by kernel_rfl) (by kernel_rfl) (by kernel_rfl) (by kernel_rfl) (fun _ _ _ h => h) (Or.inl ⟨by kernel_rfl, ?_⟩) (by assumption) ?_
      rotate_left
      · (intro w hSw; (try dsimp only at hSw); go_simp; all_goals (with_reducible rfl))
      (try simp only [Act.put, List.setIfInBounds_toArray, List.set_cons_zero, List.set_cons_succ])
      refine takeAt (i := 1) (d := 20) (v := ?_) rfl (by kernel_rfl) (by kernel_rfl) (by kernel_rfl) (by kernel_rfl) (fun _ _ _ h => h) (Or.inl ⟨by kernel_rfl, ?_⟩) (by assumption) ?_
      rotate_left
      · (intro w hSw; (try dsimp only at hSw); go_simp; all_goals (with_reducible rfl))
      (try simp only [Act.put, List.setIfInBounds_toArray, List.set_cons_zero, List.set_cons_succ])
      refine takeAt (i := 2) (d := 21) (v := ?_) rfl (by kernel_rfl) (by kernel_rfl) (by kernel_rfl) (by kernel_rfl) (fun _ _ _ h => h) (Or.inl ⟨by kernel_rfl, ?_⟩) (by assumption) ?_
      rotate_left
      · (intro w hSw; (try dsimp only at hSw); go_simp; all_goals (with_reducible rfl))
      (try simp only [Act.put, List.setIfInBounds_toArray, List.set_cons_zero, List.set_cons_succ])
      refine takeAt (i := 3) (d := 22) (v := ?_) rfl (by kernel_rfl) (by kernel_rfl) (by kernel_rfl) (by kernel_rfl) (fun _ _ _ h => h) (Or.inl ⟨by kernel_rfl, ?_⟩) (by assumption) ?_
      rotate_left
      · (intro w hSw; (try dsimp only at hSw); go_simp; all_goals (with_reducible rfl))
      (try simp only [Act.put, List.setIfInBounds_toArray, List.set_cons_zero, List.set_cons_succ])
      refine takeAt (i := 4) (d := 23) (v := ?_) rfl (by kernel_rfl) (by kernel_rfl) (by kernel_rfl) (by kernel_rfl) (fun _ _ _ h => h) (Or.inl ⟨by kernel_rfl, ?_⟩) (by assumption) ?_
      rotate_left
      · (intro w hSw; (try dsimp only at hSw); go_simp; all_goals (with_reducible rfl))
      (try simp only [Act.put, List.setIfInBounds_toArray, List.set_cons_zero, List.set_cons_succ])
      refine takeAt (i := 5) (d := 24) (v := ?_) rfl (by kernel_rfl) (by kernel_rfl) (by kernel_rfl) (by kernel_rfl) (fun _ _ _ h => h) (Or.inl ⟨by kernel_rfl, ?_⟩) (by assumption) ?_
      rotate_left
      · (intro w hSw; (try dsimp only at hSw); go_simp; all_goals (with_reducible rfl))
      (try simp only [Act.put, List.setIfInBounds_toArray, List.set_cons_zero, List.set_cons_succ])
      have HMD := Lib.hid (HM.out.on (drew_bel _))
      have HKD := Lib.hid (HK.out.on (drew_bel _))
      have HRD := Lib.hid (((drew_bel _).block _ (row_lt HR.out)).trans HR.out)
      have HGD := Lib.hid (((drew_bel _).block _ (row_lt HG.out)).trans HG.out)
      refine wpAnyH_ready (rs := [6]) (by kernel_rfl) (by simp) ?_
      refine AllReadyH.cons rfl (fun K hK => ?_) AllReadyH.nil
      go_simp
      refine (mod_room _ p mb _ _ x.tv x.ts t1 ht1 HMD.out.rl rfl (HMD.out.sigs htl) (HTS.out _ (List.getElem_mem _))).mono ?_
      rintro e w1' ⟨rfl, hw1'⟩
      subst hw1'
      rw [hR]
      go_wp2_with fail
      refine hK.out _ _ hHeld (fun hHeld => ?_)
      clear hK K
      (try refine stateAt (d := 25) (by kernel_rfl) ?_)
      (try simp only [Act.put, List.setIfInBounds_toArray, List.set_cons_zero, List.set_cons_succ])
      refine wpAnyH_ready (rs := [7]) (by kernel_rfl) (by simp) ?_
      refine AllReadyH.cons rfl (fun K hK => ?_) AllReadyH.nil
      clear hHeld
      go_simp
      refine (rm_lettered HMD.out.rm HB.out HSP.out R (by omega)).mono ?_
      rintro e w5 (⟨lo, q2, h1, rfl, h2, h3⟩ | ⟨z, kk, h1, rfl, h3⟩)
      rotate_left
      · exact ⟨rfl, .inr ⟨_, _, rfun_2 S1.out (by rw [hR]; exact h1), rfl, HKD.out.read h3⟩⟩
      have S2 : Hid (rlett (roomT x.ts (t1 : Int)) b q1 = .ok (lo, q2)) := Lib.hid (by rw [hR]; exact h1)
      have HM5 := Lib.hid (HMD.out.read h2 h3)
      have HK5 : Hid (Kf x p mb w w5) := Lib.hid (HKD.out.read h3)
      have HR5 := Lib.hid ((h3.block _ (row_lt HRD.out) (row_ne HRD.out HMD.out.rm.row (by decide))).trans HRD.out)
      have HG5 := Lib.hid ((h3.block _ (row_lt HGD.out) (row_ne HGD.out HMD.out.rm.row (by decide))).trans HGD.out)
      clear h1 h2 h3 HMD HKD HRD HGD
      have r5 := row_cell HR5.out 0 rfl
      have g0 := row_cell HG5.out 0 rfl; have g1 := row_cell HG5.out 1 rfl; have gf1 := row_free HG5.out 1
      simp only [List.getElem_toArray, List.getElem_cons_zero, List.getElem_cons_succ] at r5 g0 g1
      go_wp2_with fail
      refine hK.out _ _ ⟨r5, g0⟩ (fun hHeld => ?_)
      clear hK K
      (try refine stateAt (d := 26) (by kernel_rfl) ?_)
      (try simp only [Act.put, List.setIfInBounds_toArray, List.set_cons_zero, List.set_cons_succ])
      refine takeAt (i := 8) (d := 27) (v := ?_) rfl (by kernel_rfl) (by kernel_rfl) (by kernel_rfl) (by kernel_rfl) (fun _ _ _ h => h) (Or.inl ⟨by kernel_rfl, ?_⟩) (by assumption) ?_
      rotate_left
      · (intro w hSw; (try dsimp only at hSw); go_simp; all_goals (with_reducible rfl))
      (try simp only [Act.put, List.setIfInBounds_toArray, List.set_cons_zero, List.set_cons_succ])
      refine wpAnyH_ready (rs := [9]) (by kernel_rfl) (by simp) ?_
      refine AllReadyH.cons rfl (fun K hK => ?_) AllReadyH.nil
      go_simp
      have P1 := HM5.out.cell (i := 1) (.string lo) HF.out.1 HF.out.2
      have kg := (Keeps.refl (fun b => b ≠ g) w5).setCell (a := ⟨g, 1, none⟩) (by simp) (.string lo)
      have HM9 := Lib.hid P1.1
      have HK9 := Lib.hid (HK5.out.far kg (fun b hb _ _ => by have := HFW.out; omega))
      have HR9 := Lib.hid ((kg.block _ (row_lt HR5.out) (row_ne HR5.out HG5.out (by decide))).trans HR5.out)
      have HG9 : Hid ((w5.setCell ⟨g, 1, none⟩ (.string lo)).heap[g]? = some (.cells #[.int .i64 t1, .string lo, nilV] 49 (0, 0))) := Lib.hid (by simpa using row_setCell HG5.out 1 (.string lo))
      clear hHeld r5 g0 g1 gf1 P1 kg
      have r9 := row_cell HR9.out 0 rfl; have g9 := row_cell HG9.out 0 rfl
      simp only [List.getElem_toArray, List.getElem_cons_zero] at r9 g9
      refine hK.out _ _ ⟨r9, g9⟩ (fun hHeld => ?_)
      clear hK K hHeld r9 g9
      (try simp only [Act.put, List.setIfInBounds_toArray, List.set_cons_zero, List.set_cons_succ])
      refine wpAnyH_done (by kernel_rfl) ?_ _
      go_wp2_with fail
      go_meet
      exact ⟨lo, q2, S2, HM9, HK9, HR9, HG9⟩
    case rest =>
      clear HM HK HR HG q0 y0
      obtain ⟨lo, q2, S2, HM, HK, HR, HG⟩ := hcut
      have q0 := row_cell HR.out 0 rfl
      simp only [List.getElem_toArray, List.getElem_cons_zero] at q0
      go_wp2_with fail
      refine (rm_code HM.out.rm HB.out HSP.out rb q0 hal2).mono ?_
      rintro e w3 (⟨n, q3, h1, rfl, h2, h3⟩ | ⟨z, kk, h1, rfl, h3⟩)
      rotate_left
      · exact ⟨rfl, .inr ⟨_, _, rfun_3 S1.out S2.out (by rw [HAL.out]; exact h1), rfl, HK.out.read h3⟩⟩
      have S3 := Lib.hid h1
      obtain ⟨hn1, hn2⟩ := rcount_ok h1
      have HM3 := Lib.hid (HM.out.read h2 h3)
      have HK3 : Hid (Kf x p mb w w3) := Lib.hid (HK.out.read h3)
      have HR3 := Lib.hid ((h3.block _ (row_lt HR.out) (row_ne HR.out HM.out.rm.row (by decide))).trans HR.out)
      have HG3 := Lib.hid ((h3.block _ (row_lt HG.out) (row_ne HG.out HM.out.rm.row (by decide))).trans HG.out)
      clear h1 h2 h3 HM HK HR HG q0
      go_wp2_with fail
      go_loopw [32] (fun i wr => ∃ (k q' : Nat) (cv : Value) (code : List Iq), k ≤ n ∧ i = .int .i64 k ∧ Hid (Md S B wr p mb bv b ((al + n : Nat) : Int) q' x (codE cv code :: code.map iqE)) ∧ Hid (Kf x p mb w wr) ∧ Hid (wr.heap[rb]? = some (.cells #[.pointer (some ⟨p, 0, none⟩)] 66 (0, 0))) ∧ Hid (wr.heap[g]? = some (.cells #[.int .i64 t1, .string lo, cv] 49 (0, 0))) ∧ Hid (RepAt (fun _ => rins) n b q3 (code.map (·.1)) q') ∧ Hid (code.length = k) ∧ Hid (∀ b, cv.ownBlock = some b → w.heap.size ≤ b)) (fun i _ => n - (intOf i).toNat)
      case atStart => exact ⟨0, q3, nilV, [], by omega, rfl, Lib.hid HM3.out.code0, HK3, HR3, HG3, Lib.hid (RepAt.zero _ _ _ _), rfl, Lib.hid (fun b hb => by simp [nilV, Value.ownBlock] at hb)⟩
      case round =>
        clear HM3 HK3 HR3 HG3
        obtain ⟨k, q', cv, code, hk, rfl, HM, HK, HR, HG, HP, HL, HC⟩ := hrel
        have q0 := row_cell HR.out 0 rfl
        obtain ⟨_, p2, p3, _⟩ := HM.out.pc
        simp only [List.getElem_toArray, List.getElem_cons_zero] at q0
        by_cases hlt : k < n
        · obtain ⟨D, nx, er, hD⟩ : ∃ (D : InsD) (nx : Nat) (er : Int), decI b q' = (D, nx, er) := ⟨_, _, _, rfl⟩
          obtain ⟨op, ia, il⟩ := D
          have HD := Lib.hid hD
          clear hD
          go_wp2_with fail
          have hD := HD.out
          go_cut [4, 5, 6] (fun c4 c5 c6 wy => c5 = .int .i64 nx ∧ c6 = .int .i64 er ∧ ∃ (g4 : Nat) (va : Option Addr) (vc : Nat), c4 = .pointer (some ⟨g4, 0, none⟩) ∧ Hid (Md S B wy p mb bv b ((al + n : Nat) : Int) q' x ((codE cv code :: code.map iqE) ++ [iqE (⟨op, ia, il⟩, .slice va il.length vc)])) ∧ Hid (Kf x p mb w wy) ∧ Hid (wy.heap[rb]? = some (.cells #[.pointer (some ⟨p, 0, none⟩)] 66 (0, 0))) ∧ Hid (wy.heap[g]? = some (.cells #[.int .i64 t1, .string lo, cv] 49 (0, 0))) ∧ Hid (wy.heap[g4]? = some (.cells #[.int .u8 op, .int .i64 ia, .slice va il.length vc] 76 (0, 0))))
          case first =>
            refine wp_region_held_drew (S := (fun wy => wy.cell? ⟨rb, 0, none⟩ = some (.pointer (some ⟨p, 0, none⟩)) ∧ wy.cell? ⟨p, 2, none⟩ = some bv ∧ wy.cell? ⟨p, 3, none⟩ = some (.int .i64 q'))) (by kernel_rfl) ⟨q0, p2, p3⟩ (fun hHeld => ?_)
            refine takeAt (i := 0) (d := 35) (v := ?_) rfl (by kernel_rfl) (by kernel_rfl) (by kernel_rfl) (by kernel_rfl) (fun _ _ _ h => h) (Or.inl ⟨by kernel_rfl, ?_⟩) (by assumption) ?_
            rotate_left
            · (intro w hSw; (try dsimp only at hSw); go_simp; all_goals (with_reducible rfl))
            (try simp only [Act.put, List.setIfInBounds_toArray, List.set_cons_zero, List.set_cons_succ])
            refine takeAt (i := 1) (d := 36) (v := ?_) rfl (by kernel_rfl) (by kernel_rfl) (by kernel_rfl) (by kernel_rfl) (fun _ _ _ h => h) (Or.inl ⟨by kernel_rfl, ?_⟩) (by assumption) ?_
            rotate_left
            · (intro w hSw; (try dsimp only at hSw); go_simp; all_goals (with_reducible rfl))
            (try simp only [Act.put, List.setIfInBounds_toArray, List.set_cons_zero, List.set_cons_succ])
            refine takeAt (i := 2) (d := 37) (v := ?_) rfl (by kernel_rfl) (by kernel_rfl) (by kernel_rfl) (by kernel_rfl) (fun _ _ _ h => h) (Or.inl ⟨by kernel_rfl, ?_⟩) (by assumption) ?_
            rotate_left
            · (intro w hSw; (try dsimp only at hSw); go_simp; all_goals (with_reducible rfl))
            (try simp only [Act.put, List.setIfInBounds_toArray, List.set_cons_zero, List.set_cons_succ])
            refine takeAt (i := 3) (d := 38) (v := ?_) rfl (by kernel_rfl) (by kernel_rfl) (by kernel_rfl) (by kernel_rfl) (fun _ _ _ h => h) (Or.inl ⟨by kernel_rfl, ?_⟩) (by assumption) ?_
            rotate_left
            · (intro w hSw; (try dsimp only at hSw); go_simp; all_goals (with_reducible rfl))
            (try simp only [Act.put, List.setIfInBounds_toArray, List.set_cons_zero, List.set_cons_succ])
            refine takeAt (i := 4) (d := 39) (v := ?_) rfl (by kernel_rfl) (by kernel_rfl) (by kernel_rfl) (by kernel_rfl) (fun _ _ _ h => h) (Or.inl ⟨by kernel_rfl, ?_⟩) (by assumption) ?_
            rotate_left
            · (intro w hSw; (try dsimp only at hSw); go_simp; all_goals (with_reducible rfl))
            (try simp only [Act.put, List.setIfInBounds_toArray, List.set_cons_zero, List.set_cons_succ])
            refine takeAt (i := 5) (d := 40) (v := ?_) rfl (by kernel_rfl) (by kernel_rfl) (by kernel_rfl) (by kernel_rfl) (fun _ _ _ h => h) (Or.inl ⟨by kernel_rfl, ?_⟩) (by assumption) ?_
            rotate_left
            · (intro w hSw; (try dsimp only at hSw); go_simp; all_goals (with_reducible rfl))
            (try simp only [Act.put, List.setIfInBounds_toArray, List.set_cons_zero, List.set_cons_succ])
            refine takeAt (i := 6) (d := 41) (v := ?_) rfl (by kernel_rfl) (by kernel_rfl) (by kernel_rfl) (by kernel_rfl) (fun _ _ _ h => h) (Or.inl ⟨by kernel_rfl, ?_⟩) (by assumption) ?_
            rotate_left
            · (intro w hSw; (try dsimp only at hSw); go_simp; all_goals (with_reducible rfl))
            (try simp only [Act.put, List.setIfInBounds_toArray, List.set_cons_zero, List.set_cons_succ])
            refine takeAt (i := 7) (d := 42) (v := ?_) rfl (by kernel_rfl) (by kernel_rfl) (by kernel_rfl) (by kernel_rfl) (fun _ _ _ h => h) (Or.inl ⟨by kernel_rfl, ?_⟩) (by assumption) ?_
            rotate_left
            · (intro w hSw; (try dsimp only at hSw); go_simp; all_goals (with_reducible rfl))
            (try simp only [Act.put, List.setIfInBounds_toArray, List.set_cons_zero, List.set_cons_succ])
            have HMD := Lib.hid (HM.out.on (drew_bel wr))
            have HKD : Hid (Kf x p mb w wr.drew) := Lib.hid (HK.out.on (drew_bel wr))
            have HRD := Lib.hid (((drew_bel wr).block _ (row_lt HR.out)).trans HR.out)
            have HGD := Lib.hid (((drew_bel wr).block _ (row_lt HG.out)).trans HG.out)
            refine wpAnyH_ready (rs := [8, 13]) (by kernel_rfl) (by simp) ?_
            refine AllReadyH.cons rfl (fun K hK => ?_) (AllReadyH.cons rfl (fun K hK => ?_) AllReadyH.nil)
            · clear hHeld
              go_simp
              refine (instr_Decode S _ bv b q' HB.out HMD.out.rm.rd (fun y hy => by have := HMD.out.sS y hy; have := HMD.out.hi; omega) (HZ.out.kp (HKD.out.kp HM0.out)).t).mono ?_
              rintro e w5 hdec
              obtain ⟨vl, rfl, hown⟩ := hdec.own
              have hbel := hdec.bel
              rw [hD] at hown ⊢
              simp only at hown ⊢
              obtain ⟨va, vc, rfl, _⟩ := own_slice hown.2.1
              have HM5 := Lib.hid (HMD.out.dec (D := ⟨op, ia, il⟩) hbel hown)
              have HK5 : Hid (Kf x p mb w w5) := Lib.hid (HKD.out.on hbel)
              have HR5 := Lib.hid ((hbel.block _ (row_lt HRD.out)).trans HRD.out)
              have HG5 := Lib.hid ((hbel.block _ (row_lt HGD.out)).trans HGD.out)
              have r5 := row_cell HR5.out 0 rfl
              obtain ⟨_, p25, p35, _⟩ := HM5.out.pc
              simp only [List.getElem_toArray, List.getElem_cons_zero] at r5
              go_wp2_with fail
              refine hK.out _ _ ⟨r5, p25, p35⟩ (fun hHeld => ?_)
              clear hK K
              (try refine stateAt (d := 43) (by kernel_rfl) ?_)
              (try simp only [Act.put, List.setIfInBounds_toArray, List.set_cons_zero, List.set_cons_succ])
              refine takeAt (i := 9) (d := 34) (v := ?_) rfl (by kernel_rfl) (by kernel_rfl) (by kernel_rfl) (by kernel_rfl) (fun _ _ _ h => h) (Or.inl ⟨by kernel_rfl, ?_⟩) (by assumption) ?_
              rotate_left
              · (intro w hSw; (try dsimp only at hSw); go_simp; all_goals (with_reducible rfl))
              (try simp only [Act.put, List.setIfInBounds_toArray, List.set_cons_zero, List.set_cons_succ])
              refine takeAt (i := 10) (d := 44) (v := ?_) rfl (by kernel_rfl) (by kernel_rfl) (by kernel_rfl) (by kernel_rfl) (fun _ _ _ h => h) (Or.inl ⟨by kernel_rfl, ?_⟩) (by assumption) ?_
              rotate_left
              · (intro w hSw; (try dsimp only at hSw); go_simp; all_goals (with_reducible rfl))
              (try simp only [Act.put, List.setIfInBounds_toArray, List.set_cons_zero, List.set_cons_succ])
              refine takeAt (i := 11) (d := 45) (v := ?_) rfl (by kernel_rfl) (by kernel_rfl) (by kernel_rfl) (by kernel_rfl) (fun _ _ _ h => h) (Or.inl ⟨by kernel_rfl, ?_⟩) (by assumption) ?_
              rotate_left
              · (intro w hSw; (try dsimp only at hSw); go_simp; all_goals (with_reducible rfl))
              (try simp only [Act.put, List.setIfInBounds_toArray, List.set_cons_zero, List.set_cons_succ])
              refine takeAt (i := 12) (d := 46) (v := ?_) rfl (by kernel_rfl) (by kernel_rfl) (by kernel_rfl) (by kernel_rfl) (fun _ _ _ h => h) (Or.inl ⟨by kernel_rfl, ?_⟩) (by assumption) ?_
              rotate_left
              · (intro w hSw; (try dsimp only at hSw); go_simp; all_goals (with_reducible rfl))
              (try simp only [Act.put, List.setIfInBounds_toArray, List.set_cons_zero, List.set_cons_succ])
              refine wpAnyH_ready (rs := [13]) (by kernel_rfl) (by simp) ?_
              refine AllReadyH.cons rfl (fun K hK => ?_) AllReadyH.nil
              have hba := below_alloc w5 (.cells #[.int .u8 0, .int .i64 0, .slice none 0 0] 76)
              have hra := heap_alloc_new w5 (.cells #[.int .u8 0, .int .i64 0, .slice none 0 0] 76)
              have a0 := row_cell hra 0 rfl; have a1 := row_cell hra 1 rfl; have a2 := row_cell hra 2 rfl
              have f0 := row_free hra 0; have f1 := row_free hra 1; have f2 := row_free hra 2
              simp only [List.getElem_toArray, List.getElem_cons_zero, List.getElem_cons_succ] at a0 a1 a2
              go_simp
              refine hK.out _ _ ⟨cell_below hba r5, cell_below hba p25, cell_below hba p35⟩ (fun hHeld => ?_)
              clear hK K
              (try refine stateAt (d := 4) (by kernel_rfl) ?_)
              (try simp only [Act.put, List.setIfInBounds_toArray, List.set_cons_zero, List.set_cons_succ])
              refine wpAnyH_ready (rs := [14]) (by kernel_rfl) (by simp) ?_
              refine AllReadyH.cons rfl (fun K hK => ?_) AllReadyH.nil
              have hb9 := below_alloc w5 (.cells #[.int .u8 op, .int .i64 ia, .slice va il.length vc] 76)
              go_simp
              refine hK.out _ _ ⟨cell_below hb9 r5, cell_below hb9 p25, cell_below hb9 p35⟩ (fun hHeld => ?_)
              clear hK K
              (try simp only [Act.put, List.setIfInBounds_toArray, List.set_cons_zero, List.set_cons_succ])
              refine takeAt (i := 15) (d := 5) (v := ?_) rfl (by kernel_rfl) (by kernel_rfl) (by kernel_rfl) (by kernel_rfl) (fun _ _ _ h => h) (Or.inl ⟨by kernel_rfl, ?_⟩) (by assumption) ?_
              rotate_left
              · (intro w hSw; (try dsimp only at hSw); go_simp; all_goals (with_reducible rfl))
              (try simp only [Act.put, List.setIfInBounds_toArray, List.set_cons_zero, List.set_cons_succ])
              refine takeAt (i := 16) (d := 6) (v := ?_) rfl (by kernel_rfl) (by kernel_rfl) (by kernel_rfl) (by kernel_rfl) (fun _ _ _ h => h) (Or.inl ⟨by kernel_rfl, ?_⟩) (by assumption) ?_
              rotate_left
              · (intro w hSw; (try dsimp only at hSw); go_simp; all_goals (with_reducible rfl))
              (try simp only [Act.put, List.setIfInBounds_toArray, List.set_cons_zero, List.set_cons_succ])
              refine wpAnyH_done (by kernel_rfl) ?_ _
              have HM9 := Lib.hid (HM5.out.on hb9)
              have HK9 := Lib.hid (HK5.out.on hb9)
              have HR9 := Lib.hid ((hb9.block _ (row_lt HR5.out)).trans HR5.out)
              have HG9 := Lib.hid ((hb9.block _ (row_lt HG5.out)).trans HG5.out)
              have HI9 := Lib.hid (heap_alloc_new w5 (.cells #[.int .u8 op, .int .i64 ia, .slice va il.length vc] 76))
              clear hHeld r5 p25 p35 hba hra a0 a1 a2 f0 f1 f2 hb9 hown hbel hdec
              go_wp2_with fail
              go_meet
              exact ⟨rfl, rfl, w5.heap.size, va, vc, rfl, HM9, HK9, HR9, HG9, HI9⟩
            · go_simp
              have hba := below_alloc wr.drew (.cells #[.int .u8 0, .int .i64 0, .slice none 0 0] 76)
              have hra := heap_alloc_new wr.drew (.cells #[.int .u8 0, .int .i64 0, .slice none 0 0] 76)
              have HMA := Lib.hid (HMD.out.on hba)
              have HKA := Lib.hid (HKD.out.on hba)
              have HRA := Lib.hid ((hba.block _ (row_lt HRD.out)).trans HRD.out)
              have HGA := Lib.hid ((hba.block _ (row_lt HGD.out)).trans HGD.out)
              refine hK.out _ _ ⟨cell_below hba q0, cell_below hba p2, cell_below hba p3⟩ (fun hHeld => ?_)
              clear hK K
              (try refine stateAt (d := 4) (by kernel_rfl) ?_)
              (try simp only [Act.put, List.setIfInBounds_toArray, List.set_cons_zero, List.set_cons_succ])
              refine wpAnyH_ready (rs := [8]) (by kernel_rfl) (by simp) ?_
              refine AllReadyH.cons rfl (fun K hK => ?_) AllReadyH.nil
              clear hHeld
              go_simp
              refine (instr_Decode S _ bv b q' HB.out HMA.out.rm.rd (fun y hy => by have := HMA.out.sS y hy; have := HMA.out.hi; omega) (HZ.out.kp (HKA.out.kp HM0.out)).t).mono ?_
              rintro e w5 hdec
              obtain ⟨vl, rfl, hown⟩ := hdec.own
              have hbel := hdec.bel
              rw [hD] at hown ⊢
              simp only at hown ⊢
              obtain ⟨va, vc, rfl, _⟩ := own_slice hown.2.1
              have HM5 := Lib.hid (HMA.out.dec (D := ⟨op, ia, il⟩) hbel hown)
              have HK5 : Hid (Kf x p mb w w5) := Lib.hid (HKA.out.on hbel)
              have HR5 := Lib.hid ((hbel.block _ (row_lt HRA.out)).trans HRA.out)
              have HG5 := Lib.hid ((hbel.block _ (row_lt HGA.out)).trans HGA.out)
              have r5 := row_cell HR5.out 0 rfl
              obtain ⟨_, p25, p35, _⟩ := HM5.out.pc
              simp only [List.getElem_toArray, List.getElem_cons_zero] at r5
              go_wp2_with fail
              refine hK.out _ _ ⟨r5, p25, p35⟩ (fun hHeld => ?_)
              clear hK K
              (try refine stateAt (d := 43) (by kernel_rfl) ?_)
              (try simp only [Act.put, List.setIfInBounds_toArray, List.set_cons_zero, List.set_cons_succ])
              have HI5 : Hid (w5.heap[wr.heap.size]? = some (.cells #[.int .u8 0, .int .i64 0, .slice none 0 0] 76 (0, 0))) := Lib.hid ((hbel.block _ (row_lt hra)).trans hra)
              have a0 := row_cell HI5.out 0 rfl; have a1 := row_cell HI5.out 1 rfl; have a2 := row_cell HI5.out 2 rfl
              have f0 := row_free HI5.out 0; have f1 := row_free HI5.out 1; have f2 := row_free HI5.out 2
              simp only [List.getElem_toArray, List.getElem_cons_zero, List.getElem_cons_succ] at a0 a1 a2
              refine takeAt (i := 9) (d := 34) (v := ?_) rfl (by kernel_rfl) (by kernel_rfl) (by kernel_rfl) (by kernel_rfl) (fun _ _ _ h => h) (Or.inl ⟨by kernel_rfl, ?_⟩) (by assumption) ?_
              rotate_left
              · (intro w hSw; (try dsimp only at hSw); go_simp; all_goals (with_reducible rfl))
              (try simp only [Act.put, List.setIfInBounds_toArray, List.set_cons_zero, List.set_cons_succ])
              refine takeAt (i := 10) (d := 44) (v := ?_) rfl (by kernel_rfl) (by kernel_rfl) (by kernel_rfl) (by kernel_rfl) (fun _ _ _ h => h) (Or.inl ⟨by kernel_rfl, ?_⟩) (by assumption) ?_
              rotate_left
              · (intro w hSw; (try dsimp only at hSw); go_simp; all_goals (with_reducible rfl))
              (try simp only [Act.put, List.setIfInBounds_toArray, List.set_cons_zero, List.set_cons_succ])
              refine takeAt (i := 11) (d := 45) (v := ?_) rfl (by kernel_rfl) (by kernel_rfl) (by kernel_rfl) (by kernel_rfl) (fun _ _ _ h => h) (Or.inl ⟨by kernel_rfl, ?_⟩) (by assumption) ?_
              rotate_left
              · (intro w hSw; (try dsimp only at hSw); go_simp; all_goals (with_reducible rfl))
              (try simp only [Act.put, List.setIfInBounds_toArray, List.set_cons_zero, List.set_cons_succ])
              refine takeAt (i := 12) (d := 46) (v := ?_) rfl (by kernel_rfl) (by kernel_rfl) (by kernel_rfl) (by kernel_rfl) (fun _ _ _ h => h) (Or.inl ⟨by kernel_rfl, ?_⟩) (by assumption) ?_
              rotate_left
              · (intro w hSw; (try dsimp only at hSw); go_simp; all_goals (with_reducible rfl))
              (try simp only [Act.put, List.setIfInBounds_toArray, List.set_cons_zero, List.set_cons_succ])
              refine wpAnyH_ready (rs := [14]) (by kernel_rfl) (by simp) ?_
              refine AllReadyH.cons rfl (fun K hK => ?_) AllReadyH.nil
              go_simp
              have hgB : B ≤ wr.heap.size := HM.out.hi
              have hgf : wr.heap.size ∉ entBs (x.ents ++ ((codE cv code :: code.map iqE) ++ [iqE (⟨op, ia, il⟩, .slice va il.length vc)])) := by
                rw [← List.append_assoc, entBs_app, List.mem_append]
                rintro (h1 | h1)
                · exact HM.out.fresh (Nat.le_refl _) h1
                · obtain ⟨e, he, hbk⟩ := mem_entBs.1 h1
                  obtain rfl := List.mem_singleton.1 he
                  exact own_ne hown.2.1 HI5.out (by decide) hbk
              have P1 := HM5.out.cell (i := 0) (.int .u8 op) hgB hgf
              have P2 := P1.1.cell (i := 1) (.int .i64 ia) hgB hgf
              have P3 := P2.1.cell (i := 2) (.slice va il.length vc) hgB hgf
              have kg := (((Keeps.refl (fun b => b ≠ wr.heap.size) w5).setCell (a := ⟨wr.heap.size, 0, none⟩) (by simp) (.int .u8 op)).setCell (a := ⟨wr.heap.size, 1, none⟩) (by simp) (.int .i64 ia)).setCell (a := ⟨wr.heap.size, 2, none⟩) (by simp) (.slice va il.length vc)
              have HM9 := Lib.hid P3.1
              have HK9 := Lib.hid (HK5.out.far kg (fun b hb _ _ => by have := HK.out.size; omega))
              have HR9 := Lib.hid ((kg.block _ (row_lt HR5.out) (row_ne HR5.out HI5.out (by decide))).trans HR5.out)
              have HG9 := Lib.hid ((kg.block _ (row_lt HG5.out) (row_ne HG5.out HI5.out (by decide))).trans HG5.out)
              have HI9 : Hid ((((w5.setCell ⟨wr.heap.size, 0, none⟩ (.int .u8 op)).setCell ⟨wr.heap.size, 1, none⟩ (.int .i64 ia)).setCell ⟨wr.heap.size, 2, none⟩ (.slice va il.length vc)).heap[wr.heap.size]? = some (.cells #[.int .u8 op, .int .i64 ia, .slice va il.length vc] 76 (0, 0))) := Lib.hid (by simpa using row_setCell (row_setCell (row_setCell HI5.out 0 (.int .u8 op)) 1 (.int .i64 ia)) 2 (.slice va il.length vc))
              clear hHeld r5 p25 p35 hba hra a0 a1 a2 f0 f1 f2 P1 P2 P3 kg hgB hgf hown hbel hdec
              have r9 := row_cell HR9.out 0 rfl
              obtain ⟨_, p29, p39, _⟩ := HM9.out.pc
              simp only [List.getElem_toArray, List.getElem_cons_zero] at r9
              refine hK.out _ _ ⟨r9, p29, p39⟩ (fun hHeld => ?_)
              clear hK K
              (try simp only [Act.put, List.setIfInBounds_toArray, List.set_cons_zero, List.set_cons_succ])
              refine takeAt (i := 15) (d := 5) (v := ?_) rfl (by kernel_rfl) (by kernel_rfl) (by kernel_rfl) (by kernel_rfl) (fun _ _ _ h => h) (Or.inl ⟨by kernel_rfl, ?_⟩) (by assumption) ?_
              rotate_left
              · (intro w hSw; (try dsimp only at hSw); go_simp; all_goals (with_reducible rfl))
              (try simp only [Act.put, List.setIfInBounds_toArray, List.set_cons_zero, List.set_cons_succ])
              refine takeAt (i := 16) (d := 6) (v := ?_) rfl (by kernel_rfl) (by kernel_rfl) (by kernel_rfl) (by kernel_rfl) (fun _ _ _ h => h) (Or.inl ⟨by kernel_rfl, ?_⟩) (by assumption) ?_
              rotate_left
              · (intro w hSw; (try dsimp only at hSw); go_simp; all_goals (with_reducible rfl))
              (try simp only [Act.put, List.setIfInBounds_toArray, List.set_cons_zero, List.set_cons_succ])
              refine wpAnyH_done (by kernel_rfl) ?_ _
              clear hHeld r9 p29 p39
              go_wp2_with fail
              go_meet
              exact ⟨rfl, rfl, wr.heap.size, va, vc, rfl, HM9, HK9, HR9, HG9, HI9⟩
          case rest =>
            clear HM HK HR HG q0 p2 p3 hD
            obtain ⟨rfl, rfl, g4, va, vc, rfl, HM, HK, HR, HG, HI⟩ := hcut
            have q0 := row_cell HR.out 0 rfl
            obtain ⟨_, _, p3, pf3⟩ := HM.out.pc
            simp only [List.getElem_toArray, List.getElem_cons_zero] at q0
            by_cases hz : er = 0
            · subst hz
              have S6 : Hid (rins b q' = .ok (⟨op, ia, il⟩, nx)) := Lib.hid (by unfold rins; rw [HD.out]; rfl)
              have hnx : nx ≤ b.length := (codec_rins.inv b q' _ _ HB.out HM.out.rm.le S6.out).2.2.2
              have PA := HM.out.setAt nx hnx
              have HM2 := Lib.hid PA.1
              have HK2 := Lib.hid (HK.out.read ((Keeps.refl (fun b => b ≠ p) wc).setCell (a := ⟨p, 3, none⟩) (by simp) (.int .i64 nx)))
              have HR2 := Lib.hid (row_set5 (i := 3) HR.out (row_ne HR.out HM.out.rm.row (by decide)) (.int .i64 nx))
              have HG2 := Lib.hid (row_set5 (i := 3) HG.out (row_ne HG.out HM.out.rm.row (by decide)) (.int .i64 nx))
              have HI2 := Lib.hid (row_set5 (i := 3) HI.out (row_ne HI.out HM.out.rm.row (by decide)) (.int .i64 nx))
              obtain ⟨ca, cc, hcv, _⟩ := own_slice (HM2.out.fam.own (codE cv code) (by simp))
              have hcv : cv = .slice ca code.length cc := hcv
              subst hcv
              have g2 := row_cell HG2.out 2 rfl
              have i0c := row_cell HI2.out 0 rfl; have i1c := row_cell HI2.out 1 rfl; have i2c := row_cell HI2.out 2 rfl
              simp only [List.getElem_toArray, List.getElem_cons_zero, List.getElem_cons_succ] at g2 i0c i1c i2c
              have HNW := Lib.hid (news3 (wc.setCell ⟨p, 3, none⟩ (.int .i64 nx)) (.int .u8 op) (.int .i64 ia) (.slice va il.length vc) 76)
              rw [World.size_setCell] at HNW
              have hbA := below_alloc (wc.setCell ⟨p, 3, none⟩ (.int .i64 nx)) (.cells #[.int .u8 op, .int .i64 ia, .slice va il.length vc] 76)
              have HMA := Lib.hid (HM2.out.on hbA)
              have HKA := Lib.hid (HK2.out.on hbA)
              have HRA := Lib.hid ((hbA.block _ (row_lt HR2.out)).trans HR2.out)
              have HGA := Lib.hid ((hbA.block _ (row_lt HG2.out)).trans HG2.out)
              have HOA : Hid (((wc.setCell ⟨p, 3, none⟩ (.int .i64 nx)).alloc (.cells #[.int .u8 op, .int .i64 ia, .slice va il.length vc] 76)).ownsRow B 76 3 (.slice ca code.length cc) code.length (code.flatMap iqC)) := Lib.hid (HMA.out.fam.own (codE (.slice ca code.length cc) code) (by simp))
              have hcl : code.length ≤ 2048 := by have := HL.out; omega
              have HSZ : Hid (((wc.setCell ⟨p, 3, none⟩ (.int .i64 nx)).alloc (.cells #[.int .u8 op, .int .i64 ia, .slice va il.length vc] 76)).heap.size = wc.heap.size + 1) := Lib.hid (by rw [World.size_alloc, World.size_setCell])
              clear PA hbA
              have hX : ∀ v l z, ∀ e ∈ (codE v l :: code.map iqE) ++ [iqE z], e.c = false ∧ e.t ≠ 49 := by
                intro v l z e he
                simp only [List.cons_append, List.mem_cons, List.mem_append, List.mem_map, List.not_mem_nil, or_false] at he
                rcases he with rfl | ⟨_, _, rfl⟩ | rfl
                · exact ⟨rfl, show (76 : Nat) ≠ 49 by decide⟩
                · exact ⟨rfl, show (3 : Nat) ≠ 49 by decide⟩
                · exact ⟨rfl, show (3 : Nat) ≠ 49 by decide⟩
              have HX := Lib.hid hX
              clear hX
              go_wp2_with (first | (go_at_call 20; refine (mod_ask _ _ _ _).mono ?_; rintro r wq ⟨rfl, hwq⟩; obtain rfl := hwq.symm) | (at_builtin; refine wpList_append_own_at _ rfl _ _ 47 rfl B 76 i0 (.agg #[.int .u8 0, .int .i64 0, .slice none 0 0]) 3 40 Tryd.underlying47 hi hz0 hz1 hz2 rfl (by decide) _ _ _ rfl HOA.out ⟨wc.heap.size, 0, none⟩ 1 1 [.int .u8 op, .int .i64 ia, .slice va il.length vc] rfl rfl HNW.out (by simp [Value.oneCell']) (by unfold maxLen; omega) (by omega) (HMA.out.hi) ?_))
              intro v9 w9 hown9 hgrow9 _ hat9
              obtain ⟨va9, vc9, hv9, _⟩ := own_slice hown9
              subst hv9
              have HMC := HMA.out.code (y := (⟨op, ia, il⟩, .slice va il.length vc)) hgrow9 (by simpa [iqC] using hown9) (fun g1 hg1 => by
                rcases hat9 with e | e
                · exact .inl (by rw [← e]; exact hg1)
                · rw [hg1] at e
                  exact .inr (by have := Option.some.inj e; have := HSZ.out; omega))
              have hgX := HMA.out.gX HGA.out HF.out.2 (HX.out _ _ _)
              have hg9 := grown_block hgrow9 HGA.out (fun e => hgX (mem_entBs.2 ⟨codE (.slice ca code.length cc) code, by simp, e⟩))
              have hr9 := grown_block hgrow9 HRA.out (own_ne HOA.out HRA.out (by decide))
              have hgY := HMC.1.gX hg9 HF.out.2 (HX.out _ _ _)
              have PC := HMC.1.cell (i := 2) (.slice va9 (code.length + 1) vc9) HF.out.1 hgY
              have kg := (Keeps.refl (fun b => b ≠ g) w9).setCell (a := ⟨g, 2, none⟩) (by simp) (.slice va9 (code.length + 1) vc9)
              have HM3 : Hid (Md S B (w9.setCell ⟨g, 2, none⟩ (.slice va9 (code.length + 1) vc9)) p mb bv b ((al + n : Nat) : Int) nx x (codE (.slice va9 (code.length + 1) vc9) (code ++ [((⟨op, ia, il⟩, .slice va il.length vc) : Iq)]) :: (code ++ [((⟨op, ia, il⟩, .slice va il.length vc) : Iq)]).map iqE)) := Lib.hid (by rw [List.map_append]; exact PC.1)
              have HK3 := Lib.hid ((HKA.out.far ((Keeps.refl (fun b => (Value.slice ca code.length cc).ownBlock ≠ some b) _).grown hgrow9 (fun k hk _ h => h hk)) (fun b hb _ _ e => by have := HC.out b e; omega)).far kg (fun b hb _ _ => by have := HFW.out; omega))
              have HR3 := Lib.hid ((kg.block _ (row_lt hr9) (row_ne hr9 hg9 (by decide))).trans hr9)
              have HG3 : Hid ((w9.setCell ⟨g, 2, none⟩ (.slice va9 (code.length + 1) vc9)).heap[g]? = some (.cells #[.int .i64 t1, .string lo, (.slice va9 (code.length + 1) vc9)] 49 (0, 0))) := Lib.hid (by simpa using row_setCell hg9 2 (.slice va9 (code.length + 1) vc9))
              have HP3 : Hid (RepAt (fun _ => rins) n b q3 ((code ++ [((⟨op, ia, il⟩, .slice va il.length vc) : Iq)]).map (·.1)) nx) := Lib.hid (by rw [List.map_append]; exact HP.out.good (by rw [List.length_map, HL.out]; exact hlt) S6.out)
              have HL3 : Hid ((code ++ [((⟨op, ia, il⟩, .slice va il.length vc) : Iq)]).length = k + 1) := Lib.hid (by rw [List.length_append, HL.out]; rfl)
              have HC3 : Hid (∀ b, (Value.slice va9 (code.length + 1) vc9).ownBlock = some b → w.heap.size ≤ b) := Lib.hid (fun b hb => by
                rcases hat9 with e | e
                · exact HC.out b (by rw [← e]; exact hb)
                · rw [hb] at e
                  have := Option.some.inj e; have := HSZ.out; have := HKA.out.size; omega)
              have y2 := row_cell hg9 2 rfl
              have yf := row_free hg9 2
              simp only [List.getElem_toArray, List.getElem_cons_zero, List.getElem_cons_succ] at y2
              clear HMC hgX hg9 hr9 hgY PC kg hown9 hgrow9 hat9 HMA HKA HRA HGA HOA HNW HM2 HK2 HR2 HG2 HI2 HM HK HR HG HI HP HL g2 i0c i1c i2c q0 p3 pf3
              go_wp2_with fail
              go_roundw
              case rel => exact ⟨k + 1, nx, (.slice va9 (code.length + 1) vc9), _, by omega, by go_num, HM3, HK3, HR3, HG3, HP3, HL3, HC3⟩
              case measure => simp [intOf]; omega
            · have hz1 : (er == 0) = false := by simp [hz]
              have S6 : Hid (rins b q' = .error (er, q')) := Lib.hid (by unfold rins; rw [HD.out]; exact if_neg hz)
              clear hz
              go_wp2_with (go_at_call 20; refine (mod_ask _ _ _ _).mono ?_; rintro r wq ⟨rfl, hwq⟩; obtain rfl := hwq.symm)
              exact ⟨rfl, .inr ⟨_, _, rfun_4 S1.out S2.out (by rw [HAL.out]; exact S3.out) (HP.out.bad (by rw [List.length_map, HL.out]; exact hlt) S6.out), rfl, HK.out⟩⟩
        · obtain rfl : n = k := by omega
          have S5 : Hid (rfun x.ts (x.fs.map Fq5.f) b at_ = .ok (⟨t1, lo, code.map (·.1)⟩, q')) := Lib.hid (rfun_5 S1.out S2.out (by rw [HAL.out]; exact S3.out) (HP.out.done (by rw [List.length_map, HL.out])))
          obtain ⟨ca, cc, hcv, _⟩ := own_slice (HM.out.fam.own (codE cv code) (by simp))
          have hcv : cv = .slice ca code.length cc := hcv
          subst hcv
          obtain ⟨a2, c2, hvf, _⟩ := own_slice (HM.out.fam.own (fuE x.fv x.fs) (by simp [Mq.ents]))
          have hvf : x.fv = .slice a2 x.fs.length c2 := hvf
          have HVF := Lib.hid hvf
          clear hvf
          obtain ⟨A, hpA, hpB⟩ := Mq.pFun x ⟨t1, lo, .slice ca code.length cc, code⟩
          have HPA := Lib.hid hpA
          have HPB := Lib.hid hpB
          clear hpA hpB
          have HAQ : Hid (((al + n : Nat) : Int) = ((allOf ((x.fs ++ [(⟨t1, lo, .slice ca code.length cc, code⟩ : Fq5)]).map Fq5.f) : Nat) : Int)) := Lib.hid (by
            rw [List.map_append, List.map_singleton, allOf_snoc, HAL.out]
            show _ = ((al + (code.map (·.1)).length : Nat) : Int)
            rw [List.length_map, HL.out])
          go_wp2_with fail
          obtain ⟨p0, _, _, _⟩ := HM.out.pc
          have y0 := row_cell HG.out 0 rfl; have y1 := row_cell HG.out 1 rfl; have y2 := row_cell HG.out 2 rfl
          have m5 : wr.cell? ⟨mb, 5, none⟩ = some (.slice a2 x.fs.length c2) := by rw [← HVF.out]; exact (HM.out.mc (i := 5) rfl).1
          have mf5 := row_free HM.out.mrow 5
          simp only [List.getElem_toArray, List.getElem_cons_zero, List.getElem_cons_succ] at y0 y1 y2
          have hbel := below_alloc wr.drew (.cells #[.int .i64 t1, .string lo, .slice ca code.length cc] 49)
          have hbw := below_step (Below.refl _ wr).drew (Nat.le_refl _) hbel
          have HMA := Lib.hid (HM.out.on hbw)
          have HOA : Hid ((wr.drew.alloc (.cells #[.int .i64 t1, .string lo, .slice ca code.length cc] 49)).ownsRow B 49 3 (.slice a2 x.fs.length c2) x.fs.length (x.fs.flatMap fqC)) := Lib.hid (by have := HMA.out.fam.own (fuE x.fv x.fs) (by simp [Mq.ents]); rw [HVF.out] at this; exact this)
          have HGA := Lib.hid ((hbw.block _ (row_lt HG.out)).trans HG.out)
          have HRA := Lib.hid ((hbw.block _ (row_lt HR.out)).trans HR.out)
          have HKA := Lib.hid (HK.out.on hbw)
          have HNG : Hid ((Value.slice a2 x.fs.length c2).ownBlock ≠ some g) := Lib.hid (fun e => HF.out.2 (mem_entBs.2 ⟨fuE x.fv x.fs, by simp [Mq.ents], by rw [← HVF.out] at e; exact e⟩))
          have HNP : Hid ((Value.slice a2 x.fs.length c2).ownBlock ≠ some p) := Lib.hid (fun e => by have := (World.ownsRow.lt HOA.out p e).1; have := HMA.out.lo; omega)
          have HNM : Hid ((Value.slice a2 x.fs.length c2).ownBlock ≠ some mb) := Lib.hid (fun e => by have := (World.ownsRow.lt HOA.out mb e).1; have := HMA.out.lo; omega)
          have HNR : Hid ((Value.slice a2 x.fs.length c2).ownBlock ≠ some rb) := Lib.hid (own_ne HOA.out HRA.out (by decide))
          have hb6 := below_alloc wr (.cells #[.int .i64 t1, .string lo, .slice ca code.length cc] 49)
          have z0 := cell_below hb6 q0; have z1 := cell_below hb6 p0; have z3 := cell_below hb6 y0; have z4 := cell_below hb6 y1; have z5 := cell_below hb6 y2; have z6 := cell_below hb6 m5
          have hBw := HM.out.hi
          have n1 : rb ≠ mb := row_ne HR.out HM.out.mrow (by decide)
          have n2 : p ≠ mb := HM.out.ne
          have n3 : g ≠ mb := row_ne HG.out HM.out.mrow (by decide)
          clear hb6 hbel hbw
          refine wp_region_held_drew (S := (fun wx => wx.cell? ⟨rb, 0, none⟩ = some (.pointer (some ⟨p, 0, none⟩)) ∧ wx.cell? ⟨p, 0, none⟩ = some (.pointer (some ⟨mb, 0, none⟩)) ∧ wx.cell? ⟨g, 0, none⟩ = some (.int .i64 t1) ∧ wx.cell? ⟨g, 1, none⟩ = some (.string lo) ∧ wx.cell? ⟨g, 2, none⟩ = some (.slice ca code.length cc))) (by kernel_rfl) ⟨q0, p0, y0, y1, y2⟩ (fun hHeld => ?_)
          refine takeAt (i := 0) (d := 66) (v := ?_) rfl (by kernel_rfl) (by kernel_rfl) (by kernel_rfl) (by kernel_rfl) (fun _ _ _ h => h) (Or.inl ⟨by kernel_rfl, ?_⟩) (by assumption) ?_
          rotate_left
          · (intro w hSw; (try dsimp only at hSw); go_simp; all_goals (with_reducible rfl))
          (try simp only [Act.put, List.setIfInBounds_toArray, List.set_cons_zero, List.set_cons_succ])
          refine takeAt (i := 1) (d := 67) (v := ?_) rfl (by kernel_rfl) (by kernel_rfl) (by kernel_rfl) (by kernel_rfl) (fun _ _ _ h => h) (Or.inl ⟨by kernel_rfl, ?_⟩) (by assumption) ?_
          rotate_left
          · (intro w hSw; (try dsimp only at hSw); go_simp; all_goals (with_reducible rfl))
          (try simp only [Act.put, List.setIfInBounds_toArray, List.set_cons_zero, List.set_cons_succ])
          refine takeAt (i := 2) (d := 68) (v := ?_) rfl (by kernel_rfl) (by kernel_rfl) (by kernel_rfl) (by kernel_rfl) (fun _ _ _ h => h) (Or.inl ⟨by kernel_rfl, ?_⟩) (by assumption) ?_
          rotate_left
          · (intro w hSw; (try dsimp only at hSw); go_simp; all_goals (with_reducible rfl))
          (try simp only [Act.put, List.setIfInBounds_toArray, List.set_cons_zero, List.set_cons_succ])
          refine takeAt (i := 3) (d := 69) (v := ?_) rfl (by kernel_rfl) (by kernel_rfl) (by kernel_rfl) (by kernel_rfl) (fun _ _ _ h => h) (Or.inl ⟨by kernel_rfl, ?_⟩) (by assumption) ?_
          rotate_left
          · (intro w hSw; (try dsimp only at hSw); go_simp; all_goals (with_reducible rfl))
          (try simp only [Act.put, List.setIfInBounds_toArray, List.set_cons_zero, List.set_cons_succ])
          refine takeAt (i := 4) (d := 70) (v := ?_) rfl (by kernel_rfl) (by kernel_rfl) (by kernel_rfl) (by kernel_rfl) (fun _ _ _ h => h) (Or.inl ⟨by kernel_rfl, ?_⟩) (by assumption) ?_
          rotate_left
          · (intro w hSw; (try dsimp only at hSw); go_simp; all_goals (with_reducible rfl))
          (try simp only [Act.put, List.setIfInBounds_toArray, List.set_cons_zero, List.set_cons_succ])
          refine takeAt (i := 5) (d := 71) (v := ?_) rfl (by kernel_rfl) (by kernel_rfl) (by kernel_rfl) (by kernel_rfl) (fun _ _ _ h => h) (Or.inl ⟨by kernel_rfl, ?_⟩) (by assumption) ?_
          rotate_left
          · (intro w hSw; (try dsimp only at hSw); go_simp; all_goals (with_reducible rfl))
          (try simp only [Act.put, List.setIfInBounds_toArray, List.set_cons_zero, List.set_cons_succ])
          refine takeAt (i := 6) (d := 72) (v := ?_) rfl (by kernel_rfl) (by kernel_rfl) (by kernel_rfl) (by kernel_rfl) (fun _ _ _ h => h) (Or.inl ⟨by kernel_rfl, ?_⟩) (by assumption) ?_
          rotate_left
          · (intro w hSw; (try dsimp only at hSw); go_simp; all_goals (with_reducible rfl))
          (try simp only [Act.put, List.setIfInBounds_toArray, List.set_cons_zero, List.set_cons_succ])
          refine takeAt (i := 7) (d := 73) (v := ?_) rfl (by kernel_rfl) (by kernel_rfl) (by kernel_rfl) (by kernel_rfl) (fun _ _ _ h => h) (Or.inl ⟨by kernel_rfl, ?_⟩) (by assumption) ?_
          rotate_left
          · (intro w hSw; (try dsimp only at hSw); go_simp; all_goals (with_reducible rfl))
          (try simp only [Act.put, List.setIfInBounds_toArray, List.set_cons_zero, List.set_cons_succ])
          refine takeAt (i := 8) (d := 74) (v := ?_) rfl (by kernel_rfl) (by kernel_rfl) (by kernel_rfl) (by kernel_rfl) (fun _ _ _ h => h) (Or.inl ⟨by kernel_rfl, ?_⟩) (by assumption) ?_
          rotate_left
          · (intro w hSw; (try dsimp only at hSw); go_simp; all_goals (with_reducible rfl))
          (try simp only [Act.put, List.setIfInBounds_toArray, List.set_cons_zero, List.set_cons_succ])
          refine takeAt (i := 9) (d := 75) (v := ?_) rfl (by kernel_rfl) (by kernel_rfl) (by kernel_rfl) (by kernel_rfl) (fun _ _ _ h => h) (Or.inl ⟨by kernel_rfl, ?_⟩) (by assumption) ?_
          rotate_left
          · (intro w hSw; (try dsimp only at hSw); go_simp; all_goals (with_reducible rfl))
          (try simp only [Act.put, List.setIfInBounds_toArray, List.set_cons_zero, List.set_cons_succ])
          refine takeAt (i := 10) (d := 76) (v := ?_) rfl (by kernel_rfl) (by kernel_rfl) (by kernel_rfl) (by kernel_rfl) (fun _ _ _ h => h) (Or.inl ⟨by kernel_rfl, ?_⟩) (by assumption) ?_
          rotate_left
          · (intro w hSw; (try dsimp only at hSw); go_simp; all_goals (with_reducible rfl))
          (try simp only [Act.put, List.setIfInBounds_toArray, List.set_cons_zero, List.set_cons_succ])
          refine takeAt (i := 11) (d := 77) (v := ?_) rfl (by kernel_rfl) (by kernel_rfl) (by kernel_rfl) (by kernel_rfl) (fun _ _ _ h => h) (Or.inl ⟨by kernel_rfl, ?_⟩) (by assumption) ?_
          rotate_left
          · (intro w hSw; (try dsimp only at hSw); go_simp; all_goals (with_reducible rfl))
          (try simp only [Act.put, List.setIfInBounds_toArray, List.set_cons_zero, List.set_cons_succ])
          refine takeAt (i := 13) (d := 79) (v := ?_) rfl (by kernel_rfl) (by kernel_rfl) (by kernel_rfl) (by kernel_rfl) (fun _ _ _ h => h) (Or.inl ⟨by kernel_rfl, ?_⟩) (by assumption) ?_
          rotate_left
          · (intro w hSw; (try dsimp only at hSw); go_simp; all_goals (with_reducible rfl))
          (try simp only [Act.put, List.setIfInBounds_toArray, List.set_cons_zero, List.set_cons_succ])
          refine wpAnyH_ready (rs := [12, 14]) (by kernel_rfl) (by simp) ?_
          refine AllReadyH.cons rfl (fun K hK => ?_) (AllReadyH.cons rfl (fun K hK => ?_) AllReadyH.nil)
          · go_simp
            refine hK.out _ _ hHeld (fun hHeld => ?_)
            clear hK K
            (try refine stateAt (d := 78) (by kernel_rfl) ?_)
            (try simp only [Act.put, List.setIfInBounds_toArray, List.set_cons_zero, List.set_cons_succ])
            refine wpAnyH_ready (rs := [14]) (by kernel_rfl) (by simp) ?_
            refine AllReadyH.cons rfl (fun K hK => ?_) AllReadyH.nil
            go_simp
            refine hK.out _ _ ⟨z0, z1, z3, z4, z5⟩ (fun hHeld => ?_)
            clear hK K
            (try refine stateAt (d := 80) (by kernel_rfl) ?_)
            (try simp only [Act.put, List.setIfInBounds_toArray, List.set_cons_zero, List.set_cons_succ])
            refine wpAnyH_ready (rs := [15]) (by kernel_rfl) (by simp) ?_
            refine AllReadyH.cons rfl (fun K hK => ?_) AllReadyH.nil
            clear hHeld
            refine step_append_lies _ (by rfl) _ _ 25 (by rfl) B 49 i1 _ 3 48 Tryd.underlying25 hj hy0 hy1 hy2 rfl (by omega) (.slice a2 x.fs.length c2) x.fs.length (x.fs.flatMap fqC) (by rfl) HOA.out ⟨wr.heap.size, 0, none⟩ 1 1 [.int .i64 t1, .string lo, .slice ca code.length cc] (by rfl) (by rfl) (news3 wr.drew _ _ _ _) (by simp [Value.oneCell']) (by omega) (by unfold maxLen; omega) (by omega) (by show B ≤ (wr.alloc _).heap.size; rw [World.size_alloc]; omega) (wr.heap.size + 1) (by show (wr.alloc _).heap.size = _; rw [World.size_alloc]) ?_
            intro g9 cap9 w9 hown9 hgrow9 hat9 hlt9
            have hm9 := grown_block hgrow9 HMA.out.mrow HNM.out
            have c9 := row_cell hm9 5 rfl
            have f9 := row_free hm9 5
            have hp9 := grown_block hgrow9 HMA.out.rm.row HNP.out
            have hr9 := grown_block hgrow9 HRA.out HNR.out
            have hg9 := grown_block hgrow9 HGA.out HNG.out
            have d9 := row_cell hp9 0 rfl
            have e9 := row_cell hr9 0 rfl
            have y09 := row_cell hg9 0 rfl; have y19 := row_cell hg9 1 rfl; have y29 := row_cell hg9 2 rfl
            refine hK.out _ _ ⟨e9, d9, y09, y19, y29⟩ (fun hHeld => ?_)
            clear hK K
            (try refine stateAt (d := 81) (by kernel_rfl) ?_)
            (try simp only [Act.put, List.setIfInBounds_toArray, List.set_cons_zero, List.set_cons_succ])
            refine takeAt (i := 16) (d := 82) (v := ?_) rfl (by kernel_rfl) (by kernel_rfl) (by kernel_rfl) (by kernel_rfl) (fun _ _ _ h => h) (Or.inl ⟨by kernel_rfl, ?_⟩) (by assumption) ?_
            rotate_left
            · (intro w hSw; (try dsimp only at hSw); go_simp; all_goals (with_reducible rfl))
            (try simp only [Act.put, List.setIfInBounds_toArray, List.set_cons_zero, List.set_cons_succ])
            refine takeAt (i := 17) (d := 83) (v := ?_) rfl (by kernel_rfl) (by kernel_rfl) (by kernel_rfl) (by kernel_rfl) (fun _ _ _ h => h) (Or.inl ⟨by kernel_rfl, ?_⟩) (by assumption) ?_
            rotate_left
            · (intro w hSw; (try dsimp only at hSw); go_simp; all_goals (with_reducible rfl))
            (try simp only [Act.put, List.setIfInBounds_toArray, List.set_cons_zero, List.set_cons_succ])
            refine wpAnyH_ready (rs := [18]) (by kernel_rfl) (by simp) ?_
            refine AllReadyH.cons rfl (fun K hK => ?_) AllReadyH.nil
            have n9 := (Keeps.refl (fun b => b ≠ mb) w9).setCell (a := ⟨mb, 5, none⟩) (by simp) (.slice (some ⟨g9, 0, none⟩) (x.fs.length + 1) cap9)
            have hpc := row_cell ((n9.block _ (row_lt hp9) n2).trans hp9) 0 rfl
            have hrc := row_cell ((n9.block _ (row_lt hr9) n1).trans hr9) 0 rfl
            have hgx := (n9.block _ (row_lt hg9) n3).trans hg9
            have hg0 := row_cell hgx 0 rfl; have hg1 := row_cell hgx 1 rfl; have hg2 := row_cell hgx 2 rfl
            have PP := HMA.out.grow (e := fuE (.slice a2 x.fs.length c2) x.fs) (e' := fuE (.slice (some ⟨g9, 0, none⟩) (x.fs.length + 1) cap9) (x.fs ++ [(⟨t1, lo, .slice ca code.length cc, code⟩ : Fq5)])) (i := 5) (x' := { x with fv := (.slice (some ⟨g9, 0, none⟩) (x.fs.length + 1) cap9), fs := x.fs ++ [(⟨t1, lo, .slice ca code.length cc, code⟩ : Fq5)] }) (X' := []) (by rw [← HVF.out]; exact HPA.out) (HPB.out _) rfl rfl hgrow9 (by simpa [fuE, fqC] using hown9) (at_of5 hat9 (by show (wr.alloc _).heap.size ≤ _; rw [World.size_alloc]; exact Nat.le_refl _))
            have HM9 := Lib.hid PP.1
            have HK9 := Lib.hid (HKA.out.far (((Keeps.refl (fun b => b ≠ mb ∧ (Value.slice a2 x.fs.length c2).ownBlock ≠ some b) _).grown hgrow9 (fun k hk _ h => h.2 hk)).setCell (a := ⟨mb, 5, none⟩) (fun _ h => h.1 rfl) (.slice (some ⟨g9, 0, none⟩) (x.fs.length + 1) cap9)) (fun b hb h1 h2 => ⟨h1, by rw [← HVF.out]; exact h2⟩))
            go_simp
            refine hK.out _ _ ⟨hrc, hpc, hg0, hg1, hg2⟩ (fun hHeld => ?_)
            clear hK K
            (try simp only [Act.put, List.setIfInBounds_toArray, List.set_cons_zero, List.set_cons_succ])
            refine wpAnyH_done (by kernel_rfl) ?_ _
            go_wp2_with fail
            rw [HAQ.out] at HM9
            exact bodyPost_end (results_none rfl _ _ _) rfl (.inl ⟨_, _, S5.out, rfl, ⟨_, _, rfl, HM9.out⟩, HK9.out⟩)
          · go_simp
            refine hK.out _ _ ⟨z0, z1, z3, z4, z5⟩ (fun hHeld => ?_)
            clear hK K
            (try refine stateAt (d := 80) (by kernel_rfl) ?_)
            (try simp only [Act.put, List.setIfInBounds_toArray, List.set_cons_zero, List.set_cons_succ])
            refine wpAnyH_ready (rs := [12]) (by kernel_rfl) (by simp) ?_
            refine AllReadyH.cons rfl (fun K hK => ?_) AllReadyH.nil
            go_simp
            refine hK.out _ _ ⟨z0, z1, z3, z4, z5⟩ (fun hHeld => ?_)
            clear hK K
            (try refine stateAt (d := 78) (by kernel_rfl) ?_)
            (try simp only [Act.put, List.setIfInBounds_toArray, List.set_cons_zero, List.set_cons_succ])
            refine wpAnyH_ready (rs := [15]) (by kernel_rfl) (by simp) ?_
            refine AllReadyH.cons rfl (fun K hK => ?_) AllReadyH.nil
            clear hHeld
            refine step_append_lies _ (by rfl) _ _ 25 (by rfl) B 49 i1 _ 3 48 Tryd.underlying25 hj hy0 hy1 hy2 rfl (by omega) (.slice a2 x.fs.length c2) x.fs.length (x.fs.flatMap fqC) (by rfl) HOA.out ⟨wr.heap.size, 0, none⟩ 1 1 [.int .i64 t1, .string lo, .slice ca code.length cc] (by rfl) (by rfl) (news3 wr.drew _ _ _ _) (by simp [Value.oneCell']) (by omega) (by unfold maxLen; omega) (by omega) (by show B ≤ (wr.alloc _).heap.size; rw [World.size_alloc]; omega) (wr.heap.size + 1) (by show (wr.alloc _).heap.size = _; rw [World.size_alloc]) ?_
            intro g9 cap9 w9 hown9 hgrow9 hat9 hlt9
            have hm9 := grown_block hgrow9 HMA.out.mrow HNM.out
            have c9 := row_cell hm9 5 rfl
            have f9 := row_free hm9 5
            have hp9 := grown_block hgrow9 HMA.out.rm.row HNP.out
            have hr9 := grown_block hgrow9 HRA.out HNR.out
            have hg9 := grown_block hgrow9 HGA.out HNG.out
            have d9 := row_cell hp9 0 rfl
            have e9 := row_cell hr9 0 rfl
            have y09 := row_cell hg9 0 rfl; have y19 := row_cell hg9 1 rfl; have y29 := row_cell hg9 2 rfl
            refine hK.out _ _ ⟨e9, d9, y09, y19, y29⟩ (fun hHeld => ?_)
            clear hK K
            (try refine stateAt (d := 81) (by kernel_rfl) ?_)
            (try simp only [Act.put, List.setIfInBounds_toArray, List.set_cons_zero, List.set_cons_succ])
            refine takeAt (i := 16) (d := 82) (v := ?_) rfl (by kernel_rfl) (by kernel_rfl) (by kernel_rfl) (by kernel_rfl) (fun _ _ _ h => h) (Or.inl ⟨by kernel_rfl, ?_⟩) (by assumption) ?_
            rotate_left
            · (intro w hSw; (try dsimp only at hSw); go_simp; all_goals (with_reducible rfl))
            (try simp only [Act.put, List.setIfInBounds_toArray, List.set_cons_zero, List.set_cons_succ])
            refine takeAt (i := 17) (d := 83) (v := ?_) rfl (by kernel_rfl) (by kernel_rfl) (by kernel_rfl) (by kernel_rfl) (fun _ _ _ h => h) (Or.inl ⟨by kernel_rfl, ?_⟩) (by assumption) ?_
            rotate_left
            · (intro w hSw; (try dsimp only at hSw); go_simp; all_goals (with_reducible rfl))
            (try simp only [Act.put, List.setIfInBounds_toArray, List.set_cons_zero, List.set_cons_succ])
            refine wpAnyH_ready (rs := [18]) (by kernel_rfl) (by simp) ?_
            refine AllReadyH.cons rfl (fun K hK => ?_) AllReadyH.nil
            have n9 := (Keeps.refl (fun b => b ≠ mb) w9).setCell (a := ⟨mb, 5, none⟩) (by simp) (.slice (some ⟨g9, 0, none⟩) (x.fs.length + 1) cap9)
            have hpc := row_cell ((n9.block _ (row_lt hp9) n2).trans hp9) 0 rfl
            have hrc := row_cell ((n9.block _ (row_lt hr9) n1).trans hr9) 0 rfl
            have hgx := (n9.block _ (row_lt hg9) n3).trans hg9
            have hg0 := row_cell hgx 0 rfl; have hg1 := row_cell hgx 1 rfl; have hg2 := row_cell hgx 2 rfl
            have PP := HMA.out.grow (e := fuE (.slice a2 x.fs.length c2) x.fs) (e' := fuE (.slice (some ⟨g9, 0, none⟩) (x.fs.length + 1) cap9) (x.fs ++ [(⟨t1, lo, .slice ca code.length cc, code⟩ : Fq5)])) (i := 5) (x' := { x with fv := (.slice (some ⟨g9, 0, none⟩) (x.fs.length + 1) cap9), fs := x.fs ++ [(⟨t1, lo, .slice ca code.length cc, code⟩ : Fq5)] }) (X' := []) (by rw [← HVF.out]; exact HPA.out) (HPB.out _) rfl rfl hgrow9 (by simpa [fuE, fqC] using hown9) (at_of5 hat9 (by show (wr.alloc _).heap.size ≤ _; rw [World.size_alloc]; exact Nat.le_refl _))
            have HM9 := Lib.hid PP.1
            have HK9 := Lib.hid (HKA.out.far (((Keeps.refl (fun b => b ≠ mb ∧ (Value.slice a2 x.fs.length c2).ownBlock ≠ some b) _).grown hgrow9 (fun k hk _ h => h.2 hk)).setCell (a := ⟨mb, 5, none⟩) (fun _ h => h.1 rfl) (.slice (some ⟨g9, 0, none⟩) (x.fs.length + 1) cap9)) (fun b hb h1 h2 => ⟨h1, by rw [← HVF.out]; exact h2⟩))
            go_simp
            refine hK.out _ _ ⟨hrc, hpc, hg0, hg1, hg2⟩ (fun hHeld => ?_)
            clear hK K
            (try simp only [Act.put, List.setIfInBounds_toArray, List.set_cons_zero, List.set_cons_succ])
            refine wpAnyH_done (by kernel_rfl) ?_ _
            go_wp2_with fail
            rw [HAQ.out] at HM9
            exact bodyPost_end (results_none rfl _ _ _) rfl (.inl ⟨_, _, S5.out, rfl, ⟨_, _, rfl, HM9.out⟩, HK9.out⟩)
end Go.Proofs.YteaolgldkfjdkaaDoor
