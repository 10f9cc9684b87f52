/- flagonlaw04.InstrWrites, walked. -/
import Derived.Test.YtmlniifdipeboaaDoorBack04
import Derived.Test.YtmlniifdipeboaaDoorRef4b
import Derived.Test.YtmlniifdipeboaaDoorWide
import Derived.Test.YtmlniifdipeboaaDoorBag
import Derived.Deep.RegionHeld3
namespace Go.Proofs.YtmlniifdipeboaaDoor
open Go Go.RowKit

/-- Two rows of bytes, of the same bytes, apart, below G. -/
structure Twin (B0 G : Nat) (w : World) (va vb : Value) (l : List Int) : Prop where
  a : w.ownsRow B0 5 1 va l.length (l.map (Value.int .u8))
  b : w.ownsRow B0 5 1 vb l.length (l.map (Value.int .u8))
  alt : ∀ g, va.ownBlock = some g → g < G
  blt : ∀ g, vb.ownBlock = some g → g < G
  ne : ∀ g, va.ownBlock = some g → vb.ownBlock ≠ some g
  len : l.length ≤ 1073741824
theorem Twin.on {B0 G : Nat} {w w' : World} {va vb : Value} {l : List Int} (h : Twin B0 G w va vb l) (hb : Below G w w') : Twin B0 G w' va vb l :=
  ⟨own_keeps h.a (Keeps.of_below hb) h.alt, own_keeps h.b (Keeps.of_below hb) h.blt, h.alt, h.blt, h.ne, h.len⟩
theorem Twin.up {B0 G G' : Nat} {w : World} {va vb : Value} {l : List Int} (h : Twin B0 G w va vb l) (hG : G ≤ G') : Twin B0 G' w va vb l :=
  ⟨h.a, h.b, fun g hg => Nat.lt_of_lt_of_le (h.alt g hg) hG, fun g hg => Nat.lt_of_lt_of_le (h.blt g hg) hG, h.ne, h.len⟩
theorem Twin.rows {B0 G : Nat} {w : World} {va vb : Value} {m : List Int} (h : Twin B0 G w va vb m) :
    (∀ (k : Nat) v l, [va, vb][k]? = some v → [m, m][k]? = some l → w.ownsRow B0 5 1 v l.length (l.map (Value.int .u8)) ∧ l.length ≤ 1073741824) ∧
    (∀ (k : Nat) v g, [va, vb][k]? = some v → v.ownBlock = some g → g < G) ∧
    (∀ (k j : Nat) v u g, [va, vb][k]? = some v → [va, vb][j]? = some u → v.ownBlock = some g → u.ownBlock = some g → j = k) := by
  refine ⟨fun k v l h1 h2 => ?_, fun k v g h1 h2 => ?_, fun k j v u g h1 h2 h3 h4 => ?_⟩
  · match k, h1, h2 with
    | 0, h1, h2 => obtain rfl := Option.some.inj h1; obtain rfl := Option.some.inj h2; exact ⟨h.a, h.len⟩
    | 1, h1, h2 => obtain rfl := Option.some.inj h1; obtain rfl := Option.some.inj h2; exact ⟨h.b, h.len⟩
    | k + 2, h1, _ => simp at h1
  · match k, h1 with
    | 0, h1 => obtain rfl := Option.some.inj h1; exact h.alt g h2
    | 1, h1 => obtain rfl := Option.some.inj h1; exact h.blt g h2
    | k + 2, h1 => simp at h1
  · match k, j, h1, h2 with
    | 0, 0, _, _ => rfl
    | 1, 1, _, _ => rfl
    | 0, 1, h1, h2 => obtain rfl := Option.some.inj h1; obtain rfl := Option.some.inj h2; exact absurd h4 (h.ne g h3)
    | 1, 0, h1, h2 => obtain rfl := Option.some.inj h1; obtain rfl := Option.some.inj h2; exact absurd h3 (h.ne g h4)
    | k + 2, _, h1, _ => simp at h1
    | _, j + 2, _, h2 => simp at h2
theorem Tb.lt {w : World} (h : Tb w) : 0 < w.heap.size := by
  unfold Tb Lib.TabIs World.var? at h
  obtain ⟨g, hg, h1⟩ := Option.bind_eq_some_iff.1 h
  obtain rfl : g = 0 := Option.some.inj (hg.symm.trans (by kernel_rfl))
  split at h1
  · rename_i cs T fr hr
    exact row_lt hr
  · simp at h1
theorem Tb.low {B : Nat} {w w' : World} (h : Tb w) (hb : Below B w w') (hB : 0 < B) : Tb w' := by
  unfold Tb Lib.TabIs World.var? at *
  obtain ⟨g, hg, h1⟩ := Option.bind_eq_some_iff.1 h
  refine Option.bind_eq_some_iff.2 ⟨g, hg, ?_⟩
  obtain rfl : g = 0 := Option.some.inj (hg.symm.trans (by kernel_rfl))
  split at h1
  · rename_i cs T fr hr
    rw [hb.block _ hB, hr]
    exact h1
  · simp at h1
/-- What was there before anything was written: all of it below B. -/
structure Fx (B : Nat) (w : World) (x : InsD) (gx gk gw : Nat) (vl : Value) : Prop where
  rx : w.heap[gx]? = some (.cells #[.int .u8 x.op, .int .i64 x.a, vl] 81 (0, 0))
  rk : w.heap[gk]? = some (.cells #[.int .u8 x.op, .int .i64 x.a, .slice (some ⟨gw, 0, none⟩) x.l.length (x.l.length + 64)] 81 (0, 0))
  wl : WideL w gw x.l
  rl : RdI .i64 (· < B) w vl x.l
  lx : gx < B
  lk : gk < B
  lw : gw < B
theorem Fx.on {B gx gk gw : Nat} {w w' : World} {x : InsD} {vl : Value} (h : Fx B w x gx gk gw vl) (hb : Below B w w') : Fx B w' x gx gk gw vl :=
  ⟨(hb.block _ h.lx).trans h.rx, (hb.block _ h.lk).trans h.rk, h.wl.keeps (Keeps.of_below hb) h.lw, h.rl.keeps (Keeps.of_below hb), h.lx, h.lk, h.lw⟩
theorem Fx.kept {B gx gk gw : Nat} {w : World} {x : InsD} {vl : Value} (h : Fx B w x gx gk gw vl) (hl : x.l.length ≤ 1048576) : RdI .i64 (· = gw) w (.slice (some ⟨gw, 0, none⟩) x.l.length (x.l.length + 64)) x.l := h.wl.rd (by omega)
theorem Fx.cells {B gx gk gw : Nat} {w : World} {x : InsD} {vl : Value} (h : Fx B w x gx gk gw vl) :
    (w.cell? ⟨gx, 0, none⟩ = some (.int .u8 x.op) ∧ w.cell? ⟨gx, 1, none⟩ = some (.int .i64 x.a) ∧ w.cell? ⟨gx, 2, none⟩ = some vl) ∧
    (w.cell? ⟨gk, 0, none⟩ = some (.int .u8 x.op) ∧ w.cell? ⟨gk, 1, none⟩ = some (.int .i64 x.a) ∧ w.cell? ⟨gk, 2, none⟩ = some (.slice (some ⟨gw, 0, none⟩) x.l.length (x.l.length + 64))) :=
  ⟨⟨row_cell h.rx 0 rfl, row_cell h.rx 1 rfl, row_cell h.rx 2 rfl⟩, ⟨row_cell h.rk 0 rfl, row_cell h.rk 1 rfl, row_cell h.rk 2 rfl⟩⟩
/-- What the comparisons read, at one world; and it holds on. -/
structure Fc (w : World) (x : InsD) (gx gk gw : Nat) (vl va vb vc : Value) : Prop where
  tb : Tb w
  wf : WfIns x
  hl : x.l.length ≤ 1048576
  fx : Fx w.heap.size w x gx gk gw vl
  ra : RdI .u8 (· < w.heap.size) w va (encI x)
  rb : RdI .u8 (· < w.heap.size) w vb (encI x)
  rc : RdI .u8 (· < w.heap.size) w vc (encI x)
theorem Fx.up {B B' gx gk gw : Nat} {w : World} {x : InsD} {vl : Value} (h : Fx B w x gx gk gw vl) (hB : B ≤ B') : Fx B' w x gx gk gw vl :=
  ⟨h.rx, h.rk, h.wl, h.rl.mono fun _ _ hb => Nat.lt_of_lt_of_le hb hB, Nat.lt_of_lt_of_le h.lx hB, Nat.lt_of_lt_of_le h.lk hB, Nat.lt_of_lt_of_le h.lw hB⟩
theorem Fc.on {gx gk gw : Nat} {w w' : World} {x : InsD} {vl va vb vc : Value} (h : Fc w x gx gk gw vl va vb vc) (hb : Below w.heap.size w w') : Fc w' x gx gk gw vl va vb vc :=
  ⟨h.tb.bel hb, h.wf, h.hl, (h.fx.on hb).up hb.size, h.ra.bel hb, h.rb.bel hb, h.rc.bel hb⟩
section
variable {w0 w : World} {x : InsD} {gx gk gw : Nat} {vl va vb vc : Value}
theorem keepI (H : Hid (Fc w0 x gx gk gw vl va vb vc)) (hb : Hid (Below w0.heap.size w0 w)) :
    (w.cell? ⟨gx, 0, none⟩ = some (.int .u8 x.op) ∧ w.cell? ⟨gx, 1, none⟩ = some (.int .i64 x.a) ∧ w.cell? ⟨gx, 2, none⟩ = some vl) ∧
    (w.cell? ⟨gk, 0, none⟩ = some (.int .u8 x.op) ∧ w.cell? ⟨gk, 1, none⟩ = some (.int .i64 x.a) ∧ w.cell? ⟨gk, 2, none⟩ = some (.slice (some ⟨gw, 0, none⟩) x.l.length (x.l.length + 64))) ∧ Hid (Below w0.heap.size w0 w) :=
  ⟨(H.out.on hb.out).fx.cells.1, (H.out.on hb.out).fx.cells.2, hb⟩
theorem fc_check (H : Hid (Fc w0 x gx gk gw vl va vb vc)) (hb : Hid (Below w0.heap.size w0 w)) :
    Calls Tryd.prog 47 #[.agg #[.int .u8 x.op, .int .i64 x.a, .slice (some ⟨gw, 0, none⟩) x.l.length (x.l.length + 64)]] w fun e w' => e = .returned (.int .i64 (checkI x)) ∧ Hid (Below w0.heap.size w0 w') :=
  (instr_Check w _ x _ H.out.wf ((H.out.on hb.out).fx.kept H.out.hl) (H.out.on hb.out).tb).mono fun _ _ ⟨he, h⟩ => ⟨he, hid_next hb (Lib.hid h)⟩
theorem fc_check2 (H : Hid (Fc w0 x gx gk gw vl va vb vc)) (hb : Hid (Below w0.heap.size w0 w)) :
    Calls Tryd.prog 63 #[.agg #[.int .u8 x.op, .int .i64 x.a, vl]] w fun e w' => e = .returned (.int .i64 (checkI x)) ∧ Hid (Below w0.heap.size w0 w') :=
  (ref4_Check w _ x _ H.out.wf (H.out.on hb.out).fx.rl).mono fun _ _ ⟨he, h⟩ => ⟨he, hid_next hb (Lib.hid h)⟩
theorem fc_eqa (H : Hid (Fc w0 x gx gk gw vl va vb vc)) (hb : Hid (Below w0.heap.size w0 w)) :
    Calls Tryd.prog 48 #[va, vc] w fun e w' => e = .returned (.bool true) ∧ Hid (Below w0.heap.size w0 w') :=
  (eqBytes w _ _ _ _ _ _ (H.out.on hb.out).ra (H.out.on hb.out).rc).mono fun _ _ ⟨he, n, h⟩ => ⟨by rw [he, decide_eq_true rfl], by rw [h]; exact hid_drewN hb n⟩
theorem fc_eqb (H : Hid (Fc w0 x gx gk gw vl va vb vc)) (hb : Hid (Below w0.heap.size w0 w)) :
    Calls Tryd.prog 48 #[vb, vc] w fun e w' => e = .returned (.bool true) ∧ Hid (Below w0.heap.size w0 w') :=
  (eqBytes w _ _ _ _ _ _ (H.out.on hb.out).rb (H.out.on hb.out).rc).mono fun _ _ ⟨he, n, h⟩ => ⟨by rw [he, decide_eq_true rfl], by rw [h]; exact hid_drewN hb n⟩
end
theorem encI_len {x : InsD} (wf : WfIns x) : (encI x).length ≤ 200 := by
  by_cases hc : checkI x = 0
  · exact (enc_ok wf hc).2
  · rw [encI, if_neg hc]; decide
theorem below_up {B : Nat} {w w1 w2 : World} (h : Below B w w1) (hB : B ≤ w1.heap.size) (h2 : Below w1.heap.size w1 w2) : Below B w w2 := h.trans (h2.mono hB)

set_option maxRecDepth 100000 in
set_option maxHeartbeats 6400000 in
theorem law_writes04 (w : World) (S) (x : InsD) (vl : Value) (wf : WfIns x) (hr : RdI .i64 S w vl x.l) (ht : Tb w) :
    Calls Tryd.prog 15 #[.agg #[.int .u8 x.op, .int .i64 x.a, vl]] w fun e w' => e = .returned (.bool true) ∧ Below w.heap.size w w' := by
  have HT := Lib.hid ht; have HL := Lib.hid hr; have HWf := Lib.hid wf
  obtain ⟨va0, vc0, rfl, hlc⟩ := hr.lenc
  have HEl := Lib.hid (encI_len wf)
  clear hr ht wf
  have hb1 := below_alloc w (.cells #[.int .u8 x.op, .int .i64 x.a, .slice va0 x.l.length vc0] 81)
  have hr1 := heap_alloc_new w (.cells #[.int .u8 x.op, .int .i64 x.a, .slice va0 x.l.length vc0] 81)
  go_enter Tryd.func15, Tryd.ntmps15
  go_wp2_with fail
  generalize w.alloc (.cells #[.int .u8 x.op, .int .i64 x.a, .slice va0 x.l.length vc0] 81) = w1 at *
  have HB1 := Lib.hid hb1; have HR1 := Lib.hid hr1
  have HT1 := Lib.hid (HT.out.bel hb1)
  have HL1 := Lib.hid (HL.out.any.bel hb1)
  clear hb1 hr1 HL HT
  refine (law_works04 _ HT1.out).mono ?_
  rintro e w2 ⟨rfl, hb2⟩
  have HB2 := Lib.hid (below_next HB1.out hb2)
  have hr2 := (hb2.block _ (row_lt HR1.out)).trans HR1.out
  have HT2 := Lib.hid (HT1.out.bel hb2)
  have HL2 := Lib.hid (HL1.out.bel hb2)
  have x0 := row_cell hr2 0 rfl; have x1 := row_cell hr2 1 rfl; have x2 := row_cell hr2 2 rfl
  simp only [List.getElem_toArray, List.getElem_cons_zero, List.getElem_cons_succ] at x0 x1 x2
  have HR2 := Lib.hid hr2
  clear hb2 hr2 HB1 HR1 HT1 HL1
  by_cases hlen : 1048576 < x.l.length
  · go_wp2
    go_ret
    exact ⟨rfl, HB2.out⟩
  have hlen' : x.l.length ≤ 1048576 := by omega
  clear hlen
  go_wp2_with fail
  refine (wideIns _ _ x.op x.a _ x.l HL2.out (by omega)).mono ?_
  rintro e w3 ⟨gw, rfl, hw3, hgw, hb3⟩
  have hb4 := below_alloc w3 (.cells #[.int .u8 x.op, .int .i64 x.a, .slice (some ⟨gw, 0, none⟩) x.l.length (x.l.length + 64)] 81)
  have hr4 := heap_alloc_new w3 (.cells #[.int .u8 x.op, .int .i64 x.a, .slice (some ⟨gw, 0, none⟩) x.l.length (x.l.length + 64)] 81)
  have y0 := row_cell hr4 0 rfl; have y1 := row_cell hr4 1 rfl; have y2 := row_cell hr4 2 rfl
  simp only [List.getElem_toArray, List.getElem_cons_zero, List.getElem_cons_succ] at y0 y1 y2
  have HB4 := Lib.hid (below_next HB2.out (hb3.trans (hb4.mono hb3.size)))
  have HT4 := Lib.hid ((HT2.out.bel hb3).bel hb4)
  have HF4 : Hid (Fx (w3.alloc (.cells #[.int .u8 x.op, .int .i64 x.a, .slice (some ⟨gw, 0, none⟩) x.l.length (x.l.length + 64)] 81)).heap.size (w3.alloc (.cells #[.int .u8 x.op, .int .i64 x.a, .slice (some ⟨gw, 0, none⟩) x.l.length (x.l.length + 64)] 81)) x w.heap.size w3.heap.size gw (.slice va0 x.l.length vc0)) := by
    have hlt := hw3.lt
    have h2 := row_lt HR2.out
    have h3 := hb3.size
    refine Lib.hid ⟨(hb4.block _ (by omega)).trans ((hb3.block _ h2).trans HR2.out), hr4, hw3.keeps (Keeps.all (fun _ => True) hb4) trivial, (HL2.out.bel hb3).bel hb4, ?_, ?_, ?_⟩ <;> rw [World.size_alloc] <;> omega
  clear hw3 hgw hb3 hb4 hr4 HB2 HT2 HL2 HR2 x0 x1 x2
  go_wp2_with fail
  generalize w3.alloc (.cells #[.int .u8 x.op, .int .i64 x.a, .slice (some ⟨gw, 0, none⟩) x.l.length (x.l.length + 64)] 81) = w4 at *
  generalize w3.heap.size = gk at *
  clear y0 y1 y2
  refine (instr_Encode _ _ x _ HWf.out (HF4.out.kept hlen') HT4.out).mono ?_
  rintro e w5 ⟨va, rfl, hb5, hva, _⟩
  have HB5 := Lib.hid (below_next HB4.out hb5)
  have HT5 := Lib.hid (HT4.out.bel hb5)
  have HF5 := Lib.hid (HF4.out.on hb5)
  have HVA := Lib.hid hva
  have HS5 := Lib.hid hb5.size
  have HS4 := Lib.hid HB4.out.size
  obtain ⟨aa, ca, rfl, _⟩ := own_slice hva
  obtain ⟨y0, y1, y2⟩ := HF5.out.cells.2
  clear hb5 hva HB4 HT4 HF4
  go_wp2_with fail
  clear y0 y1 y2
  refine (instr_Encode _ _ x _ HWf.out (HF5.out.kept hlen') HT5.out).mono ?_
  rintro e w6 ⟨vb, rfl, hb6, hvb, _⟩
  have HB6 := Lib.hid (below_next HB5.out hb6)
  have HT6 := Lib.hid (HT5.out.bel hb6)
  have HF6 := Lib.hid (HF5.out.on (hb6.mono HS5.out))
  have HW6 : Hid (Twin w4.heap.size w6.heap.size w6 (.slice aa (encI x).length ca) vb (encI x)) := Lib.hid ⟨own_below HVA.out hb6, own_base hvb HS5.out, fun g hg => Nat.lt_of_lt_of_le (HVA.out.lt g hg).2 hb6.size, fun g hg => (hvb.lt g hg).2, fun g h1 h2 => by
    have := (HVA.out.lt g h1).2; have := (hvb.lt g h2).1; omega, by have := HEl.out; omega⟩
  have HS6 := Lib.hid (Nat.le_trans HS5.out hb6.size)
  obtain ⟨ab, cb, rfl, _⟩ := own_slice hvb
  obtain ⟨x0, x1, x2⟩ := HF6.out.cells.1
  clear hb6 hvb HB5 HT5 HF5 HVA HS5
  go_wp2_with fail
  clear x0 x1 x2
  refine (ref4_Encode _ _ x _ HWf.out HF6.out.rl).mono ?_
  rintro e w7 ⟨vc, rfl, hb7, hvc, _⟩
  have HB7 := Lib.hid (below_next HB6.out hb7)
  have HT7 := Lib.hid (HT6.out.bel hb7)
  have HF7 := Lib.hid (HF6.out.on (hb7.mono HS6.out))
  have HW7 := Lib.hid ((HW6.out.on hb7).up hb7.size)
  have HC7 := Lib.hid (RdI.of_own hvc (by have := HEl.out; omega)).any
  have HS7 := Lib.hid (Nat.le_trans HS6.out hb7.size)
  obtain ⟨ac, cc, rfl, _⟩ := own_slice hvc
  clear hb7 hvc HB6 HT6 HF6 HW6 HS6
  have hb8 := below_alloc w7 (.cells #[.slice none 0 0, .slice none 0 0, .slice none 0 0, .slice none 0 0, .slice none 0 0, .slice none 0 0, .slice none 0 0, .slice none 0 0, .slice none 0 0, .slice none 0 0, .slice none 0 0, .slice none 0 0, .slice none 0 0, .slice none 0 0, .slice none 0 0, .slice none 0 0, .slice none 0 0] 70)
  have hbg : Bg w7.heap.size (w7.alloc (.cells #[.slice none 0 0, .slice none 0 0, .slice none 0 0, .slice none 0 0, .slice none 0 0, .slice none 0 0, .slice none 0 0, .slice none 0 0, .slice none 0 0, .slice none 0 0, .slice none 0 0, .slice none 0 0, .slice none 0 0, .slice none 0 0, .slice none 0 0, .slice none 0 0, .slice none 0 0] 70)) w7.heap.size (.slice none 0 0) [] := ⟨heap_alloc_new _ _, World.ownsRow_nil _ _ _ _, by simp [Value.ownBlock], Nat.le_refl _⟩
  have HB8 := Lib.hid (below_next HB7.out hb8); have HT8 := Lib.hid (HT7.out.bel hb8); have HF8 := Lib.hid (HF7.out.on (hb8.mono HS7.out)); have HW8 := Lib.hid (HW7.out.on hb8); have HC8 := Lib.hid (HC7.out.keeps (Keeps.of_below hb8)); have HG8 := Lib.hid hbg
  have HL7 := Lib.hid HB7.out.size
  have HTL := Lib.hid HT7.out.lt
  clear hb8 hbg HB7 HT7 HF7 HW7 HC7
  go_wp2_with fail
  generalize w7.alloc (.cells #[.slice none 0 0, .slice none 0 0, .slice none 0 0, .slice none 0 0, .slice none 0 0, .slice none 0 0, .slice none 0 0, .slice none 0 0, .slice none 0 0, .slice none 0 0, .slice none 0 0, .slice none 0 0, .slice none 0 0, .slice none 0 0, .slice none 0 0, .slice none 0 0, .slice none 0 0] 70) = w8 at *
  generalize w7.heap.size = gb at *
  refine (add_bytes _ _ _ _ (.slice aa (encI x).length ca) [] HG8.out (by simp) ⟨_, _, _, rfl⟩).mono ?_
  rintro e w9 ⟨rfl, hv9, hg9, hb9⟩
  have HG9 := Lib.hid hg9
  have HB9 := Lib.hid (HB8.out.trans (hb9.mono HL7.out)); have HF9 := Lib.hid (HF8.out.on (hb9.mono HS7.out)); have HW9 := Lib.hid (HW8.out.on hb9); have HC9 := Lib.hid (HC8.out.keeps (Keeps.of_below hb9)); have HT9 := Lib.hid (HT8.out.low hb9 HTL.out)
  clear hg9 hb9 HG8 HB8 HF8 HW8 HC8 HT8
  go_wp2_with fail
  refine (add_bytes _ _ _ _ (.slice ab (encI x).length cb) _ HG9.out (by simp) ⟨_, _, _, rfl⟩).mono ?_
  rintro e w10 ⟨rfl, hv10, hg10, hb10⟩
  have HG10 : Hid (Bg gb w10 gb hv10 [.slice aa (encI x).length ca, .slice ab (encI x).length cb]) := Lib.hid (by simpa using hg10)
  have HB10 := Lib.hid (HB9.out.trans (hb10.mono HL7.out)); have HF10 := Lib.hid (HF9.out.on (hb10.mono HS7.out)); have HW10 := Lib.hid (HW9.out.on hb10); have HC10 := Lib.hid (HC9.out.keeps (Keeps.of_below hb10)); have HT10 := Lib.hid (HT9.out.low hb10 HTL.out)
  clear hg10 hb10 HG9 HB9 HF9 HW9 HC9 HT9
  have hgl := row_lt HG10.out.row
  have HFc : Hid (Fc w10 x w.heap.size gk gw (.slice va0 x.l.length vc0) (.slice aa (encI x).length ca) (.slice ab (encI x).length cb) (.slice ac (encI x).length cc)) :=
    Lib.hid ⟨HT10.out, HWf.out, hlen', HF10.out.up (by have := HS7.out; omega), (RdI.of_own HW10.out.a (by have := HEl.out; omega)).any, (RdI.of_own HW10.out.b (by have := HEl.out; omega)).any, HC10.out.any⟩
  clear hgl
  obtain ⟨⟨x0, x1, x2⟩, y0, y1, y2⟩ := HFc.out.fx.cells
  have hq := hid_refl w10
  go_wp2_with fail
  go_region_held3 (fun w' => (w'.cell? ⟨w.heap.size, 0, none⟩ = some (Value.int .u8 x.op) ∧ w'.cell? ⟨w.heap.size, 1, none⟩ = some (Value.int .i64 x.a) ∧ w'.cell? ⟨w.heap.size, 2, none⟩ = some (Value.slice va0 x.l.length vc0)) ∧ (w'.cell? ⟨gk, 0, none⟩ = some (Value.int .u8 x.op) ∧ w'.cell? ⟨gk, 1, none⟩ = some (Value.int .i64 x.a) ∧ w'.cell? ⟨gk, 2, none⟩ = some (Value.slice (some ⟨gw, 0, none⟩) x.l.length (x.l.length + 64))) ∧ Hid (Below w10.heap.size w10 w'))
    ((refine keepI HFc ?_; with_reducible first | exact hq | exact hid_drew hq | exact hid_drewN hq _))
    (first
      | (go_at_call 47; (with_reducible refine (fc_check HFc (by with_reducible first | exact hq | exact hid_drew hq | exact hid_drewN hq _)).mono ?_); rintro e w' ⟨rfl, hq⟩)
      | (go_at_call 63; (with_reducible refine (fc_check2 HFc (by with_reducible first | exact hq | exact hid_drew hq | exact hid_drewN hq _)).mono ?_); rintro e w' ⟨rfl, hq⟩)
      | (go_at_call 48; (with_reducible refine (fc_eqa HFc (by with_reducible first | exact hq | exact hid_drew hq | exact hid_drewN hq _)).mono ?_); rintro e w' ⟨rfl, hq⟩)
      | (go_at_call 48; (with_reducible refine (fc_eqb HFc (by with_reducible first | exact hq | exact hid_drew hq | exact hid_drewN hq _)).mono ?_); rintro e w' ⟨rfl, hq⟩))
  have hz10 := HG10.out.hB
  have hs10 := row_lt HG10.out.row
  have HB11 := Lib.hid (below_next HB10.out hq.out)
  have HF11 := Lib.hid (HF10.out.on (hq.out.mono (by have := HS7.out; omega)))
  have HW11 := Lib.hid (HW10.out.on (hq.out.mono (by omega)))
  have HG11 := Lib.hid (HG10.out.on hq.out)
  have HS11 : Hid (w4.heap.size ≤ w'.heap.size) := Lib.hid (by have := HS7.out; have := hq.out.size; omega)
  clear hz10 hs10 HB10 HF10 HW10 HG10 HC10 HT10 HFc x0 x1 x2 y0 y1 y2 hq
  go_wp2_with fail
  obtain ⟨r1, r2, r3⟩ := HW11.out.rows
  refine (bag_apart _ w4.heap.size gb gb hv10 _ [encI x, encI x] HG11.out (by simp) rfl HS7.out r1 r2 r3).mono ?_
  rintro e w12 ⟨rfl, hk⟩
  have hb12 : Below w4.heap.size w' w12 := hk.below HS11.out fun b hb k v h1 h2 => by
    match k, h1 with
    | 0, h1 => obtain rfl := Option.some.inj h1; have := (HW11.out.a.lt b h2).1; omega
    | 1, h1 => obtain rfl := Option.some.inj h1; have := (HW11.out.b.lt b h2).1; omega
    | k + 2, h1 => simp at h1
  have HF12 := Lib.hid (HF11.out.on hb12)
  have HB12 := Lib.hid (HB11.out.trans (hb12.mono HS4.out))
  have HS12 := Lib.hid (Nat.le_trans HS11.out hb12.size)
  obtain ⟨⟨x0, x1, x2⟩, y0, y1, y2⟩ := HF12.out.cells
  clear hk hb12 r1 r2 r3 HF11 HB11 HW11 HG11
  go_wp2_with fail
  refine (eqInsQ _ _ _ x _ _ (HF12.out.kept hlen') HF12.out.rl).mono ?_
  rintro e w13 ⟨rfl, hb13⟩
  have HF13 := Lib.hid (HF12.out.on (hb13.mono HS12.out))
  have HB13 := Lib.hid (below_next HB12.out hb13)
  clear hb13 HF12 HB12 x0 x1 x2 y0 y1 y2
  obtain ⟨y0, y1, y2⟩ := HF13.out.cells.2
  go_wp2_with fail
  refine (spareIns _ gw x.op x.a x.l HF13.out.wl (by omega)).mono ?_
  rintro e w14 ⟨rfl, hb14⟩
  have HB14 := Lib.hid (below_next HB13.out hb14)
  clear hb14 y0 y1 y2
  go_wp2
  go_ret
  exact ⟨rfl, HB14.out⟩
end Go.Proofs.YtmlniifdipeboaaDoor
