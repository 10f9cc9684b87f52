/- module.Encode. -/
import Derived.Test.YtfhkjahjenpbgaaDoorMBody
import Derived.Test.YtfhkjahjenpbgaaDoorMSmall
import Derived.Lib.SlBytesConst
namespace Go.Proofs.YtfhkjahjenpbgaaDoor
open Go Go.RowKit

/-- How Encode stands: its boxes. -/
structure Ec (n : Nat) (w : World) (cs : Array Value) (wx : World) : Prop where
  bel : Below n w wx
  mbox : wx.heap[n]? = some (.cells cs 29 (0, 0))
  bbox : wx.heap[n + 1]? = some (.cells #[.slice none 0 0] 41 (0, 0))
  ebox : wx.heap[n + 1 + 1]? = some (.cells #[.int .i64 0] 38 (0, 0))
  abox : wx.heap[n + 1 + 1 + 1 + 1 + 1]? = some (.cells #[.int .i64 0] 3 (0, 0))
theorem Ec.on {n : Nat} {w : World} {cs : Array Value} {wx wy : World} (h : Ec n w cs wx) (hn : n ≤ w.heap.size) (hk : Keeps (fun b => b ≠ n + 1 + 1 + 1 + 1 ∧ (mgV (n + 1 + 1 + 1)).ownBlock ≠ some b) wx wy) : Ec n w cs wy := by
  have e : ∀ b, (mgV (n + 1 + 1 + 1)).ownBlock ≠ some b ↔ n + 1 + 1 + 1 ≠ b := fun b => by simp [mgV, Value.ownBlock]
  have k : ∀ b, b ≠ n + 1 + 1 + 1 + 1 → b ≠ n + 1 + 1 + 1 → (b ≠ n + 1 + 1 + 1 + 1 ∧ (mgV (n + 1 + 1 + 1)).ownBlock ≠ some b) := fun b h1 h2 => ⟨h1, (e b).2 (Ne.symm h2)⟩
  exact ⟨h.bel.trans (hk.below (Nat.le_trans hn h.bel.size) fun b hb => k b (by omega) (by omega)), (hk.block _ (row_lt h.mbox) (k _ (by omega) (by omega))).trans h.mbox, (hk.block _ (row_lt h.bbox) (k _ (by omega) (by omega))).trans h.bbox,
    (hk.block _ (row_lt h.ebox) (k _ (by omega) (by omega))).trans h.ebox, (hk.block _ (row_lt h.abox) (k _ (by omega) (by omega))).trans h.abox⟩
theorem Ec.start (w : World) (cs : Array Value) : Ec w.heap.size w cs ((((((w.alloc (.cells cs 29)).alloc (.cells #[.slice none 0 0] 41)).alloc (.cells #[.int .i64 0] 38)).alloc (.cells mgC 5 (5, 6))).alloc (.cells #[.pointer none, .int .i64 0, mgV (w.heap.size + 1 + 1 + 1)] 101)).alloc (.cells #[.int .i64 0] 3)) ∧
    W0 ((((((w.alloc (.cells cs 29)).alloc (.cells #[.slice none 0 0] 41)).alloc (.cells #[.int .i64 0] 38)).alloc (.cells mgC 5 (5, 6))).alloc (.cells #[.pointer none, .int .i64 0, mgV (w.heap.size + 1 + 1 + 1)] 101)).alloc (.cells #[.int .i64 0] 3)) (w.heap.size + 1 + 1 + 1 + 1) (w.heap.size + 1 + 1 + 1) none 0 := by
  have st : ∀ (W : World) (o : Obj), Below W.heap.size W (W.alloc o) ∧ (W.alloc o).heap[W.heap.size]? = some o ∧ (W.alloc o).heap.size = W.heap.size + 1 := fun W o => ⟨below_alloc W o, heap_alloc_new W o, World.size_alloc ..⟩
  obtain ⟨b1, r1, s1⟩ := st w (.cells cs 29)
  generalize w.alloc (.cells cs 29) = w1 at *
  obtain ⟨b2, r2, s2⟩ := st w1 (.cells #[.slice none 0 0] 41)
  generalize w1.alloc (.cells #[.slice none 0 0] 41) = w2 at *
  obtain ⟨b3, r3, s3⟩ := st w2 (.cells #[.int .i64 0] 38)
  generalize w2.alloc (.cells #[.int .i64 0] 38) = w3 at *
  obtain ⟨b4, r4, s4⟩ := st w3 (.cells mgC 5 (5, 6))
  generalize w3.alloc (.cells mgC 5 (5, 6)) = w4 at *
  obtain ⟨b5, r5, s5⟩ := st w4 (.cells #[.pointer none, .int .i64 0, mgV (w.heap.size + 1 + 1 + 1)] 101)
  generalize w4.alloc (.cells #[.pointer none, .int .i64 0, mgV (w.heap.size + 1 + 1 + 1)] 101) = w5 at *
  obtain ⟨b6, r6, s6⟩ := st w5 (.cells #[.int .i64 0] 3)
  generalize w5.alloc (.cells #[.int .i64 0] 3) = w6 at *
  rw [s1] at r2
  rw [s2, s1] at r3
  rw [s3, s2, s1] at r4
  rw [s4, s3, s2, s1] at r5
  rw [s5, s4, s3, s2, s1] at r6
  have b56 := b6
  have b46 := below_next b5 b56
  have b36 := below_next b4 b46
  have b26 := below_next b3 b36
  have b16 := below_next b2 b26
  refine ⟨⟨below_next b1 b16, (b16.block _ (by omega)).trans r1, (b26.block _ (by omega)).trans r2, (b36.block _ (by omega)).trans r3, r6⟩, ⟨(b56.block _ (by omega)).trans r5, (b46.block _ (by omega)).trans r4⟩⟩
theorem enc_bad {m : ModD} (h : partsM m ≠ 0) : encM m = ([], partsM m) := by unfold encM; rw [if_pos h]
theorem Ec.low {n : Nat} {w : World} {cs : Array Value} {wx w8 w9 : World} {e : Int} (h : Ec n w cs wx) (hn : n ≤ w.heap.size) (hc : Cau (n + 1 + 1) (n + 1 + 1 + 1 + 1 + 1) e 0 wx w8) (h9 : w9 = w8.setCell ⟨n + 1, 0, none⟩ (.slice none 0 0)) :
    w9.cell? ⟨n + 1, 0, none⟩ = some (.slice none 0 0) ∧ w9.cell? ⟨n + 1 + 1, 0, none⟩ = some (.int .i64 e) ∧ Below n w w9 := by
  subst h9
  have hb := (hc.keep.block (n + 1) (row_lt h.bbox) ⟨by omega, by omega⟩).trans h.bbox
  have hk := (Keeps.refl (fun b => b ≠ n + 1) w8).setCell (a := ⟨n + 1, 0, none⟩) (by simp) (.slice none 0 0)
  have hb9 : (w8.setCell ⟨n + 1, 0, none⟩ (.slice none 0 0)).heap[n + 1]? = some (.cells #[.slice none 0 0] 41 (0, 0)) := by simpa using row_setCell hb 0 (.slice none 0 0)
  refine ⟨row_cell hb9 0 rfl, row_cell ((hk.block _ (row_lt hc.re) (by omega)).trans hc.re) 0 rfl, h.bel.trans ((hc.keep.trans' (T := fun b => b < n) hk fun b _ hb' => ⟨⟨by omega, by omega⟩, by omega⟩).below (Nat.le_trans hn h.bel.size) fun b hb' => hb')⟩
/-- What Encode answers. -/
def EncP (w : World) (m : ModD) (r : Ending) (w' : World) : Prop := ∃ v', r = .returned (.tuple #[v', .int .i64 (encM m).2]) ∧ Below w.heap.size w w' ∧ w'.ownsRow w.heap.size 5 1 v' (encM m).1.length ((encM m).1.map (Value.int .u8)) ∧ ((encM m).2 ≠ 0 → v' = .slice none 0 0)
theorem enc_fail {w w7 : World} {cs : Array Value} {m : ModD} (H : Ec w.heap.size w cs w7) {e : Int} (he : e ≠ 0) (hm : encM m = ([], e)) (tmps : Array Value) (h2 : tmps.getD 2 undef = .pointer (some ⟨w.heap.size + 1, 0, none⟩)) (h3 : tmps.getD 3 undef = .pointer (some ⟨w.heap.size + 1 + 1, 0, none⟩)) :
    bodyPostD Tryd.prog Tryd.f23 (EncP w m) (Exit.panic (thrown e 0)) ⟨tmps, [{ target := Target.fn (Fn.func 27) #[], args := #[.pointer (some ⟨w.heap.size + 1 + 1, 0, none⟩), .pointer (some ⟨w.heap.size + 1 + 1 + 1 + 1 + 1, 0, none⟩)] }, { target := Target.fn (Fn.func 26) #[.pointer (some ⟨w.heap.size + 1 + 1, 0, none⟩), .pointer (some ⟨w.heap.size + 1, 0, none⟩)], args := #[] }]⟩ w7 := by
  refine leaves_cons (f := 27) (args := #[.pointer (some ⟨w.heap.size + 1 + 1, 0, none⟩), .pointer (some ⟨w.heap.size + 1 + 1 + 1 + 1 + 1, 0, none⟩)]) (by simp) (by simp [go_sem]) ?_
  refine (caught_panicking _ _ (by omega) 0 0 e 0 [] w7 H.ebox H.abox).mono ?_
  rintro r u' w8 ⟨rfl, rfl, hc8⟩
  have hb8 := (hc8.keep.block (w.heap.size + 1) (row_lt H.bbox) ⟨by omega, by omega⟩).trans H.bbox
  refine leaves_cons (f := 26) (args := #[.pointer (some ⟨w.heap.size + 1 + 1, 0, none⟩), .pointer (some ⟨w.heap.size + 1, 0, none⟩)]) (by simp [settle]) (by simp [go_sem]) ?_
  refine (enc1_no w8 _ _ _ e he _ hc8.re hb8).mono ?_
  rintro r u' w9 ⟨rfl, rfl, h9⟩
  obtain ⟨k1, k2, k3⟩ := H.low (Nat.le_refl _) hc8 h9
  clear h9
  have h2' : tmps[2]?.getD undef = .pointer (some ⟨w.heap.size + 1, 0, none⟩) := by simpa using h2
  have h3' : tmps[3]?.getD undef = .pointer (some ⟨w.heap.size + 1 + 1, 0, none⟩) := by simpa using h3
  have hp : EncP w m (.returned (.tuple #[.slice none 0 0, .int .i64 e])) w9 := ⟨_, by rw [hm], k3, by rw [hm]; exact World.ownsRow_nil _ _ _ _, fun _ => rfl⟩
  simp [Leaves, settle, results, Tryd.results23, go_sem, k1, k2, h2', h3', hp]
theorem enc_done {w w7 : World} {cs : Array Value} {m : ModD} (H : Ec w.heap.size w cs w7) (v : Value) (hm : encM m = (laidM m, 0)) (ho : w7.ownsRow w.heap.size 5 1 v (laidM m).length ((laidM m).map (Value.int .u8))) (tmps : Array Value) (h2 : tmps.getD 2 undef = .pointer (some ⟨w.heap.size + 1, 0, none⟩)) (h3 : tmps.getD 3 undef = .pointer (some ⟨w.heap.size + 1 + 1, 0, none⟩)) :
    bodyPostD Tryd.prog Tryd.f23 (EncP w m) Exit.ret ⟨tmps, [{ target := Target.fn (Fn.func 27) #[], args := #[.pointer (some ⟨w.heap.size + 1 + 1, 0, none⟩), .pointer (some ⟨w.heap.size + 1 + 1 + 1 + 1 + 1, 0, none⟩)] }, { target := Target.fn (Fn.func 26) #[.pointer (some ⟨w.heap.size + 1 + 1, 0, none⟩), .pointer (some ⟨w.heap.size + 1, 0, none⟩)], args := #[] }]⟩ ((w7.setCell ⟨w.heap.size + 1, 0, none⟩ v).setCell ⟨w.heap.size + 1 + 1, 0, none⟩ (.int .i64 0)) := by
  have k1 := (Keeps.refl (fun b => b ≠ w.heap.size + 1) w7).setCell (a := ⟨w.heap.size + 1, 0, none⟩) (by simp) v
  have r1 : (w7.setCell ⟨w.heap.size + 1, 0, none⟩ v).heap[w.heap.size + 1]? = some (.cells #[v] 41 (0, 0)) := by simpa using row_setCell H.bbox 0 v
  have e1 := (k1.block (w.heap.size + 1 + 1) (row_lt H.ebox) (by omega)).trans H.ebox
  have n1 := own_ne ho H.bbox (by decide)
  have o1 := own_keeps ho k1 fun b hb e => n1 (by rw [← e]; exact hb)
  generalize w7.setCell ⟨w.heap.size + 1, 0, none⟩ v = w8 at *
  have k2 := (Keeps.refl (fun b => b ≠ w.heap.size + 1 + 1) w8).setCell (a := ⟨w.heap.size + 1 + 1, 0, none⟩) (by simp) (.int .i64 0)
  have r2 : (w8.setCell ⟨w.heap.size + 1 + 1, 0, none⟩ (.int .i64 0)).heap[w.heap.size + 1 + 1]? = some (.cells #[.int .i64 0] 38 (0, 0)) := by simpa using row_setCell e1 0 (.int .i64 0)
  have r3 := (k2.block (w.heap.size + 1) (row_lt r1) (by omega)).trans r1
  have n2 := own_ne o1 e1 (by decide)
  have o2 := own_keeps o1 k2 fun b hb e => n2 (by rw [← e]; exact hb)
  generalize w8.setCell ⟨w.heap.size + 1 + 1, 0, none⟩ (.int .i64 0) = w9 at *
  have hbel : Below w.heap.size w w9 := H.bel.trans ((k1.trans' (T := fun b => b < w.heap.size) k2 fun b _ hb' => ⟨by omega, by omega⟩).below H.bel.size fun b hb' => hb')
  have hp : EncP w m (.returned (.tuple #[v, .int .i64 0])) w9 := ⟨v, by rw [hm], hbel, by rw [hm]; exact o2, fun h => absurd (by rw [hm]) h⟩
  have c2 := row_cell r3 0 rfl; have c3 := row_cell r2 0 rfl
  simp only [List.getElem_toArray, List.getElem_cons_zero] at c2 c3
  have h2' : tmps[2]?.getD undef = .pointer (some ⟨w.heap.size + 1, 0, none⟩) := by simpa using h2
  have h3' : tmps[3]?.getD undef = .pointer (some ⟨w.heap.size + 1 + 1, 0, none⟩) := by simpa using h3
  refine leaves_cons (f := 27) (args := #[.pointer (some ⟨w.heap.size + 1 + 1, 0, none⟩), .pointer (some ⟨w.heap.size + 1 + 1 + 1 + 1 + 1, 0, none⟩)]) (by simp) (by simp [go_sem]) ?_
  refine (caught_idle w9 _ _).mono ?_
  rintro r u' w10 ⟨rfl, rfl, rfl⟩
  refine leaves_cons (f := 26) (args := #[.pointer (some ⟨w.heap.size + 1 + 1, 0, none⟩), .pointer (some ⟨w.heap.size + 1, 0, none⟩)]) (by simp [settle]) (by simp [go_sem]) ?_
  refine (enc1_ok w10 _ _ _ r2).mono ?_
  rintro r u' w11 ⟨rfl, rfl, rfl⟩
  simp [Leaves, settle, results, Tryd.results23, go_sem, c2, c3, h2', h3', hp]
set_option maxRecDepth 100000 in
set_option maxHeartbeats 1600000 in
theorem mod_Encode (w : World) (S : Nat → Prop) (hS : ∀ b, S b → b < w.heap.size) (m : ModD) (cs : List Value) (hm : RMod S w cs m) (sm : SmM m) (wf : WfM m) (ht : Tb w) :
    Calls Tryd.prog 23 #[.agg cs.toArray] w (EncP w m) := by
  have hmf : ∀ (fn : Fn) (first cap : Array Value) (w : World), (Instr.makeFunc fn first cap).run Tryd.prog w = .ok (.func fn first cap) w := fun _ _ _ _ => rfl
  have hm0 := hm
  obtain ⟨tv, hv, gv, fv, dv, ev, rfl, r1, r2, r3, r4, r5, r6⟩ := hm
  obtain ⟨ta, tc, rfl, tl⟩ := r1.len
  obtain ⟨ha, hc, rfl, hl⟩ := r2.len
  obtain ⟨ga, gc, rfl, gl⟩ := r3.len
  obtain ⟨fa, fc, rfl, fl⟩ := r4.len
  obtain ⟨da, dc, rfl, dl⟩ := r5.len
  obtain ⟨ea, ec, rfl, el⟩ := r6.len
  have HM := Lib.hid hm0; have HSM := Lib.hid sm; have HWF := Lib.hid wf; have HS := Lib.hid hS; have HT := Lib.hid ht
  clear hm0 sm wf hS ht r1 r2 r3 r4 r5 r6
  have kc := Lib.run_convert_bytes_const (P := Tryd.prog) (((w.alloc (.cells #[.slice ta m.types.length tc, .slice ha m.hosts.length hc, .slice ga m.globals.length gc, .int .i64 m.first, .int .i64 m.most, .slice fa m.funs.length fc, .slice da m.datas.length dc, .slice ea m.exps.length ec] 29)).alloc (.cells #[.slice none 0 0] 41)).alloc (.cells #[.int .i64 0] 38)) 41 5 #[.int .u8 70, .int .u8 76, .int .u8 71, .int .u8 78, .int .u8 1] 5 5 Tryd.underlying41 Tryd.underlying5
  simp only [World.size_alloc, List.size_toArray, List.length_cons, List.length_nil] at kc
  go_enter_defers Tryd.func23, Tryd.ntmps23
  go_wp2_with fail
  have HS0 := Lib.hid (Ec.start w #[.slice ta m.types.length tc, .slice ha m.hosts.length hc, .slice ga m.globals.length gc, .int .i64 m.first, .int .i64 m.most, .slice fa m.funs.length fc, .slice da m.datas.length dc, .slice ea m.exps.length ec])
  have HM6 := Lib.hid (HM.out.keeps (Keeps.all S HS0.out.1.bel))
  clear kc
  refine (wm_head w.heap.size _ _ _ _ _ HS0.out.2 HS0.out.1.bel.size ⟨by omega, by omega⟩ S HS.out m _ HM6.out HSM.out HWF.out (mgV (w.heap.size + 1 + 1 + 1)) rfl magicM rfl).mono ?_
  rintro e w7 (⟨e1, rfl, hmb, sb, tvs, v7, hh, hhl⟩ | ⟨e1, rfl, hk⟩)
  rotate_left
  · have HE7 := Lib.hid (HS0.out.1.on (Nat.le_refl _) hk)
    clear HS0 HM6 hk
    exact enc_fail HE7.out e1 (by rw [enc_bad (m := m) (by rw [parts_hb, thenE_l _ e1]; exact e1), parts_hb, thenE_l _ e1]) _ rfl rfl
  · have HHS := Lib.hid hh
    have HE7 := Lib.hid (HS0.out.1.on (Nat.le_refl _) hh.wt.keep)
    have HM7 := Lib.hid (HM.out.keeps (Keeps.all S HE7.out.bel))
    have HB6 := Lib.hid HS0.out.1.bel
    have HC6 := Lib.hid HS0.out.1
    clear HS0 HM6 hh
    have x0 := row_cell HE7.out.mbox 0 rfl; have x1 := row_cell HE7.out.mbox 1 rfl; have x2 := row_cell HE7.out.mbox 2 rfl; have x3 := row_cell HE7.out.mbox 3 rfl
    have x4 := row_cell HE7.out.mbox 4 rfl; have x5 := row_cell HE7.out.mbox 5 rfl; have x6 := row_cell HE7.out.mbox 6 rfl; have x7 := row_cell HE7.out.mbox 7 rfl
    simp only [List.getElem_toArray, List.getElem_cons_zero, List.getElem_cons_succ] at x0 x1 x2 x3 x4 x5 x6 x7
    go_wp2_with fail
    refine (wm_body w w.heap.size rfl _ _ _ _ S m _ hmb sb tvs v7 w7 HHS.out HB6.out HT.out e1 hhl HSM.out HWF.out).mono ?_
    rintro e w8 (⟨e2, rfl, mb2, al2, v8, hh8⟩ | ⟨e2, rfl, hk8⟩)
    rotate_left
    · have HE8 := Lib.hid (HC6.out.on (Nat.le_refl _) hk8)
      have hp : partsM m = bodyE m := by rw [parts_hb, thenE_r _ e1]
      exact enc_fail HE8.out e2 (by rw [enc_bad (m := m) (by rw [hp]; exact e2), hp]) _ rfl rfl
    · have HE8 := Lib.hid (HC6.out.on (Nat.le_refl _) hh8.wt.keep)
      have HP0 : Hid (partsM m = 0) := Lib.hid (by rw [parts_hb, thenE_r _ e1, e2])
      have HLA : Hid (magicM ++ headB m ++ bodyB m = laidM m) := Lib.hid (by rw [laidM, body_hb, List.append_assoc])
      have HW8 := Lib.hid hh8.wm
      clear hh8 HE7 HM7 HC6 HB6 HHS x0 x1 x2 x3 x4 x5 x6 x7 hhl
      rw [HLA.out] at HW8
      obtain ⟨a8, c8, rfl, _⟩ := own_slice HW8.out.own
      have p2 := row_cell HW8.out.row 2 rfl
      have b0 := row_cell HE8.out.bbox 0 rfl; have bf := row_free HE8.out.bbox 0; have ee0 := row_cell HE8.out.ebox 0 rfl; have ef := row_free HE8.out.ebox 0
      simp only [List.getElem_toArray, List.getElem_cons_zero, List.getElem_cons_succ] at p2 b0 ee0
      by_cases hlen : 65536 < (laidM m).length
      · have HM : Hid (encM m = ([], 13)) := Lib.hid (by unfold encM; rw [if_neg (by rw [HP0.out]; simp), if_pos hlen])
        generalize (laidM m).length = L at *
        have hd : decide ((L : Int) ≤ 65536) = false := decide_eq_false (by omega)
        go_wp2_with (go_at_call 30; refine (mod_ask _ _ _ _).mono ?_; rintro r w1 ⟨rfl, rfl⟩)
        exact enc_fail HE8.out (by decide) HM.out _ rfl rfl
      · have HM : Hid (encM m = (laidM m, 0)) := Lib.hid (by unfold encM; rw [if_neg (by rw [HP0.out]; simp), if_neg hlen])
        have HOL := Lib.hid HW8.out.own
        generalize hLL : (laidM m).length = L at *
        have HLL := Lib.hid hLL
        clear hLL
        have hd : decide ((L : Int) ≤ 65536) = true := decide_eq_true (by omega)
        go_wp2_with (go_at_call 30; refine (mod_ask _ _ _ _).mono ?_; rintro r w1 ⟨rfl, rfl⟩)
        refine enc_done HE8.out _ HM.out (by rw [HLL.out]; exact HOL.out) _ rfl rfl
end Go.Proofs.YtfhkjahjenpbgaaDoor
