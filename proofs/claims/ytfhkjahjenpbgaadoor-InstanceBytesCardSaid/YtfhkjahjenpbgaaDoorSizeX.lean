/- flagonref00.SizeModule: what it bounds. -/
import Derived.Test.YtfhkjahjenpbgaaDoorSizeC
import Derived.Test.YtfhkjahjenpbgaaDoorHead5
import Derived.Test.YtfhkjahjenpbgaaDoorMAlone
import Derived.BigQuiet
import Derived.Test.YtfhkjahjenpbgaaDoorMVw1
namespace Go.Proofs.YtfhkjahjenpbgaaDoor
open Go Go.RowKit

theorem bel_drewN6 {B : Nat} {w w' : World} (h : Below B w w') (n : Nat) : Below B w (w'.drewN n) := ⟨h.os, h.tape, h.output, h.size, h.block⟩

def sumK {α : Type} (c : α → Nat) (l : List α) (k : Nat) : Nat := ((l.take k).map c).sum
theorem sumK_zero {α : Type} (c : α → Nat) (l : List α) : sumK c l 0 = 0 := by simp [sumK]
theorem sumK_all {α : Type} (c : α → Nat) (l : List α) : sumK c l l.length = (l.map c).sum := by rw [sumK, List.take_length]
theorem sumK_succ {α : Type} (c : α → Nat) {l : List α} {k : Nat} (h : k < l.length) : sumK c l (k + 1) = sumK c l k + c l[k] := by
  unfold sumK
  rw [take_snoc h, List.map_append, List.sum_append]
  simp
set_option maxRecDepth 100000 in
set_option maxHeartbeats 1600000 in
theorem sizeCodeX (w : World) (v : Value) (l : List InsD) (hc : Cd w v l) :
    Calls Tryd.prog 10 #[v] w fun e w' => ∃ m : Nat, e = .returned (.int .i64 m) ∧ w' = w ∧ m ≤ 281474976710656 ∧ (m ≤ 2147483647 → m = totC l) := by
  have HC := Lib.hid hc
  obtain ⟨va, vc, rfl, _⟩ := hc.len
  have hn := (Cd.lens hc).2
  clear hc
  go_enter Tryd.func10, Tryd.ntmps10
  go_wp2
  go_loopw [3, 4] (fun m i wr => ∃ k n : Nat, k ≤ l.length ∧ i = .int .i64 k ∧ m = .int .i64 n ∧ wr = w ∧ n ≤ 281474976710656 ∧ Hid (n = l.length + sumK (fun x : InsD => x.l.length) l k)) (fun _ i _ => l.length - (intOf i).toNat)
  case atStart => exact ⟨0, l.length, by omega, rfl, rfl, rfl, by omega, Lib.hid (by rw [sumK_zero]; omega)⟩
  case round =>
    obtain ⟨k, n, hk, rfl, rfl, rfl, hnb, HJ⟩ := hrel
    by_cases hlt : k < l.length
    · by_cases hb : n ≤ 2147483647
      · obtain ⟨b, off, vl, rfl, -, -, x2, hrl⟩ := Cd.at_ HC.out hlt
        obtain ⟨al, cl, rfl, hll⟩ := hrl.len
        have HJ2 : Hid (n + l[k].l.length = l.length + sumK (fun x : InsD => x.l.length) l (k + 1)) := Lib.hid (by have := HJ.out; have := sumK_succ (fun x : InsD => x.l.length) hlt; (try simp only at this); omega)
        clear hrl
        generalize l[k].l.length = ln at *
        go_wp2
        go_roundw
        case rel => exact ⟨k + 1, n + ln, by omega, by go_num, by go_num, by trivial, by omega, HJ2⟩
        case measure => simp [intOf]; omega
      · go_wp2
        go_ret
        exact ⟨n, rfl, rfl, hnb, fun h => absurd h hb⟩
    · go_wp2
      go_ret
      obtain rfl : k = l.length := by omega
      exact ⟨n, rfl, rfl, hnb, fun _ => by have h1 := HJ.out; rw [sumK_all] at h1; unfold totC; exact h1⟩
/-- The number of a module's things. -/
def sixM (m : ModD) : Nat := m.types.length + m.hosts.length + m.globals.length + m.funs.length + m.datas.length + m.exps.length
set_option maxRecDepth 100000 in
set_option maxHeartbeats 3200000 in
theorem sizeModX (w : World) (S : Nat → Prop) (cs : List Value) (m : ModD) (h : RMod S w cs m) (hsm : SmM m) :
    Calls Tryd.prog 5 #[.agg cs.toArray] w fun e w' => ∃ z : Nat, e = .returned (.int .i64 z) ∧ Below w.heap.size w w' ∧ (z ≤ 2147483647 → z = totM m) := by
  have SM := Lib.hid hsm
  clear hsm
  obtain ⟨v1, v2, v3, v4, v5, v6, rfl, r1, r2, r3, r4, r5, r6⟩ := h
  obtain ⟨at0, at1, rfl, l1⟩ := r1.len
  obtain ⟨ah0, ah1, rfl, l2⟩ := r2.len
  obtain ⟨ag0, ag1, rfl, l3⟩ := r3.len
  obtain ⟨af0, af1, rfl, l4⟩ := r4.len
  obtain ⟨ad0, ad1, rfl, l5⟩ := r5.len
  obtain ⟨ae0, ae1, rfl, l6⟩ := r6.len
  obtain ⟨_, _, e1, c1, -, p1⟩ := r1
  simp only [Value.slice.injEq] at e1
  obtain ⟨rfl, -, rfl⟩ := e1
  have R1 := Lib.hid p1
  clear p1
  obtain ⟨_, _, e4, c4, -, p4⟩ := r4
  simp only [Value.slice.injEq] at e4
  obtain ⟨rfl, -, rfl⟩ := e4
  have R4 := Lib.hid p4
  clear p4
  obtain ⟨_, _, e5, c5, -, p5⟩ := r5
  simp only [Value.slice.injEq] at e5
  obtain ⟨rfl, -, rfl⟩ := e5
  have R5 := Lib.hid p5
  clear p5
  obtain ⟨_, _, e6, c6, -, p6⟩ := r6
  simp only [Value.slice.injEq] at e6
  obtain ⟨rfl, -, rfl⟩ := e6
  have R6 := Lib.hid p6
  clear p6
  clear r2 r3
  have HA := Lib.hid (heap_alloc_new w (.cells #[.slice at0 m.types.length at1, .slice ah0 m.hosts.length ah1, .slice ag0 m.globals.length ag1, .int .i64 m.first, .int .i64 m.most, .slice af0 m.funs.length af1, .slice ad0 m.datas.length ad1, .slice ae0 m.exps.length ae1] 29))
  have hbel := below_alloc w (.cells #[.slice at0 m.types.length at1, .slice ah0 m.hosts.length ah1, .slice ag0 m.globals.length ag1, .int .i64 m.first, .int .i64 m.most, .slice af0 m.funs.length af1, .slice ad0 m.datas.length ad1, .slice ae0 m.exps.length ae1] 29)
  obtain ⟨L0, hL0⟩ : ∃ L0, m.types.length + m.hosts.length + m.globals.length + m.funs.length + m.datas.length + m.exps.length = L0 := ⟨_, rfl⟩
  have HL : Hid (L0 ≤ 2147483647 → L0 = sixM m + sumK (fun x : SigD => x.1.size + x.2.size) m.types 0) := Lib.hid fun _ => by rw [sumK_zero]; unfold sixM; omega
  go_enter Tryd.func5, Tryd.ntmps5
  have y0 := row_cell HA.out 0 rfl; have y1 := row_cell HA.out 1 rfl; have y2 := row_cell HA.out 2 rfl; have y5 := row_cell HA.out 5 rfl; have y6 := row_cell HA.out 6 rfl; have y7 := row_cell HA.out 7 rfl
  simp only [List.getElem_toArray, List.getElem_cons_zero, List.getElem_cons_succ] at y0 y1 y2 y5 y6 y7
  go_wp2_with fail
  go_loopw [3, 4] (fun n i wr => ∃ (k z : Nat), k ≤ m.types.length ∧ z ≤ 1125899906842624 ∧ i = .int .i64 k ∧ n = .int .i64 z ∧ Below w.heap.size w wr ∧ Hid (wr.heap[w.heap.size]? = some (.cells #[.slice at0 m.types.length at1, .slice ah0 m.hosts.length ah1, .slice ag0 m.globals.length ag1, .int .i64 m.first, .int .i64 m.most, .slice af0 m.funs.length af1, .slice ad0 m.datas.length ad1, .slice ae0 m.exps.length ae1] 29 (0, 0))) ∧ Hid (z ≤ 2147483647 → z = sixM m + sumK (fun x : SigD => x.1.size + x.2.size) m.types k)) (fun _ i _ => m.types.length - (intOf i).toNat)
  case atStart => exact ⟨0, L0, by omega, by omega, rfl, by go_num, hbel, HA, HL⟩
  case round =>
    clear hbel HA HL y0 y5 y6 y7
    obtain ⟨k, z, hk, hz, rfl, rfl, hbel, HA, HL⟩ := hrel
    have y0 := row_cell HA.out 0 rfl; have y5 := row_cell HA.out 5 rfl; have y6 := row_cell HA.out 6 rfl; have y7 := row_cell HA.out 7 rfl
    simp only [List.getElem_toArray, List.getElem_cons_zero, List.getElem_cons_succ] at y0 y5 y6 y7
    by_cases hlt : k < m.types.length
    · by_cases hb : z ≤ 2147483647
      · have hd : decide ((z : Int) ≤ 2147483647) = true := decide_eq_true (by omega)
        obtain ⟨b1, o1, cs1, hb1, _, _, hc1, hr1⟩ := R1.out k hlt
        obtain rfl := hb1
        have hr1 : cs1 = [.string m.types[k].1, .string m.types[k].2] := hr1
        subst hr1
        have e0 := cell_below hbel (hc1 0 (by omega)); have e1 := cell_below hbel (hc1 1 (by omega))
        simp at e0 e1
        clear hc1
        have hbd := SM.out.types _ (List.getElem_mem hlt)
        go_wp2_with fail
        go_quiet (fail)
        go_wp2_with fail
        go_roundw
        case rel =>
          refine ⟨k + 1, z + (m.types[k].1.size + m.types[k].2.size), by omega, by omega, by go_num, by go_num, (by first | exact hbel | exact hbel.drew | exact bel_drewN6 hbel _), HA, Lib.hid (fun hz2 => ?_)⟩
          exact by have h1 := HL.out (by omega); have h2 := sumK_succ (fun x : SigD => x.1.size + x.2.size) hlt; (try simp only at h2); omega
        case measure => simp [intOf]; omega
      · have hd : decide ((z : Int) ≤ 2147483647) = false := decide_eq_false (by omega)
        have HL : Hid (z ≤ 2147483647 → z = sixM m + (m.types.map (fun x : SigD => x.1.size + x.2.size)).sum + sumK (totF) m.funs 0) := Lib.hid fun h => absurd h hb
        go_wp2_with fail
        go_loopw [3, 5] (fun n i wr => ∃ (k z : Nat), k ≤ m.funs.length ∧ z ≤ 1125899906842624 ∧ i = .int .i64 k ∧ n = .int .i64 z ∧ Below w.heap.size w wr ∧ Hid (wr.heap[w.heap.size]? = some (.cells #[.slice at0 m.types.length at1, .slice ah0 m.hosts.length ah1, .slice ag0 m.globals.length ag1, .int .i64 m.first, .int .i64 m.most, .slice af0 m.funs.length af1, .slice ad0 m.datas.length ad1, .slice ae0 m.exps.length ae1] 29 (0, 0))) ∧ Hid (z ≤ 2147483647 → z = sixM m + (m.types.map (fun x : SigD => x.1.size + x.2.size)).sum + sumK (totF) m.funs k)) (fun _ i _ => m.funs.length - (intOf i).toNat)
        case atStart => exact ⟨0, z, by omega, by omega, rfl, rfl, hbel, HA, HL⟩
        case round =>
          clear hbel HA HL y0 y5 y6 y7
          obtain ⟨k, z, hk, hz, rfl, rfl, hbel, HA, HL⟩ := hrel
          have y0 := row_cell HA.out 0 rfl; have y5 := row_cell HA.out 5 rfl; have y6 := row_cell HA.out 6 rfl; have y7 := row_cell HA.out 7 rfl
          simp only [List.getElem_toArray, List.getElem_cons_zero, List.getElem_cons_succ] at y0 y5 y6 y7
          by_cases hlt : k < m.funs.length
          · by_cases hb : z ≤ 2147483647
            · have hd : decide ((z : Int) ≤ 2147483647) = true := decide_eq_true (by omega)
              obtain ⟨b1, o1, cs1, hb1, _, _, hc1, v, hr1, hr2⟩ := R4.out k hlt
              obtain rfl := hb1
              subst hr1
              obtain ⟨va, vc, rfl, -⟩ := hr2.len
              have HCD : Hid (Cd wr.drew (.slice va m.funs[k].code.length vc) m.funs[k].code) := Lib.hid (CdS.any (CdS.keeps hr2 (Keeps.all S hbel.drew) fun _ h => h))
              have e1 := cell_below hbel (hc1 1 (by omega)); have e2 := cell_below hbel (hc1 2 (by omega))
              (try simp at e1 e2)
              clear hc1 hr2
              have hbd := SM.out.funs _ (List.getElem_mem hlt)
              have e1' : wr.cell? ⟨b1, o1 + k * 3 + 1, none⟩ = some (.string m.funs[k].locals) := e1
              have e2' : wr.cell? ⟨b1, o1 + k * 3 + 2, none⟩ = some (.slice va m.funs[k].code.length vc) := e2
              have hk0 : (0 : Int) ≤ k := by omega
              have hkl : (k : Int) < m.funs.length := by omega
              have hkc : (k : Int) ≤ af1 := by omega
              go_wp2_with fail
              refine wp_region_held_drew (S := (fun wx => wx.cell? ⟨w.heap.size, 5, none⟩ = some (.slice (some ⟨b1, o1, none⟩) m.funs.length af1) ∧ wx.cell? ⟨b1, o1 + k * 3 + 1, none⟩ = some (.string m.funs[k].locals) ∧ wx.cell? ⟨b1, o1 + k * 3 + 2, none⟩ = some (.slice va m.funs[k].code.length vc))) (by kernel_rfl) ⟨y5, e1', e2'⟩ (fun hHeld => ?_)
              refine takeAt (i := 0) (d := 70) (v := ?_) rfl (by kernel_rfl) (by kernel_rfl) (by kernel_rfl) (by kernel_rfl) (fun _ _ _ h => h) (Or.inl ⟨by kernel_rfl, ?_⟩) (by assumption) ?_
              rotate_left
              · (intro w hSw; (try dsimp only at hSw); go_simp; all_goals (with_reducible rfl))
              (try simp only [Act.put, List.setIfInBounds_toArray, List.set_cons_zero, List.set_cons_succ])
              refine takeAt (i := 1) (d := 71) (v := ?_) rfl (by kernel_rfl) (by kernel_rfl) (by kernel_rfl) (by kernel_rfl) (fun _ _ _ h => h) (Or.inl ⟨by kernel_rfl, ?_⟩) (by assumption) ?_
              rotate_left
              · (intro w hSw; (try dsimp only at hSw); go_simp; all_goals (with_reducible rfl))
              (try simp only [Act.put, List.setIfInBounds_toArray, List.set_cons_zero, List.set_cons_succ])
              refine takeAt (i := 2) (d := 72) (v := ?_) rfl (by kernel_rfl) (by kernel_rfl) (by kernel_rfl) (by kernel_rfl) (fun _ _ _ h => h) (Or.inl ⟨by kernel_rfl, ?_⟩) (by assumption) ?_
              rotate_left
              · (intro w hSw; (try dsimp only at hSw); go_simp; all_goals (with_reducible rfl))
              (try simp only [Act.put, List.setIfInBounds_toArray, List.set_cons_zero, List.set_cons_succ])
              refine takeAt (i := 3) (d := 73) (v := ?_) rfl (by kernel_rfl) (by kernel_rfl) (by kernel_rfl) (by kernel_rfl) (fun _ _ _ h => h) (Or.inl ⟨by kernel_rfl, ?_⟩) (by assumption) ?_
              rotate_left
              · (intro w hSw; (try dsimp only at hSw); go_simp; all_goals (with_reducible rfl))
              (try simp only [Act.put, List.setIfInBounds_toArray, List.set_cons_zero, List.set_cons_succ])
              refine takeAt (i := 4) (d := 74) (v := ?_) rfl (by kernel_rfl) (by kernel_rfl) (by kernel_rfl) (by kernel_rfl) (fun _ _ _ h => h) (Or.inl ⟨by kernel_rfl, ?_⟩) (by assumption) ?_
              rotate_left
              · (intro w hSw; (try dsimp only at hSw); go_simp; all_goals (with_reducible rfl))
              (try simp only [Act.put, List.setIfInBounds_toArray, List.set_cons_zero, List.set_cons_succ])
              refine takeAt (i := 5) (d := 75) (v := ?_) rfl (by kernel_rfl) (by kernel_rfl) (by kernel_rfl) (by kernel_rfl) (fun _ _ _ h => h) (Or.inl ⟨by kernel_rfl, ?_⟩) (by assumption) ?_
              rotate_left
              · (intro w hSw; (try dsimp only at hSw); go_simp; all_goals (with_reducible rfl))
              (try simp only [Act.put, List.setIfInBounds_toArray, List.set_cons_zero, List.set_cons_succ])
              refine takeAt (i := 6) (d := 76) (v := ?_) rfl (by kernel_rfl) (by kernel_rfl) (by kernel_rfl) (by kernel_rfl) (fun _ _ _ h => h) (Or.inl ⟨by kernel_rfl, ?_⟩) (by assumption) ?_
              rotate_left
              · (intro w hSw; (try dsimp only at hSw); go_simp; all_goals (with_reducible rfl))
              (try simp only [Act.put, List.setIfInBounds_toArray, List.set_cons_zero, List.set_cons_succ])
              refine takeAt (i := 7) (d := 77) (v := ?_) rfl (by kernel_rfl) (by kernel_rfl) (by kernel_rfl) (by kernel_rfl) (fun _ _ _ h => h) (Or.inl ⟨by kernel_rfl, ?_⟩) (by assumption) ?_
              rotate_left
              · (intro w hSw; (try dsimp only at hSw); go_simp; all_goals (with_reducible rfl))
              (try simp only [Act.put, List.setIfInBounds_toArray, List.set_cons_zero, List.set_cons_succ])
              refine takeAt (i := 8) (d := 78) (v := ?_) rfl (by kernel_rfl) (by kernel_rfl) (by kernel_rfl) (by kernel_rfl) (fun _ _ _ h => h) (Or.inl ⟨by kernel_rfl, ?_⟩) (by assumption) ?_
              rotate_left
              · (intro w hSw; (try dsimp only at hSw); go_simp; all_goals (with_reducible rfl))
              (try simp only [Act.put, List.setIfInBounds_toArray, List.set_cons_zero, List.set_cons_succ])
              refine takeAt (i := 9) (d := 79) (v := ?_) rfl (by kernel_rfl) (by kernel_rfl) (by kernel_rfl) (by kernel_rfl) (fun _ _ _ h => h) (Or.inl ⟨by kernel_rfl, ?_⟩) (by assumption) ?_
              rotate_left
              · (intro w hSw; (try dsimp only at hSw); go_simp; all_goals (with_reducible rfl))
              (try simp only [Act.put, List.setIfInBounds_toArray, List.set_cons_zero, List.set_cons_succ])
              refine takeAt (i := 10) (d := 80) (v := ?_) rfl (by kernel_rfl) (by kernel_rfl) (by kernel_rfl) (by kernel_rfl) (fun _ _ _ h => h) (Or.inl ⟨by kernel_rfl, ?_⟩) (by assumption) ?_
              rotate_left
              · (intro w hSw; (try dsimp only at hSw); go_simp; all_goals (with_reducible rfl))
              (try simp only [Act.put, List.setIfInBounds_toArray, List.set_cons_zero, List.set_cons_succ])
              refine takeAt (i := 11) (d := 81) (v := ?_) rfl (by kernel_rfl) (by kernel_rfl) (by kernel_rfl) (by kernel_rfl) (fun _ _ _ h => h) (Or.inl ⟨by kernel_rfl, ?_⟩) (by assumption) ?_
              rotate_left
              · (intro w hSw; (try dsimp only at hSw); go_simp; all_goals (with_reducible rfl))
              (try simp only [Act.put, List.setIfInBounds_toArray, List.set_cons_zero, List.set_cons_succ])
              refine takeAt (i := 12) (d := 82) (v := ?_) rfl (by kernel_rfl) (by kernel_rfl) (by kernel_rfl) (by kernel_rfl) (fun _ _ _ h => h) (Or.inl ⟨by kernel_rfl, ?_⟩) (by assumption) ?_
              rotate_left
              · (intro w hSw; (try dsimp only at hSw); go_simp; all_goals (with_reducible rfl))
              (try simp only [Act.put, List.setIfInBounds_toArray, List.set_cons_zero, List.set_cons_succ])
              refine takeAt (i := 13) (d := 83) (v := ?_) rfl (by kernel_rfl) (by kernel_rfl) (by kernel_rfl) (by kernel_rfl) (fun _ _ _ h => h) (Or.inl ⟨by kernel_rfl, ?_⟩) (by assumption) ?_
              rotate_left
              · (intro w hSw; (try dsimp only at hSw); go_simp; all_goals (with_reducible rfl))
              (try simp only [Act.put, List.setIfInBounds_toArray, List.set_cons_zero, List.set_cons_succ])
              refine takeAt (i := 14) (d := 84) (v := ?_) rfl (by kernel_rfl) (by kernel_rfl) (by kernel_rfl) (by kernel_rfl) (fun _ _ _ h => h) (Or.inl ⟨by kernel_rfl, ?_⟩) (by assumption) ?_
              rotate_left
              · (intro w hSw; (try dsimp only at hSw); go_simp; all_goals (with_reducible rfl))
              (try simp only [Act.put, List.setIfInBounds_toArray, List.set_cons_zero, List.set_cons_succ])
              refine wpAnyH_ready (rs := [15]) (by kernel_rfl) (by simp) ?_
              refine AllReadyH.cons rfl (fun K hK => ?_) AllReadyH.nil
              go_simp
              refine (sizeCodeX _ _ _ HCD.out).mono ?_
              rintro e w5 ⟨sm, rfl, hw5, hsm, hsp⟩
              have HSP := Lib.hid hsp
              clear hsp
              obtain rfl := hw5.symm
              go_wp2_with fail
              refine hK.out _ _ hHeld (fun hHeld => ?_)
              clear hK K
              (try refine stateAt (d := 85) (by kernel_rfl) ?_)
              (try simp only [Act.put, List.setIfInBounds_toArray, List.set_cons_zero, List.set_cons_succ])
              refine takeAt (i := 16) (d := 86) (v := ?_) rfl (by kernel_rfl) (by kernel_rfl) (by kernel_rfl) (by kernel_rfl) (fun _ _ _ h => h) (Or.inl ⟨by kernel_rfl, ?_⟩) (by assumption) ?_
              rotate_left
              · (intro w hSw; (try dsimp only at hSw); go_simp; all_goals (with_reducible rfl))
              (try simp only [Act.put, List.setIfInBounds_toArray, List.set_cons_zero, List.set_cons_succ])
              refine takeAt (i := 17) (d := 3) (v := ?_) rfl (by kernel_rfl) (by kernel_rfl) (by kernel_rfl) (by kernel_rfl) (fun _ _ _ h => h) (Or.inl ⟨by kernel_rfl, ?_⟩) (by assumption) ?_
              rotate_left
              · (intro w hSw; (try dsimp only at hSw); go_simp; all_goals (with_reducible rfl))
              (try simp only [Act.put, List.setIfInBounds_toArray, List.set_cons_zero, List.set_cons_succ])
              refine wpAnyH_done (by kernel_rfl) ?_ _
              go_wp2_with fail
              go_roundw
              case rel =>
                refine ⟨k + 1, z + (m.funs[k].locals.size + sm), by omega, by omega, by go_num, by rw [IntWalk.i64_in ((z : Int) + _) ⟨by omega, by omega⟩, IntWalk.i64_in _ ⟨by omega, by omega⟩]; congr 1; omega, (by first | exact hbel | exact hbel.drew | exact bel_drewN6 hbel _), HA, Lib.hid (fun hz2 => ?_)⟩
                exact by have h1 := HL.out (by omega); have h2 := sumK_succ (totF) hlt; have h3 := HSP.out (by omega); have h4 : totF m.funs[k] = m.funs[k].locals.size + totC m.funs[k].code := rfl; omega
              case measure => simp [intOf]; omega
            · have hd : decide ((z : Int) ≤ 2147483647) = false := decide_eq_false (by omega)
              have HL : Hid (z ≤ 2147483647 → z = sixM m + (m.types.map (fun x : SigD => x.1.size + x.2.size)).sum + (m.funs.map (totF)).sum + sumK (fun x : DatD => x.b.length) m.datas 0) := Lib.hid fun h => absurd h hb
              go_wp2_with fail
              go_loopw [3, 6] (fun n i wr => ∃ (k z : Nat), k ≤ m.datas.length ∧ z ≤ 1125899906842624 ∧ i = .int .i64 k ∧ n = .int .i64 z ∧ Below w.heap.size w wr ∧ Hid (wr.heap[w.heap.size]? = some (.cells #[.slice at0 m.types.length at1, .slice ah0 m.hosts.length ah1, .slice ag0 m.globals.length ag1, .int .i64 m.first, .int .i64 m.most, .slice af0 m.funs.length af1, .slice ad0 m.datas.length ad1, .slice ae0 m.exps.length ae1] 29 (0, 0))) ∧ Hid (z ≤ 2147483647 → z = sixM m + (m.types.map (fun x : SigD => x.1.size + x.2.size)).sum + (m.funs.map (totF)).sum + sumK (fun x : DatD => x.b.length) m.datas k)) (fun _ i _ => m.datas.length - (intOf i).toNat)
              case atStart => exact ⟨0, z, by omega, by omega, rfl, rfl, hbel, HA, HL⟩
              case round =>
                clear hbel HA HL y0 y5 y6 y7
                obtain ⟨k, z, hk, hz, rfl, rfl, hbel, HA, HL⟩ := hrel
                have y0 := row_cell HA.out 0 rfl; have y5 := row_cell HA.out 5 rfl; have y6 := row_cell HA.out 6 rfl; have y7 := row_cell HA.out 7 rfl
                simp only [List.getElem_toArray, List.getElem_cons_zero, List.getElem_cons_succ] at y0 y5 y6 y7
                by_cases hlt : k < m.datas.length
                · by_cases hb : z ≤ 2147483647
                  · have hd : decide ((z : Int) ≤ 2147483647) = true := decide_eq_true (by omega)
                    obtain ⟨b1, o1, cs1, hb1, _, _, hc1, v, hr1, hr2⟩ := R5.out k hlt
                    obtain rfl := hb1
                    subst hr1
                    obtain ⟨va, vc, rfl, hdl⟩ := hr2.len
                    have e1 := cell_below hbel (hc1 1 (by omega))
                    (try simp at e1)
                    clear hc1 hr2
                    have hbd : m.datas[k].b.length ≤ 140737488355328 := hdl
                    go_wp2_with fail
                    go_roundw
                    case rel =>
                      refine ⟨k + 1, z + (m.datas[k].b.length), by omega, by omega, by go_num, by go_num, (by first | exact hbel | exact hbel.drew | exact bel_drewN6 hbel _), HA, Lib.hid (fun hz2 => ?_)⟩
                      exact by have h1 := HL.out (by omega); have h2 := sumK_succ (fun x : DatD => x.b.length) hlt; (try simp only at h2); omega
                    case measure => simp [intOf]; omega
                  · have hd : decide ((z : Int) ≤ 2147483647) = false := decide_eq_false (by omega)
                    have HL : Hid (z ≤ 2147483647 → z = sixM m + (m.types.map (fun x : SigD => x.1.size + x.2.size)).sum + (m.funs.map (totF)).sum + (m.datas.map (fun x : DatD => x.b.length)).sum + sumK (fun x : ExpD => x.name.size) m.exps 0) := Lib.hid fun h => absurd h hb
                    go_wp2_with fail
                    go_loopw [3, 7] (fun n i wr => ∃ (k z : Nat), k ≤ m.exps.length ∧ z ≤ 1125899906842624 ∧ i = .int .i64 k ∧ n = .int .i64 z ∧ Below w.heap.size w wr ∧ Hid (wr.heap[w.heap.size]? = some (.cells #[.slice at0 m.types.length at1, .slice ah0 m.hosts.length ah1, .slice ag0 m.globals.length ag1, .int .i64 m.first, .int .i64 m.most, .slice af0 m.funs.length af1, .slice ad0 m.datas.length ad1, .slice ae0 m.exps.length ae1] 29 (0, 0))) ∧ Hid (z ≤ 2147483647 → z = sixM m + (m.types.map (fun x : SigD => x.1.size + x.2.size)).sum + (m.funs.map (totF)).sum + (m.datas.map (fun x : DatD => x.b.length)).sum + sumK (fun x : ExpD => x.name.size) m.exps k)) (fun _ i _ => m.exps.length - (intOf i).toNat)
                    case atStart => exact ⟨0, z, by omega, by omega, rfl, rfl, hbel, HA, HL⟩
                    case round =>
                      clear hbel HA HL y0 y5 y6 y7
                      obtain ⟨k, z, hk, hz, rfl, rfl, hbel, HA, HL⟩ := hrel
                      have y0 := row_cell HA.out 0 rfl; have y5 := row_cell HA.out 5 rfl; have y6 := row_cell HA.out 6 rfl; have y7 := row_cell HA.out 7 rfl
                      simp only [List.getElem_toArray, List.getElem_cons_zero, List.getElem_cons_succ] at y0 y5 y6 y7
                      by_cases hlt : k < m.exps.length
                      · by_cases hb : z ≤ 2147483647
                        · have hd : decide ((z : Int) ≤ 2147483647) = true := decide_eq_true (by omega)
                          obtain ⟨b1, o1, cs1, hb1, _, _, hc1, hr1⟩ := R6.out k hlt
                          obtain rfl := hb1
                          have hr1 : cs1 = [.string m.exps[k].name, .int .i64 m.exps[k].f] := hr1
                          subst hr1
                          have e0 := cell_below hbel (hc1 0 (by omega))
                          simp at e0
                          clear hc1
                          have hbd := SM.out.exps _ (List.getElem_mem hlt)
                          go_wp2_with fail
                          go_roundw
                          case rel =>
                            refine ⟨k + 1, z + (m.exps[k].name.size), by omega, by omega, by go_num, by go_num, (by first | exact hbel | exact hbel.drew | exact bel_drewN6 hbel _), HA, Lib.hid (fun hz2 => ?_)⟩
                            exact by have h1 := HL.out (by omega); have h2 := sumK_succ (fun x : ExpD => x.name.size) hlt; (try simp only at h2); omega
                          case measure => simp [intOf]; omega
                        · have hd : decide ((z : Int) ≤ 2147483647) = false := decide_eq_false (by omega)
                          have HL : Hid (z ≤ 2147483647 → z = totM m) := Lib.hid fun h => absurd h hb
                          go_wp2_with fail
                          go_ret
                          first | exact ⟨⟨_, rfl⟩, hbel, HL.out⟩ | exact ⟨_, rfl, hbel, HL.out⟩
                      · obtain rfl : k = m.exps.length := by omega
                        have HL : Hid (z ≤ 2147483647 → z = totM m) := Lib.hid (fun h => by have h1 := HL.out h; rw [sumK_all] at h1; unfold sixM at h1; unfold totM; omega)
                        go_wp2_with fail
                        go_ret
                        first | exact ⟨⟨_, rfl⟩, hbel, HL.out⟩ | exact ⟨_, rfl, hbel, HL.out⟩
                · obtain rfl : k = m.datas.length := by omega
                  have HL : Hid (z ≤ 2147483647 → z = sixM m + (m.types.map (fun x : SigD => x.1.size + x.2.size)).sum + (m.funs.map (totF)).sum + (m.datas.map (fun x : DatD => x.b.length)).sum + sumK (fun x : ExpD => x.name.size) m.exps 0) := Lib.hid (fun h => by have h1 := HL.out h; rw [sumK_all] at h1; rw [sumK_zero]; omega)
                  go_wp2_with fail
                  go_loopw [3, 7] (fun n i wr => ∃ (k z : Nat), k ≤ m.exps.length ∧ z ≤ 1125899906842624 ∧ i = .int .i64 k ∧ n = .int .i64 z ∧ Below w.heap.size w wr ∧ Hid (wr.heap[w.heap.size]? = some (.cells #[.slice at0 m.types.length at1, .slice ah0 m.hosts.length ah1, .slice ag0 m.globals.length ag1, .int .i64 m.first, .int .i64 m.most, .slice af0 m.funs.length af1, .slice ad0 m.datas.length ad1, .slice ae0 m.exps.length ae1] 29 (0, 0))) ∧ Hid (z ≤ 2147483647 → z = sixM m + (m.types.map (fun x : SigD => x.1.size + x.2.size)).sum + (m.funs.map (totF)).sum + (m.datas.map (fun x : DatD => x.b.length)).sum + sumK (fun x : ExpD => x.name.size) m.exps k)) (fun _ i _ => m.exps.length - (intOf i).toNat)
                  case atStart => exact ⟨0, z, by omega, by omega, rfl, rfl, hbel, HA, HL⟩
                  case round =>
                    clear hbel HA HL y0 y5 y6 y7
                    obtain ⟨k, z, hk, hz, rfl, rfl, hbel, HA, HL⟩ := hrel
                    have y0 := row_cell HA.out 0 rfl; have y5 := row_cell HA.out 5 rfl; have y6 := row_cell HA.out 6 rfl; have y7 := row_cell HA.out 7 rfl
                    simp only [List.getElem_toArray, List.getElem_cons_zero, List.getElem_cons_succ] at y0 y5 y6 y7
                    by_cases hlt : k < m.exps.length
                    · by_cases hb : z ≤ 2147483647
                      · have hd : decide ((z : Int) ≤ 2147483647) = true := decide_eq_true (by omega)
                        obtain ⟨b1, o1, cs1, hb1, _, _, hc1, hr1⟩ := R6.out k hlt
                        obtain rfl := hb1
                        have hr1 : cs1 = [.string m.exps[k].name, .int .i64 m.exps[k].f] := hr1
                        subst hr1
                        have e0 := cell_below hbel (hc1 0 (by omega))
                        simp at e0
                        clear hc1
                        have hbd := SM.out.exps _ (List.getElem_mem hlt)
                        go_wp2_with fail
                        go_roundw
                        case rel =>
                          refine ⟨k + 1, z + (m.exps[k].name.size), by omega, by omega, by go_num, by go_num, (by first | exact hbel | exact hbel.drew | exact bel_drewN6 hbel _), HA, Lib.hid (fun hz2 => ?_)⟩
                          exact by have h1 := HL.out (by omega); have h2 := sumK_succ (fun x : ExpD => x.name.size) hlt; (try simp only at h2); omega
                        case measure => simp [intOf]; omega
                      · have hd : decide ((z : Int) ≤ 2147483647) = false := decide_eq_false (by omega)
                        have HL : Hid (z ≤ 2147483647 → z = totM m) := Lib.hid fun h => absurd h hb
                        go_wp2_with fail
                        go_ret
                        first | exact ⟨⟨_, rfl⟩, hbel, HL.out⟩ | exact ⟨_, rfl, hbel, HL.out⟩
                    · obtain rfl : k = m.exps.length := by omega
                      have HL : Hid (z ≤ 2147483647 → z = totM m) := Lib.hid (fun h => by have h1 := HL.out h; rw [sumK_all] at h1; unfold sixM at h1; unfold totM; omega)
                      go_wp2_with fail
                      go_ret
                      first | exact ⟨⟨_, rfl⟩, hbel, HL.out⟩ | exact ⟨_, rfl, hbel, HL.out⟩
          · obtain rfl : k = m.funs.length := by omega
            have HL : Hid (z ≤ 2147483647 → z = sixM m + (m.types.map (fun x : SigD => x.1.size + x.2.size)).sum + (m.funs.map (totF)).sum + sumK (fun x : DatD => x.b.length) m.datas 0) := Lib.hid (fun h => by have h1 := HL.out h; rw [sumK_all] at h1; rw [sumK_zero]; omega)
            go_wp2_with fail
            go_loopw [3, 6] (fun n i wr => ∃ (k z : Nat), k ≤ m.datas.length ∧ z ≤ 1125899906842624 ∧ i = .int .i64 k ∧ n = .int .i64 z ∧ Below w.heap.size w wr ∧ Hid (wr.heap[w.heap.size]? = some (.cells #[.slice at0 m.types.length at1, .slice ah0 m.hosts.length ah1, .slice ag0 m.globals.length ag1, .int .i64 m.first, .int .i64 m.most, .slice af0 m.funs.length af1, .slice ad0 m.datas.length ad1, .slice ae0 m.exps.length ae1] 29 (0, 0))) ∧ Hid (z ≤ 2147483647 → z = sixM m + (m.types.map (fun x : SigD => x.1.size + x.2.size)).sum + (m.funs.map (totF)).sum + sumK (fun x : DatD => x.b.length) m.datas k)) (fun _ i _ => m.datas.length - (intOf i).toNat)
            case atStart => exact ⟨0, z, by omega, by omega, rfl, rfl, hbel, HA, HL⟩
            case round =>
              clear hbel HA HL y0 y5 y6 y7
              obtain ⟨k, z, hk, hz, rfl, rfl, hbel, HA, HL⟩ := hrel
              have y0 := row_cell HA.out 0 rfl; have y5 := row_cell HA.out 5 rfl; have y6 := row_cell HA.out 6 rfl; have y7 := row_cell HA.out 7 rfl
              simp only [List.getElem_toArray, List.getElem_cons_zero, List.getElem_cons_succ] at y0 y5 y6 y7
              by_cases hlt : k < m.datas.length
              · by_cases hb : z ≤ 2147483647
                · have hd : decide ((z : Int) ≤ 2147483647) = true := decide_eq_true (by omega)
                  obtain ⟨b1, o1, cs1, hb1, _, _, hc1, v, hr1, hr2⟩ := R5.out k hlt
                  obtain rfl := hb1
                  subst hr1
                  obtain ⟨va, vc, rfl, hdl⟩ := hr2.len
                  have e1 := cell_below hbel (hc1 1 (by omega))
                  (try simp at e1)
                  clear hc1 hr2
                  have hbd : m.datas[k].b.length ≤ 140737488355328 := hdl
                  go_wp2_with fail
                  go_roundw
                  case rel =>
                    refine ⟨k + 1, z + (m.datas[k].b.length), by omega, by omega, by go_num, by go_num, (by first | exact hbel | exact hbel.drew | exact bel_drewN6 hbel _), HA, Lib.hid (fun hz2 => ?_)⟩
                    exact by have h1 := HL.out (by omega); have h2 := sumK_succ (fun x : DatD => x.b.length) hlt; (try simp only at h2); omega
                  case measure => simp [intOf]; omega
                · have hd : decide ((z : Int) ≤ 2147483647) = false := decide_eq_false (by omega)
                  have HL : Hid (z ≤ 2147483647 → z = sixM m + (m.types.map (fun x : SigD => x.1.size + x.2.size)).sum + (m.funs.map (totF)).sum + (m.datas.map (fun x : DatD => x.b.length)).sum + sumK (fun x : ExpD => x.name.size) m.exps 0) := Lib.hid fun h => absurd h hb
                  go_wp2_with fail
                  go_loopw [3, 7] (fun n i wr => ∃ (k z : Nat), k ≤ m.exps.length ∧ z ≤ 1125899906842624 ∧ i = .int .i64 k ∧ n = .int .i64 z ∧ Below w.heap.size w wr ∧ Hid (wr.heap[w.heap.size]? = some (.cells #[.slice at0 m.types.length at1, .slice ah0 m.hosts.length ah1, .slice ag0 m.globals.length ag1, .int .i64 m.first, .int .i64 m.most, .slice af0 m.funs.length af1, .slice ad0 m.datas.length ad1, .slice ae0 m.exps.length ae1] 29 (0, 0))) ∧ Hid (z ≤ 2147483647 → z = sixM m + (m.types.map (fun x : SigD => x.1.size + x.2.size)).sum + (m.funs.map (totF)).sum + (m.datas.map (fun x : DatD => x.b.length)).sum + sumK (fun x : ExpD => x.name.size) m.exps k)) (fun _ i _ => m.exps.length - (intOf i).toNat)
                  case atStart => exact ⟨0, z, by omega, by omega, rfl, rfl, hbel, HA, HL⟩
                  case round =>
                    clear hbel HA HL y0 y5 y6 y7
                    obtain ⟨k, z, hk, hz, rfl, rfl, hbel, HA, HL⟩ := hrel
                    have y0 := row_cell HA.out 0 rfl; have y5 := row_cell HA.out 5 rfl; have y6 := row_cell HA.out 6 rfl; have y7 := row_cell HA.out 7 rfl
                    simp only [List.getElem_toArray, List.getElem_cons_zero, List.getElem_cons_succ] at y0 y5 y6 y7
                    by_cases hlt : k < m.exps.length
                    · by_cases hb : z ≤ 2147483647
                      · have hd : decide ((z : Int) ≤ 2147483647) = true := decide_eq_true (by omega)
                        obtain ⟨b1, o1, cs1, hb1, _, _, hc1, hr1⟩ := R6.out k hlt
                        obtain rfl := hb1
                        have hr1 : cs1 = [.string m.exps[k].name, .int .i64 m.exps[k].f] := hr1
                        subst hr1
                        have e0 := cell_below hbel (hc1 0 (by omega))
                        simp at e0
                        clear hc1
                        have hbd := SM.out.exps _ (List.getElem_mem hlt)
                        go_wp2_with fail
                        go_roundw
                        case rel =>
                          refine ⟨k + 1, z + (m.exps[k].name.size), by omega, by omega, by go_num, by go_num, (by first | exact hbel | exact hbel.drew | exact bel_drewN6 hbel _), HA, Lib.hid (fun hz2 => ?_)⟩
                          exact by have h1 := HL.out (by omega); have h2 := sumK_succ (fun x : ExpD => x.name.size) hlt; (try simp only at h2); omega
                        case measure => simp [intOf]; omega
                      · have hd : decide ((z : Int) ≤ 2147483647) = false := decide_eq_false (by omega)
                        have HL : Hid (z ≤ 2147483647 → z = totM m) := Lib.hid fun h => absurd h hb
                        go_wp2_with fail
                        go_ret
                        first | exact ⟨⟨_, rfl⟩, hbel, HL.out⟩ | exact ⟨_, rfl, hbel, HL.out⟩
                    · obtain rfl : k = m.exps.length := by omega
                      have HL : Hid (z ≤ 2147483647 → z = totM m) := Lib.hid (fun h => by have h1 := HL.out h; rw [sumK_all] at h1; unfold sixM at h1; unfold totM; omega)
                      go_wp2_with fail
                      go_ret
                      first | exact ⟨⟨_, rfl⟩, hbel, HL.out⟩ | exact ⟨_, rfl, hbel, HL.out⟩
              · obtain rfl : k = m.datas.length := by omega
                have HL : Hid (z ≤ 2147483647 → z = sixM m + (m.types.map (fun x : SigD => x.1.size + x.2.size)).sum + (m.funs.map (totF)).sum + (m.datas.map (fun x : DatD => x.b.length)).sum + sumK (fun x : ExpD => x.name.size) m.exps 0) := Lib.hid (fun h => by have h1 := HL.out h; rw [sumK_all] at h1; rw [sumK_zero]; omega)
                go_wp2_with fail
                go_loopw [3, 7] (fun n i wr => ∃ (k z : Nat), k ≤ m.exps.length ∧ z ≤ 1125899906842624 ∧ i = .int .i64 k ∧ n = .int .i64 z ∧ Below w.heap.size w wr ∧ Hid (wr.heap[w.heap.size]? = some (.cells #[.slice at0 m.types.length at1, .slice ah0 m.hosts.length ah1, .slice ag0 m.globals.length ag1, .int .i64 m.first, .int .i64 m.most, .slice af0 m.funs.length af1, .slice ad0 m.datas.length ad1, .slice ae0 m.exps.length ae1] 29 (0, 0))) ∧ Hid (z ≤ 2147483647 → z = sixM m + (m.types.map (fun x : SigD => x.1.size + x.2.size)).sum + (m.funs.map (totF)).sum + (m.datas.map (fun x : DatD => x.b.length)).sum + sumK (fun x : ExpD => x.name.size) m.exps k)) (fun _ i _ => m.exps.length - (intOf i).toNat)
                case atStart => exact ⟨0, z, by omega, by omega, rfl, rfl, hbel, HA, HL⟩
                case round =>
                  clear hbel HA HL y0 y5 y6 y7
                  obtain ⟨k, z, hk, hz, rfl, rfl, hbel, HA, HL⟩ := hrel
                  have y0 := row_cell HA.out 0 rfl; have y5 := row_cell HA.out 5 rfl; have y6 := row_cell HA.out 6 rfl; have y7 := row_cell HA.out 7 rfl
                  simp only [List.getElem_toArray, List.getElem_cons_zero, List.getElem_cons_succ] at y0 y5 y6 y7
                  by_cases hlt : k < m.exps.length
                  · by_cases hb : z ≤ 2147483647
                    · have hd : decide ((z : Int) ≤ 2147483647) = true := decide_eq_true (by omega)
                      obtain ⟨b1, o1, cs1, hb1, _, _, hc1, hr1⟩ := R6.out k hlt
                      obtain rfl := hb1
                      have hr1 : cs1 = [.string m.exps[k].name, .int .i64 m.exps[k].f] := hr1
                      subst hr1
                      have e0 := cell_below hbel (hc1 0 (by omega))
                      simp at e0
                      clear hc1
                      have hbd := SM.out.exps _ (List.getElem_mem hlt)
                      go_wp2_with fail
                      go_roundw
                      case rel =>
                        refine ⟨k + 1, z + (m.exps[k].name.size), by omega, by omega, by go_num, by go_num, (by first | exact hbel | exact hbel.drew | exact bel_drewN6 hbel _), HA, Lib.hid (fun hz2 => ?_)⟩
                        exact by have h1 := HL.out (by omega); have h2 := sumK_succ (fun x : ExpD => x.name.size) hlt; (try simp only at h2); omega
                      case measure => simp [intOf]; omega
                    · have hd : decide ((z : Int) ≤ 2147483647) = false := decide_eq_false (by omega)
                      have HL : Hid (z ≤ 2147483647 → z = totM m) := Lib.hid fun h => absurd h hb
                      go_wp2_with fail
                      go_ret
                      first | exact ⟨⟨_, rfl⟩, hbel, HL.out⟩ | exact ⟨_, rfl, hbel, HL.out⟩
                  · obtain rfl : k = m.exps.length := by omega
                    have HL : Hid (z ≤ 2147483647 → z = totM m) := Lib.hid (fun h => by have h1 := HL.out h; rw [sumK_all] at h1; unfold sixM at h1; unfold totM; omega)
                    go_wp2_with fail
                    go_ret
                    first | exact ⟨⟨_, rfl⟩, hbel, HL.out⟩ | exact ⟨_, rfl, hbel, HL.out⟩
    · obtain rfl : k = m.types.length := by omega
      have HL : Hid (z ≤ 2147483647 → z = sixM m + (m.types.map (fun x : SigD => x.1.size + x.2.size)).sum + sumK (totF) m.funs 0) := Lib.hid (fun h => by have h1 := HL.out h; rw [sumK_all] at h1; rw [sumK_zero]; omega)
      go_wp2_with fail
      go_loopw [3, 5] (fun n i wr => ∃ (k z : Nat), k ≤ m.funs.length ∧ z ≤ 1125899906842624 ∧ i = .int .i64 k ∧ n = .int .i64 z ∧ Below w.heap.size w wr ∧ Hid (wr.heap[w.heap.size]? = some (.cells #[.slice at0 m.types.length at1, .slice ah0 m.hosts.length ah1, .slice ag0 m.globals.length ag1, .int .i64 m.first, .int .i64 m.most, .slice af0 m.funs.length af1, .slice ad0 m.datas.length ad1, .slice ae0 m.exps.length ae1] 29 (0, 0))) ∧ Hid (z ≤ 2147483647 → z = sixM m + (m.types.map (fun x : SigD => x.1.size + x.2.size)).sum + sumK (totF) m.funs k)) (fun _ i _ => m.funs.length - (intOf i).toNat)
      case atStart => exact ⟨0, z, by omega, by omega, rfl, rfl, hbel, HA, HL⟩
      case round =>
        clear hbel HA HL y0 y5 y6 y7
        obtain ⟨k, z, hk, hz, rfl, rfl, hbel, HA, HL⟩ := hrel
        have y0 := row_cell HA.out 0 rfl; have y5 := row_cell HA.out 5 rfl; have y6 := row_cell HA.out 6 rfl; have y7 := row_cell HA.out 7 rfl
        simp only [List.getElem_toArray, List.getElem_cons_zero, List.getElem_cons_succ] at y0 y5 y6 y7
        by_cases hlt : k < m.funs.length
        · by_cases hb : z ≤ 2147483647
          · have hd : decide ((z : Int) ≤ 2147483647) = true := decide_eq_true (by omega)
            obtain ⟨b1, o1, cs1, hb1, _, _, hc1, v, hr1, hr2⟩ := R4.out k hlt
            obtain rfl := hb1
            subst hr1
            obtain ⟨va, vc, rfl, -⟩ := hr2.len
            have HCD : Hid (Cd wr.drew (.slice va m.funs[k].code.length vc) m.funs[k].code) := Lib.hid (CdS.any (CdS.keeps hr2 (Keeps.all S hbel.drew) fun _ h => h))
            have e1 := cell_below hbel (hc1 1 (by omega)); have e2 := cell_below hbel (hc1 2 (by omega))
            (try simp at e1 e2)
            clear hc1 hr2
            have hbd := SM.out.funs _ (List.getElem_mem hlt)
            have e1' : wr.cell? ⟨b1, o1 + k * 3 + 1, none⟩ = some (.string m.funs[k].locals) := e1
            have e2' : wr.cell? ⟨b1, o1 + k * 3 + 2, none⟩ = some (.slice va m.funs[k].code.length vc) := e2
            have hk0 : (0 : Int) ≤ k := by omega
            have hkl : (k : Int) < m.funs.length := by omega
            have hkc : (k : Int) ≤ af1 := by omega
            go_wp2_with fail
            refine wp_region_held_drew (S := (fun wx => wx.cell? ⟨w.heap.size, 5, none⟩ = some (.slice (some ⟨b1, o1, none⟩) m.funs.length af1) ∧ wx.cell? ⟨b1, o1 + k * 3 + 1, none⟩ = some (.string m.funs[k].locals) ∧ wx.cell? ⟨b1, o1 + k * 3 + 2, none⟩ = some (.slice va m.funs[k].code.length vc))) (by kernel_rfl) ⟨y5, e1', e2'⟩ (fun hHeld => ?_)
            refine takeAt (i := 0) (d := 70) (v := ?_) rfl (by kernel_rfl) (by kernel_rfl) (by kernel_rfl) (by kernel_rfl) (fun _ _ _ h => h) (Or.inl ⟨by kernel_rfl, ?_⟩) (by assumption) ?_
            rotate_left
            · (intro w hSw; (try dsimp only at hSw); go_simp; all_goals (with_reducible rfl))
            (try simp only [Act.put, List.setIfInBounds_toArray, List.set_cons_zero, List.set_cons_succ])
            refine takeAt (i := 1) (d := 71) (v := ?_) rfl (by kernel_rfl) (by kernel_rfl) (by kernel_rfl) (by kernel_rfl) (fun _ _ _ h => h) (Or.inl ⟨by kernel_rfl, ?_⟩) (by assumption) ?_
            rotate_left
            · (intro w hSw; (try dsimp only at hSw); go_simp; all_goals (with_reducible rfl))
            (try simp only [Act.put, List.setIfInBounds_toArray, List.set_cons_zero, List.set_cons_succ])
            refine takeAt (i := 2) (d := 72) (v := ?_) rfl (by kernel_rfl) (by kernel_rfl) (by kernel_rfl) (by kernel_rfl) (fun _ _ _ h => h) (Or.inl ⟨by kernel_rfl, ?_⟩) (by assumption) ?_
            rotate_left
            · (intro w hSw; (try dsimp only at hSw); go_simp; all_goals (with_reducible rfl))
            (try simp only [Act.put, List.setIfInBounds_toArray, List.set_cons_zero, List.set_cons_succ])
            refine takeAt (i := 3) (d := 73) (v := ?_) rfl (by kernel_rfl) (by kernel_rfl) (by kernel_rfl) (by kernel_rfl) (fun _ _ _ h => h) (Or.inl ⟨by kernel_rfl, ?_⟩) (by assumption) ?_
            rotate_left
            · (intro w hSw; (try dsimp only at hSw); go_simp; all_goals (with_reducible rfl))
            (try simp only [Act.put, List.setIfInBounds_toArray, List.set_cons_zero, List.set_cons_succ])
            refine takeAt (i := 4) (d := 74) (v := ?_) rfl (by kernel_rfl) (by kernel_rfl) (by kernel_rfl) (by kernel_rfl) (fun _ _ _ h => h) (Or.inl ⟨by kernel_rfl, ?_⟩) (by assumption) ?_
            rotate_left
            · (intro w hSw; (try dsimp only at hSw); go_simp; all_goals (with_reducible rfl))
            (try simp only [Act.put, List.setIfInBounds_toArray, List.set_cons_zero, List.set_cons_succ])
            refine takeAt (i := 5) (d := 75) (v := ?_) rfl (by kernel_rfl) (by kernel_rfl) (by kernel_rfl) (by kernel_rfl) (fun _ _ _ h => h) (Or.inl ⟨by kernel_rfl, ?_⟩) (by assumption) ?_
            rotate_left
            · (intro w hSw; (try dsimp only at hSw); go_simp; all_goals (with_reducible rfl))
            (try simp only [Act.put, List.setIfInBounds_toArray, List.set_cons_zero, List.set_cons_succ])
            refine takeAt (i := 6) (d := 76) (v := ?_) rfl (by kernel_rfl) (by kernel_rfl) (by kernel_rfl) (by kernel_rfl) (fun _ _ _ h => h) (Or.inl ⟨by kernel_rfl, ?_⟩) (by assumption) ?_
            rotate_left
            · (intro w hSw; (try dsimp only at hSw); go_simp; all_goals (with_reducible rfl))
            (try simp only [Act.put, List.setIfInBounds_toArray, List.set_cons_zero, List.set_cons_succ])
            refine takeAt (i := 7) (d := 77) (v := ?_) rfl (by kernel_rfl) (by kernel_rfl) (by kernel_rfl) (by kernel_rfl) (fun _ _ _ h => h) (Or.inl ⟨by kernel_rfl, ?_⟩) (by assumption) ?_
            rotate_left
            · (intro w hSw; (try dsimp only at hSw); go_simp; all_goals (with_reducible rfl))
            (try simp only [Act.put, List.setIfInBounds_toArray, List.set_cons_zero, List.set_cons_succ])
            refine takeAt (i := 8) (d := 78) (v := ?_) rfl (by kernel_rfl) (by kernel_rfl) (by kernel_rfl) (by kernel_rfl) (fun _ _ _ h => h) (Or.inl ⟨by kernel_rfl, ?_⟩) (by assumption) ?_
            rotate_left
            · (intro w hSw; (try dsimp only at hSw); go_simp; all_goals (with_reducible rfl))
            (try simp only [Act.put, List.setIfInBounds_toArray, List.set_cons_zero, List.set_cons_succ])
            refine takeAt (i := 9) (d := 79) (v := ?_) rfl (by kernel_rfl) (by kernel_rfl) (by kernel_rfl) (by kernel_rfl) (fun _ _ _ h => h) (Or.inl ⟨by kernel_rfl, ?_⟩) (by assumption) ?_
            rotate_left
            · (intro w hSw; (try dsimp only at hSw); go_simp; all_goals (with_reducible rfl))
            (try simp only [Act.put, List.setIfInBounds_toArray, List.set_cons_zero, List.set_cons_succ])
            refine takeAt (i := 10) (d := 80) (v := ?_) rfl (by kernel_rfl) (by kernel_rfl) (by kernel_rfl) (by kernel_rfl) (fun _ _ _ h => h) (Or.inl ⟨by kernel_rfl, ?_⟩) (by assumption) ?_
            rotate_left
            · (intro w hSw; (try dsimp only at hSw); go_simp; all_goals (with_reducible rfl))
            (try simp only [Act.put, List.setIfInBounds_toArray, List.set_cons_zero, List.set_cons_succ])
            refine takeAt (i := 11) (d := 81) (v := ?_) rfl (by kernel_rfl) (by kernel_rfl) (by kernel_rfl) (by kernel_rfl) (fun _ _ _ h => h) (Or.inl ⟨by kernel_rfl, ?_⟩) (by assumption) ?_
            rotate_left
            · (intro w hSw; (try dsimp only at hSw); go_simp; all_goals (with_reducible rfl))
            (try simp only [Act.put, List.setIfInBounds_toArray, List.set_cons_zero, List.set_cons_succ])
            refine takeAt (i := 12) (d := 82) (v := ?_) rfl (by kernel_rfl) (by kernel_rfl) (by kernel_rfl) (by kernel_rfl) (fun _ _ _ h => h) (Or.inl ⟨by kernel_rfl, ?_⟩) (by assumption) ?_
            rotate_left
            · (intro w hSw; (try dsimp only at hSw); go_simp; all_goals (with_reducible rfl))
            (try simp only [Act.put, List.setIfInBounds_toArray, List.set_cons_zero, List.set_cons_succ])
            refine takeAt (i := 13) (d := 83) (v := ?_) rfl (by kernel_rfl) (by kernel_rfl) (by kernel_rfl) (by kernel_rfl) (fun _ _ _ h => h) (Or.inl ⟨by kernel_rfl, ?_⟩) (by assumption) ?_
            rotate_left
            · (intro w hSw; (try dsimp only at hSw); go_simp; all_goals (with_reducible rfl))
            (try simp only [Act.put, List.setIfInBounds_toArray, List.set_cons_zero, List.set_cons_succ])
            refine takeAt (i := 14) (d := 84) (v := ?_) rfl (by kernel_rfl) (by kernel_rfl) (by kernel_rfl) (by kernel_rfl) (fun _ _ _ h => h) (Or.inl ⟨by kernel_rfl, ?_⟩) (by assumption) ?_
            rotate_left
            · (intro w hSw; (try dsimp only at hSw); go_simp; all_goals (with_reducible rfl))
            (try simp only [Act.put, List.setIfInBounds_toArray, List.set_cons_zero, List.set_cons_succ])
            refine wpAnyH_ready (rs := [15]) (by kernel_rfl) (by simp) ?_
            refine AllReadyH.cons rfl (fun K hK => ?_) AllReadyH.nil
            go_simp
            refine (sizeCodeX _ _ _ HCD.out).mono ?_
            rintro e w5 ⟨sm, rfl, hw5, hsm, hsp⟩
            have HSP := Lib.hid hsp
            clear hsp
            obtain rfl := hw5.symm
            go_wp2_with fail
            refine hK.out _ _ hHeld (fun hHeld => ?_)
            clear hK K
            (try refine stateAt (d := 85) (by kernel_rfl) ?_)
            (try simp only [Act.put, List.setIfInBounds_toArray, List.set_cons_zero, List.set_cons_succ])
            refine takeAt (i := 16) (d := 86) (v := ?_) rfl (by kernel_rfl) (by kernel_rfl) (by kernel_rfl) (by kernel_rfl) (fun _ _ _ h => h) (Or.inl ⟨by kernel_rfl, ?_⟩) (by assumption) ?_
            rotate_left
            · (intro w hSw; (try dsimp only at hSw); go_simp; all_goals (with_reducible rfl))
            (try simp only [Act.put, List.setIfInBounds_toArray, List.set_cons_zero, List.set_cons_succ])
            refine takeAt (i := 17) (d := 3) (v := ?_) rfl (by kernel_rfl) (by kernel_rfl) (by kernel_rfl) (by kernel_rfl) (fun _ _ _ h => h) (Or.inl ⟨by kernel_rfl, ?_⟩) (by assumption) ?_
            rotate_left
            · (intro w hSw; (try dsimp only at hSw); go_simp; all_goals (with_reducible rfl))
            (try simp only [Act.put, List.setIfInBounds_toArray, List.set_cons_zero, List.set_cons_succ])
            refine wpAnyH_done (by kernel_rfl) ?_ _
            go_wp2_with fail
            go_roundw
            case rel =>
              refine ⟨k + 1, z + (m.funs[k].locals.size + sm), by omega, by omega, by go_num, by rw [IntWalk.i64_in ((z : Int) + _) ⟨by omega, by omega⟩, IntWalk.i64_in _ ⟨by omega, by omega⟩]; congr 1; omega, (by first | exact hbel | exact hbel.drew | exact bel_drewN6 hbel _), HA, Lib.hid (fun hz2 => ?_)⟩
              exact by have h1 := HL.out (by omega); have h2 := sumK_succ (totF) hlt; have h3 := HSP.out (by omega); have h4 : totF m.funs[k] = m.funs[k].locals.size + totC m.funs[k].code := rfl; omega
            case measure => simp [intOf]; omega
          · have hd : decide ((z : Int) ≤ 2147483647) = false := decide_eq_false (by omega)
            have HL : Hid (z ≤ 2147483647 → z = sixM m + (m.types.map (fun x : SigD => x.1.size + x.2.size)).sum + (m.funs.map (totF)).sum + sumK (fun x : DatD => x.b.length) m.datas 0) := Lib.hid fun h => absurd h hb
            go_wp2_with fail
            go_loopw [3, 6] (fun n i wr => ∃ (k z : Nat), k ≤ m.datas.length ∧ z ≤ 1125899906842624 ∧ i = .int .i64 k ∧ n = .int .i64 z ∧ Below w.heap.size w wr ∧ Hid (wr.heap[w.heap.size]? = some (.cells #[.slice at0 m.types.length at1, .slice ah0 m.hosts.length ah1, .slice ag0 m.globals.length ag1, .int .i64 m.first, .int .i64 m.most, .slice af0 m.funs.length af1, .slice ad0 m.datas.length ad1, .slice ae0 m.exps.length ae1] 29 (0, 0))) ∧ Hid (z ≤ 2147483647 → z = sixM m + (m.types.map (fun x : SigD => x.1.size + x.2.size)).sum + (m.funs.map (totF)).sum + sumK (fun x : DatD => x.b.length) m.datas k)) (fun _ i _ => m.datas.length - (intOf i).toNat)
            case atStart => exact ⟨0, z, by omega, by omega, rfl, rfl, hbel, HA, HL⟩
            case round =>
              clear hbel HA HL y0 y5 y6 y7
              obtain ⟨k, z, hk, hz, rfl, rfl, hbel, HA, HL⟩ := hrel
              have y0 := row_cell HA.out 0 rfl; have y5 := row_cell HA.out 5 rfl; have y6 := row_cell HA.out 6 rfl; have y7 := row_cell HA.out 7 rfl
              simp only [List.getElem_toArray, List.getElem_cons_zero, List.getElem_cons_succ] at y0 y5 y6 y7
              by_cases hlt : k < m.datas.length
              · by_cases hb : z ≤ 2147483647
                · have hd : decide ((z : Int) ≤ 2147483647) = true := decide_eq_true (by omega)
                  obtain ⟨b1, o1, cs1, hb1, _, _, hc1, v, hr1, hr2⟩ := R5.out k hlt
                  obtain rfl := hb1
                  subst hr1
                  obtain ⟨va, vc, rfl, hdl⟩ := hr2.len
                  have e1 := cell_below hbel (hc1 1 (by omega))
                  (try simp at e1)
                  clear hc1 hr2
                  have hbd : m.datas[k].b.length ≤ 140737488355328 := hdl
                  go_wp2_with fail
                  go_roundw
                  case rel =>
                    refine ⟨k + 1, z + (m.datas[k].b.length), by omega, by omega, by go_num, by go_num, (by first | exact hbel | exact hbel.drew | exact bel_drewN6 hbel _), HA, Lib.hid (fun hz2 => ?_)⟩
                    exact by have h1 := HL.out (by omega); have h2 := sumK_succ (fun x : DatD => x.b.length) hlt; (try simp only at h2); omega
                  case measure => simp [intOf]; omega
                · have hd : decide ((z : Int) ≤ 2147483647) = false := decide_eq_false (by omega)
                  have HL : Hid (z ≤ 2147483647 → z = sixM m + (m.types.map (fun x : SigD => x.1.size + x.2.size)).sum + (m.funs.map (totF)).sum + (m.datas.map (fun x : DatD => x.b.length)).sum + sumK (fun x : ExpD => x.name.size) m.exps 0) := Lib.hid fun h => absurd h hb
                  go_wp2_with fail
                  go_loopw [3, 7] (fun n i wr => ∃ (k z : Nat), k ≤ m.exps.length ∧ z ≤ 1125899906842624 ∧ i = .int .i64 k ∧ n = .int .i64 z ∧ Below w.heap.size w wr ∧ Hid (wr.heap[w.heap.size]? = some (.cells #[.slice at0 m.types.length at1, .slice ah0 m.hosts.length ah1, .slice ag0 m.globals.length ag1, .int .i64 m.first, .int .i64 m.most, .slice af0 m.funs.length af1, .slice ad0 m.datas.length ad1, .slice ae0 m.exps.length ae1] 29 (0, 0))) ∧ Hid (z ≤ 2147483647 → z = sixM m + (m.types.map (fun x : SigD => x.1.size + x.2.size)).sum + (m.funs.map (totF)).sum + (m.datas.map (fun x : DatD => x.b.length)).sum + sumK (fun x : ExpD => x.name.size) m.exps k)) (fun _ i _ => m.exps.length - (intOf i).toNat)
                  case atStart => exact ⟨0, z, by omega, by omega, rfl, rfl, hbel, HA, HL⟩
                  case round =>
                    clear hbel HA HL y0 y5 y6 y7
                    obtain ⟨k, z, hk, hz, rfl, rfl, hbel, HA, HL⟩ := hrel
                    have y0 := row_cell HA.out 0 rfl; have y5 := row_cell HA.out 5 rfl; have y6 := row_cell HA.out 6 rfl; have y7 := row_cell HA.out 7 rfl
                    simp only [List.getElem_toArray, List.getElem_cons_zero, List.getElem_cons_succ] at y0 y5 y6 y7
                    by_cases hlt : k < m.exps.length
                    · by_cases hb : z ≤ 2147483647
                      · have hd : decide ((z : Int) ≤ 2147483647) = true := decide_eq_true (by omega)
                        obtain ⟨b1, o1, cs1, hb1, _, _, hc1, hr1⟩ := R6.out k hlt
                        obtain rfl := hb1
                        have hr1 : cs1 = [.string m.exps[k].name, .int .i64 m.exps[k].f] := hr1
                        subst hr1
                        have e0 := cell_below hbel (hc1 0 (by omega))
                        simp at e0
                        clear hc1
                        have hbd := SM.out.exps _ (List.getElem_mem hlt)
                        go_wp2_with fail
                        go_roundw
                        case rel =>
                          refine ⟨k + 1, z + (m.exps[k].name.size), by omega, by omega, by go_num, by go_num, (by first | exact hbel | exact hbel.drew | exact bel_drewN6 hbel _), HA, Lib.hid (fun hz2 => ?_)⟩
                          exact by have h1 := HL.out (by omega); have h2 := sumK_succ (fun x : ExpD => x.name.size) hlt; (try simp only at h2); omega
                        case measure => simp [intOf]; omega
                      · have hd : decide ((z : Int) ≤ 2147483647) = false := decide_eq_false (by omega)
                        have HL : Hid (z ≤ 2147483647 → z = totM m) := Lib.hid fun h => absurd h hb
                        go_wp2_with fail
                        go_ret
                        first | exact ⟨⟨_, rfl⟩, hbel, HL.out⟩ | exact ⟨_, rfl, hbel, HL.out⟩
                    · obtain rfl : k = m.exps.length := by omega
                      have HL : Hid (z ≤ 2147483647 → z = totM m) := Lib.hid (fun h => by have h1 := HL.out h; rw [sumK_all] at h1; unfold sixM at h1; unfold totM; omega)
                      go_wp2_with fail
                      go_ret
                      first | exact ⟨⟨_, rfl⟩, hbel, HL.out⟩ | exact ⟨_, rfl, hbel, HL.out⟩
              · obtain rfl : k = m.datas.length := by omega
                have HL : Hid (z ≤ 2147483647 → z = sixM m + (m.types.map (fun x : SigD => x.1.size + x.2.size)).sum + (m.funs.map (totF)).sum + (m.datas.map (fun x : DatD => x.b.length)).sum + sumK (fun x : ExpD => x.name.size) m.exps 0) := Lib.hid (fun h => by have h1 := HL.out h; rw [sumK_all] at h1; rw [sumK_zero]; omega)
                go_wp2_with fail
                go_loopw [3, 7] (fun n i wr => ∃ (k z : Nat), k ≤ m.exps.length ∧ z ≤ 1125899906842624 ∧ i = .int .i64 k ∧ n = .int .i64 z ∧ Below w.heap.size w wr ∧ Hid (wr.heap[w.heap.size]? = some (.cells #[.slice at0 m.types.length at1, .slice ah0 m.hosts.length ah1, .slice ag0 m.globals.length ag1, .int .i64 m.first, .int .i64 m.most, .slice af0 m.funs.length af1, .slice ad0 m.datas.length ad1, .slice ae0 m.exps.length ae1] 29 (0, 0))) ∧ Hid (z ≤ 2147483647 → z = sixM m + (m.types.map (fun x : SigD => x.1.size + x.2.size)).sum + (m.funs.map (totF)).sum + (m.datas.map (fun x : DatD => x.b.length)).sum + sumK (fun x : ExpD => x.name.size) m.exps k)) (fun _ i _ => m.exps.length - (intOf i).toNat)
                case atStart => exact ⟨0, z, by omega, by omega, rfl, rfl, hbel, HA, HL⟩
                case round =>
                  clear hbel HA HL y0 y5 y6 y7
                  obtain ⟨k, z, hk, hz, rfl, rfl, hbel, HA, HL⟩ := hrel
                  have y0 := row_cell HA.out 0 rfl; have y5 := row_cell HA.out 5 rfl; have y6 := row_cell HA.out 6 rfl; have y7 := row_cell HA.out 7 rfl
                  simp only [List.getElem_toArray, List.getElem_cons_zero, List.getElem_cons_succ] at y0 y5 y6 y7
                  by_cases hlt : k < m.exps.length
                  · by_cases hb : z ≤ 2147483647
                    · have hd : decide ((z : Int) ≤ 2147483647) = true := decide_eq_true (by omega)
                      obtain ⟨b1, o1, cs1, hb1, _, _, hc1, hr1⟩ := R6.out k hlt
                      obtain rfl := hb1
                      have hr1 : cs1 = [.string m.exps[k].name, .int .i64 m.exps[k].f] := hr1
                      subst hr1
                      have e0 := cell_below hbel (hc1 0 (by omega))
                      simp at e0
                      clear hc1
                      have hbd := SM.out.exps _ (List.getElem_mem hlt)
                      go_wp2_with fail
                      go_roundw
                      case rel =>
                        refine ⟨k + 1, z + (m.exps[k].name.size), by omega, by omega, by go_num, by go_num, (by first | exact hbel | exact hbel.drew | exact bel_drewN6 hbel _), HA, Lib.hid (fun hz2 => ?_)⟩
                        exact by have h1 := HL.out (by omega); have h2 := sumK_succ (fun x : ExpD => x.name.size) hlt; (try simp only at h2); omega
                      case measure => simp [intOf]; omega
                    · have hd : decide ((z : Int) ≤ 2147483647) = false := decide_eq_false (by omega)
                      have HL : Hid (z ≤ 2147483647 → z = totM m) := Lib.hid fun h => absurd h hb
                      go_wp2_with fail
                      go_ret
                      first | exact ⟨⟨_, rfl⟩, hbel, HL.out⟩ | exact ⟨_, rfl, hbel, HL.out⟩
                  · obtain rfl : k = m.exps.length := by omega
                    have HL : Hid (z ≤ 2147483647 → z = totM m) := Lib.hid (fun h => by have h1 := HL.out h; rw [sumK_all] at h1; unfold sixM at h1; unfold totM; omega)
                    go_wp2_with fail
                    go_ret
                    first | exact ⟨⟨_, rfl⟩, hbel, HL.out⟩ | exact ⟨_, rfl, hbel, HL.out⟩
        · obtain rfl : k = m.funs.length := by omega
          have HL : Hid (z ≤ 2147483647 → z = sixM m + (m.types.map (fun x : SigD => x.1.size + x.2.size)).sum + (m.funs.map (totF)).sum + sumK (fun x : DatD => x.b.length) m.datas 0) := Lib.hid (fun h => by have h1 := HL.out h; rw [sumK_all] at h1; rw [sumK_zero]; omega)
          go_wp2_with fail
          go_loopw [3, 6] (fun n i wr => ∃ (k z : Nat), k ≤ m.datas.length ∧ z ≤ 1125899906842624 ∧ i = .int .i64 k ∧ n = .int .i64 z ∧ Below w.heap.size w wr ∧ Hid (wr.heap[w.heap.size]? = some (.cells #[.slice at0 m.types.length at1, .slice ah0 m.hosts.length ah1, .slice ag0 m.globals.length ag1, .int .i64 m.first, .int .i64 m.most, .slice af0 m.funs.length af1, .slice ad0 m.datas.length ad1, .slice ae0 m.exps.length ae1] 29 (0, 0))) ∧ Hid (z ≤ 2147483647 → z = sixM m + (m.types.map (fun x : SigD => x.1.size + x.2.size)).sum + (m.funs.map (totF)).sum + sumK (fun x : DatD => x.b.length) m.datas k)) (fun _ i _ => m.datas.length - (intOf i).toNat)
          case atStart => exact ⟨0, z, by omega, by omega, rfl, rfl, hbel, HA, HL⟩
          case round =>
            clear hbel HA HL y0 y5 y6 y7
            obtain ⟨k, z, hk, hz, rfl, rfl, hbel, HA, HL⟩ := hrel
            have y0 := row_cell HA.out 0 rfl; have y5 := row_cell HA.out 5 rfl; have y6 := row_cell HA.out 6 rfl; have y7 := row_cell HA.out 7 rfl
            simp only [List.getElem_toArray, List.getElem_cons_zero, List.getElem_cons_succ] at y0 y5 y6 y7
            by_cases hlt : k < m.datas.length
            · by_cases hb : z ≤ 2147483647
              · have hd : decide ((z : Int) ≤ 2147483647) = true := decide_eq_true (by omega)
                obtain ⟨b1, o1, cs1, hb1, _, _, hc1, v, hr1, hr2⟩ := R5.out k hlt
                obtain rfl := hb1
                subst hr1
                obtain ⟨va, vc, rfl, hdl⟩ := hr2.len
                have e1 := cell_below hbel (hc1 1 (by omega))
                (try simp at e1)
                clear hc1 hr2
                have hbd : m.datas[k].b.length ≤ 140737488355328 := hdl
                go_wp2_with fail
                go_roundw
                case rel =>
                  refine ⟨k + 1, z + (m.datas[k].b.length), by omega, by omega, by go_num, by go_num, (by first | exact hbel | exact hbel.drew | exact bel_drewN6 hbel _), HA, Lib.hid (fun hz2 => ?_)⟩
                  exact by have h1 := HL.out (by omega); have h2 := sumK_succ (fun x : DatD => x.b.length) hlt; (try simp only at h2); omega
                case measure => simp [intOf]; omega
              · have hd : decide ((z : Int) ≤ 2147483647) = false := decide_eq_false (by omega)
                have HL : Hid (z ≤ 2147483647 → z = sixM m + (m.types.map (fun x : SigD => x.1.size + x.2.size)).sum + (m.funs.map (totF)).sum + (m.datas.map (fun x : DatD => x.b.length)).sum + sumK (fun x : ExpD => x.name.size) m.exps 0) := Lib.hid fun h => absurd h hb
                go_wp2_with fail
                go_loopw [3, 7] (fun n i wr => ∃ (k z : Nat), k ≤ m.exps.length ∧ z ≤ 1125899906842624 ∧ i = .int .i64 k ∧ n = .int .i64 z ∧ Below w.heap.size w wr ∧ Hid (wr.heap[w.heap.size]? = some (.cells #[.slice at0 m.types.length at1, .slice ah0 m.hosts.length ah1, .slice ag0 m.globals.length ag1, .int .i64 m.first, .int .i64 m.most, .slice af0 m.funs.length af1, .slice ad0 m.datas.length ad1, .slice ae0 m.exps.length ae1] 29 (0, 0))) ∧ Hid (z ≤ 2147483647 → z = sixM m + (m.types.map (fun x : SigD => x.1.size + x.2.size)).sum + (m.funs.map (totF)).sum + (m.datas.map (fun x : DatD => x.b.length)).sum + sumK (fun x : ExpD => x.name.size) m.exps k)) (fun _ i _ => m.exps.length - (intOf i).toNat)
                case atStart => exact ⟨0, z, by omega, by omega, rfl, rfl, hbel, HA, HL⟩
                case round =>
                  clear hbel HA HL y0 y5 y6 y7
                  obtain ⟨k, z, hk, hz, rfl, rfl, hbel, HA, HL⟩ := hrel
                  have y0 := row_cell HA.out 0 rfl; have y5 := row_cell HA.out 5 rfl; have y6 := row_cell HA.out 6 rfl; have y7 := row_cell HA.out 7 rfl
                  simp only [List.getElem_toArray, List.getElem_cons_zero, List.getElem_cons_succ] at y0 y5 y6 y7
                  by_cases hlt : k < m.exps.length
                  · by_cases hb : z ≤ 2147483647
                    · have hd : decide ((z : Int) ≤ 2147483647) = true := decide_eq_true (by omega)
                      obtain ⟨b1, o1, cs1, hb1, _, _, hc1, hr1⟩ := R6.out k hlt
                      obtain rfl := hb1
                      have hr1 : cs1 = [.string m.exps[k].name, .int .i64 m.exps[k].f] := hr1
                      subst hr1
                      have e0 := cell_below hbel (hc1 0 (by omega))
                      simp at e0
                      clear hc1
                      have hbd := SM.out.exps _ (List.getElem_mem hlt)
                      go_wp2_with fail
                      go_roundw
                      case rel =>
                        refine ⟨k + 1, z + (m.exps[k].name.size), by omega, by omega, by go_num, by go_num, (by first | exact hbel | exact hbel.drew | exact bel_drewN6 hbel _), HA, Lib.hid (fun hz2 => ?_)⟩
                        exact by have h1 := HL.out (by omega); have h2 := sumK_succ (fun x : ExpD => x.name.size) hlt; (try simp only at h2); omega
                      case measure => simp [intOf]; omega
                    · have hd : decide ((z : Int) ≤ 2147483647) = false := decide_eq_false (by omega)
                      have HL : Hid (z ≤ 2147483647 → z = totM m) := Lib.hid fun h => absurd h hb
                      go_wp2_with fail
                      go_ret
                      first | exact ⟨⟨_, rfl⟩, hbel, HL.out⟩ | exact ⟨_, rfl, hbel, HL.out⟩
                  · obtain rfl : k = m.exps.length := by omega
                    have HL : Hid (z ≤ 2147483647 → z = totM m) := Lib.hid (fun h => by have h1 := HL.out h; rw [sumK_all] at h1; unfold sixM at h1; unfold totM; omega)
                    go_wp2_with fail
                    go_ret
                    first | exact ⟨⟨_, rfl⟩, hbel, HL.out⟩ | exact ⟨_, rfl, hbel, HL.out⟩
            · obtain rfl : k = m.datas.length := by omega
              have HL : Hid (z ≤ 2147483647 → z = sixM m + (m.types.map (fun x : SigD => x.1.size + x.2.size)).sum + (m.funs.map (totF)).sum + (m.datas.map (fun x : DatD => x.b.length)).sum + sumK (fun x : ExpD => x.name.size) m.exps 0) := Lib.hid (fun h => by have h1 := HL.out h; rw [sumK_all] at h1; rw [sumK_zero]; omega)
              go_wp2_with fail
              go_loopw [3, 7] (fun n i wr => ∃ (k z : Nat), k ≤ m.exps.length ∧ z ≤ 1125899906842624 ∧ i = .int .i64 k ∧ n = .int .i64 z ∧ Below w.heap.size w wr ∧ Hid (wr.heap[w.heap.size]? = some (.cells #[.slice at0 m.types.length at1, .slice ah0 m.hosts.length ah1, .slice ag0 m.globals.length ag1, .int .i64 m.first, .int .i64 m.most, .slice af0 m.funs.length af1, .slice ad0 m.datas.length ad1, .slice ae0 m.exps.length ae1] 29 (0, 0))) ∧ Hid (z ≤ 2147483647 → z = sixM m + (m.types.map (fun x : SigD => x.1.size + x.2.size)).sum + (m.funs.map (totF)).sum + (m.datas.map (fun x : DatD => x.b.length)).sum + sumK (fun x : ExpD => x.name.size) m.exps k)) (fun _ i _ => m.exps.length - (intOf i).toNat)
              case atStart => exact ⟨0, z, by omega, by omega, rfl, rfl, hbel, HA, HL⟩
              case round =>
                clear hbel HA HL y0 y5 y6 y7
                obtain ⟨k, z, hk, hz, rfl, rfl, hbel, HA, HL⟩ := hrel
                have y0 := row_cell HA.out 0 rfl; have y5 := row_cell HA.out 5 rfl; have y6 := row_cell HA.out 6 rfl; have y7 := row_cell HA.out 7 rfl
                simp only [List.getElem_toArray, List.getElem_cons_zero, List.getElem_cons_succ] at y0 y5 y6 y7
                by_cases hlt : k < m.exps.length
                · by_cases hb : z ≤ 2147483647
                  · have hd : decide ((z : Int) ≤ 2147483647) = true := decide_eq_true (by omega)
                    obtain ⟨b1, o1, cs1, hb1, _, _, hc1, hr1⟩ := R6.out k hlt
                    obtain rfl := hb1
                    have hr1 : cs1 = [.string m.exps[k].name, .int .i64 m.exps[k].f] := hr1
                    subst hr1
                    have e0 := cell_below hbel (hc1 0 (by omega))
                    simp at e0
                    clear hc1
                    have hbd := SM.out.exps _ (List.getElem_mem hlt)
                    go_wp2_with fail
                    go_roundw
                    case rel =>
                      refine ⟨k + 1, z + (m.exps[k].name.size), by omega, by omega, by go_num, by go_num, (by first | exact hbel | exact hbel.drew | exact bel_drewN6 hbel _), HA, Lib.hid (fun hz2 => ?_)⟩
                      exact by have h1 := HL.out (by omega); have h2 := sumK_succ (fun x : ExpD => x.name.size) hlt; (try simp only at h2); omega
                    case measure => simp [intOf]; omega
                  · have hd : decide ((z : Int) ≤ 2147483647) = false := decide_eq_false (by omega)
                    have HL : Hid (z ≤ 2147483647 → z = totM m) := Lib.hid fun h => absurd h hb
                    go_wp2_with fail
                    go_ret
                    first | exact ⟨⟨_, rfl⟩, hbel, HL.out⟩ | exact ⟨_, rfl, hbel, HL.out⟩
                · obtain rfl : k = m.exps.length := by omega
                  have HL : Hid (z ≤ 2147483647 → z = totM m) := Lib.hid (fun h => by have h1 := HL.out h; rw [sumK_all] at h1; unfold sixM at h1; unfold totM; omega)
                  go_wp2_with fail
                  go_ret
                  first | exact ⟨⟨_, rfl⟩, hbel, HL.out⟩ | exact ⟨_, rfl, hbel, HL.out⟩
end Go.Proofs.YtfhkjahjenpbgaaDoor
