/- flagonref00.SizeCode. flagonref00.SizeModule: some number; nothing is changed. -/
import Derived.Test.YteaolgldkfjdkaaDoorMLib
import Derived.Test.YteaolgldkfjdkaaDoorMEq
import Derived.BigQuiet
import Derived.Test.YteaolgldkfjdkaaDoorMRf0
namespace Go.Proofs.YteaolgldkfjdkaaDoor
open Go Go.RowKit

theorem Cd.lens {S : Nat → Prop} {w : World} {a : Option Addr} {n c : Nat} {l : List InsD} (h : CdS S w (.slice a n c) l) : n = l.length ∧ l.length ≤ 140737488355328 := by
  obtain ⟨a', c', e, _, h2, _⟩ := h
  simp only [Value.slice.injEq] at e
  exact ⟨e.2.1, h2⟩
set_option maxRecDepth 100000 in
set_option maxHeartbeats 1600000 in
theorem sizeCode (w : World) (v : Value) (l : List InsD) (hc : Cd w v l) :
    Calls Tryd.prog 15 #[v] w fun e w' => ∃ m : Nat, e = .returned (.int .i64 m) ∧ w' = w ∧ (m ≤ 2147483647 → l.length ≤ m ∧ ∀ j (h : j < l.length), l[j].l.length ≤ m) := by
  have HC := Lib.hid hc
  obtain ⟨va, vc, rfl, _⟩ := hc.len
  have hn := (Cd.lens hc).2
  clear hc
  go_enter Tryd.func15, Tryd.ntmps15
  go_wp2
  go_loopw [3, 4] (fun m i wr => ∃ k n : Nat, k ≤ l.length ∧ i = .int .i64 k ∧ m = .int .i64 n ∧ wr = w ∧ n ≤ 281474976710656 ∧ l.length ≤ n ∧ Hid (∀ j (h : j < l.length), j < k → l[j].l.length ≤ n)) (fun _ i _ => l.length - (intOf i).toNat)
  case atStart => exact ⟨0, l.length, by omega, rfl, rfl, rfl, by omega, by omega, Lib.hid fun j h h2 => absurd h2 (by omega)⟩
  case round =>
    obtain ⟨k, n, hk, rfl, rfl, rfl, hnb, hln, HJ⟩ := hrel
    by_cases hlt : k < l.length
    · by_cases hb : n ≤ 2147483647
      · obtain ⟨b, off, vl, rfl, -, -, x2, hrl⟩ := Cd.at_ HC.out hlt
        obtain ⟨al, cl, rfl, hll⟩ := hrl.len
        have HJ2 : Hid (∀ j (h : j < l.length), j < k + 1 → l[j].l.length ≤ n + l[k].l.length) := Lib.hid fun j h hj => by
          by_cases e : j = k
          · subst e; omega
          · have := HJ.out j h (by omega); omega
        clear hrl
        generalize l[k].l.length = ln at *
        go_wp2
        go_roundw
        case rel => exact ⟨k + 1, n + ln, by omega, by go_num, by go_num, by trivial, by omega, by omega, HJ2⟩
        case measure => simp [intOf]; omega
      · go_wp2
        go_ret
        exact ⟨n, rfl, rfl, fun h => absurd h hb⟩
    · go_wp2
      go_ret
      exact ⟨n, rfl, rfl, fun _ => ⟨hln, fun j h => HJ.out j h (by omega)⟩⟩
end Go.Proofs.YteaolgldkfjdkaaDoor
namespace Go.Proofs.YteaolgldkfjdkaaDoor
open Go Go.RowKit

set_option maxRecDepth 100000 in
set_option maxHeartbeats 3200000 in
theorem sizeMod5 (w : World) (S : Nat → Prop) (cs : List Value) (m : ModD) (h : RMod S w cs m) :
    Calls Tryd.prog 7 #[.agg cs.toArray] w fun e w' => ∃ z : Int, e = .returned (.int .i64 z) ∧ Below w.heap.size w w' := by
  obtain ⟨v1, v2, v3, v4, v5, v6, rfl, r1, r2, r3, r4, r5, r6⟩ := h
  obtain ⟨at0, at1, rfl, l1⟩ := r1.len
  obtain ⟨ah0, ah1, rfl, l2⟩ := r2.len
  obtain ⟨ag0, ag1, rfl, l3⟩ := r3.len
  obtain ⟨af0, af1, rfl, l4⟩ := r4.len
  obtain ⟨ad0, ad1, rfl, l5⟩ := r5.len
  obtain ⟨ae0, ae1, rfl, l6⟩ := r6.len
  obtain ⟨_, _, e1, c1, -, p1⟩ := r1
  simp only [Value.slice.injEq] at e1
  obtain ⟨rfl, -, rfl⟩ := e1
  have R1 := Lib.hid p1
  clear p1
  obtain ⟨_, _, e4, c4, -, p4⟩ := r4
  simp only [Value.slice.injEq] at e4
  obtain ⟨rfl, -, rfl⟩ := e4
  have R4 := Lib.hid p4
  clear p4
  obtain ⟨_, _, e5, c5, -, p5⟩ := r5
  simp only [Value.slice.injEq] at e5
  obtain ⟨rfl, -, rfl⟩ := e5
  have R5 := Lib.hid p5
  clear p5
  obtain ⟨_, _, e6, c6, -, p6⟩ := r6
  simp only [Value.slice.injEq] at e6
  obtain ⟨rfl, -, rfl⟩ := e6
  have R6 := Lib.hid p6
  clear p6
  clear r2 r3
  have HA := Lib.hid (heap_alloc_new w (.cells #[.slice at0 m.types.length at1, .slice ah0 m.hosts.length ah1, .slice ag0 m.globals.length ag1, .int .i64 m.first, .int .i64 m.most, .slice af0 m.funs.length af1, .slice ad0 m.datas.length ad1, .slice ae0 m.exps.length ae1] 29))
  have hbel := below_alloc w (.cells #[.slice at0 m.types.length at1, .slice ah0 m.hosts.length ah1, .slice ag0 m.globals.length ag1, .int .i64 m.first, .int .i64 m.most, .slice af0 m.funs.length af1, .slice ad0 m.datas.length ad1, .slice ae0 m.exps.length ae1] 29)
  go_enter Tryd.func7, Tryd.ntmps7
  have y0 := row_cell HA.out 0 rfl; have y1 := row_cell HA.out 1 rfl; have y2 := row_cell HA.out 2 rfl; have y5 := row_cell HA.out 5 rfl; have y6 := row_cell HA.out 6 rfl; have y7 := row_cell HA.out 7 rfl
  simp only [List.getElem_toArray, List.getElem_cons_zero, List.getElem_cons_succ] at y0 y1 y2 y5 y6 y7
  go_wp2_with fail
  go_loopw [3, 4] (fun n i wr => ∃ (k : Nat) (z : Int), k ≤ m.types.length ∧ i = .int .i64 k ∧ n = .int .i64 z ∧ Below w.heap.size w wr ∧ Hid (wr.heap[w.heap.size]? = some (.cells #[.slice at0 m.types.length at1, .slice ah0 m.hosts.length ah1, .slice ag0 m.globals.length ag1, .int .i64 m.first, .int .i64 m.most, .slice af0 m.funs.length af1, .slice ad0 m.datas.length ad1, .slice ae0 m.exps.length ae1] 29 (0, 0)))) (fun _ i _ => m.types.length - (intOf i).toNat)
  case atStart => exact ⟨0, _, by omega, rfl, rfl, hbel, HA⟩
  case round =>
    clear hbel HA y0 y5 y6 y7
    obtain ⟨k, z, hk, rfl, rfl, hbel, HA⟩ := hrel
    have y0 := row_cell HA.out 0 rfl; have y5 := row_cell HA.out 5 rfl; have y6 := row_cell HA.out 6 rfl; have y7 := row_cell HA.out 7 rfl
    simp only [List.getElem_toArray, List.getElem_cons_zero, List.getElem_cons_succ] at y0 y5 y6 y7
    by_cases hlt : k < m.types.length
    · by_cases hb : z ≤ 2147483647
      · have hd : decide (z ≤ 2147483647) = true := decide_eq_true hb
        obtain ⟨b1, o1, cs1, hb1, _, _, hc1, hr1⟩ := R1.out k hlt
        obtain rfl := hb1
        have hr1 : cs1 = [.string m.types[k].1, .string m.types[k].2] := hr1
        subst hr1
        have e0 := cell_below hbel (hc1 0 (by omega)); have e1 := cell_below hbel (hc1 1 (by omega))
        simp at e0 e1
        clear hc1
        go_wp2_with fail
        go_quiet (fail)
        go_wp2_with fail
        go_roundw
        case rel => exact ⟨k + 1, _, by omega, by go_num, rfl, (by first | exact hbel | exact hbel.drew | exact bel_drewN5 hbel _), HA⟩
        case measure => simp [intOf]; omega
      · have hd : decide (z ≤ 2147483647) = false := decide_eq_false hb
        go_wp2_with fail
        go_loopw [3, 5] (fun n i wr => ∃ (k : Nat) (z : Int), k ≤ m.funs.length ∧ i = .int .i64 k ∧ n = .int .i64 z ∧ Below w.heap.size w wr ∧ Hid (wr.heap[w.heap.size]? = some (.cells #[.slice at0 m.types.length at1, .slice ah0 m.hosts.length ah1, .slice ag0 m.globals.length ag1, .int .i64 m.first, .int .i64 m.most, .slice af0 m.funs.length af1, .slice ad0 m.datas.length ad1, .slice ae0 m.exps.length ae1] 29 (0, 0)))) (fun _ i _ => m.funs.length - (intOf i).toNat)
        case atStart => exact ⟨0, _, by omega, rfl, rfl, hbel, HA⟩
        case round =>
          clear hbel HA y0 y5 y6 y7
          obtain ⟨k, z, hk, rfl, rfl, hbel, HA⟩ := hrel
          have y0 := row_cell HA.out 0 rfl; have y5 := row_cell HA.out 5 rfl; have y6 := row_cell HA.out 6 rfl; have y7 := row_cell HA.out 7 rfl
          simp only [List.getElem_toArray, List.getElem_cons_zero, List.getElem_cons_succ] at y0 y5 y6 y7
          by_cases hlt : k < m.funs.length
          · by_cases hb : z ≤ 2147483647
            · have hd : decide (z ≤ 2147483647) = true := decide_eq_true hb
              obtain ⟨b1, o1, cs1, hb1, _, _, hc1, v, hr1, hr2⟩ := R4.out k hlt
              obtain rfl := hb1
              subst hr1
              obtain ⟨va, vc, rfl, -⟩ := hr2.len
              have HCD : Hid (Cd wr.drew (.slice va m.funs[k].code.length vc) m.funs[k].code) := Lib.hid (CdS.any (CdS.keeps hr2 (Keeps.all S hbel.drew) fun _ h => h))
              have e1 := cell_below hbel (hc1 1 (by omega)); have e2 := cell_below hbel (hc1 2 (by omega))
              (try simp at e1 e2)
              clear hc1 hr2
              have e1' : wr.cell? ⟨b1, o1 + k * 3 + 1, none⟩ = some (.string m.funs[k].locals) := e1
              have e2' : wr.cell? ⟨b1, o1 + k * 3 + 2, none⟩ = some (.slice va m.funs[k].code.length vc) := e2
              have hk0 : (0 : Int) ≤ k := by omega
              have hkl : (k : Int) < m.funs.length := by omega
              have hkc : (k : Int) ≤ af1 := by omega
              go_wp2_with fail
              refine wp_region_held_drew (S := (fun wx => wx.cell? ⟨w.heap.size, 5, none⟩ = some (.slice (some ⟨b1, o1, none⟩) m.funs.length af1) ∧ wx.cell? ⟨b1, o1 + k * 3 + 1, none⟩ = some (.string m.funs[k].locals) ∧ wx.cell? ⟨b1, o1 + k * 3 + 2, none⟩ = some (.slice va m.funs[k].code.length vc))) (by kernel_rfl) ⟨y5, e1', e2'⟩ (fun hHeld => ?_)
              refine takeAt (i := 0) (d := 70) (v := ?_) rfl (by kernel_rfl) (by kernel_rfl) (by kernel_rfl) (by kernel_rfl) (fun _ _ _ h => h) (Or.inl ⟨by kernel_rfl, ?_⟩) (by assumption) ?_
              rotate_left
              · (intro w hSw; (try dsimp only at hSw); go_simp; all_goals (with_reducible rfl))
              (try simp only [Act.put, List.setIfInBounds_toArray, List.set_cons_zero, List.set_cons_succ])
              refine takeAt (i := 1) (d := 71) (v := ?_) rfl (by kernel_rfl) (by kernel_rfl) (by kernel_rfl) (by kernel_rfl) (fun _ _ _ h => h) (Or.inl ⟨by kernel_rfl, ?_⟩) (by assumption) ?_
              rotate_left
              · (intro w hSw; (try dsimp only at hSw); go_simp; all_goals (with_reducible rfl))
              (try simp only [Act.put, List.setIfInBounds_toArray, List.set_cons_zero, List.set_cons_succ])
              refine takeAt (i := 2) (d := 72) (v := ?_) rfl (by kernel_rfl) (by kernel_rfl) (by kernel_rfl) (by kernel_rfl) (fun _ _ _ h => h) (Or.inl ⟨by kernel_rfl, ?_⟩) (by assumption) ?_
              rotate_left
              · (intro w hSw; (try dsimp only at hSw); go_simp; all_goals (with_reducible rfl))
              (try simp only [Act.put, List.setIfInBounds_toArray, List.set_cons_zero, List.set_cons_succ])
              refine takeAt (i := 3) (d := 73) (v := ?_) rfl (by kernel_rfl) (by kernel_rfl) (by kernel_rfl) (by kernel_rfl) (fun _ _ _ h => h) (Or.inl ⟨by kernel_rfl, ?_⟩) (by assumption) ?_
              rotate_left
              · (intro w hSw; (try dsimp only at hSw); go_simp; all_goals (with_reducible rfl))
              (try simp only [Act.put, List.setIfInBounds_toArray, List.set_cons_zero, List.set_cons_succ])
              refine takeAt (i := 4) (d := 74) (v := ?_) rfl (by kernel_rfl) (by kernel_rfl) (by kernel_rfl) (by kernel_rfl) (fun _ _ _ h => h) (Or.inl ⟨by kernel_rfl, ?_⟩) (by assumption) ?_
              rotate_left
              · (intro w hSw; (try dsimp only at hSw); go_simp; all_goals (with_reducible rfl))
              (try simp only [Act.put, List.setIfInBounds_toArray, List.set_cons_zero, List.set_cons_succ])
              refine takeAt (i := 5) (d := 75) (v := ?_) rfl (by kernel_rfl) (by kernel_rfl) (by kernel_rfl) (by kernel_rfl) (fun _ _ _ h => h) (Or.inl ⟨by kernel_rfl, ?_⟩) (by assumption) ?_
              rotate_left
              · (intro w hSw; (try dsimp only at hSw); go_simp; all_goals (with_reducible rfl))
              (try simp only [Act.put, List.setIfInBounds_toArray, List.set_cons_zero, List.set_cons_succ])
              refine takeAt (i := 6) (d := 76) (v := ?_) rfl (by kernel_rfl) (by kernel_rfl) (by kernel_rfl) (by kernel_rfl) (fun _ _ _ h => h) (Or.inl ⟨by kernel_rfl, ?_⟩) (by assumption) ?_
              rotate_left
              · (intro w hSw; (try dsimp only at hSw); go_simp; all_goals (with_reducible rfl))
              (try simp only [Act.put, List.setIfInBounds_toArray, List.set_cons_zero, List.set_cons_succ])
              refine takeAt (i := 7) (d := 77) (v := ?_) rfl (by kernel_rfl) (by kernel_rfl) (by kernel_rfl) (by kernel_rfl) (fun _ _ _ h => h) (Or.inl ⟨by kernel_rfl, ?_⟩) (by assumption) ?_
              rotate_left
              · (intro w hSw; (try dsimp only at hSw); go_simp; all_goals (with_reducible rfl))
              (try simp only [Act.put, List.setIfInBounds_toArray, List.set_cons_zero, List.set_cons_succ])
              refine takeAt (i := 8) (d := 78) (v := ?_) rfl (by kernel_rfl) (by kernel_rfl) (by kernel_rfl) (by kernel_rfl) (fun _ _ _ h => h) (Or.inl ⟨by kernel_rfl, ?_⟩) (by assumption) ?_
              rotate_left
              · (intro w hSw; (try dsimp only at hSw); go_simp; all_goals (with_reducible rfl))
              (try simp only [Act.put, List.setIfInBounds_toArray, List.set_cons_zero, List.set_cons_succ])
              refine takeAt (i := 9) (d := 79) (v := ?_) rfl (by kernel_rfl) (by kernel_rfl) (by kernel_rfl) (by kernel_rfl) (fun _ _ _ h => h) (Or.inl ⟨by kernel_rfl, ?_⟩) (by assumption) ?_
              rotate_left
              · (intro w hSw; (try dsimp only at hSw); go_simp; all_goals (with_reducible rfl))
              (try simp only [Act.put, List.setIfInBounds_toArray, List.set_cons_zero, List.set_cons_succ])
              refine takeAt (i := 10) (d := 80) (v := ?_) rfl (by kernel_rfl) (by kernel_rfl) (by kernel_rfl) (by kernel_rfl) (fun _ _ _ h => h) (Or.inl ⟨by kernel_rfl, ?_⟩) (by assumption) ?_
              rotate_left
              · (intro w hSw; (try dsimp only at hSw); go_simp; all_goals (with_reducible rfl))
              (try simp only [Act.put, List.setIfInBounds_toArray, List.set_cons_zero, List.set_cons_succ])
              refine takeAt (i := 11) (d := 81) (v := ?_) rfl (by kernel_rfl) (by kernel_rfl) (by kernel_rfl) (by kernel_rfl) (fun _ _ _ h => h) (Or.inl ⟨by kernel_rfl, ?_⟩) (by assumption) ?_
              rotate_left
              · (intro w hSw; (try dsimp only at hSw); go_simp; all_goals (with_reducible rfl))
              (try simp only [Act.put, List.setIfInBounds_toArray, List.set_cons_zero, List.set_cons_succ])
              refine takeAt (i := 12) (d := 82) (v := ?_) rfl (by kernel_rfl) (by kernel_rfl) (by kernel_rfl) (by kernel_rfl) (fun _ _ _ h => h) (Or.inl ⟨by kernel_rfl, ?_⟩) (by assumption) ?_
              rotate_left
              · (intro w hSw; (try dsimp only at hSw); go_simp; all_goals (with_reducible rfl))
              (try simp only [Act.put, List.setIfInBounds_toArray, List.set_cons_zero, List.set_cons_succ])
              refine takeAt (i := 13) (d := 83) (v := ?_) rfl (by kernel_rfl) (by kernel_rfl) (by kernel_rfl) (by kernel_rfl) (fun _ _ _ h => h) (Or.inl ⟨by kernel_rfl, ?_⟩) (by assumption) ?_
              rotate_left
              · (intro w hSw; (try dsimp only at hSw); go_simp; all_goals (with_reducible rfl))
              (try simp only [Act.put, List.setIfInBounds_toArray, List.set_cons_zero, List.set_cons_succ])
              refine takeAt (i := 14) (d := 84) (v := ?_) rfl (by kernel_rfl) (by kernel_rfl) (by kernel_rfl) (by kernel_rfl) (fun _ _ _ h => h) (Or.inl ⟨by kernel_rfl, ?_⟩) (by assumption) ?_
              rotate_left
              · (intro w hSw; (try dsimp only at hSw); go_simp; all_goals (with_reducible rfl))
              (try simp only [Act.put, List.setIfInBounds_toArray, List.set_cons_zero, List.set_cons_succ])
              refine wpAnyH_ready (rs := [15]) (by kernel_rfl) (by simp) ?_
              refine AllReadyH.cons rfl (fun K hK => ?_) AllReadyH.nil
              go_simp
              refine (sizeCode _ _ _ HCD.out).mono ?_
              rintro e w5 ⟨sm, rfl, hw5, -⟩
              obtain rfl := hw5.symm
              go_wp2_with fail
              refine hK.out _ _ hHeld (fun hHeld => ?_)
              clear hK K
              (try refine stateAt (d := 85) (by kernel_rfl) ?_)
              (try simp only [Act.put, List.setIfInBounds_toArray, List.set_cons_zero, List.set_cons_succ])
              refine takeAt (i := 16) (d := 86) (v := ?_) rfl (by kernel_rfl) (by kernel_rfl) (by kernel_rfl) (by kernel_rfl) (fun _ _ _ h => h) (Or.inl ⟨by kernel_rfl, ?_⟩) (by assumption) ?_
              rotate_left
              · (intro w hSw; (try dsimp only at hSw); go_simp; all_goals (with_reducible rfl))
              (try simp only [Act.put, List.setIfInBounds_toArray, List.set_cons_zero, List.set_cons_succ])
              refine takeAt (i := 17) (d := 3) (v := ?_) rfl (by kernel_rfl) (by kernel_rfl) (by kernel_rfl) (by kernel_rfl) (fun _ _ _ h => h) (Or.inl ⟨by kernel_rfl, ?_⟩) (by assumption) ?_
              rotate_left
              · (intro w hSw; (try dsimp only at hSw); go_simp; all_goals (with_reducible rfl))
              (try simp only [Act.put, List.setIfInBounds_toArray, List.set_cons_zero, List.set_cons_succ])
              refine wpAnyH_done (by kernel_rfl) ?_ _
              go_wp2_with fail
              go_roundw
              case rel => exact ⟨k + 1, _, by omega, by go_num, rfl, (by first | exact hbel | exact hbel.drew | exact bel_drewN5 hbel _), HA⟩
              case measure => simp [intOf]; omega
            · have hd : decide (z ≤ 2147483647) = false := decide_eq_false hb
              go_wp2_with fail
              go_loopw [3, 6] (fun n i wr => ∃ (k : Nat) (z : Int), k ≤ m.datas.length ∧ i = .int .i64 k ∧ n = .int .i64 z ∧ Below w.heap.size w wr ∧ Hid (wr.heap[w.heap.size]? = some (.cells #[.slice at0 m.types.length at1, .slice ah0 m.hosts.length ah1, .slice ag0 m.globals.length ag1, .int .i64 m.first, .int .i64 m.most, .slice af0 m.funs.length af1, .slice ad0 m.datas.length ad1, .slice ae0 m.exps.length ae1] 29 (0, 0)))) (fun _ i _ => m.datas.length - (intOf i).toNat)
              case atStart => exact ⟨0, _, by omega, rfl, rfl, hbel, HA⟩
              case round =>
                clear hbel HA y0 y5 y6 y7
                obtain ⟨k, z, hk, rfl, rfl, hbel, HA⟩ := hrel
                have y0 := row_cell HA.out 0 rfl; have y5 := row_cell HA.out 5 rfl; have y6 := row_cell HA.out 6 rfl; have y7 := row_cell HA.out 7 rfl
                simp only [List.getElem_toArray, List.getElem_cons_zero, List.getElem_cons_succ] at y0 y5 y6 y7
                by_cases hlt : k < m.datas.length
                · by_cases hb : z ≤ 2147483647
                  · have hd : decide (z ≤ 2147483647) = true := decide_eq_true hb
                    obtain ⟨b1, o1, cs1, hb1, _, _, hc1, v, hr1, hr2⟩ := R5.out k hlt
                    obtain rfl := hb1
                    subst hr1
                    obtain ⟨va, vc, rfl, -⟩ := hr2.len
                    have e1 := cell_below hbel (hc1 1 (by omega))
                    (try simp at e1)
                    clear hc1 hr2
                    go_wp2_with fail
                    go_roundw
                    case rel => exact ⟨k + 1, _, by omega, by go_num, rfl, (by first | exact hbel | exact hbel.drew | exact bel_drewN5 hbel _), HA⟩
                    case measure => simp [intOf]; omega
                  · have hd : decide (z ≤ 2147483647) = false := decide_eq_false hb
                    go_wp2_with fail
                    go_loopw [3, 7] (fun n i wr => ∃ (k : Nat) (z : Int), k ≤ m.exps.length ∧ i = .int .i64 k ∧ n = .int .i64 z ∧ Below w.heap.size w wr ∧ Hid (wr.heap[w.heap.size]? = some (.cells #[.slice at0 m.types.length at1, .slice ah0 m.hosts.length ah1, .slice ag0 m.globals.length ag1, .int .i64 m.first, .int .i64 m.most, .slice af0 m.funs.length af1, .slice ad0 m.datas.length ad1, .slice ae0 m.exps.length ae1] 29 (0, 0)))) (fun _ i _ => m.exps.length - (intOf i).toNat)
                    case atStart => exact ⟨0, _, by omega, rfl, rfl, hbel, HA⟩
                    case round =>
                      clear hbel HA y0 y5 y6 y7
                      obtain ⟨k, z, hk, rfl, rfl, hbel, HA⟩ := hrel
                      have y0 := row_cell HA.out 0 rfl; have y5 := row_cell HA.out 5 rfl; have y6 := row_cell HA.out 6 rfl; have y7 := row_cell HA.out 7 rfl
                      simp only [List.getElem_toArray, List.getElem_cons_zero, List.getElem_cons_succ] at y0 y5 y6 y7
                      by_cases hlt : k < m.exps.length
                      · by_cases hb : z ≤ 2147483647
                        · have hd : decide (z ≤ 2147483647) = true := decide_eq_true hb
                          obtain ⟨b1, o1, cs1, hb1, _, _, hc1, hr1⟩ := R6.out k hlt
                          obtain rfl := hb1
                          have hr1 : cs1 = [.string m.exps[k].name, .int .i64 m.exps[k].f] := hr1
                          subst hr1
                          have e0 := cell_below hbel (hc1 0 (by omega))
                          simp at e0
                          clear hc1
                          go_wp2_with fail
                          go_roundw
                          case rel => exact ⟨k + 1, _, by omega, by go_num, rfl, (by first | exact hbel | exact hbel.drew | exact bel_drewN5 hbel _), HA⟩
                          case measure => simp [intOf]; omega
                        · have hd : decide (z ≤ 2147483647) = false := decide_eq_false hb
                          go_wp2_with fail
                          go_ret
                          first | exact ⟨⟨_, rfl⟩, hbel⟩ | exact ⟨_, rfl, hbel⟩
                      · obtain rfl : k = m.exps.length := by omega
                        go_wp2_with fail
                        go_ret
                        first | exact ⟨⟨_, rfl⟩, hbel⟩ | exact ⟨_, rfl, hbel⟩
                · obtain rfl : k = m.datas.length := by omega
                  go_wp2_with fail
                  go_loopw [3, 7] (fun n i wr => ∃ (k : Nat) (z : Int), k ≤ m.exps.length ∧ i = .int .i64 k ∧ n = .int .i64 z ∧ Below w.heap.size w wr ∧ Hid (wr.heap[w.heap.size]? = some (.cells #[.slice at0 m.types.length at1, .slice ah0 m.hosts.length ah1, .slice ag0 m.globals.length ag1, .int .i64 m.first, .int .i64 m.most, .slice af0 m.funs.length af1, .slice ad0 m.datas.length ad1, .slice ae0 m.exps.length ae1] 29 (0, 0)))) (fun _ i _ => m.exps.length - (intOf i).toNat)
                  case atStart => exact ⟨0, _, by omega, rfl, rfl, hbel, HA⟩
                  case round =>
                    clear hbel HA y0 y5 y6 y7
                    obtain ⟨k, z, hk, rfl, rfl, hbel, HA⟩ := hrel
                    have y0 := row_cell HA.out 0 rfl; have y5 := row_cell HA.out 5 rfl; have y6 := row_cell HA.out 6 rfl; have y7 := row_cell HA.out 7 rfl
                    simp only [List.getElem_toArray, List.getElem_cons_zero, List.getElem_cons_succ] at y0 y5 y6 y7
                    by_cases hlt : k < m.exps.length
                    · by_cases hb : z ≤ 2147483647
                      · have hd : decide (z ≤ 2147483647) = true := decide_eq_true hb
                        obtain ⟨b1, o1, cs1, hb1, _, _, hc1, hr1⟩ := R6.out k hlt
                        obtain rfl := hb1
                        have hr1 : cs1 = [.string m.exps[k].name, .int .i64 m.exps[k].f] := hr1
                        subst hr1
                        have e0 := cell_below hbel (hc1 0 (by omega))
                        simp at e0
                        clear hc1
                        go_wp2_with fail
                        go_roundw
                        case rel => exact ⟨k + 1, _, by omega, by go_num, rfl, (by first | exact hbel | exact hbel.drew | exact bel_drewN5 hbel _), HA⟩
                        case measure => simp [intOf]; omega
                      · have hd : decide (z ≤ 2147483647) = false := decide_eq_false hb
                        go_wp2_with fail
                        go_ret
                        first | exact ⟨⟨_, rfl⟩, hbel⟩ | exact ⟨_, rfl, hbel⟩
                    · obtain rfl : k = m.exps.length := by omega
                      go_wp2_with fail
                      go_ret
                      first | exact ⟨⟨_, rfl⟩, hbel⟩ | exact ⟨_, rfl, hbel⟩
          · obtain rfl : k = m.funs.length := by omega
            go_wp2_with fail
            go_loopw [3, 6] (fun n i wr => ∃ (k : Nat) (z : Int), k ≤ m.datas.length ∧ i = .int .i64 k ∧ n = .int .i64 z ∧ Below w.heap.size w wr ∧ Hid (wr.heap[w.heap.size]? = some (.cells #[.slice at0 m.types.length at1, .slice ah0 m.hosts.length ah1, .slice ag0 m.globals.length ag1, .int .i64 m.first, .int .i64 m.most, .slice af0 m.funs.length af1, .slice ad0 m.datas.length ad1, .slice ae0 m.exps.length ae1] 29 (0, 0)))) (fun _ i _ => m.datas.length - (intOf i).toNat)
            case atStart => exact ⟨0, _, by omega, rfl, rfl, hbel, HA⟩
            case round =>
              clear hbel HA y0 y5 y6 y7
              obtain ⟨k, z, hk, rfl, rfl, hbel, HA⟩ := hrel
              have y0 := row_cell HA.out 0 rfl; have y5 := row_cell HA.out 5 rfl; have y6 := row_cell HA.out 6 rfl; have y7 := row_cell HA.out 7 rfl
              simp only [List.getElem_toArray, List.getElem_cons_zero, List.getElem_cons_succ] at y0 y5 y6 y7
              by_cases hlt : k < m.datas.length
              · by_cases hb : z ≤ 2147483647
                · have hd : decide (z ≤ 2147483647) = true := decide_eq_true hb
                  obtain ⟨b1, o1, cs1, hb1, _, _, hc1, v, hr1, hr2⟩ := R5.out k hlt
                  obtain rfl := hb1
                  subst hr1
                  obtain ⟨va, vc, rfl, -⟩ := hr2.len
                  have e1 := cell_below hbel (hc1 1 (by omega))
                  (try simp at e1)
                  clear hc1 hr2
                  go_wp2_with fail
                  go_roundw
                  case rel => exact ⟨k + 1, _, by omega, by go_num, rfl, (by first | exact hbel | exact hbel.drew | exact bel_drewN5 hbel _), HA⟩
                  case measure => simp [intOf]; omega
                · have hd : decide (z ≤ 2147483647) = false := decide_eq_false hb
                  go_wp2_with fail
                  go_loopw [3, 7] (fun n i wr => ∃ (k : Nat) (z : Int), k ≤ m.exps.length ∧ i = .int .i64 k ∧ n = .int .i64 z ∧ Below w.heap.size w wr ∧ Hid (wr.heap[w.heap.size]? = some (.cells #[.slice at0 m.types.length at1, .slice ah0 m.hosts.length ah1, .slice ag0 m.globals.length ag1, .int .i64 m.first, .int .i64 m.most, .slice af0 m.funs.length af1, .slice ad0 m.datas.length ad1, .slice ae0 m.exps.length ae1] 29 (0, 0)))) (fun _ i _ => m.exps.length - (intOf i).toNat)
                  case atStart => exact ⟨0, _, by omega, rfl, rfl, hbel, HA⟩
                  case round =>
                    clear hbel HA y0 y5 y6 y7
                    obtain ⟨k, z, hk, rfl, rfl, hbel, HA⟩ := hrel
                    have y0 := row_cell HA.out 0 rfl; have y5 := row_cell HA.out 5 rfl; have y6 := row_cell HA.out 6 rfl; have y7 := row_cell HA.out 7 rfl
                    simp only [List.getElem_toArray, List.getElem_cons_zero, List.getElem_cons_succ] at y0 y5 y6 y7
                    by_cases hlt : k < m.exps.length
                    · by_cases hb : z ≤ 2147483647
                      · have hd : decide (z ≤ 2147483647) = true := decide_eq_true hb
                        obtain ⟨b1, o1, cs1, hb1, _, _, hc1, hr1⟩ := R6.out k hlt
                        obtain rfl := hb1
                        have hr1 : cs1 = [.string m.exps[k].name, .int .i64 m.exps[k].f] := hr1
                        subst hr1
                        have e0 := cell_below hbel (hc1 0 (by omega))
                        simp at e0
                        clear hc1
                        go_wp2_with fail
                        go_roundw
                        case rel => exact ⟨k + 1, _, by omega, by go_num, rfl, (by first | exact hbel | exact hbel.drew | exact bel_drewN5 hbel _), HA⟩
                        case measure => simp [intOf]; omega
                      · have hd : decide (z ≤ 2147483647) = false := decide_eq_false hb
                        go_wp2_with fail
                        go_ret
                        first | exact ⟨⟨_, rfl⟩, hbel⟩ | exact ⟨_, rfl, hbel⟩
                    · obtain rfl : k = m.exps.length := by omega
                      go_wp2_with fail
                      go_ret
                      first | exact ⟨⟨_, rfl⟩, hbel⟩ | exact ⟨_, rfl, hbel⟩
              · obtain rfl : k = m.datas.length := by omega
                go_wp2_with fail
                go_loopw [3, 7] (fun n i wr => ∃ (k : Nat) (z : Int), k ≤ m.exps.length ∧ i = .int .i64 k ∧ n = .int .i64 z ∧ Below w.heap.size w wr ∧ Hid (wr.heap[w.heap.size]? = some (.cells #[.slice at0 m.types.length at1, .slice ah0 m.hosts.length ah1, .slice ag0 m.globals.length ag1, .int .i64 m.first, .int .i64 m.most, .slice af0 m.funs.length af1, .slice ad0 m.datas.length ad1, .slice ae0 m.exps.length ae1] 29 (0, 0)))) (fun _ i _ => m.exps.length - (intOf i).toNat)
                case atStart => exact ⟨0, _, by omega, rfl, rfl, hbel, HA⟩
                case round =>
                  clear hbel HA y0 y5 y6 y7
                  obtain ⟨k, z, hk, rfl, rfl, hbel, HA⟩ := hrel
                  have y0 := row_cell HA.out 0 rfl; have y5 := row_cell HA.out 5 rfl; have y6 := row_cell HA.out 6 rfl; have y7 := row_cell HA.out 7 rfl
                  simp only [List.getElem_toArray, List.getElem_cons_zero, List.getElem_cons_succ] at y0 y5 y6 y7
                  by_cases hlt : k < m.exps.length
                  · by_cases hb : z ≤ 2147483647
                    · have hd : decide (z ≤ 2147483647) = true := decide_eq_true hb
                      obtain ⟨b1, o1, cs1, hb1, _, _, hc1, hr1⟩ := R6.out k hlt
                      obtain rfl := hb1
                      have hr1 : cs1 = [.string m.exps[k].name, .int .i64 m.exps[k].f] := hr1
                      subst hr1
                      have e0 := cell_below hbel (hc1 0 (by omega))
                      simp at e0
                      clear hc1
                      go_wp2_with fail
                      go_roundw
                      case rel => exact ⟨k + 1, _, by omega, by go_num, rfl, (by first | exact hbel | exact hbel.drew | exact bel_drewN5 hbel _), HA⟩
                      case measure => simp [intOf]; omega
                    · have hd : decide (z ≤ 2147483647) = false := decide_eq_false hb
                      go_wp2_with fail
                      go_ret
                      first | exact ⟨⟨_, rfl⟩, hbel⟩ | exact ⟨_, rfl, hbel⟩
                  · obtain rfl : k = m.exps.length := by omega
                    go_wp2_with fail
                    go_ret
                    first | exact ⟨⟨_, rfl⟩, hbel⟩ | exact ⟨_, rfl, hbel⟩
    · obtain rfl : k = m.types.length := by omega
      go_wp2_with fail
      go_loopw [3, 5] (fun n i wr => ∃ (k : Nat) (z : Int), k ≤ m.funs.length ∧ i = .int .i64 k ∧ n = .int .i64 z ∧ Below w.heap.size w wr ∧ Hid (wr.heap[w.heap.size]? = some (.cells #[.slice at0 m.types.length at1, .slice ah0 m.hosts.length ah1, .slice ag0 m.globals.length ag1, .int .i64 m.first, .int .i64 m.most, .slice af0 m.funs.length af1, .slice ad0 m.datas.length ad1, .slice ae0 m.exps.length ae1] 29 (0, 0)))) (fun _ i _ => m.funs.length - (intOf i).toNat)
      case atStart => exact ⟨0, _, by omega, rfl, rfl, hbel, HA⟩
      case round =>
        clear hbel HA y0 y5 y6 y7
        obtain ⟨k, z, hk, rfl, rfl, hbel, HA⟩ := hrel
        have y0 := row_cell HA.out 0 rfl; have y5 := row_cell HA.out 5 rfl; have y6 := row_cell HA.out 6 rfl; have y7 := row_cell HA.out 7 rfl
        simp only [List.getElem_toArray, List.getElem_cons_zero, List.getElem_cons_succ] at y0 y5 y6 y7
        by_cases hlt : k < m.funs.length
        · by_cases hb : z ≤ 2147483647
          · have hd : decide (z ≤ 2147483647) = true := decide_eq_true hb
            obtain ⟨b1, o1, cs1, hb1, _, _, hc1, v, hr1, hr2⟩ := R4.out k hlt
            obtain rfl := hb1
            subst hr1
            obtain ⟨va, vc, rfl, -⟩ := hr2.len
            have HCD : Hid (Cd wr.drew (.slice va m.funs[k].code.length vc) m.funs[k].code) := Lib.hid (CdS.any (CdS.keeps hr2 (Keeps.all S hbel.drew) fun _ h => h))
            have e1 := cell_below hbel (hc1 1 (by omega)); have e2 := cell_below hbel (hc1 2 (by omega))
            (try simp at e1 e2)
            clear hc1 hr2
            have e1' : wr.cell? ⟨b1, o1 + k * 3 + 1, none⟩ = some (.string m.funs[k].locals) := e1
            have e2' : wr.cell? ⟨b1, o1 + k * 3 + 2, none⟩ = some (.slice va m.funs[k].code.length vc) := e2
            have hk0 : (0 : Int) ≤ k := by omega
            have hkl : (k : Int) < m.funs.length := by omega
            have hkc : (k : Int) ≤ af1 := by omega
            go_wp2_with fail
            refine wp_region_held_drew (S := (fun wx => wx.cell? ⟨w.heap.size, 5, none⟩ = some (.slice (some ⟨b1, o1, none⟩) m.funs.length af1) ∧ wx.cell? ⟨b1, o1 + k * 3 + 1, none⟩ = some (.string m.funs[k].locals) ∧ wx.cell? ⟨b1, o1 + k * 3 + 2, none⟩ = some (.slice va m.funs[k].code.length vc))) (by kernel_rfl) ⟨y5, e1', e2'⟩ (fun hHeld => ?_)
            refine takeAt (i := 0) (d := 70) (v := ?_) rfl (by kernel_rfl) (by kernel_rfl) (by kernel_rfl) (by kernel_rfl) (fun _ _ _ h => h) (Or.inl ⟨by kernel_rfl, ?_⟩) (by assumption) ?_
            rotate_left
            · (intro w hSw; (try dsimp only at hSw); go_simp; all_goals (with_reducible rfl))
            (try simp only [Act.put, List.setIfInBounds_toArray, List.set_cons_zero, List.set_cons_succ])
            refine takeAt (i := 1) (d := 71) (v := ?_) rfl (by kernel_rfl) (by kernel_rfl) (by kernel_rfl) (by kernel_rfl) (fun _ _ _ h => h) (Or.inl ⟨by kernel_rfl, ?_⟩) (by assumption) ?_
            rotate_left
            · (intro w hSw; (try dsimp only at hSw); go_simp; all_goals (with_reducible rfl))
            (try simp only [Act.put, List.setIfInBounds_toArray, List.set_cons_zero, List.set_cons_succ])
            refine takeAt (i := 2) (d := 72) (v := ?_) rfl (by kernel_rfl) (by kernel_rfl) (by kernel_rfl) (by kernel_rfl) (fun _ _ _ h => h) (Or.inl ⟨by kernel_rfl, ?_⟩) (by assumption) ?_
            rotate_left
            · (intro w hSw; (try dsimp only at hSw); go_simp; all_goals (with_reducible rfl))
            (try simp only [Act.put, List.setIfInBounds_toArray, List.set_cons_zero, List.set_cons_succ])
            refine takeAt (i := 3) (d := 73) (v := ?_) rfl (by kernel_rfl) (by kernel_rfl) (by kernel_rfl) (by kernel_rfl) (fun _ _ _ h => h) (Or.inl ⟨by kernel_rfl, ?_⟩) (by assumption) ?_
            rotate_left
            · (intro w hSw; (try dsimp only at hSw); go_simp; all_goals (with_reducible rfl))
            (try simp only [Act.put, List.setIfInBounds_toArray, List.set_cons_zero, List.set_cons_succ])
            refine takeAt (i := 4) (d := 74) (v := ?_) rfl (by kernel_rfl) (by kernel_rfl) (by kernel_rfl) (by kernel_rfl) (fun _ _ _ h => h) (Or.inl ⟨by kernel_rfl, ?_⟩) (by assumption) ?_
            rotate_left
            · (intro w hSw; (try dsimp only at hSw); go_simp; all_goals (with_reducible rfl))
            (try simp only [Act.put, List.setIfInBounds_toArray, List.set_cons_zero, List.set_cons_succ])
            refine takeAt (i := 5) (d := 75) (v := ?_) rfl (by kernel_rfl) (by kernel_rfl) (by kernel_rfl) (by kernel_rfl) (fun _ _ _ h => h) (Or.inl ⟨by kernel_rfl, ?_⟩) (by assumption) ?_
            rotate_left
            · (intro w hSw; (try dsimp only at hSw); go_simp; all_goals (with_reducible rfl))
            (try simp only [Act.put, List.setIfInBounds_toArray, List.set_cons_zero, List.set_cons_succ])
            refine takeAt (i := 6) (d := 76) (v := ?_) rfl (by kernel_rfl) (by kernel_rfl) (by kernel_rfl) (by kernel_rfl) (fun _ _ _ h => h) (Or.inl ⟨by kernel_rfl, ?_⟩) (by assumption) ?_
            rotate_left
            · (intro w hSw; (try dsimp only at hSw); go_simp; all_goals (with_reducible rfl))
            (try simp only [Act.put, List.setIfInBounds_toArray, List.set_cons_zero, List.set_cons_succ])
            refine takeAt (i := 7) (d := 77) (v := ?_) rfl (by kernel_rfl) (by kernel_rfl) (by kernel_rfl) (by kernel_rfl) (fun _ _ _ h => h) (Or.inl ⟨by kernel_rfl, ?_⟩) (by assumption) ?_
            rotate_left
            · (intro w hSw; (try dsimp only at hSw); go_simp; all_goals (with_reducible rfl))
            (try simp only [Act.put, List.setIfInBounds_toArray, List.set_cons_zero, List.set_cons_succ])
            refine takeAt (i := 8) (d := 78) (v := ?_) rfl (by kernel_rfl) (by kernel_rfl) (by kernel_rfl) (by kernel_rfl) (fun _ _ _ h => h) (Or.inl ⟨by kernel_rfl, ?_⟩) (by assumption) ?_
            rotate_left
            · (intro w hSw; (try dsimp only at hSw); go_simp; all_goals (with_reducible rfl))
            (try simp only [Act.put, List.setIfInBounds_toArray, List.set_cons_zero, List.set_cons_succ])
            refine takeAt (i := 9) (d := 79) (v := ?_) rfl (by kernel_rfl) (by kernel_rfl) (by kernel_rfl) (by kernel_rfl) (fun _ _ _ h => h) (Or.inl ⟨by kernel_rfl, ?_⟩) (by assumption) ?_
            rotate_left
            · (intro w hSw; (try dsimp only at hSw); go_simp; all_goals (with_reducible rfl))
            (try simp only [Act.put, List.setIfInBounds_toArray, List.set_cons_zero, List.set_cons_succ])
            refine takeAt (i := 10) (d := 80) (v := ?_) rfl (by kernel_rfl) (by kernel_rfl) (by kernel_rfl) (by kernel_rfl) (fun _ _ _ h => h) (Or.inl ⟨by kernel_rfl, ?_⟩) (by assumption) ?_
            rotate_left
            · (intro w hSw; (try dsimp only at hSw); go_simp; all_goals (with_reducible rfl))
            (try simp only [Act.put, List.setIfInBounds_toArray, List.set_cons_zero, List.set_cons_succ])
            refine takeAt (i := 11) (d := 81) (v := ?_) rfl (by kernel_rfl) (by kernel_rfl) (by kernel_rfl) (by kernel_rfl) (fun _ _ _ h => h) (Or.inl ⟨by kernel_rfl, ?_⟩) (by assumption) ?_
            rotate_left
            · (intro w hSw; (try dsimp only at hSw); go_simp; all_goals (with_reducible rfl))
            (try simp only [Act.put, List.setIfInBounds_toArray, List.set_cons_zero, List.set_cons_succ])
            refine takeAt (i := 12) (d := 82) (v := ?_) rfl (by kernel_rfl) (by kernel_rfl) (by kernel_rfl) (by kernel_rfl) (fun _ _ _ h => h) (Or.inl ⟨by kernel_rfl, ?_⟩) (by assumption) ?_
            rotate_left
            · (intro w hSw; (try dsimp only at hSw); go_simp; all_goals (with_reducible rfl))
            (try simp only [Act.put, List.setIfInBounds_toArray, List.set_cons_zero, List.set_cons_succ])
            refine takeAt (i := 13) (d := 83) (v := ?_) rfl (by kernel_rfl) (by kernel_rfl) (by kernel_rfl) (by kernel_rfl) (fun _ _ _ h => h) (Or.inl ⟨by kernel_rfl, ?_⟩) (by assumption) ?_
            rotate_left
            · (intro w hSw; (try dsimp only at hSw); go_simp; all_goals (with_reducible rfl))
            (try simp only [Act.put, List.setIfInBounds_toArray, List.set_cons_zero, List.set_cons_succ])
            refine takeAt (i := 14) (d := 84) (v := ?_) rfl (by kernel_rfl) (by kernel_rfl) (by kernel_rfl) (by kernel_rfl) (fun _ _ _ h => h) (Or.inl ⟨by kernel_rfl, ?_⟩) (by assumption) ?_
            rotate_left
            · (intro w hSw; (try dsimp only at hSw); go_simp; all_goals (with_reducible rfl))
            (try simp only [Act.put, List.setIfInBounds_toArray, List.set_cons_zero, List.set_cons_succ])
            refine wpAnyH_ready (rs := [15]) (by kernel_rfl) (by simp) ?_
            refine AllReadyH.cons rfl (fun K hK => ?_) AllReadyH.nil
            go_simp
            refine (sizeCode _ _ _ HCD.out).mono ?_
            rintro e w5 ⟨sm, rfl, hw5, -⟩
            obtain rfl := hw5.symm
            go_wp2_with fail
            refine hK.out _ _ hHeld (fun hHeld => ?_)
            clear hK K
            (try refine stateAt (d := 85) (by kernel_rfl) ?_)
            (try simp only [Act.put, List.setIfInBounds_toArray, List.set_cons_zero, List.set_cons_succ])
            refine takeAt (i := 16) (d := 86) (v := ?_) rfl (by kernel_rfl) (by kernel_rfl) (by kernel_rfl) (by kernel_rfl) (fun _ _ _ h => h) (Or.inl ⟨by kernel_rfl, ?_⟩) (by assumption) ?_
            rotate_left
            · (intro w hSw; (try dsimp only at hSw); go_simp; all_goals (with_reducible rfl))
            (try simp only [Act.put, List.setIfInBounds_toArray, List.set_cons_zero, List.set_cons_succ])
            refine takeAt (i := 17) (d := 3) (v := ?_) rfl (by kernel_rfl) (by kernel_rfl) (by kernel_rfl) (by kernel_rfl) (fun _ _ _ h => h) (Or.inl ⟨by kernel_rfl, ?_⟩) (by assumption) ?_
            rotate_left
            · (intro w hSw; (try dsimp only at hSw); go_simp; all_goals (with_reducible rfl))
            (try simp only [Act.put, List.setIfInBounds_toArray, List.set_cons_zero, List.set_cons_succ])
            refine wpAnyH_done (by kernel_rfl) ?_ _
            go_wp2_with fail
            go_roundw
            case rel => exact ⟨k + 1, _, by omega, by go_num, rfl, (by first | exact hbel | exact hbel.drew | exact bel_drewN5 hbel _), HA⟩
            case measure => simp [intOf]; omega
          · have hd : decide (z ≤ 2147483647) = false := decide_eq_false hb
            go_wp2_with fail
            go_loopw [3, 6] (fun n i wr => ∃ (k : Nat) (z : Int), k ≤ m.datas.length ∧ i = .int .i64 k ∧ n = .int .i64 z ∧ Below w.heap.size w wr ∧ Hid (wr.heap[w.heap.size]? = some (.cells #[.slice at0 m.types.length at1, .slice ah0 m.hosts.length ah1, .slice ag0 m.globals.length ag1, .int .i64 m.first, .int .i64 m.most, .slice af0 m.funs.length af1, .slice ad0 m.datas.length ad1, .slice ae0 m.exps.length ae1] 29 (0, 0)))) (fun _ i _ => m.datas.length - (intOf i).toNat)
            case atStart => exact ⟨0, _, by omega, rfl, rfl, hbel, HA⟩
            case round =>
              clear hbel HA y0 y5 y6 y7
              obtain ⟨k, z, hk, rfl, rfl, hbel, HA⟩ := hrel
              have y0 := row_cell HA.out 0 rfl; have y5 := row_cell HA.out 5 rfl; have y6 := row_cell HA.out 6 rfl; have y7 := row_cell HA.out 7 rfl
              simp only [List.getElem_toArray, List.getElem_cons_zero, List.getElem_cons_succ] at y0 y5 y6 y7
              by_cases hlt : k < m.datas.length
              · by_cases hb : z ≤ 2147483647
                · have hd : decide (z ≤ 2147483647) = true := decide_eq_true hb
                  obtain ⟨b1, o1, cs1, hb1, _, _, hc1, v, hr1, hr2⟩ := R5.out k hlt
                  obtain rfl := hb1
                  subst hr1
                  obtain ⟨va, vc, rfl, -⟩ := hr2.len
                  have e1 := cell_below hbel (hc1 1 (by omega))
                  (try simp at e1)
                  clear hc1 hr2
                  go_wp2_with fail
                  go_roundw
                  case rel => exact ⟨k + 1, _, by omega, by go_num, rfl, (by first | exact hbel | exact hbel.drew | exact bel_drewN5 hbel _), HA⟩
                  case measure => simp [intOf]; omega
                · have hd : decide (z ≤ 2147483647) = false := decide_eq_false hb
                  go_wp2_with fail
                  go_loopw [3, 7] (fun n i wr => ∃ (k : Nat) (z : Int), k ≤ m.exps.length ∧ i = .int .i64 k ∧ n = .int .i64 z ∧ Below w.heap.size w wr ∧ Hid (wr.heap[w.heap.size]? = some (.cells #[.slice at0 m.types.length at1, .slice ah0 m.hosts.length ah1, .slice ag0 m.globals.length ag1, .int .i64 m.first, .int .i64 m.most, .slice af0 m.funs.length af1, .slice ad0 m.datas.length ad1, .slice ae0 m.exps.length ae1] 29 (0, 0)))) (fun _ i _ => m.exps.length - (intOf i).toNat)
                  case atStart => exact ⟨0, _, by omega, rfl, rfl, hbel, HA⟩
                  case round =>
                    clear hbel HA y0 y5 y6 y7
                    obtain ⟨k, z, hk, rfl, rfl, hbel, HA⟩ := hrel
                    have y0 := row_cell HA.out 0 rfl; have y5 := row_cell HA.out 5 rfl; have y6 := row_cell HA.out 6 rfl; have y7 := row_cell HA.out 7 rfl
                    simp only [List.getElem_toArray, List.getElem_cons_zero, List.getElem_cons_succ] at y0 y5 y6 y7
                    by_cases hlt : k < m.exps.length
                    · by_cases hb : z ≤ 2147483647
                      · have hd : decide (z ≤ 2147483647) = true := decide_eq_true hb
                        obtain ⟨b1, o1, cs1, hb1, _, _, hc1, hr1⟩ := R6.out k hlt
                        obtain rfl := hb1
                        have hr1 : cs1 = [.string m.exps[k].name, .int .i64 m.exps[k].f] := hr1
                        subst hr1
                        have e0 := cell_below hbel (hc1 0 (by omega))
                        simp at e0
                        clear hc1
                        go_wp2_with fail
                        go_roundw
                        case rel => exact ⟨k + 1, _, by omega, by go_num, rfl, (by first | exact hbel | exact hbel.drew | exact bel_drewN5 hbel _), HA⟩
                        case measure => simp [intOf]; omega
                      · have hd : decide (z ≤ 2147483647) = false := decide_eq_false hb
                        go_wp2_with fail
                        go_ret
                        first | exact ⟨⟨_, rfl⟩, hbel⟩ | exact ⟨_, rfl, hbel⟩
                    · obtain rfl : k = m.exps.length := by omega
                      go_wp2_with fail
                      go_ret
                      first | exact ⟨⟨_, rfl⟩, hbel⟩ | exact ⟨_, rfl, hbel⟩
              · obtain rfl : k = m.datas.length := by omega
                go_wp2_with fail
                go_loopw [3, 7] (fun n i wr => ∃ (k : Nat) (z : Int), k ≤ m.exps.length ∧ i = .int .i64 k ∧ n = .int .i64 z ∧ Below w.heap.size w wr ∧ Hid (wr.heap[w.heap.size]? = some (.cells #[.slice at0 m.types.length at1, .slice ah0 m.hosts.length ah1, .slice ag0 m.globals.length ag1, .int .i64 m.first, .int .i64 m.most, .slice af0 m.funs.length af1, .slice ad0 m.datas.length ad1, .slice ae0 m.exps.length ae1] 29 (0, 0)))) (fun _ i _ => m.exps.length - (intOf i).toNat)
                case atStart => exact ⟨0, _, by omega, rfl, rfl, hbel, HA⟩
                case round =>
                  clear hbel HA y0 y5 y6 y7
                  obtain ⟨k, z, hk, rfl, rfl, hbel, HA⟩ := hrel
                  have y0 := row_cell HA.out 0 rfl; have y5 := row_cell HA.out 5 rfl; have y6 := row_cell HA.out 6 rfl; have y7 := row_cell HA.out 7 rfl
                  simp only [List.getElem_toArray, List.getElem_cons_zero, List.getElem_cons_succ] at y0 y5 y6 y7
                  by_cases hlt : k < m.exps.length
                  · by_cases hb : z ≤ 2147483647
                    · have hd : decide (z ≤ 2147483647) = true := decide_eq_true hb
                      obtain ⟨b1, o1, cs1, hb1, _, _, hc1, hr1⟩ := R6.out k hlt
                      obtain rfl := hb1
                      have hr1 : cs1 = [.string m.exps[k].name, .int .i64 m.exps[k].f] := hr1
                      subst hr1
                      have e0 := cell_below hbel (hc1 0 (by omega))
                      simp at e0
                      clear hc1
                      go_wp2_with fail
                      go_roundw
                      case rel => exact ⟨k + 1, _, by omega, by go_num, rfl, (by first | exact hbel | exact hbel.drew | exact bel_drewN5 hbel _), HA⟩
                      case measure => simp [intOf]; omega
                    · have hd : decide (z ≤ 2147483647) = false := decide_eq_false hb
                      go_wp2_with fail
                      go_ret
                      first | exact ⟨⟨_, rfl⟩, hbel⟩ | exact ⟨_, rfl, hbel⟩
                  · obtain rfl : k = m.exps.length := by omega
                    go_wp2_with fail
                    go_ret
                    first | exact ⟨⟨_, rfl⟩, hbel⟩ | exact ⟨_, rfl, hbel⟩
        · obtain rfl : k = m.funs.length := by omega
          go_wp2_with fail
          go_loopw [3, 6] (fun n i wr => ∃ (k : Nat) (z : Int), k ≤ m.datas.length ∧ i = .int .i64 k ∧ n = .int .i64 z ∧ Below w.heap.size w wr ∧ Hid (wr.heap[w.heap.size]? = some (.cells #[.slice at0 m.types.length at1, .slice ah0 m.hosts.length ah1, .slice ag0 m.globals.length ag1, .int .i64 m.first, .int .i64 m.most, .slice af0 m.funs.length af1, .slice ad0 m.datas.length ad1, .slice ae0 m.exps.length ae1] 29 (0, 0)))) (fun _ i _ => m.datas.length - (intOf i).toNat)
          case atStart => exact ⟨0, _, by omega, rfl, rfl, hbel, HA⟩
          case round =>
            clear hbel HA y0 y5 y6 y7
            obtain ⟨k, z, hk, rfl, rfl, hbel, HA⟩ := hrel
            have y0 := row_cell HA.out 0 rfl; have y5 := row_cell HA.out 5 rfl; have y6 := row_cell HA.out 6 rfl; have y7 := row_cell HA.out 7 rfl
            simp only [List.getElem_toArray, List.getElem_cons_zero, List.getElem_cons_succ] at y0 y5 y6 y7
            by_cases hlt : k < m.datas.length
            · by_cases hb : z ≤ 2147483647
              · have hd : decide (z ≤ 2147483647) = true := decide_eq_true hb
                obtain ⟨b1, o1, cs1, hb1, _, _, hc1, v, hr1, hr2⟩ := R5.out k hlt
                obtain rfl := hb1
                subst hr1
                obtain ⟨va, vc, rfl, -⟩ := hr2.len
                have e1 := cell_below hbel (hc1 1 (by omega))
                (try simp at e1)
                clear hc1 hr2
                go_wp2_with fail
                go_roundw
                case rel => exact ⟨k + 1, _, by omega, by go_num, rfl, (by first | exact hbel | exact hbel.drew | exact bel_drewN5 hbel _), HA⟩
                case measure => simp [intOf]; omega
              · have hd : decide (z ≤ 2147483647) = false := decide_eq_false hb
                go_wp2_with fail
                go_loopw [3, 7] (fun n i wr => ∃ (k : Nat) (z : Int), k ≤ m.exps.length ∧ i = .int .i64 k ∧ n = .int .i64 z ∧ Below w.heap.size w wr ∧ Hid (wr.heap[w.heap.size]? = some (.cells #[.slice at0 m.types.length at1, .slice ah0 m.hosts.length ah1, .slice ag0 m.globals.length ag1, .int .i64 m.first, .int .i64 m.most, .slice af0 m.funs.length af1, .slice ad0 m.datas.length ad1, .slice ae0 m.exps.length ae1] 29 (0, 0)))) (fun _ i _ => m.exps.length - (intOf i).toNat)
                case atStart => exact ⟨0, _, by omega, rfl, rfl, hbel, HA⟩
                case round =>
                  clear hbel HA y0 y5 y6 y7
                  obtain ⟨k, z, hk, rfl, rfl, hbel, HA⟩ := hrel
                  have y0 := row_cell HA.out 0 rfl; have y5 := row_cell HA.out 5 rfl; have y6 := row_cell HA.out 6 rfl; have y7 := row_cell HA.out 7 rfl
                  simp only [List.getElem_toArray, List.getElem_cons_zero, List.getElem_cons_succ] at y0 y5 y6 y7
                  by_cases hlt : k < m.exps.length
                  · by_cases hb : z ≤ 2147483647
                    · have hd : decide (z ≤ 2147483647) = true := decide_eq_true hb
                      obtain ⟨b1, o1, cs1, hb1, _, _, hc1, hr1⟩ := R6.out k hlt
                      obtain rfl := hb1
                      have hr1 : cs1 = [.string m.exps[k].name, .int .i64 m.exps[k].f] := hr1
                      subst hr1
                      have e0 := cell_below hbel (hc1 0 (by omega))
                      simp at e0
                      clear hc1
                      go_wp2_with fail
                      go_roundw
                      case rel => exact ⟨k + 1, _, by omega, by go_num, rfl, (by first | exact hbel | exact hbel.drew | exact bel_drewN5 hbel _), HA⟩
                      case measure => simp [intOf]; omega
                    · have hd : decide (z ≤ 2147483647) = false := decide_eq_false hb
                      go_wp2_with fail
                      go_ret
                      first | exact ⟨⟨_, rfl⟩, hbel⟩ | exact ⟨_, rfl, hbel⟩
                  · obtain rfl : k = m.exps.length := by omega
                    go_wp2_with fail
                    go_ret
                    first | exact ⟨⟨_, rfl⟩, hbel⟩ | exact ⟨_, rfl, hbel⟩
            · obtain rfl : k = m.datas.length := by omega
              go_wp2_with fail
              go_loopw [3, 7] (fun n i wr => ∃ (k : Nat) (z : Int), k ≤ m.exps.length ∧ i = .int .i64 k ∧ n = .int .i64 z ∧ Below w.heap.size w wr ∧ Hid (wr.heap[w.heap.size]? = some (.cells #[.slice at0 m.types.length at1, .slice ah0 m.hosts.length ah1, .slice ag0 m.globals.length ag1, .int .i64 m.first, .int .i64 m.most, .slice af0 m.funs.length af1, .slice ad0 m.datas.length ad1, .slice ae0 m.exps.length ae1] 29 (0, 0)))) (fun _ i _ => m.exps.length - (intOf i).toNat)
              case atStart => exact ⟨0, _, by omega, rfl, rfl, hbel, HA⟩
              case round =>
                clear hbel HA y0 y5 y6 y7
                obtain ⟨k, z, hk, rfl, rfl, hbel, HA⟩ := hrel
                have y0 := row_cell HA.out 0 rfl; have y5 := row_cell HA.out 5 rfl; have y6 := row_cell HA.out 6 rfl; have y7 := row_cell HA.out 7 rfl
                simp only [List.getElem_toArray, List.getElem_cons_zero, List.getElem_cons_succ] at y0 y5 y6 y7
                by_cases hlt : k < m.exps.length
                · by_cases hb : z ≤ 2147483647
                  · have hd : decide (z ≤ 2147483647) = true := decide_eq_true hb
                    obtain ⟨b1, o1, cs1, hb1, _, _, hc1, hr1⟩ := R6.out k hlt
                    obtain rfl := hb1
                    have hr1 : cs1 = [.string m.exps[k].name, .int .i64 m.exps[k].f] := hr1
                    subst hr1
                    have e0 := cell_below hbel (hc1 0 (by omega))
                    simp at e0
                    clear hc1
                    go_wp2_with fail
                    go_roundw
                    case rel => exact ⟨k + 1, _, by omega, by go_num, rfl, (by first | exact hbel | exact hbel.drew | exact bel_drewN5 hbel _), HA⟩
                    case measure => simp [intOf]; omega
                  · have hd : decide (z ≤ 2147483647) = false := decide_eq_false hb
                    go_wp2_with fail
                    go_ret
                    first | exact ⟨⟨_, rfl⟩, hbel⟩ | exact ⟨_, rfl, hbel⟩
                · obtain rfl : k = m.exps.length := by omega
                  go_wp2_with fail
                  go_ret
                  first | exact ⟨⟨_, rfl⟩, hbel⟩ | exact ⟨_, rfl, hbel⟩
end Go.Proofs.YteaolgldkfjdkaaDoor
