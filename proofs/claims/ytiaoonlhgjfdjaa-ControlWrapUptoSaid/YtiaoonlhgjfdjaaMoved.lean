/- flagonlaw09.moved, named. -/
import Derived.Test.YtiaoonlhgjfdjaaCopyC
import Derived.Test.YtiaoonlhgjfdjaaWrapR
namespace Go.Proofs.Ytiaoonlhgjfdjaa
open Go Go.RowKit
set_option linter.unusedSimpArgs false

theorem movedP_snoc (l : List Int) (x n : Int) (r : Bool) : movedP (l ++ [x]) n r = movedP l n r ++ [if x = n ∧ r = true then n + 2 else if x = -1 then -1 else x + 1] := by simp [movedP]
theorem movedP_len (l : List Int) (n : Int) (r : Bool) : (movedP l n r).length = l.length := by simp [movedP]
set_option maxRecDepth 100000 in
set_option maxHeartbeats 1600000 in
theorem law_moved (w : World) (S) (v : Value) (l : List Int) (n : Int) (r : Bool) (hr : RdI .i64 S w v l) (hl : l.length ≤ 1048577) (hb : ∀ x ∈ l, -1 ≤ x ∧ x ≤ 1048577) (hn : -2 ≤ n ∧ n ≤ 1048577) :
    Calls Try.prog 14 #[v, .int .i64 n, .bool r] w fun e w' => ∃ v', e = .returned v' ∧ Below w.heap.size w w' ∧ OwnI w.heap.size 3 w' v' (movedP l n r) := by
  obtain ⟨i0, hi, hz0, hz1, hz2⟩ := info_parts Try.infoIntF
  have HL := Lib.hid hr.any
  have HBD := Lib.hid hb
  obtain ⟨va, vc, rfl, _⟩ := hr.lenc
  clear hr hb
  go_enter Try.func14, Try.ntmps14
  go_wp2
  go_loopw [7, 8] (fun ov i wr => ∃ (k : Nat) (acc : List Int), k ≤ l.length ∧ acc.length ≤ k ∧ i = .int .i64 k ∧ Hid (acc = movedP (l.take k) n r) ∧ Hid (OwnI w.heap.size 3 wr ov acc) ∧ Hid (Below w.heap.size w wr)) (fun _ i _ => l.length - (intOf i).toNat)
  case atStart => exact ⟨0, [], by omega, by simp, rfl, Lib.hid rfl, Lib.hid (World.ownsRow_nil _ _ _ _), Lib.hid (Below.refl _ _)⟩
  case round =>
    obtain ⟨k, acc, hk, hal, rfl, HA, HO, HB⟩ := hrel
    by_cases hlt : k < l.length
    · obtain ⟨va', vc', e, _, _, hce⟩ := HL.out.keeps (Keeps.of_below HB.out)
      simp only [Value.slice.injEq] at e
      obtain ⟨rfl, _, rfl⟩ := e
      obtain ⟨bb, off, rfl, _, hcl⟩ := hce k hlt
      have hbx := HBD.out l[k] (List.getElem_mem hlt)
      have HS := movedP_snoc (l.take k) l[k] n r
      rw [← List.take_succ_eq_append_getElem hlt, ← HA.out] at HS
      have HS := Lib.hid HS
      clear hce
      generalize l[k] = x at *
      have step : ∀ y : Int, (if x = n ∧ r = true then n + 2 else if x = -1 then -1 else x + 1) = y → Hid (acc ++ [y] = movedP (l.take (k + 1)) n r) := fun y hy => Lib.hid (by rw [HS.out, hy])
      have hown : ∀ y : Int, Hid ((wr.alloc (.cells #[.int .i64 y] 3)).ownsRow w.heap.size 3 1 _ acc.length (ints acc)) := fun y => Lib.hid (own_below HO.out (below_alloc wr (.cells #[.int .i64 y] 3)))
      have hB6 : ∀ y : Int, w.heap.size ≤ (wr.alloc (.cells #[.int .i64 y] 3)).heap.size := fun y => by have := HB.out.size; rw [World.size_alloc]; omega
      have hfin : ∀ (m : Nat) (y : Int) (v' : Value) (w7 : World), w7.ownsRow w.heap.size 3 1 v' (acc.length + 1) (ints acc ++ [.int .i64 y]) → Kept (wr.alloc (.cells #[.int .i64 y] 3)) w7 (_ : Value).ownBlock m → Hid (OwnI w.heap.size 3 w7 v' (acc ++ [y])) ∧ Hid (Below w.heap.size w w7) := fun m y v' w7 ho hk7 =>
        ⟨Lib.hid (by simpa [OwnI, ints] using ho), Lib.hid ((below_next HB.out (below_alloc wr (.cells #[.int .i64 y] 3))).grown hk7.grown (hB6 y) fun j hj => ((hown y).out.lt j hj).1)⟩
      have HST := Lib.hid step; have HOW := Lib.hid hown; have HB6 := Lib.hid hB6; have HFI := Lib.hid hfin
      clear step hown hB6 hfin
      obtain ⟨oa, oc, rfl, _⟩ := own_slice HO.out
      by_cases hxn : x = n ∧ r = true
      · have HSX := HST.out (n + 2) (by rw [if_pos hxn])
        obtain ⟨rfl, rfl⟩ := hxn
        go_wp2_with (at_builtin; refine wpList_append_kept _ rfl _ _ 25 rfl w.heap.size 3 i0 (.int .i64 0) 1 8 Try.underlying25 hi hz0 hz1 hz2 rfl (by decide) _ acc.length (ints acc) rfl (HOW.out (x + 2)).out ⟨wr.heap.size, 0, none⟩ 1 1 [.int .i64 (x + 2)] rfl rfl (cell_one_new _ _ _) (by simp [Value.oneCell']) (by unfold maxLen; omega) (by omega) (HB6.out (x + 2)) ?_)
        intro v' w7 ho hk7 _
        obtain ⟨HO7, HB7⟩ := HFI.out _ (x + 2) v' w7 ho hk7
        clear ho hk7
        go_wp2
        go_roundw
        case rel => exact ⟨k + 1, _, by omega, by simp; omega, by go_num, HSX, HO7, HB7⟩
        case measure => simp [intOf]; omega
      · by_cases hxe : x = n
        · obtain rfl : r = false := by
            cases r with
            | false => rfl
            | true => exact absurd ⟨hxe, rfl⟩ hxn
          have hbn : (x == n) = true := beq_iff_eq.2 hxe
          clear hxe
          by_cases hx1 : x = -1
          · have HSX := HST.out (-1) (by rw [if_neg hxn, if_pos hx1])
            have hb1 : (x == -1) = true := beq_iff_eq.2 hx1
            clear hx1 hxn
            go_wp2_with (at_builtin; refine wpList_append_kept _ rfl _ _ 25 rfl w.heap.size 3 i0 (.int .i64 0) 1 8 Try.underlying25 hi hz0 hz1 hz2 rfl (by decide) _ acc.length (ints acc) rfl (HOW.out (-1)).out ⟨wr.heap.size, 0, none⟩ 1 1 [.int .i64 (-1)] rfl rfl (cell_one_new _ _ _) (by simp [Value.oneCell']) (by unfold maxLen; omega) (by omega) (HB6.out (-1)) ?_)
            intro v' w7 ho hk7 _
            obtain ⟨HO7, HB7⟩ := HFI.out _ (-1) v' w7 ho hk7
            clear ho hk7
            go_wp2
            go_roundw
            case rel => exact ⟨k + 1, _, by omega, by simp; omega, by go_num, HSX, HO7, HB7⟩
            case measure => simp [intOf]; omega
          · have HSX := HST.out (x + 1) (by rw [if_neg hxn, if_neg hx1])
            have hb1 : (x == -1) = false := beq_eq_false_iff_ne.2 hx1
            clear hxn
            go_wp2_with (at_builtin; refine wpList_append_kept _ rfl _ _ 25 rfl w.heap.size 3 i0 (.int .i64 0) 1 8 Try.underlying25 hi hz0 hz1 hz2 rfl (by decide) _ acc.length (ints acc) rfl (HOW.out (x + 1)).out ⟨wr.heap.size, 0, none⟩ 1 1 [.int .i64 (x + 1)] rfl rfl (cell_one_new _ _ _) (by simp [Value.oneCell']) (by unfold maxLen; omega) (by omega) (HB6.out (x + 1)) ?_)
            intro v' w7 ho hk7 _
            obtain ⟨HO7, HB7⟩ := HFI.out _ (x + 1) v' w7 ho hk7
            clear ho hk7
            go_wp2
            go_roundw
            case rel => exact ⟨k + 1, _, by omega, by simp; omega, by go_num, HSX, HO7, HB7⟩
            case measure => simp [intOf]; omega
        · have hbn : (x == n) = false := beq_eq_false_iff_ne.2 hxe
          clear hxe
          by_cases hx1 : x = -1
          · have HSX := HST.out (-1) (by rw [if_neg hxn, if_pos hx1])
            have hb1 : (x == -1) = true := beq_iff_eq.2 hx1
            clear hx1 hxn
            go_wp2_with (at_builtin; refine wpList_append_kept _ rfl _ _ 25 rfl w.heap.size 3 i0 (.int .i64 0) 1 8 Try.underlying25 hi hz0 hz1 hz2 rfl (by decide) _ acc.length (ints acc) rfl (HOW.out (-1)).out ⟨wr.heap.size, 0, none⟩ 1 1 [.int .i64 (-1)] rfl rfl (cell_one_new _ _ _) (by simp [Value.oneCell']) (by unfold maxLen; omega) (by omega) (HB6.out (-1)) ?_)
            intro v' w7 ho hk7 _
            obtain ⟨HO7, HB7⟩ := HFI.out _ (-1) v' w7 ho hk7
            clear ho hk7
            go_wp2
            go_roundw
            case rel => exact ⟨k + 1, _, by omega, by simp; omega, by go_num, HSX, HO7, HB7⟩
            case measure => simp [intOf]; omega
          · have HSX := HST.out (x + 1) (by rw [if_neg hxn, if_neg hx1])
            have hb1 : (x == -1) = false := beq_eq_false_iff_ne.2 hx1
            clear hxn
            go_wp2_with (at_builtin; refine wpList_append_kept _ rfl _ _ 25 rfl w.heap.size 3 i0 (.int .i64 0) 1 8 Try.underlying25 hi hz0 hz1 hz2 rfl (by decide) _ acc.length (ints acc) rfl (HOW.out (x + 1)).out ⟨wr.heap.size, 0, none⟩ 1 1 [.int .i64 (x + 1)] rfl rfl (cell_one_new _ _ _) (by simp [Value.oneCell']) (by unfold maxLen; omega) (by omega) (HB6.out (x + 1)) ?_)
            intro v' w7 ho hk7 _
            obtain ⟨HO7, HB7⟩ := HFI.out _ (x + 1) v' w7 ho hk7
            clear ho hk7
            go_wp2
            go_roundw
            case rel => exact ⟨k + 1, _, by omega, by simp; omega, by go_num, HSX, HO7, HB7⟩
            case measure => simp [intOf]; omega
    · obtain rfl : k = l.length := by omega
      go_wp2
      go_ret
      exact ⟨_, rfl, HB.out, by have h := HA.out; rw [List.take_length] at h; rw [← h]; exact HO.out⟩
instance (op : Nat) (a : Int) (xl : List Int) (k : Nat) : Decidable (namedP op a xl k) := by unfold namedP; infer_instance
def NmK (op : Nat) (xl : List Int) (k j : Nat) : Prop := op = 9 → ∀ t (h : t < xl.length), t < j → xl[t] < (k : Int)
set_option maxRecDepth 100000 in
set_option maxHeartbeats 1600000 in
theorem law_named (w : World) (S) (op : Nat) (a : Int) (v : Value) (xl : List Int) (k : Nat) (hr : RdI .i64 S w v xl) (hl : xl.length ≤ 1048576) :
    Calls Try.prog 15 #[.agg #[.int .u8 op, .int .i64 a, v], .int .i64 k] w fun e w' => e = .returned (.bool (decide (namedP op a xl k))) ∧ Below w.heap.size w w' := by
  obtain ⟨va, vc, rfl, _⟩ := hr.lenc
  have hb1 := below_alloc w (.cells #[.int .u8 op, .int .i64 a, .slice va xl.length vc] 31)
  have hr1 := heap_alloc_new w (.cells #[.int .u8 op, .int .i64 a, .slice va xl.length vc] 31)
  have HL := Lib.hid (hr.any.bel hb1)
  have HB := Lib.hid hb1; have HR := Lib.hid hr1
  have x0 := row_cell hr1 0 rfl; have x1 := row_cell hr1 1 rfl; have x2 := row_cell hr1 2 rfl
  simp only [List.getElem_toArray, List.getElem_cons_zero, List.getElem_cons_succ] at x0 x1 x2
  clear hr hb1 hr1
  by_cases h78 : op = 7 ∨ op = 8
  · have hd : decide (namedP op a xl k) = decide (a < k) := by
      apply decide_eq_decide.2
      unfold namedP
      constructor
      · exact fun h => h.1 h78
      · exact fun h => ⟨fun _ => h, fun h9 => by omega⟩
    rw [hd]
    clear hd
    rcases h78 with rfl | rfl
    all_goals
      go_enter Try.func15, Try.ntmps15
      go_wp2
      go_ret
      exact ⟨rfl, HB.out⟩
  · have hb7 : ((op : Int) == 7) = false := by simp; omega
    have hb8 : ((op : Int) == 8) = false := by simp; omega
    have HD : Hid (namedP op a xl k ↔ (op = 9 → ∀ x ∈ xl, x < (k : Int))) := Lib.hid ⟨fun h => h.2, fun h => ⟨fun h' => absurd h' h78, h⟩⟩
    clear h78
    go_enter Try.func15, Try.ntmps15
    go_wp2
    obtain ⟨w1, hw1⟩ : ∃ w1, w.alloc (.cells #[.int .u8 op, .int .i64 a, .slice va xl.length vc] 31) = w1 := ⟨_, rfl⟩
    rw [hw1] at HL HB HR x0 x1 x2 ⊢
    clear hw1
    have hgs : w.heap.size < w1.heap.size := row_lt HR.out
    go_loopw [5] (fun i wr => ∃ j : Nat, j ≤ xl.length ∧ i = .int .i64 j ∧ Hid (NmK op xl k j) ∧ Hid (Below w1.heap.size w1 wr)) (fun i _ => xl.length - (intOf i).toNat)
    case atStart => exact ⟨0, by omega, rfl, Lib.hid fun _ t _ h => absurd h (by omega), Lib.hid (Below.refl _ _)⟩
    case round =>
      obtain ⟨j, hj, rfl, HJ, HBj⟩ := hrel
      have hr := (HBj.out.block _ (row_lt HR.out)).trans HR.out
      have y0 := row_cell hr 0 rfl; have y2 := row_cell hr 2 rfl
      simp only [List.getElem_toArray, List.getElem_cons_zero, List.getElem_cons_succ] at y0 y2
      clear hr x0 x1 x2
      by_cases hlt : j < xl.length
      · obtain ⟨va', vc', e, _, _, hce⟩ := HL.out.bel HBj.out
        simp only [Value.slice.injEq] at e
        obtain ⟨rfl, _, rfl⟩ := e
        obtain ⟨bb, off, rfl, _, hcl⟩ := hce j hlt
        clear hce
        obtain ⟨x, hx⟩ : ∃ x, xl[j] = x := ⟨_, rfl⟩
        rw [hx] at hcl
        have HX := Lib.hid hx
        clear hx
        by_cases h9 : op = 9
        · subst h9
          by_cases hxk : (k : Int) ≤ x
          · have hfalse : ¬ namedP 9 a xl k := fun h => by have := HD.out.1 h rfl xl[j] (List.getElem_mem hlt); rw [HX.out] at this; omega
            have HF := Lib.hid hfalse
            clear hfalse
            go_wp2
            go_ret
            exact ⟨by rw [decide_eq_false HF.out]; rfl, HB.out.trans (HBj.out.mono (Nat.le_of_lt hgs))⟩
          · have HN : Hid (NmK 9 xl k (j + 1)) := Lib.hid fun _ t h ht => by
              by_cases e : t = j
              · subst e; rw [HX.out]; omega
              · exact HJ.out rfl t h (by omega)
            have hd : decide ((k : Int) ≤ x) = false := decide_eq_false hxk
            go_wp2
            go_roundw
            case rel => exact ⟨j + 1, by omega, by go_num, HN, HBj⟩
            case measure => simp [intOf]; omega
        · have HN : Hid (NmK op xl k (j + 1)) := Lib.hid fun h => absurd h h9
          have hb9 : ((op : Int) == 9) = false := by simp; omega
          clear h9
          go_wp2
          go_roundw
          case rel => exact ⟨j + 1, by omega, by go_num, HN, HBj⟩
          case measure => simp [intOf]; omega
      · have htrue : namedP op a xl k := HD.out.2 fun h9 x hx => by
          obtain ⟨t, ht, rfl⟩ := List.getElem_of_mem hx
          exact HJ.out h9 t ht (by omega)
        have HT := Lib.hid htrue
        clear htrue
        go_wp2
        go_ret
        exact ⟨by rw [decide_eq_true HT.out]; rfl, HB.out.trans (HBj.out.mono (Nat.le_of_lt hgs))⟩
end Go.Proofs.Ytiaoonlhgjfdjaa
