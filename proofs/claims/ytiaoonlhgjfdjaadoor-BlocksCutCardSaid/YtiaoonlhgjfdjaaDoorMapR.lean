/- flagonref09.Map (printed by gen/mapr.py). -/
import Derived.Test.YtiaoonlhgjfdjaaDoorMapC
import Derived.Test.YtiaoonlhgjfdjaaDoorFilled
namespace Go.Proofs.YtiaoonlhgjfdjaaDoor
open Go Go.RowKit
set_option linter.unusedSimpArgs false

set_option maxRecDepth 100000 in
theorem ref09_Opens (w : World) (op : Nat) : Calls Tryd.prog 65 #[.int .u8 op] w fun e w' => e = .returned (.bool (decide (opensP op))) ∧ w' = w := by
  by_cases h : op = 2 ∨ op = 3 ∨ op = 4
  · rw [decide_eq_true (show opensP op from h)]
    rcases h with rfl | rfl | rfl
    all_goals
      go_enter Tryd.func65, Tryd.ntmps65
      go_wp2
      go_ret
      exact ⟨rfl, rfl⟩
  · rw [decide_eq_false (show ¬ opensP op from h)]
    have hb2 : ((op : Int) == 2) = false := by simp; omega
    have hb3 : ((op : Int) == 3) = false := by simp; omega
    have hb4 : ((op : Int) == 4) = false := by simp; omega
    clear h
    go_enter Tryd.func65, Tryd.ntmps65
    go_wp2
    go_ret
    exact ⟨rfl, rfl⟩
section
variable {B T : Nat} {w wr wy : World} {v1 v2 v3 v' : Value} {E L O : List Int} {x : Int}
theorem new_far {g : Nat} {u v : Value} {l : List Int} (h : OwnI B T wr u l) (hd : ∀ g, v.ownBlock = some g → u.ownBlock ≠ some g) (hn : ∀ g, v'.ownBlock = some g → v.ownBlock = some g ∨ wr.heap.size ≤ g) (hg : v'.ownBlock = some g) : u.ownBlock ≠ some g := by
  rcases hn g hg with h1 | h1
  · exact hd g h1
  · intro e; have := h.lt g e; omega
theorem flip_far {u v : Value} (hd : ∀ g, v.ownBlock = some g → u.ownBlock ≠ some g) : ∀ g, u.ownBlock = some g → v.ownBlock ≠ some g := fun g h1 h2 => hd g h2 h1
theorem kept_far {u v : Value} {l : List Int} (h : OwnI B T wr u l) (hd : ∀ g, v.ownBlock = some g → u.ownBlock ≠ some g) (hg : wr.grownBy wy v.ownBlock) : OwnI B T wy u l :=
  own_keeps (S := fun b => v.ownBlock ≠ some b) h ((Keeps.refl _ wr).grown hg fun _ hk _ h' => h' hk) fun b hb e => hd b e hb
theorem R3.app1 (h : R3 B T wr v1 v2 v3 E L O) (ho : wy.ownsRow B T 1 v' (E.length + 1) (ints E ++ [.int .i64 x])) (hg : wr.grownBy wy v1.ownBlock) (hn : ∀ g, v'.ownBlock = some g → v1.ownBlock = some g ∨ wr.heap.size ≤ g) : R3 B T wy v' v2 v3 (E ++ [x]) L O :=
  ⟨by simpa [OwnI, ints] using ho, kept_far h.r2 h.d12 hg, kept_far h.r3 h.d13 hg, fun _ e => new_far h.r2 h.d12 hn e, fun _ e => new_far h.r3 h.d13 hn e, h.d23⟩
theorem R3.app2 (h : R3 B T wr v1 v2 v3 E L O) (ho : wy.ownsRow B T 1 v' (L.length + 1) (ints L ++ [.int .i64 x])) (hg : wr.grownBy wy v2.ownBlock) (hn : ∀ g, v'.ownBlock = some g → v2.ownBlock = some g ∨ wr.heap.size ≤ g) : R3 B T wy v1 v' v3 E (L ++ [x]) O :=
  ⟨kept_far h.r1 (flip_far h.d12) hg, by simpa [OwnI, ints] using ho, kept_far h.r3 h.d23 hg, flip_far fun _ e => new_far h.r1 (flip_far h.d12) hn e, h.d13, fun _ e => new_far h.r3 h.d23 hn e⟩
theorem R3.app3 (h : R3 B T wr v1 v2 v3 E L O) (ho : wy.ownsRow B T 1 v' (O.length + 1) (ints O ++ [.int .i64 x])) (hg : wr.grownBy wy v3.ownBlock) (hn : ∀ g, v'.ownBlock = some g → v3.ownBlock = some g ∨ wr.heap.size ≤ g) : R3 B T wy v1 v2 v' E L (O ++ [x]) :=
  ⟨kept_far h.r1 (flip_far h.d13) hg, kept_far h.r2 (flip_far h.d23) hg, by simpa [OwnI, ints] using ho, h.d12, flip_far fun _ e => new_far h.r1 (flip_far h.d13) hn e, flip_far fun _ e => new_far h.r2 (flip_far h.d23) hn e⟩
end
theorem rep_app (k : Nat) : List.replicate k (-1 : Int) ++ [-1] = List.replicate (k + 1) (-1) := by rw [List.replicate_succ']
/-- The body's end was met at pc - 1. -/
structure Md (w : World) (T : Nat) (l : List InsD) (v1 v2 v3 : Value) (wr : World) (pc : Nat) : Prop where
  bel : Below w.heap.size w wr
  rest : pc < l.length → mapP (opsOf l) = ([], [], [], 19, pc)
  done : ¬ pc < l.length → ∃ E L O, mapP (opsOf l) = (E, L, O, 0, 0) ∧ R3 w.heap.size T wr v1 v2 v3 E L O
theorem ki_last {s : Ms} (ht : ¬ s.top < 0) : (Ki s)[s.open_.length - 1]? = some (.int .i64 s.top) := by
  obtain ⟨l, hl⟩ := top_some ht
  have e : (s.top.toNat : Int) = s.top := by omega
  rw [Ki, hl]
  simp [ints]
  omega
theorem ki_pop {s : Ms} (s' : Ms) (ho : s'.open_ = s.open_.dropLast) : (Ki s).take ((s.open_.length - 1) * 1) = Ki s' := by
  simp [Ki, ho, ints, List.dropLast_eq_take, List.map_take]
set_option maxRecDepth 100000 in
set_option maxHeartbeats 12800000 in
theorem ref09_Map (w : World) (v : Value) (l : List InsD) (hc : Cd w v l) (hl : l.length ≤ 1048576) :
    Calls Tryd.prog 26 #[v] w fun e w' => ∃ v1 v2 v3, e = .returned (.tuple #[v1, v2, v3, .int .i64 (mapP (opsOf l)).2.2.2.1, .int .i64 (mapP (opsOf l)).2.2.2.2]) ∧ MapA w 3 (opsOf l) v1 v2 v3 w' := by
  obtain ⟨i0, hi, hz0, hz1, hz2⟩ := info_parts Tryd.infoIntF
  obtain ⟨va, vc, rfl, _⟩ := hc.len
  have HC := Lib.hid hc; clear hc
  go_enter Tryd.func26, Tryd.ntmps26
  go_wp2
  go_loopw [7, 8, 9, 10] (fun v1 v2 v3 i wr => ∃ k : Nat, k ≤ l.length ∧ i = .int .i64 k ∧ Hid (R3 w.heap.size 3 wr v1 v2 v3 (List.replicate k (-1)) (List.replicate k (-1)) (List.replicate k (-1))) ∧ Hid (Below w.heap.size w wr)) (fun _ _ _ i _ => l.length - (intOf i).toNat)
  case atStart => exact ⟨0, by omega, rfl, Lib.hid ⟨World.ownsRow_nil _ _ _ _, World.ownsRow_nil _ _ _ _, World.ownsRow_nil _ _ _ _, by simp [Value.ownBlock], by simp [Value.ownBlock], by simp [Value.ownBlock]⟩, Lib.hid (Below.refl _ _)⟩
  case round =>
    obtain ⟨k, hk, rfl, HR, HB⟩ := hrel
    by_cases hlt : k < l.length
    · have HKl : Hid ((List.replicate k (-1 : Int)).length = k) := Lib.hid (by simp)
      have ha1 := below_alloc wr (.cells #[.int .i64 (-1)] 3)
      have HA1 := Lib.hid (HR.out.on ha1)
      have HO1 : Hid ((wr.alloc (.cells #[.int .i64 (-1)] 3)).ownsRow w.heap.size 3 1 _ k (ints (List.replicate k (-1)))) := Lib.hid (by have := HA1.out.r1; unfold OwnI at this; rw [HKl.out] at this; exact this)
      have HAB1 := Lib.hid (below_next HB.out ha1)
      have hs1 := HAB1.out.size
      clear ha1
      go_wp2_with (at_builtin; refine wpList_append_kept _ rfl _ _ 24 rfl w.heap.size 3 i0 (.int .i64 0) 1 8 Tryd.underlying24 hi hz0 hz1 hz2 rfl (by decide) _ (k) (ints (List.replicate k (-1))) rfl HO1.out ⟨wr.heap.size, 0, none⟩ 1 1 [.int .i64 (-1)] rfl rfl (cell_one_new _ _ _) (by simp [Value.oneCell']) (by unfold maxLen; omega) (by omega) hs1 ?_)
      intro y1 w1 ho hkk hn
      have HR1 := Lib.hid (HA1.out.app1 (x := -1) (by rw [HKl.out]; simpa [ints] using ho) hkk.grown fun g hg => (hn g hg).imp id fun h => by rw [World.size_alloc]; exact h)
      have HB1 := Lib.hid (HAB1.out.grown hkk.grown hs1 fun j hj => (HO1.out.lt j hj).1)
      clear ho hkk hn hs1 HA1 HO1 HAB1
      have ha2 := below_alloc w1 (.cells #[.int .i64 (-1)] 3)
      have HA2 := Lib.hid (HR1.out.on ha2)
      have HO2 : Hid ((w1.alloc (.cells #[.int .i64 (-1)] 3)).ownsRow w.heap.size 3 1 _ k (ints (List.replicate k (-1)))) := Lib.hid (by have := HA2.out.r2; unfold OwnI at this; rw [HKl.out] at this; exact this)
      have HAB2 := Lib.hid (below_next HB1.out ha2)
      have hs2 := HAB2.out.size
      clear ha2
      go_wp2_with (at_builtin; refine wpList_append_kept _ rfl _ _ 24 rfl w.heap.size 3 i0 (.int .i64 0) 1 8 Tryd.underlying24 hi hz0 hz1 hz2 rfl (by decide) _ (k) (ints (List.replicate k (-1))) rfl HO2.out ⟨w1.heap.size, 0, none⟩ 1 1 [.int .i64 (-1)] rfl rfl (cell_one_new _ _ _) (by simp [Value.oneCell']) (by unfold maxLen; omega) (by omega) hs2 ?_)
      intro y2 w2 ho hkk hn
      have HR2 := Lib.hid (HA2.out.app2 (x := -1) (by rw [HKl.out]; simpa [ints] using ho) hkk.grown fun g hg => (hn g hg).imp id fun h => by rw [World.size_alloc]; exact h)
      have HB2 := Lib.hid (HAB2.out.grown hkk.grown hs2 fun j hj => (HO2.out.lt j hj).1)
      clear ho hkk hn hs2 HA2 HO2 HAB2
      have ha3 := below_alloc w2 (.cells #[.int .i64 (-1)] 3)
      have HA3 := Lib.hid (HR2.out.on ha3)
      have HO3 : Hid ((w2.alloc (.cells #[.int .i64 (-1)] 3)).ownsRow w.heap.size 3 1 _ k (ints (List.replicate k (-1)))) := Lib.hid (by have := HA3.out.r3; unfold OwnI at this; rw [HKl.out] at this; exact this)
      have HAB3 := Lib.hid (below_next HB2.out ha3)
      have hs3 := HAB3.out.size
      clear ha3
      go_wp2_with (at_builtin; refine wpList_append_kept _ rfl _ _ 24 rfl w.heap.size 3 i0 (.int .i64 0) 1 8 Tryd.underlying24 hi hz0 hz1 hz2 rfl (by decide) _ (k) (ints (List.replicate k (-1))) rfl HO3.out ⟨w2.heap.size, 0, none⟩ 1 1 [.int .i64 (-1)] rfl rfl (cell_one_new _ _ _) (by simp [Value.oneCell']) (by unfold maxLen; omega) (by omega) hs3 ?_)
      intro y3 w3 ho hkk hn
      have HR3 := Lib.hid (HA3.out.app3 (x := -1) (by rw [HKl.out]; simpa [ints] using ho) hkk.grown fun g hg => (hn g hg).imp id fun h => by rw [World.size_alloc]; exact h)
      have HB3 := Lib.hid (HAB3.out.grown hkk.grown hs3 fun j hj => (HO3.out.lt j hj).1)
      clear ho hkk hn hs3 HA3 HO3 HAB3
      rw [rep_app] at HR3
      go_wp2
      go_roundw
      case rel => exact ⟨k + 1, by omega, by go_num, HR3, HB3⟩
      case measure => simp [intOf]; omega
    obtain rfl : k = l.length := by omega
    have HM0 : Hid (Mw w 3 3 1 Ki 0 l u7 u8 u9 wr (.slice none 0 0) 0 (startM l.length)) := Lib.hid (by
      refine ⟨⟨HB.out, HR.out, World.ownsRow_nil _ _ _ _, fun g hg => by simp [Value.ownBlock] at hg⟩, by have := startM_in (opsOf l); rw [opsOf_len] at this; exact this, by rw [opsOf_len]; rfl⟩)
    clear HB HR
    go_wp2
    go_loopw [11, 12, 13] (fun ov d i wx => ∃ (pc : Nat) (s : Ms), pc ≤ l.length ∧ i = .int .i64 pc ∧ ((d = .bool false ∧ Hid (Mw w 3 3 1 Ki 0 l u7 u8 u9 wx ov pc s)) ∨ (d = .bool true ∧ Hid (Md w 3 l u7 u8 u9 wx pc)))) (fun _ _ i _ => l.length - (intOf i).toNat)
    case atStart => exact ⟨0, _, by omega, rfl, .inl ⟨rfl, HM0⟩⟩
    case round =>
      obtain ⟨pc, s, hpc, rfl, ⟨rfl, HM⟩ | ⟨rfl, HD⟩⟩ := hrel
      · by_cases hlt : pc < l.length
        · clear HM0
          obtain ⟨b, off, vl, rfl, x0, -, -, -⟩ := Cd.at_ (Cd.bel HC.out HM.out.mh.bel) hlt
          have hop : (opsOf l).getD pc 0 = l[pc].op := opsOf_at hlt
          have HOP := Lib.hid hop
          clear hop
          generalize l[pc].op = op at *
          have hk32 : s.open_.length ≤ 32 := HM.out.inn.ok.deep
          have hpn : pc ≤ (opsOf l).length := by rw [opsOf_len]; exact hpc
          obtain ⟨sa, sc, e, _⟩ := own_slice HM.out.mh.stk
          rw [Nat.add_zero] at e
          subst e
          obtain ⟨g3, c3, rfl, ⟨x3, _, hoc⟩, hof⟩ := HM.out.mh.rows.r3.form (k := pc) HM.out.le.2.2 hlt
          by_cases ht : s.top < 0
          · have h0 : s.open_.length = 0 := by rw [top_none.1 ht]; rfl
            have hm1 : s.top = -1 := by have := top_low s; omega
            have HN := Lib.hid (show Mh w 3 3 1 u7 u8 _ (wr.setCell ⟨g3, pc, none⟩ (.int .i64 (-1))) (.slice sa s.open_.length sc) s.open_.length s.ends s.elses (s.owners.set pc s.top) (Ki s) from by have := HM.out.mh.set3 pc s.top; rw [show Value.int .i64 s.top = Value.int .i64 (-1) by rw [hm1]] at this; exact this)
            clear hm1
            go_upto_region 20 with fail
            clear h0 hoc hof
            generalize wr.setCell ⟨g3, pc, none⟩ (.int .i64 (-1)) = wy at *
            by_cases h2 : op = 2 ∨ op = 3 ∨ op = 4
            · have hO : opensP ((opsOf l).getD pc 0) := by rw [HOP.out]; exact h2
              have hd : ¬ s.open_.length = 32 := by rw [top_none.1 ht]; decide
              have hd32 : s.open_.length < 32 := by rw [top_none.1 ht]; decide

              have HS := Lib.hid (step_open (s := s) hO hd)
              have hb6 := below_alloc wy (.cells #[.int .i64 pc] 3)
              have HN6 := Lib.hid (HN.out.on hb6)
              have hB6 := HN6.out.bel.size
              clear hb6 hO hd
              go_wp2_with fail
              refine (ref09_Opens _ op).mono ?_
              rintro e w6 ⟨rfl, hw6⟩
              obtain rfl : wy = w6 := hw6.symm
              clear hw6
              rw [decide_eq_true (show opensP op from h2)]
              go_wp2_with (at_builtin; refine wpList_append_kept _ rfl _ _ 24 rfl w.heap.size 3 i0 (.int .i64 0) 1 8 Tryd.underlying24 hi hz0 hz1 hz2 rfl (by decide) _ (s.open_.length) (Ki s) rfl HN6.out.stk ⟨wy.heap.size, 0, none⟩ 1 1 [.int .i64 pc] rfl rfl (cell_one_new _ _ _) (by simp [Value.oneCell']) (by unfold maxLen; omega) (by omega) hB6 ?_)
              intro v' w7 ho hk hn
              have HN7 := Lib.hid (HM.out.next hlt HS.out (wy := w7) (ov' := v') (by
                have e : Ki { s with owners := s.owners.set pc s.top, open_ := s.open_ ++ [pc] } = Ki s ++ [.int .i64 pc] := by simp [Ki, ints]
                have e2 : (s.open_ ++ [pc]).length + 0 = s.open_.length + 1 := by rw [List.length_append]; rfl
                show Mh w 3 3 1 _ _ _ _ _ ((s.open_ ++ [pc]).length + 0) _ _ _ (Ki { s with owners := s.owners.set pc s.top, open_ := s.open_ ++ [pc] })
                rw [e, e2]
                exact HN6.out.push (by simpa [ints] using ho) hk.grown fun g hg => (hn g hg).imp id fun h => by rw [World.size_alloc]; exact h))
              clear ho hk hn
              rcases h2 with rfl | rfl | rfl
              all_goals
                go_wp2
                go_roundw
                case rel => exact ⟨pc + 1, _, by omega, by go_num, .inl ⟨rfl, HN7⟩⟩
                case measure => simp [intOf]; omega
            have hno : ¬ opensP ((opsOf l).getD pc 0) := by rw [HOP.out]; exact h2
            by_cases h5 : op = 5
            · subst h5
              have HF := Lib.hid (HM.out.refuse hlt (step_noelse HOP.out (.inl ht)) (by decide))
              have HZ := Lib.hid (mapA_none (T := 3) HN.out.bel HF.out)
              clear HM hno
              go_wp2_with fail
              refine (ref09_Opens _ 5).mono ?_
              rintro e w6 ⟨rfl, hw6⟩
              obtain rfl : wy = w6 := hw6.symm
              clear hw6
              rw [decide_eq_false (show ¬ opensP 5 from h2)]
              go_wp2
              (try simp only [Exit.inBlock, Exit.then, Exit.noGoto_ret]); refine bodyPost_ret (results_tmp5 rfl _ _ _) rfl ?_
              rw [HF.out]
              exact ⟨_, _, _, rfl, HZ.out⟩
            by_cases h6 : op = 6
            · subst h6
              have HS := Lib.hid (step_last (s := s) HOP.out ht)
              have HD : Hid (Md w 3 l u7 u8 (.slice (some ⟨g3, 0, none⟩) l.length c3) wy (pc + 1)) := Lib.hid ⟨HN.out.bel, fun hr => HM.out.rest hlt HS.out hr, fun hr => ⟨_, _, _, HM.out.last hlt HS.out hr, HN.out.rows⟩⟩
              clear HM hno HN HS
              go_wp2_with fail
              refine (ref09_Opens _ 6).mono ?_
              rintro e w6 ⟨rfl, hw6⟩
              obtain rfl : wy = w6 := hw6.symm
              clear hw6
              rw [decide_eq_false (show ¬ opensP 6 from h2)]
              go_wp2
              go_roundw
              case rel => exact ⟨pc + 1, s, by omega, by go_num, .inr ⟨rfl, HD⟩⟩
              case measure => simp [intOf]; omega
            · go_wp2_with fail
              refine (ref09_Opens _ op).mono ?_
              rintro e w6 ⟨rfl, hw6⟩
              obtain rfl : wy = w6 := hw6.symm
              clear hw6
              rw [decide_eq_false (show ¬ opensP op from h2)]
              have HS := Lib.hid (step_other (s := s) hno (by rw [HOP.out]; exact h5) (by rw [HOP.out]; exact h6))
              have HN7 := Lib.hid (HM.out.next hlt HS.out (wy := wy) (ov' := _) (by show Mh w _ _ _ _ _ _ _ _ (s.open_.length + 0) _ _ _ (Ki s); exact HN.out))
              clear HM HN
              go_wp2
              go_roundw
              case rel => exact ⟨pc + 1, _, by omega, by go_num, .inl ⟨rfl, HN7⟩⟩
              case measure => simp [intOf]; omega
          · obtain ⟨kk, hkk⟩ : ∃ kk, s.open_.length = kk + 1 := ⟨s.open_.dropLast.length, (drop_len ht).symm⟩
            have HT0 := Lib.hid ht
            clear ht
            have HL := Lib.hid hkk
            have hkx : kk + 1 ≤ 32 := by omega
            have hst := HM.out.mh.stk
            rw [Nat.add_zero, hkk] at hst
            obtain ⟨gs, cs, e, hcs, _, _⟩ := stk_form hst
            obtain ⟨rfl, rfl⟩ : sa = some ⟨gs, 0, none⟩ ∧ sc = cs := by simpa using e
            have hy0 := own_at hst (g := gs) rfl (by have := ki_last (by have := HT0.out; omega); rw [hkk, Nat.add_sub_cancel] at this; exact this)
            have HN := Lib.hid (show Mh w 3 3 1 u7 u8 _ (wr.setCell ⟨g3, pc, none⟩ (.int .i64 s.top)) (.slice (some ⟨gs, 0, none⟩) (kk + 1) sc) (kk + 1) s.ends s.elses (s.owners.set pc s.top) (Ki s) from by have := HM.out.mh.set3 pc s.top; rw [Nat.add_zero, hkk] at this; exact this)
            rw [hkk]
            clear e hst hkk hk32
            go_upto_region 20 with fail
            clear hoc hof hy0 x0
            generalize wr.setCell ⟨g3, pc, none⟩ (.int .i64 s.top) = wy at *
            by_cases h2 : op = 2 ∨ op = 3 ∨ op = 4
            · have hO : opensP ((opsOf l).getD pc 0) := by rw [HOP.out]; exact h2
              by_cases hd : s.open_.length = 32
              · have HF := Lib.hid (HM.out.refuse hlt (step_deep hO hd) (by decide))
                have HZ := Lib.hid (mapA_none (T := 3) HN.out.bel HF.out)
                rw [HL.out] at hd
                obtain rfl : kk = 31 := by omega
                clear HM hO hd
                go_wp2_with fail
                refine (ref09_Opens _ op).mono ?_
                rintro e w6 ⟨rfl, hw6⟩
                obtain rfl : wy = w6 := hw6.symm
                clear hw6
                rw [decide_eq_true (show opensP op from h2)]
                go_wp2
                (try simp only [Exit.inBlock, Exit.then, Exit.noGoto_ret]); refine bodyPost_ret (results_tmp5 rfl _ _ _) rfl ?_
                rw [HF.out]
                exact ⟨_, _, _, rfl, HZ.out⟩
              have hk31 : kk + 1 < 32 := by have := HL.out; omega
              have HS := Lib.hid (step_open (s := s) hO hd)
              have hb6 := below_alloc wy (.cells #[.int .i64 pc] 3)
              have HN6 := Lib.hid (HN.out.on hb6)
              have hB6 := HN6.out.bel.size
              clear hb6 hO hd
              go_wp2_with fail
              refine (ref09_Opens _ op).mono ?_
              rintro e w6 ⟨rfl, hw6⟩
              obtain rfl : wy = w6 := hw6.symm
              clear hw6
              rw [decide_eq_true (show opensP op from h2)]
              go_wp2_with (at_builtin; refine wpList_append_kept _ rfl _ _ 24 rfl w.heap.size 3 i0 (.int .i64 0) 1 8 Tryd.underlying24 hi hz0 hz1 hz2 rfl (by decide) _ ((kk + 1)) (Ki s) rfl HN6.out.stk ⟨wy.heap.size, 0, none⟩ 1 1 [.int .i64 pc] rfl rfl (cell_one_new _ _ _) (by simp [Value.oneCell']) (by unfold maxLen; omega) (by omega) hB6 ?_)
              intro v' w7 ho hk hn
              have HN7 := Lib.hid (HM.out.next hlt HS.out (wy := w7) (ov' := v') (by
                have e : Ki { s with owners := s.owners.set pc s.top, open_ := s.open_ ++ [pc] } = Ki s ++ [.int .i64 pc] := by simp [Ki, ints]
                have e2 : (s.open_ ++ [pc]).length + 0 = (kk + 1) + 1 := by rw [List.length_append, HL.out]; rfl
                show Mh w 3 3 1 _ _ _ _ _ ((s.open_ ++ [pc]).length + 0) _ _ _ (Ki { s with owners := s.owners.set pc s.top, open_ := s.open_ ++ [pc] })
                rw [e, e2]
                exact HN6.out.push (by simpa [ints] using ho) hk.grown fun g hg => (hn g hg).imp id fun h => by rw [World.size_alloc]; exact h))
              clear ho hk hn
              rcases h2 with rfl | rfl | rfl
              all_goals
                go_wp2
                go_roundw
                case rel => exact ⟨pc + 1, _, by omega, by go_num, .inl ⟨rfl, HN7⟩⟩
                case measure => simp [intOf]; omega
            have hno : ¬ opensP ((opsOf l).getD pc 0) := by rw [HOP.out]; exact h2
            by_cases h5 : op = 5
            · subst h5
              have htl := top_lt HM.out.inn (by have := HT0.out; omega)
              have hoe := oth_eq HM.out.inn hpn (by have := HT0.out; omega)
              obtain ⟨tn, htn⟩ : ∃ tn : Nat, s.top = tn := ⟨s.top.toNat, by have := HT0.out; omega⟩
              have htt : s.top.toNat = tn := by omega
              have htnl : tn < l.length := by omega
              obtain ⟨b', off', vl', e7, x0, -, -, -⟩ := Cd.at_ (Cd.bel HC.out HN.out.bel) htnl
              simp only [Option.some.injEq, Addr.mk.injEq, and_true] at e7
              obtain ⟨rfl, rfl⟩ := e7
              have HT : Hid ((opsOf l).getD s.top.toNat 0 = (l[tn]'htnl).op) := Lib.hid (by rw [htt]; exact opsOf_at htnl)
              have HTN := Lib.hid (And.intro htn (And.intro htt hoe))
              obtain ⟨g2, c2, rfl, ⟨x2', hx2, hpc2⟩, hpf2⟩ := HN.out.rows.r2.form (k := tn) HM.out.le.2.1 htnl
              have HX : Hid (s.elses.getD s.top.toNat 0 = x2') := Lib.hid (by rw [htt, List.getD_eq_getElem?_getD, hx2]; rfl)
              rw [htt] at htl
              rw [htn]
              clear htn htt hoe hno hx2
              generalize (l[tn]'htnl).op = op' at *
              go_wp2_with fail
              refine (ref09_Opens _ 5).mono ?_
              rintro e w6 ⟨rfl, hw6⟩
              obtain rfl : wy = w6 := hw6.symm
              clear hw6
              rw [decide_eq_false (show ¬ opensP 5 from h2)]
              by_cases h4 : ¬ op' = 4
              · have HF := Lib.hid (HM.out.refuse hlt (step_noelse HOP.out (.inr (.inl (by rw [HT.out]; exact h4)))) (by decide))
                have HZ := Lib.hid (mapA_none (T := 3) HN.out.bel HF.out)
                clear HM
                go_wp2
                (try simp only [Exit.inBlock, Exit.then, Exit.noGoto_ret]); refine bodyPost_ret (results_tmp5 rfl _ _ _) rfl ?_
                rw [HF.out]
                exact ⟨_, _, _, rfl, HZ.out⟩
              obtain rfl : op' = 4 := Decidable.not_not.1 h4
              clear h4
              by_cases ho : 0 ≤ x2'
              · have HF := Lib.hid (HM.out.refuse hlt (step_noelse HOP.out (.inr (.inr (by rw [HX.out]; exact ho)))) (by decide))
                have HZ := Lib.hid (mapA_none (T := 3) HN.out.bel HF.out)
                clear HM
                go_wp2
                (try simp only [Exit.inBlock, Exit.then, Exit.noGoto_ret]); refine bodyPost_ret (results_tmp5 rfl _ _ _) rfl ?_
                rw [HF.out]
                exact ⟨_, _, _, rfl, HZ.out⟩
              · have HS := Lib.hid (step_else (s := s) HOP.out (by rw [HT.out, HX.out]; have := HT0.out; omega))
                have HE := Lib.hid (HN.out.set2 tn (pc : Int))
                have HN7 := Lib.hid (HM.out.next hlt HS.out (wy := wy.setCell ⟨g2, tn, none⟩ (.int .i64 (pc : Int))) (ov' := .slice (some ⟨gs, 0, none⟩) (kk + 1) sc) (by
                  show Mh w 3 3 1 _ _ _ _ _ (s.open_.length + 0) s.ends (s.elses.set s.top.toNat pc) (s.owners.set pc s.top) (Ki s)
                  rw [HL.out, HTN.out.2.1]
                  exact HE.out))
                clear HE HM
                go_wp2
                go_roundw
                case rel => exact ⟨pc + 1, _, by omega, by go_num, .inl ⟨rfl, HN7⟩⟩
                case measure => simp [intOf]; omega
            by_cases h6 : op = 6
            · subst h6
              have htl := top_lt HM.out.inn (by have := HT0.out; omega)
              have hoe := oth_eq HM.out.inn hpn (by have := HT0.out; omega)
              have hol := oth_lt HM.out.inn hpn (by have := HT0.out; omega)
              rw [hoe] at hol
              obtain ⟨tn, htn⟩ : ∃ tn : Nat, s.top = tn := ⟨s.top.toNat, by have := HT0.out; omega⟩
              have htt : s.top.toNat = tn := by omega
              have htnl : tn < l.length := by omega
              have HTN := Lib.hid (And.intro htn htt)
              have hpl : ∀ s' : Ms, s'.open_ = s.open_.dropLast → (Ki s).take (kk * 1) = Ki s' := fun s' h1 => by have := ki_pop s' h1; rw [HL.out] at this; exact this
              have hdl : s.open_.dropLast.length + 0 = kk := by have := drop_len (by have := HT0.out; omega); have := HL.out; omega
              have HP := Lib.hid (And.intro hpl hdl)
              obtain ⟨g1, c1, rfl, ⟨x1', _, hpc1⟩, hpf1⟩ := HN.out.rows.r1.form (k := tn) HM.out.le.1 htnl
              rw [htt] at htl
              rw [htn]
              clear htn hno hpl hdl
              go_wp2_with fail
              refine (ref09_Opens _ 6).mono ?_
              rintro e w6 ⟨rfl, hw6⟩
              obtain rfl : wy = w6 := hw6.symm
              clear hw6
              rw [decide_eq_false (show ¬ opensP 6 from h2)]
              go_upto_region 32 with fail
              have HN1 := Lib.hid (HN.out.set1 tn (pc : Int))
              clear HN hpc1 hpf1
              generalize wy.setCell ⟨g1, tn, none⟩ (.int .i64 (pc : Int)) = wz at *
              obtain ⟨g2, c2, rfl, ⟨x2', hx2, hpc2⟩, hpf2⟩ := HN1.out.rows.r2.form (k := tn) HM.out.le.2.1 htnl
              have hX : s.elses.getD s.top.toNat 0 = x2' := by rw [htt, List.getD_eq_getElem?_getD, hx2]; rfl
              have HX := Lib.hid hX
              rw [hX] at hol
              clear hX hx2 htt hoe
              by_cases ho : 0 ≤ x2'
              · have HS := Lib.hid (step_end2 (s := s) HOP.out (by have := HT0.out; omega) (by rw [HX.out]; exact ho))
                obtain ⟨on, rfl⟩ : ∃ n : Nat, x2' = n := ⟨x2'.toNat, by omega⟩
                have honl : on < l.length := by omega
                have HOT : Hid ((s.elses.getD s.top.toNat 0).toNat = on) := Lib.hid (by rw [HX.out]; omega)
                clear ho
                obtain ⟨x3', _, hpc3⟩ : ∃ x, (s.ends.set tn (pc : Int))[on]? = some x ∧ wz.cell? ⟨g1, on, none⟩ = some (.int .i64 x) := by
                  obtain ⟨g, c, e, h, _⟩ := HN1.out.rows.r1.form (k := on) (n := l.length) (by rw [List.length_set]; exact HM.out.le.1) honl
                  simp only [Value.slice.injEq, Option.some.injEq, Addr.mk.injEq, and_true] at e
                  obtain ⟨rfl, _⟩ := e
                  exact h
                have hpf3 : wz.frozen? ⟨g1, on, none⟩ = false := by
                  obtain ⟨g, c, e, _, h⟩ := HN1.out.rows.r1.form (k := on) (n := l.length) (by rw [List.length_set]; exact HM.out.le.1) honl
                  simp only [Value.slice.injEq, Option.some.injEq, Addr.mk.injEq, and_true] at e
                  obtain ⟨rfl, _⟩ := e
                  exact h
                have HE := Lib.hid ((HN1.out.set1 on (pc : Int)).cut kk (by omega))
                have HN7 := Lib.hid (HM.out.next hlt HS.out (wy := wz.setCell ⟨g1, on, none⟩ (.int .i64 (pc : Int))) (ov' := .slice (some ⟨gs, 0, none⟩) kk sc) (by
                  have := HE.out
                  rw [HP.out.1 { s with owners := s.owners.set pc s.top, ends := (s.ends.set s.top.toNat pc).set (s.elses.getD s.top.toNat 0).toNat pc, open_ := s.open_.dropLast } rfl] at this
                  rw [← HTN.out.2] at this
                  show Mh w 3 3 1 _ _ _ _ _ (s.open_.dropLast.length + 0) ((s.ends.set s.top.toNat pc).set (s.elses.getD s.top.toNat 0).toNat pc) s.elses (s.owners.set pc s.top) _
                  rw [HP.out.2]
                  rw [HOT.out] at this ⊢
                  exact this))
                clear HE HM HN1
                go_wp2
                go_roundw
                case rel => exact ⟨pc + 1, _, by omega, by go_num, .inl ⟨rfl, HN7⟩⟩
                case measure => simp [intOf]; omega
              · have HS := Lib.hid (step_end (s := s) HOP.out (by have := HT0.out; omega) (by rw [HX.out]; exact ho))
                have HE := Lib.hid (HN1.out.cut kk (by omega))
                have HN7 := Lib.hid (HM.out.next hlt HS.out (wy := wz) (ov' := .slice (some ⟨gs, 0, none⟩) kk sc) (by
                  have := HE.out
                  rw [HP.out.1 { s with owners := s.owners.set pc s.top, ends := s.ends.set s.top.toNat pc, open_ := s.open_.dropLast } rfl] at this
                  rw [← HTN.out.2] at this
                  show Mh w 3 3 1 _ _ _ _ _ (s.open_.dropLast.length + 0) (s.ends.set s.top.toNat pc) s.elses (s.owners.set pc s.top) _
                  rw [HP.out.2]
                  exact this))
                clear HE HM HN1
                go_wp2
                go_roundw
                case rel => exact ⟨pc + 1, _, by omega, by go_num, .inl ⟨rfl, HN7⟩⟩
                case measure => simp [intOf]; omega
            · go_wp2_with fail
              refine (ref09_Opens _ op).mono ?_
              rintro e w6 ⟨rfl, hw6⟩
              obtain rfl : wy = w6 := hw6.symm
              clear hw6
              rw [decide_eq_false (show ¬ opensP op from h2)]
              have HS := Lib.hid (step_other (s := s) hno (by rw [HOP.out]; exact h5) (by rw [HOP.out]; exact h6))
              have HN7 := Lib.hid (HM.out.next hlt HS.out (wy := wy) (ov' := _) (by show Mh w _ _ _ _ _ _ _ _ (s.open_.length + 0) _ _ _ (Ki s); rw [HL.out]; exact HN.out))
              clear HM HN
              go_wp2
              go_roundw
              case rel => exact ⟨pc + 1, _, by omega, by go_num, .inl ⟨rfl, HN7⟩⟩
              case measure => simp [intOf]; omega
        · have HF := Lib.hid (HM.out.cut hlt)
          have HZ := Lib.hid (mapA_none (T := 3) HM.out.mh.bel HF.out)
          obtain rfl : pc = l.length := by omega
          clear HM
          go_wp2
          (try simp only [Exit.inBlock, Exit.then, Exit.noGoto_ret]); refine bodyPost_ret (results_tmp5 rfl _ _ _) rfl ?_
          rw [HF.out]
          exact ⟨_, _, _, rfl, HZ.out⟩
      · by_cases hlt : pc < l.length
        · have HF := Lib.hid (HD.out.rest hlt)
          have HZ := Lib.hid (mapA_none (T := 3) HD.out.bel HF.out)
          clear HD
          go_wp2
          (try simp only [Exit.inBlock, Exit.then, Exit.noGoto_ret]); refine bodyPost_ret (results_tmp5 rfl _ _ _) rfl ?_
          rw [HF.out]
          exact ⟨_, _, _, rfl, HZ.out⟩
        · obtain ⟨E, L, O, hF, hR⟩ := HD.out.done hlt
          have HF := Lib.hid hF
          have HZ := Lib.hid (mapA_done HD.out.bel hF hR)
          obtain rfl : pc = l.length := by omega
          clear HD hF hR
          go_wp2
          (try simp only [Exit.inBlock, Exit.then, Exit.noGoto_ret]); refine bodyPost_ret (results_tmp5 rfl _ _ _) rfl ?_
          rw [HF.out]
          exact ⟨_, _, _, rfl, HZ.out⟩
end Go.Proofs.YtiaoonlhgjfdjaaDoor
