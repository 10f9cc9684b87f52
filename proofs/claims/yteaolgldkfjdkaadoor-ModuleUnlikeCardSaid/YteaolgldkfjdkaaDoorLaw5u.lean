/- flagonlaw05.ModuleUnlike. -/
import Derived.Test.YteaolgldkfjdkaaDoorLaw50
namespace Go.Proofs.YteaolgldkfjdkaaDoor
open Go Go.RowKit

set_option maxRecDepth 100000 in
set_option maxHeartbeats 6400000 in
theorem law_unlike5 (w : World) (cs1 cs2 : List Value) (m n : ModD) (h1 : RMod (· < w.heap.size) w cs1 m) (h2 : RMod (· < w.heap.size) w cs2 n) (wm : WfM m ∧ SmM m) (wn : WfM n ∧ SmM n) (ht : Tb w) :
    Calls Tryd.prog 5 #[.agg cs1.toArray, .agg cs2.toArray] w fun e w' => e = .returned (.bool true) ∧ Below w.heap.size w w' := by
  have HT := Lib.hid ht; have WM := Lib.hid wm; have WN := Lib.hid wn
  clear ht wm wn
  obtain ⟨v1, v2, v3, v4, v5, v6, rfl, r1, r2, r3, r4, r5, r6⟩ := h1
  obtain ⟨at0, at1, rfl, -⟩ := r1.len
  obtain ⟨ah0, ah1, rfl, -⟩ := r2.len
  obtain ⟨ag0, ag1, rfl, -⟩ := r3.len
  obtain ⟨af0, af1, rfl, -⟩ := r4.len
  obtain ⟨ad0, ad1, rfl, -⟩ := r5.len
  obtain ⟨ae0, ae1, rfl, -⟩ := r6.len
  have h1 : RMod (· < w.heap.size) w [.slice at0 m.types.length at1, .slice ah0 m.hosts.length ah1, .slice ag0 m.globals.length ag1, .int .i64 m.first, .int .i64 m.most, .slice af0 m.funs.length af1, .slice ad0 m.datas.length ad1, .slice ae0 m.exps.length ae1] m := ⟨_, _, _, _, _, _, rfl, r1, r2, r3, r4, r5, r6⟩
  clear r1 r2 r3 r4 r5 r6
  obtain ⟨v1, v2, v3, v4, v5, v6, rfl, r1, r2, r3, r4, r5, r6⟩ := h2
  obtain ⟨bt0, bt1, rfl, -⟩ := r1.len
  obtain ⟨bh0, bh1, rfl, -⟩ := r2.len
  obtain ⟨bg0, bg1, rfl, -⟩ := r3.len
  obtain ⟨bf0, bf1, rfl, -⟩ := r4.len
  obtain ⟨bd0, bd1, rfl, -⟩ := r5.len
  obtain ⟨be0, be1, rfl, -⟩ := r6.len
  have h2 : RMod (· < w.heap.size) w [.slice bt0 n.types.length bt1, .slice bh0 n.hosts.length bh1, .slice bg0 n.globals.length bg1, .int .i64 n.first, .int .i64 n.most, .slice bf0 n.funs.length bf1, .slice bd0 n.datas.length bd1, .slice be0 n.exps.length be1] n := ⟨_, _, _, _, _, _, rfl, r1, r2, r3, r4, r5, r6⟩
  clear r1 r2 r3 r4 r5 r6
  have HM1 := Lib.hid (MdB.new h1)
  have HM := Lib.hid (HM1.out.bel (below_alloc _ (.cells #[.slice bt0 n.types.length bt1, .slice bh0 n.hosts.length bh1, .slice bg0 n.globals.length bg1, .int .i64 n.first, .int .i64 n.most, .slice bf0 n.funs.length bf1, .slice bd0 n.datas.length bd1, .slice be0 n.exps.length be1] 29)))
  have HN := Lib.hid (MdB.new (h2.bel5 (below_alloc w (.cells #[.slice at0 m.types.length at1, .slice ah0 m.hosts.length ah1, .slice ag0 m.globals.length ag1, .int .i64 m.first, .int .i64 m.most, .slice af0 m.funs.length af1, .slice ad0 m.datas.length ad1, .slice ae0 m.exps.length ae1] 29))))
  have HB := Lib.hid (below_alloc2 w (.cells #[.slice at0 m.types.length at1, .slice ah0 m.hosts.length ah1, .slice ag0 m.globals.length ag1, .int .i64 m.first, .int .i64 m.most, .slice af0 m.funs.length af1, .slice ad0 m.datas.length ad1, .slice ae0 m.exps.length ae1] 29) (.cells #[.slice bt0 n.types.length bt1, .slice bh0 n.hosts.length bh1, .slice bg0 n.globals.length bg1, .int .i64 n.first, .int .i64 n.most, .slice bf0 n.funs.length bf1, .slice bd0 n.datas.length bd1, .slice be0 n.exps.length be1] 29))
  rw [World.size_alloc] at HN
  clear HM1 h1 h2
  go_enter Tryd.func5, Tryd.ntmps5
  go_wp2_with fail
  generalize (w.alloc (.cells #[.slice at0 m.types.length at1, .slice ah0 m.hosts.length ah1, .slice ag0 m.globals.length ag1, .int .i64 m.first, .int .i64 m.most, .slice af0 m.funs.length af1, .slice ad0 m.datas.length ad1, .slice ae0 m.exps.length ae1] 29)).alloc (.cells #[.slice bt0 n.types.length bt1, .slice bh0 n.hosts.length bh1, .slice bg0 n.globals.length bg1, .int .i64 n.first, .int .i64 n.most, .slice bf0 n.funs.length bf1, .slice bd0 n.datas.length bd1, .slice be0 n.exps.length be1] 29) = w3 at *
  refine (law_works5 w3 (HT.out.bel HB.out)).mono ?_
  rintro e w4 ⟨rfl, hb⟩
  have HM := Lib.hid (HM.out.bel hb)
  have HN := Lib.hid (HN.out.bel hb)
  have HB : Hid (Below w.heap.size w w4) := Lib.hid (below_next HB.out hb)
  clear hb
  have y0 := row_cell HM.out.row 0 rfl; have y1 := row_cell HM.out.row 1 rfl; have y2 := row_cell HM.out.row 2 rfl; have y3 := row_cell HM.out.row 3 rfl; have y4 := row_cell HM.out.row 4 rfl; have y5 := row_cell HM.out.row 5 rfl; have y6 := row_cell HM.out.row 6 rfl; have y7 := row_cell HM.out.row 7 rfl
  simp only [List.getElem_toArray, List.getElem_cons_zero, List.getElem_cons_succ] at y0 y1 y2 y3 y4 y5 y6 y7
  have z0 := row_cell HN.out.row 0 rfl; have z1 := row_cell HN.out.row 1 rfl; have z2 := row_cell HN.out.row 2 rfl; have z3 := row_cell HN.out.row 3 rfl; have z4 := row_cell HN.out.row 4 rfl; have z5 := row_cell HN.out.row 5 rfl; have z6 := row_cell HN.out.row 6 rfl; have z7 := row_cell HN.out.row 7 rfl
  simp only [List.getElem_toArray, List.getElem_cons_zero, List.getElem_cons_succ] at z0 z1 z2 z3 z4 z5 z6 z7
  go_wp2_with fail
  go_cut [16] (fun c wx => ∃ bz, c = .bool bz ∧ Hid (MdB wx w.heap.size [.slice at0 m.types.length at1, .slice ah0 m.hosts.length ah1, .slice ag0 m.globals.length ag1, .int .i64 m.first, .int .i64 m.most, .slice af0 m.funs.length af1, .slice ad0 m.datas.length ad1, .slice ae0 m.exps.length ae1] m) ∧ Hid (MdB wx (w.heap.size + 1) [.slice bt0 n.types.length bt1, .slice bh0 n.hosts.length bh1, .slice bg0 n.globals.length bg1, .int .i64 n.first, .int .i64 n.most, .slice bf0 n.funs.length bf1, .slice bd0 n.datas.length bd1, .slice be0 n.exps.length be1] n) ∧ Hid (Below w.heap.size w wx))
  case first =>
    refine wp_region_held_drew (S := (fun wx => (wx.cell? ⟨w.heap.size, 0, none⟩ = some (.slice at0 m.types.length at1) ∧ wx.cell? ⟨w.heap.size, 1, none⟩ = some (.slice ah0 m.hosts.length ah1) ∧ wx.cell? ⟨w.heap.size, 2, none⟩ = some (.slice ag0 m.globals.length ag1) ∧ wx.cell? ⟨w.heap.size, 3, none⟩ = some (.int .i64 m.first) ∧ wx.cell? ⟨w.heap.size, 4, none⟩ = some (.int .i64 m.most) ∧ wx.cell? ⟨w.heap.size, 5, none⟩ = some (.slice af0 m.funs.length af1) ∧ wx.cell? ⟨w.heap.size, 6, none⟩ = some (.slice ad0 m.datas.length ad1) ∧ wx.cell? ⟨w.heap.size, 7, none⟩ = some (.slice ae0 m.exps.length ae1)) ∧ (wx.cell? ⟨w.heap.size + 1, 0, none⟩ = some (.slice bt0 n.types.length bt1) ∧ wx.cell? ⟨w.heap.size + 1, 1, none⟩ = some (.slice bh0 n.hosts.length bh1) ∧ wx.cell? ⟨w.heap.size + 1, 2, none⟩ = some (.slice bg0 n.globals.length bg1) ∧ wx.cell? ⟨w.heap.size + 1, 3, none⟩ = some (.int .i64 n.first) ∧ wx.cell? ⟨w.heap.size + 1, 4, none⟩ = some (.int .i64 n.most) ∧ wx.cell? ⟨w.heap.size + 1, 5, none⟩ = some (.slice bf0 n.funs.length bf1) ∧ wx.cell? ⟨w.heap.size + 1, 6, none⟩ = some (.slice bd0 n.datas.length bd1) ∧ wx.cell? ⟨w.heap.size + 1, 7, none⟩ = some (.slice be0 n.exps.length be1)))) (by kernel_rfl) ⟨⟨y0, y1, y2, y3, y4, y5, y6, y7⟩, ⟨z0, z1, z2, z3, z4, z5, z6, z7⟩⟩ (fun hHeld => ?_)
    have hb := drewN_below w4 1
    have HM := Lib.hid (HM.out.bel hb)
    have HN := Lib.hid (HN.out.bel hb)
    have HB : Hid (Below w.heap.size w w4.drew) := Lib.hid (below_next HB.out hb)
    clear hb
    refine takeAt (i := 0) (d := 11) (v := ?_) rfl (by kernel_rfl) (by kernel_rfl) (by kernel_rfl) (by kernel_rfl) (fun _ _ _ h => h) (Or.inl ⟨by kernel_rfl, ?_⟩) (by assumption) ?_
    rotate_left
    · (intro w hSw; (try dsimp only at hSw); go_simp; all_goals (with_reducible rfl))
    (try simp only [Act.put, List.setIfInBounds_toArray, List.set_cons_zero, List.set_cons_succ])
    refine takeAt (i := 2) (d := 13) (v := ?_) rfl (by kernel_rfl) (by kernel_rfl) (by kernel_rfl) (by kernel_rfl) (fun _ _ _ h => h) (Or.inl ⟨by kernel_rfl, ?_⟩) (by assumption) ?_
    rotate_left
    · (intro w hSw; (try dsimp only at hSw); go_simp; all_goals (with_reducible rfl))
    (try simp only [Act.put, List.setIfInBounds_toArray, List.set_cons_zero, List.set_cons_succ])
    refine wpAnyH_ready (rs := [1]) (by kernel_rfl) (by simp) ?_
    refine AllReadyH.cons rfl (fun K hK => ?_) AllReadyH.nil
    clear hHeld
    go_simp
    refine (sizeMod5 w4.drew _ [.slice at0 m.types.length at1, .slice ah0 m.hosts.length ah1, .slice ag0 m.globals.length ag1, .int .i64 m.first, .int .i64 m.most, .slice af0 m.funs.length af1, .slice ad0 m.datas.length ad1, .slice ae0 m.exps.length ae1] m HM.out.rd).mono ?_
    rintro e w5 ⟨sz1, rfl, hb⟩
    have HM := Lib.hid (HM.out.bel hb)
    have HN := Lib.hid (HN.out.bel hb)
    have HB : Hid (Below w.heap.size w w5) := Lib.hid (below_next HB.out hb)
    clear y0 y1 y2 y3 y4 y5 y6 y7 z0 z1 z2 z3 z4 z5 z6 z7
    have y0 := row_cell HM.out.row 0 rfl; have y1 := row_cell HM.out.row 1 rfl; have y2 := row_cell HM.out.row 2 rfl; have y3 := row_cell HM.out.row 3 rfl; have y4 := row_cell HM.out.row 4 rfl; have y5 := row_cell HM.out.row 5 rfl; have y6 := row_cell HM.out.row 6 rfl; have y7 := row_cell HM.out.row 7 rfl
    simp only [List.getElem_toArray, List.getElem_cons_zero, List.getElem_cons_succ] at y0 y1 y2 y3 y4 y5 y6 y7
    have z0 := row_cell HN.out.row 0 rfl; have z1 := row_cell HN.out.row 1 rfl; have z2 := row_cell HN.out.row 2 rfl; have z3 := row_cell HN.out.row 3 rfl; have z4 := row_cell HN.out.row 4 rfl; have z5 := row_cell HN.out.row 5 rfl; have z6 := row_cell HN.out.row 6 rfl; have z7 := row_cell HN.out.row 7 rfl
    simp only [List.getElem_toArray, List.getElem_cons_zero, List.getElem_cons_succ] at z0 z1 z2 z3 z4 z5 z6 z7
    clear hb
    go_wp2_with fail
    refine hK.out _ _ ⟨⟨y0, y1, y2, y3, y4, y5, y6, y7⟩, ⟨z0, z1, z2, z3, z4, z5, z6, z7⟩⟩ (fun hHeld => ?_)
    clear hK K
    (try refine stateAt (d := 12) (by kernel_rfl) ?_)
    (try simp only [Act.put, List.setIfInBounds_toArray, List.set_cons_zero, List.set_cons_succ])
    refine wpAnyH_ready (rs := [3]) (by kernel_rfl) (by simp) ?_
    refine AllReadyH.cons rfl (fun K hK => ?_) AllReadyH.nil
    clear hHeld
    go_simp
    refine (sizeMod5 w5 _ [.slice bt0 n.types.length bt1, .slice bh0 n.hosts.length bh1, .slice bg0 n.globals.length bg1, .int .i64 n.first, .int .i64 n.most, .slice bf0 n.funs.length bf1, .slice bd0 n.datas.length bd1, .slice be0 n.exps.length be1] n HN.out.rd).mono ?_
    rintro e w6 ⟨sz2, rfl, hb⟩
    have HM := Lib.hid (HM.out.bel hb)
    have HN := Lib.hid (HN.out.bel hb)
    have HB : Hid (Below w.heap.size w w6) := Lib.hid (below_next HB.out hb)
    clear y0 y1 y2 y3 y4 y5 y6 y7 z0 z1 z2 z3 z4 z5 z6 z7
    have y0 := row_cell HM.out.row 0 rfl; have y1 := row_cell HM.out.row 1 rfl; have y2 := row_cell HM.out.row 2 rfl; have y3 := row_cell HM.out.row 3 rfl; have y4 := row_cell HM.out.row 4 rfl; have y5 := row_cell HM.out.row 5 rfl; have y6 := row_cell HM.out.row 6 rfl; have y7 := row_cell HM.out.row 7 rfl
    simp only [List.getElem_toArray, List.getElem_cons_zero, List.getElem_cons_succ] at y0 y1 y2 y3 y4 y5 y6 y7
    have z0 := row_cell HN.out.row 0 rfl; have z1 := row_cell HN.out.row 1 rfl; have z2 := row_cell HN.out.row 2 rfl; have z3 := row_cell HN.out.row 3 rfl; have z4 := row_cell HN.out.row 4 rfl; have z5 := row_cell HN.out.row 5 rfl; have z6 := row_cell HN.out.row 6 rfl; have z7 := row_cell HN.out.row 7 rfl
    simp only [List.getElem_toArray, List.getElem_cons_zero, List.getElem_cons_succ] at z0 z1 z2 z3 z4 z5 z6 z7
    clear hb
    go_wp2_with fail
    refine hK.out _ _ ⟨⟨y0, y1, y2, y3, y4, y5, y6, y7⟩, ⟨z0, z1, z2, z3, z4, z5, z6, z7⟩⟩ (fun hHeld => ?_)
    clear hK K
    (try refine stateAt (d := 14) (by kernel_rfl) ?_)
    (try simp only [Act.put, List.setIfInBounds_toArray, List.set_cons_zero, List.set_cons_succ])
    refine takeAt (i := 4) (d := 15) (v := ?_) rfl (by kernel_rfl) (by kernel_rfl) (by kernel_rfl) (by kernel_rfl) (fun _ _ _ h => h) (Or.inl ⟨by kernel_rfl, ?_⟩) (by assumption) ?_
    rotate_left
    · (intro w hSw; (try dsimp only at hSw); go_simp; all_goals (with_reducible rfl))
    (try simp only [Act.put, List.setIfInBounds_toArray, List.set_cons_zero, List.set_cons_succ])
    refine takeAt (i := 5) (d := 16) (v := ?_) rfl (by kernel_rfl) (by kernel_rfl) (by kernel_rfl) (by kernel_rfl) (fun _ _ _ h => h) (Or.inl ⟨by kernel_rfl, ?_⟩) (by assumption) ?_
    rotate_left
    · (intro w hSw; (try dsimp only at hSw); go_simp; all_goals (with_reducible rfl))
    (try simp only [Act.put, List.setIfInBounds_toArray, List.set_cons_zero, List.set_cons_succ])
    refine wpAnyH_done (by kernel_rfl) ?_ _
    go_wp2_with fail
    go_meet
    exact ⟨_, rfl, HM, HN, HB⟩
  case rest =>
    obtain ⟨bz, rfl, HM7, HN7, HB7⟩ := hcut
    clear y0 y1 y2 y3 y4 y5 y6 y7 z0 z1 z2 z3 z4 z5 z6 z7
    clear HM HN HB
    have HM := HM7; have HN := HN7; have HB := HB7
    clear HM7 HN7 HB7
    cases bz
    rotate_left
    · go_wp2_with fail
      go_ret
      exact ⟨rfl, HB.out⟩
    have y0 := row_cell HM.out.row 0 rfl; have y1 := row_cell HM.out.row 1 rfl; have y2 := row_cell HM.out.row 2 rfl; have y3 := row_cell HM.out.row 3 rfl; have y4 := row_cell HM.out.row 4 rfl; have y5 := row_cell HM.out.row 5 rfl; have y6 := row_cell HM.out.row 6 rfl; have y7 := row_cell HM.out.row 7 rfl
    simp only [List.getElem_toArray, List.getElem_cons_zero, List.getElem_cons_succ] at y0 y1 y2 y3 y4 y5 y6 y7
    have z0 := row_cell HN.out.row 0 rfl; have z1 := row_cell HN.out.row 1 rfl; have z2 := row_cell HN.out.row 2 rfl; have z3 := row_cell HN.out.row 3 rfl; have z4 := row_cell HN.out.row 4 rfl; have z5 := row_cell HN.out.row 5 rfl; have z6 := row_cell HN.out.row 6 rfl; have z7 := row_cell HN.out.row 7 rfl
    simp only [List.getElem_toArray, List.getElem_cons_zero, List.getElem_cons_succ] at z0 z1 z2 z3 z4 z5 z6 z7
    go_wp2_with fail
    refine (mod_Encode wc _ (fun _ h => h) m [.slice at0 m.types.length at1, .slice ah0 m.hosts.length ah1, .slice ag0 m.globals.length ag1, .int .i64 m.first, .int .i64 m.most, .slice af0 m.funs.length af1, .slice ad0 m.datas.length ad1, .slice ae0 m.exps.length ae1] HM.out.rd WM.out.2 WM.out.1 (HT.out.bel HB.out)).mono ?_
    rintro e w7 ⟨u1, rfl, hb, ho1, hz1⟩
    obtain ⟨ua, uc, rfl, -⟩ := own_slice ho1
    have HV1 := Lib.hid (enc_rd5 ho1)
    have HZ1 := Lib.hid hz1
    have HM := Lib.hid (HM.out.bel hb)
    have HN := Lib.hid (HN.out.bel hb)
    have HB : Hid (Below w.heap.size w w7) := Lib.hid (below_next HB.out hb)
    clear y0 y1 y2 y3 y4 y5 y6 y7 z0 z1 z2 z3 z4 z5 z6 z7
    have y0 := row_cell HM.out.row 0 rfl; have y1 := row_cell HM.out.row 1 rfl; have y2 := row_cell HM.out.row 2 rfl; have y3 := row_cell HM.out.row 3 rfl; have y4 := row_cell HM.out.row 4 rfl; have y5 := row_cell HM.out.row 5 rfl; have y6 := row_cell HM.out.row 6 rfl; have y7 := row_cell HM.out.row 7 rfl
    simp only [List.getElem_toArray, List.getElem_cons_zero, List.getElem_cons_succ] at y0 y1 y2 y3 y4 y5 y6 y7
    have z0 := row_cell HN.out.row 0 rfl; have z1 := row_cell HN.out.row 1 rfl; have z2 := row_cell HN.out.row 2 rfl; have z3 := row_cell HN.out.row 3 rfl; have z4 := row_cell HN.out.row 4 rfl; have z5 := row_cell HN.out.row 5 rfl; have z6 := row_cell HN.out.row 6 rfl; have z7 := row_cell HN.out.row 7 rfl
    simp only [List.getElem_toArray, List.getElem_cons_zero, List.getElem_cons_succ] at z0 z1 z2 z3 z4 z5 z6 z7
    clear hb ho1 hz1
    obtain ⟨E1, hE1⟩ : ∃ E, (encM m).2 = E := ⟨_, rfl⟩
    obtain ⟨N1, hN1⟩ : ∃ N, (encM m).1.length = N := ⟨_, rfl⟩
    rw [hE1, hN1] at HZ1 ⊢
    rw [hN1] at HV1
    have HE1 := Lib.hid hE1
    clear hE1 hN1
    go_wp2_with fail
    refine (mod_Encode w7 _ (fun _ h => h) n [.slice bt0 n.types.length bt1, .slice bh0 n.hosts.length bh1, .slice bg0 n.globals.length bg1, .int .i64 n.first, .int .i64 n.most, .slice bf0 n.funs.length bf1, .slice bd0 n.datas.length bd1, .slice be0 n.exps.length be1] HN.out.rd WN.out.2 WN.out.1 (HT.out.bel HB.out)).mono ?_
    rintro e w8 ⟨u2, rfl, hb, ho2, hz2⟩
    obtain ⟨ub, ud, rfl, -⟩ := own_slice ho2
    have HV2 := Lib.hid (enc_rd5 ho2)
    have HZ2 := Lib.hid hz2
    have HV1 := Lib.hid (HV1.out.bel5 hb)
    have HM := Lib.hid (HM.out.bel hb)
    have HN := Lib.hid (HN.out.bel hb)
    have HB : Hid (Below w.heap.size w w8) := Lib.hid (below_next HB.out hb)
    clear y0 y1 y2 y3 y4 y5 y6 y7 z0 z1 z2 z3 z4 z5 z6 z7
    have y0 := row_cell HM.out.row 0 rfl; have y1 := row_cell HM.out.row 1 rfl; have y2 := row_cell HM.out.row 2 rfl; have y3 := row_cell HM.out.row 3 rfl; have y4 := row_cell HM.out.row 4 rfl; have y5 := row_cell HM.out.row 5 rfl; have y6 := row_cell HM.out.row 6 rfl; have y7 := row_cell HM.out.row 7 rfl
    simp only [List.getElem_toArray, List.getElem_cons_zero, List.getElem_cons_succ] at y0 y1 y2 y3 y4 y5 y6 y7
    have z0 := row_cell HN.out.row 0 rfl; have z1 := row_cell HN.out.row 1 rfl; have z2 := row_cell HN.out.row 2 rfl; have z3 := row_cell HN.out.row 3 rfl; have z4 := row_cell HN.out.row 4 rfl; have z5 := row_cell HN.out.row 5 rfl; have z6 := row_cell HN.out.row 6 rfl; have z7 := row_cell HN.out.row 7 rfl
    simp only [List.getElem_toArray, List.getElem_cons_zero, List.getElem_cons_succ] at z0 z1 z2 z3 z4 z5 z6 z7
    clear hb ho2 hz2
    obtain ⟨E2, hE2⟩ : ∃ E, (encM n).2 = E := ⟨_, rfl⟩
    obtain ⟨N2, hN2⟩ : ∃ N, (encM n).1.length = N := ⟨_, rfl⟩
    rw [hE2, hN2] at HZ2 ⊢
    rw [hN2] at HV2
    have HE2 := Lib.hid hE2
    clear hE2 hN2
    clear y0 y1 y2 y3 y4 y5 y6 y7 z0 z1 z2 z3 z4 z5 z6 z7
    by_cases q1 : E1 = 0
    · subst q1
      by_cases q2 : E2 = 0
      · subst q2
        have HLAW := Lib.hid (law_unlike henc5 WM.out.1 WN.out.1 HE1.out HE2.out)
        clear HZ1 HZ2
        by_cases hq : m = n
        · as_aux_lemma =>
            have HQ : Hid (decide (m = n) = true) := Lib.hid (by simp [hq])
            clear hq
            go_wp2_with fail
            have y0 := row_cell HM.out.row 0 rfl; have y1 := row_cell HM.out.row 1 rfl; have y2 := row_cell HM.out.row 2 rfl; have y3 := row_cell HM.out.row 3 rfl; have y4 := row_cell HM.out.row 4 rfl; have y5 := row_cell HM.out.row 5 rfl; have y6 := row_cell HM.out.row 6 rfl; have y7 := row_cell HM.out.row 7 rfl
            simp only [List.getElem_toArray, List.getElem_cons_zero, List.getElem_cons_succ] at y0 y1 y2 y3 y4 y5 y6 y7
            have z0 := row_cell HN.out.row 0 rfl; have z1 := row_cell HN.out.row 1 rfl; have z2 := row_cell HN.out.row 2 rfl; have z3 := row_cell HN.out.row 3 rfl; have z4 := row_cell HN.out.row 4 rfl; have z5 := row_cell HN.out.row 5 rfl; have z6 := row_cell HN.out.row 6 rfl; have z7 := row_cell HN.out.row 7 rfl
            simp only [List.getElem_toArray, List.getElem_cons_zero, List.getElem_cons_succ] at z0 z1 z2 z3 z4 z5 z6 z7
            refine wp_region_held_drew (S := (fun wx => (wx.cell? ⟨w.heap.size, 0, none⟩ = some (.slice at0 m.types.length at1) ∧ wx.cell? ⟨w.heap.size, 1, none⟩ = some (.slice ah0 m.hosts.length ah1) ∧ wx.cell? ⟨w.heap.size, 2, none⟩ = some (.slice ag0 m.globals.length ag1) ∧ wx.cell? ⟨w.heap.size, 3, none⟩ = some (.int .i64 m.first) ∧ wx.cell? ⟨w.heap.size, 4, none⟩ = some (.int .i64 m.most) ∧ wx.cell? ⟨w.heap.size, 5, none⟩ = some (.slice af0 m.funs.length af1) ∧ wx.cell? ⟨w.heap.size, 6, none⟩ = some (.slice ad0 m.datas.length ad1) ∧ wx.cell? ⟨w.heap.size, 7, none⟩ = some (.slice ae0 m.exps.length ae1)) ∧ (wx.cell? ⟨w.heap.size + 1, 0, none⟩ = some (.slice bt0 n.types.length bt1) ∧ wx.cell? ⟨w.heap.size + 1, 1, none⟩ = some (.slice bh0 n.hosts.length bh1) ∧ wx.cell? ⟨w.heap.size + 1, 2, none⟩ = some (.slice bg0 n.globals.length bg1) ∧ wx.cell? ⟨w.heap.size + 1, 3, none⟩ = some (.int .i64 n.first) ∧ wx.cell? ⟨w.heap.size + 1, 4, none⟩ = some (.int .i64 n.most) ∧ wx.cell? ⟨w.heap.size + 1, 5, none⟩ = some (.slice bf0 n.funs.length bf1) ∧ wx.cell? ⟨w.heap.size + 1, 6, none⟩ = some (.slice bd0 n.datas.length bd1) ∧ wx.cell? ⟨w.heap.size + 1, 7, none⟩ = some (.slice be0 n.exps.length be1)))) (by kernel_rfl) ⟨⟨y0, y1, y2, y3, y4, y5, y6, y7⟩, ⟨z0, z1, z2, z3, z4, z5, z6, z7⟩⟩ (fun hHeld => ?_)
            have hb := drewN_below w8 1
            have HM := Lib.hid (HM.out.bel hb)
            have HN := Lib.hid (HN.out.bel hb)
            have HB : Hid (Below w.heap.size w w8.drew) := Lib.hid (below_next HB.out hb)
            clear hb
            have HV1 := Lib.hid (HV1.out.bel5 (drewN_below w8 1))
            have HV2 := Lib.hid (HV2.out.bel5 (drewN_below w8 1))
            refine takeAt (i := 0) (d := 53) (v := ?_) rfl (by kernel_rfl) (by kernel_rfl) (by kernel_rfl) (by kernel_rfl) (fun _ _ _ h => h) (Or.inl ⟨by kernel_rfl, ?_⟩) (by assumption) ?_
            rotate_left
            · (intro w hSw; (try dsimp only at hSw); go_simp; all_goals (with_reducible rfl))
            (try simp only [Act.put, List.setIfInBounds_toArray, List.set_cons_zero, List.set_cons_succ])
            refine takeAt (i := 1) (d := 54) (v := ?_) rfl (by kernel_rfl) (by kernel_rfl) (by kernel_rfl) (by kernel_rfl) (fun _ _ _ h => h) (Or.inl ⟨by kernel_rfl, ?_⟩) (by assumption) ?_
            rotate_left
            · (intro w hSw; (try dsimp only at hSw); go_simp; all_goals (with_reducible rfl))
            (try simp only [Act.put, List.setIfInBounds_toArray, List.set_cons_zero, List.set_cons_succ])
            refine takeAt (i := 2) (d := 55) (v := ?_) rfl (by kernel_rfl) (by kernel_rfl) (by kernel_rfl) (by kernel_rfl) (fun _ _ _ h => h) (Or.inl ⟨by kernel_rfl, ?_⟩) (by assumption) ?_
            rotate_left
            · (intro w hSw; (try dsimp only at hSw); go_simp; all_goals (with_reducible rfl))
            (try simp only [Act.put, List.setIfInBounds_toArray, List.set_cons_zero, List.set_cons_succ])
            refine takeAt (i := 3) (d := 56) (v := ?_) rfl (by kernel_rfl) (by kernel_rfl) (by kernel_rfl) (by kernel_rfl) (fun _ _ _ h => h) (Or.inl ⟨by kernel_rfl, ?_⟩) (by assumption) ?_
            rotate_left
            · (intro w hSw; (try dsimp only at hSw); go_simp; all_goals (with_reducible rfl))
            (try simp only [Act.put, List.setIfInBounds_toArray, List.set_cons_zero, List.set_cons_succ])
            refine takeAt (i := 5) (d := 58) (v := ?_) rfl (by kernel_rfl) (by kernel_rfl) (by kernel_rfl) (by kernel_rfl) (fun _ _ _ h => h) (Or.inl ⟨by kernel_rfl, ?_⟩) (by assumption) ?_
            rotate_left
            · (intro w hSw; (try dsimp only at hSw); go_simp; all_goals (with_reducible rfl))
            (try simp only [Act.put, List.setIfInBounds_toArray, List.set_cons_zero, List.set_cons_succ])
            refine takeAt (i := 6) (d := 59) (v := ?_) rfl (by kernel_rfl) (by kernel_rfl) (by kernel_rfl) (by kernel_rfl) (fun _ _ _ h => h) (Or.inl ⟨by kernel_rfl, ?_⟩) (by assumption) ?_
            rotate_left
            · (intro w hSw; (try dsimp only at hSw); go_simp; all_goals (with_reducible rfl))
            (try simp only [Act.put, List.setIfInBounds_toArray, List.set_cons_zero, List.set_cons_succ])
            refine wpAnyH_ready (rs := [4]) (by kernel_rfl) (by simp) ?_
            refine AllReadyH.cons rfl (fun K hK => ?_) AllReadyH.nil
            clear hHeld
            go_simp
            refine (eqBytes w8.drew _ _ _ _ _ _ HV1.out HV2.out).mono ?_
            rintro e w9 ⟨rfl, nn, hw⟩
            have hb : Below w8.drew.heap.size w8.drew w9 := by rw [hw]; exact drewN_below _ _
            clear hw nn
            rw [HLAW.out]
            rw [HQ.out]
            have HM := Lib.hid (HM.out.bel hb)
            have HN := Lib.hid (HN.out.bel hb)
            have HB : Hid (Below w.heap.size w w9) := Lib.hid (below_next HB.out hb)
            clear y0 y1 y2 y3 y4 y5 y6 y7 z0 z1 z2 z3 z4 z5 z6 z7
            have y0 := row_cell HM.out.row 0 rfl; have y1 := row_cell HM.out.row 1 rfl; have y2 := row_cell HM.out.row 2 rfl; have y3 := row_cell HM.out.row 3 rfl; have y4 := row_cell HM.out.row 4 rfl; have y5 := row_cell HM.out.row 5 rfl; have y6 := row_cell HM.out.row 6 rfl; have y7 := row_cell HM.out.row 7 rfl
            simp only [List.getElem_toArray, List.getElem_cons_zero, List.getElem_cons_succ] at y0 y1 y2 y3 y4 y5 y6 y7
            have z0 := row_cell HN.out.row 0 rfl; have z1 := row_cell HN.out.row 1 rfl; have z2 := row_cell HN.out.row 2 rfl; have z3 := row_cell HN.out.row 3 rfl; have z4 := row_cell HN.out.row 4 rfl; have z5 := row_cell HN.out.row 5 rfl; have z6 := row_cell HN.out.row 6 rfl; have z7 := row_cell HN.out.row 7 rfl
            simp only [List.getElem_toArray, List.getElem_cons_zero, List.getElem_cons_succ] at z0 z1 z2 z3 z4 z5 z6 z7
            have HV1 := Lib.hid (HV1.out.bel5 hb)
            have HV2 := Lib.hid (HV2.out.bel5 hb)
            clear hb
            go_wp2_with fail
            refine hK.out _ _ ⟨⟨y0, y1, y2, y3, y4, y5, y6, y7⟩, ⟨z0, z1, z2, z3, z4, z5, z6, z7⟩⟩ (fun hHeld => ?_)
            clear hK K
            (try refine stateAt (d := 57) (by kernel_rfl) ?_)
            (try simp only [Act.put, List.setIfInBounds_toArray, List.set_cons_zero, List.set_cons_succ])
            refine wpAnyH_ready (rs := [7]) (by kernel_rfl) (by simp) ?_
            refine AllReadyH.cons rfl (fun K hK => ?_) AllReadyH.nil
            clear hHeld
            go_simp
            refine (eqMod5 w9 _ _ [.slice at0 m.types.length at1, .slice ah0 m.hosts.length ah1, .slice ag0 m.globals.length ag1, .int .i64 m.first, .int .i64 m.most, .slice af0 m.funs.length af1, .slice ad0 m.datas.length ad1, .slice ae0 m.exps.length ae1] [.slice bt0 n.types.length bt1, .slice bh0 n.hosts.length bh1, .slice bg0 n.globals.length bg1, .int .i64 n.first, .int .i64 n.most, .slice bf0 n.funs.length bf1, .slice bd0 n.datas.length bd1, .slice be0 n.exps.length be1] m n HM.out.rd HN.out.rd).mono ?_
            rintro e w10 ⟨rfl, hb⟩
            rw [HQ.out]
            have HM := Lib.hid (HM.out.bel hb)
            have HN := Lib.hid (HN.out.bel hb)
            have HB : Hid (Below w.heap.size w w10) := Lib.hid (below_next HB.out hb)
            clear y0 y1 y2 y3 y4 y5 y6 y7 z0 z1 z2 z3 z4 z5 z6 z7
            have y0 := row_cell HM.out.row 0 rfl; have y1 := row_cell HM.out.row 1 rfl; have y2 := row_cell HM.out.row 2 rfl; have y3 := row_cell HM.out.row 3 rfl; have y4 := row_cell HM.out.row 4 rfl; have y5 := row_cell HM.out.row 5 rfl; have y6 := row_cell HM.out.row 6 rfl; have y7 := row_cell HM.out.row 7 rfl
            simp only [List.getElem_toArray, List.getElem_cons_zero, List.getElem_cons_succ] at y0 y1 y2 y3 y4 y5 y6 y7
            have z0 := row_cell HN.out.row 0 rfl; have z1 := row_cell HN.out.row 1 rfl; have z2 := row_cell HN.out.row 2 rfl; have z3 := row_cell HN.out.row 3 rfl; have z4 := row_cell HN.out.row 4 rfl; have z5 := row_cell HN.out.row 5 rfl; have z6 := row_cell HN.out.row 6 rfl; have z7 := row_cell HN.out.row 7 rfl
            simp only [List.getElem_toArray, List.getElem_cons_zero, List.getElem_cons_succ] at z0 z1 z2 z3 z4 z5 z6 z7
            have HV1 := Lib.hid (HV1.out.bel5 hb)
            have HV2 := Lib.hid (HV2.out.bel5 hb)
            clear hb
            go_wp2_with fail
            refine hK.out _ _ ⟨⟨y0, y1, y2, y3, y4, y5, y6, y7⟩, ⟨z0, z1, z2, z3, z4, z5, z6, z7⟩⟩ (fun hHeld => ?_)
            clear hK K
            (try refine stateAt (d := 60) (by kernel_rfl) ?_)
            (try simp only [Act.put, List.setIfInBounds_toArray, List.set_cons_zero, List.set_cons_succ])
            refine takeAt (i := 8) (d := 61) (v := ?_) rfl (by kernel_rfl) (by kernel_rfl) (by kernel_rfl) (by kernel_rfl) (fun _ _ _ h => h) (Or.inl ⟨by kernel_rfl, ?_⟩) (by assumption) ?_
            rotate_left
            · (intro w hSw; (try dsimp only at hSw); go_simp; all_goals (with_reducible rfl))
            (try simp only [Act.put, List.setIfInBounds_toArray, List.set_cons_zero, List.set_cons_succ])
            refine takeAt (i := 9) (d := 62) (v := ?_) rfl (by kernel_rfl) (by kernel_rfl) (by kernel_rfl) (by kernel_rfl) (fun _ _ _ h => h) (Or.inl ⟨by kernel_rfl, ?_⟩) (by assumption) ?_
            rotate_left
            · (intro w hSw; (try dsimp only at hSw); go_simp; all_goals (with_reducible rfl))
            (try simp only [Act.put, List.setIfInBounds_toArray, List.set_cons_zero, List.set_cons_succ])
            refine takeAt (i := 10) (d := 4) (v := ?_) rfl (by kernel_rfl) (by kernel_rfl) (by kernel_rfl) (by kernel_rfl) (fun _ _ _ h => h) (Or.inl ⟨by kernel_rfl, ?_⟩) (by assumption) ?_
            rotate_left
            · (intro w hSw; (try dsimp only at hSw); go_simp; all_goals (with_reducible rfl))
            (try simp only [Act.put, List.setIfInBounds_toArray, List.set_cons_zero, List.set_cons_succ])
            refine wpAnyH_done (by kernel_rfl) ?_ _
            go_wp2_with fail
            go_ret
            exact ⟨rfl, HB.out⟩
        · as_aux_lemma =>
            have HQ : Hid (decide (m = n) = false) := Lib.hid (by simp [hq])
            clear hq
            go_wp2_with fail
            have y0 := row_cell HM.out.row 0 rfl; have y1 := row_cell HM.out.row 1 rfl; have y2 := row_cell HM.out.row 2 rfl; have y3 := row_cell HM.out.row 3 rfl; have y4 := row_cell HM.out.row 4 rfl; have y5 := row_cell HM.out.row 5 rfl; have y6 := row_cell HM.out.row 6 rfl; have y7 := row_cell HM.out.row 7 rfl
            simp only [List.getElem_toArray, List.getElem_cons_zero, List.getElem_cons_succ] at y0 y1 y2 y3 y4 y5 y6 y7
            have z0 := row_cell HN.out.row 0 rfl; have z1 := row_cell HN.out.row 1 rfl; have z2 := row_cell HN.out.row 2 rfl; have z3 := row_cell HN.out.row 3 rfl; have z4 := row_cell HN.out.row 4 rfl; have z5 := row_cell HN.out.row 5 rfl; have z6 := row_cell HN.out.row 6 rfl; have z7 := row_cell HN.out.row 7 rfl
            simp only [List.getElem_toArray, List.getElem_cons_zero, List.getElem_cons_succ] at z0 z1 z2 z3 z4 z5 z6 z7
            refine wp_region_held_drew (S := (fun wx => (wx.cell? ⟨w.heap.size, 0, none⟩ = some (.slice at0 m.types.length at1) ∧ wx.cell? ⟨w.heap.size, 1, none⟩ = some (.slice ah0 m.hosts.length ah1) ∧ wx.cell? ⟨w.heap.size, 2, none⟩ = some (.slice ag0 m.globals.length ag1) ∧ wx.cell? ⟨w.heap.size, 3, none⟩ = some (.int .i64 m.first) ∧ wx.cell? ⟨w.heap.size, 4, none⟩ = some (.int .i64 m.most) ∧ wx.cell? ⟨w.heap.size, 5, none⟩ = some (.slice af0 m.funs.length af1) ∧ wx.cell? ⟨w.heap.size, 6, none⟩ = some (.slice ad0 m.datas.length ad1) ∧ wx.cell? ⟨w.heap.size, 7, none⟩ = some (.slice ae0 m.exps.length ae1)) ∧ (wx.cell? ⟨w.heap.size + 1, 0, none⟩ = some (.slice bt0 n.types.length bt1) ∧ wx.cell? ⟨w.heap.size + 1, 1, none⟩ = some (.slice bh0 n.hosts.length bh1) ∧ wx.cell? ⟨w.heap.size + 1, 2, none⟩ = some (.slice bg0 n.globals.length bg1) ∧ wx.cell? ⟨w.heap.size + 1, 3, none⟩ = some (.int .i64 n.first) ∧ wx.cell? ⟨w.heap.size + 1, 4, none⟩ = some (.int .i64 n.most) ∧ wx.cell? ⟨w.heap.size + 1, 5, none⟩ = some (.slice bf0 n.funs.length bf1) ∧ wx.cell? ⟨w.heap.size + 1, 6, none⟩ = some (.slice bd0 n.datas.length bd1) ∧ wx.cell? ⟨w.heap.size + 1, 7, none⟩ = some (.slice be0 n.exps.length be1)))) (by kernel_rfl) ⟨⟨y0, y1, y2, y3, y4, y5, y6, y7⟩, ⟨z0, z1, z2, z3, z4, z5, z6, z7⟩⟩ (fun hHeld => ?_)
            have hb := drewN_below w8 1
            have HM := Lib.hid (HM.out.bel hb)
            have HN := Lib.hid (HN.out.bel hb)
            have HB : Hid (Below w.heap.size w w8.drew) := Lib.hid (below_next HB.out hb)
            clear hb
            have HV1 := Lib.hid (HV1.out.bel5 (drewN_below w8 1))
            have HV2 := Lib.hid (HV2.out.bel5 (drewN_below w8 1))
            refine takeAt (i := 0) (d := 53) (v := ?_) rfl (by kernel_rfl) (by kernel_rfl) (by kernel_rfl) (by kernel_rfl) (fun _ _ _ h => h) (Or.inl ⟨by kernel_rfl, ?_⟩) (by assumption) ?_
            rotate_left
            · (intro w hSw; (try dsimp only at hSw); go_simp; all_goals (with_reducible rfl))
            (try simp only [Act.put, List.setIfInBounds_toArray, List.set_cons_zero, List.set_cons_succ])
            refine takeAt (i := 1) (d := 54) (v := ?_) rfl (by kernel_rfl) (by kernel_rfl) (by kernel_rfl) (by kernel_rfl) (fun _ _ _ h => h) (Or.inl ⟨by kernel_rfl, ?_⟩) (by assumption) ?_
            rotate_left
            · (intro w hSw; (try dsimp only at hSw); go_simp; all_goals (with_reducible rfl))
            (try simp only [Act.put, List.setIfInBounds_toArray, List.set_cons_zero, List.set_cons_succ])
            refine takeAt (i := 2) (d := 55) (v := ?_) rfl (by kernel_rfl) (by kernel_rfl) (by kernel_rfl) (by kernel_rfl) (fun _ _ _ h => h) (Or.inl ⟨by kernel_rfl, ?_⟩) (by assumption) ?_
            rotate_left
            · (intro w hSw; (try dsimp only at hSw); go_simp; all_goals (with_reducible rfl))
            (try simp only [Act.put, List.setIfInBounds_toArray, List.set_cons_zero, List.set_cons_succ])
            refine takeAt (i := 3) (d := 56) (v := ?_) rfl (by kernel_rfl) (by kernel_rfl) (by kernel_rfl) (by kernel_rfl) (fun _ _ _ h => h) (Or.inl ⟨by kernel_rfl, ?_⟩) (by assumption) ?_
            rotate_left
            · (intro w hSw; (try dsimp only at hSw); go_simp; all_goals (with_reducible rfl))
            (try simp only [Act.put, List.setIfInBounds_toArray, List.set_cons_zero, List.set_cons_succ])
            refine takeAt (i := 5) (d := 58) (v := ?_) rfl (by kernel_rfl) (by kernel_rfl) (by kernel_rfl) (by kernel_rfl) (fun _ _ _ h => h) (Or.inl ⟨by kernel_rfl, ?_⟩) (by assumption) ?_
            rotate_left
            · (intro w hSw; (try dsimp only at hSw); go_simp; all_goals (with_reducible rfl))
            (try simp only [Act.put, List.setIfInBounds_toArray, List.set_cons_zero, List.set_cons_succ])
            refine takeAt (i := 6) (d := 59) (v := ?_) rfl (by kernel_rfl) (by kernel_rfl) (by kernel_rfl) (by kernel_rfl) (fun _ _ _ h => h) (Or.inl ⟨by kernel_rfl, ?_⟩) (by assumption) ?_
            rotate_left
            · (intro w hSw; (try dsimp only at hSw); go_simp; all_goals (with_reducible rfl))
            (try simp only [Act.put, List.setIfInBounds_toArray, List.set_cons_zero, List.set_cons_succ])
            refine wpAnyH_ready (rs := [4]) (by kernel_rfl) (by simp) ?_
            refine AllReadyH.cons rfl (fun K hK => ?_) AllReadyH.nil
            clear hHeld
            go_simp
            refine (eqBytes w8.drew _ _ _ _ _ _ HV1.out HV2.out).mono ?_
            rintro e w9 ⟨rfl, nn, hw⟩
            have hb : Below w8.drew.heap.size w8.drew w9 := by rw [hw]; exact drewN_below _ _
            clear hw nn
            rw [HLAW.out]
            rw [HQ.out]
            have HM := Lib.hid (HM.out.bel hb)
            have HN := Lib.hid (HN.out.bel hb)
            have HB : Hid (Below w.heap.size w w9) := Lib.hid (below_next HB.out hb)
            clear y0 y1 y2 y3 y4 y5 y6 y7 z0 z1 z2 z3 z4 z5 z6 z7
            have y0 := row_cell HM.out.row 0 rfl; have y1 := row_cell HM.out.row 1 rfl; have y2 := row_cell HM.out.row 2 rfl; have y3 := row_cell HM.out.row 3 rfl; have y4 := row_cell HM.out.row 4 rfl; have y5 := row_cell HM.out.row 5 rfl; have y6 := row_cell HM.out.row 6 rfl; have y7 := row_cell HM.out.row 7 rfl
            simp only [List.getElem_toArray, List.getElem_cons_zero, List.getElem_cons_succ] at y0 y1 y2 y3 y4 y5 y6 y7
            have z0 := row_cell HN.out.row 0 rfl; have z1 := row_cell HN.out.row 1 rfl; have z2 := row_cell HN.out.row 2 rfl; have z3 := row_cell HN.out.row 3 rfl; have z4 := row_cell HN.out.row 4 rfl; have z5 := row_cell HN.out.row 5 rfl; have z6 := row_cell HN.out.row 6 rfl; have z7 := row_cell HN.out.row 7 rfl
            simp only [List.getElem_toArray, List.getElem_cons_zero, List.getElem_cons_succ] at z0 z1 z2 z3 z4 z5 z6 z7
            have HV1 := Lib.hid (HV1.out.bel5 hb)
            have HV2 := Lib.hid (HV2.out.bel5 hb)
            clear hb
            go_wp2_with fail
            refine hK.out _ _ ⟨⟨y0, y1, y2, y3, y4, y5, y6, y7⟩, ⟨z0, z1, z2, z3, z4, z5, z6, z7⟩⟩ (fun hHeld => ?_)
            clear hK K
            (try refine stateAt (d := 57) (by kernel_rfl) ?_)
            (try simp only [Act.put, List.setIfInBounds_toArray, List.set_cons_zero, List.set_cons_succ])
            refine wpAnyH_ready (rs := [7]) (by kernel_rfl) (by simp) ?_
            refine AllReadyH.cons rfl (fun K hK => ?_) AllReadyH.nil
            clear hHeld
            go_simp
            refine (eqMod5 w9 _ _ [.slice at0 m.types.length at1, .slice ah0 m.hosts.length ah1, .slice ag0 m.globals.length ag1, .int .i64 m.first, .int .i64 m.most, .slice af0 m.funs.length af1, .slice ad0 m.datas.length ad1, .slice ae0 m.exps.length ae1] [.slice bt0 n.types.length bt1, .slice bh0 n.hosts.length bh1, .slice bg0 n.globals.length bg1, .int .i64 n.first, .int .i64 n.most, .slice bf0 n.funs.length bf1, .slice bd0 n.datas.length bd1, .slice be0 n.exps.length be1] m n HM.out.rd HN.out.rd).mono ?_
            rintro e w10 ⟨rfl, hb⟩
            rw [HQ.out]
            have HM := Lib.hid (HM.out.bel hb)
            have HN := Lib.hid (HN.out.bel hb)
            have HB : Hid (Below w.heap.size w w10) := Lib.hid (below_next HB.out hb)
            clear y0 y1 y2 y3 y4 y5 y6 y7 z0 z1 z2 z3 z4 z5 z6 z7
            have y0 := row_cell HM.out.row 0 rfl; have y1 := row_cell HM.out.row 1 rfl; have y2 := row_cell HM.out.row 2 rfl; have y3 := row_cell HM.out.row 3 rfl; have y4 := row_cell HM.out.row 4 rfl; have y5 := row_cell HM.out.row 5 rfl; have y6 := row_cell HM.out.row 6 rfl; have y7 := row_cell HM.out.row 7 rfl
            simp only [List.getElem_toArray, List.getElem_cons_zero, List.getElem_cons_succ] at y0 y1 y2 y3 y4 y5 y6 y7
            have z0 := row_cell HN.out.row 0 rfl; have z1 := row_cell HN.out.row 1 rfl; have z2 := row_cell HN.out.row 2 rfl; have z3 := row_cell HN.out.row 3 rfl; have z4 := row_cell HN.out.row 4 rfl; have z5 := row_cell HN.out.row 5 rfl; have z6 := row_cell HN.out.row 6 rfl; have z7 := row_cell HN.out.row 7 rfl
            simp only [List.getElem_toArray, List.getElem_cons_zero, List.getElem_cons_succ] at z0 z1 z2 z3 z4 z5 z6 z7
            have HV1 := Lib.hid (HV1.out.bel5 hb)
            have HV2 := Lib.hid (HV2.out.bel5 hb)
            clear hb
            go_wp2_with fail
            refine hK.out _ _ ⟨⟨y0, y1, y2, y3, y4, y5, y6, y7⟩, ⟨z0, z1, z2, z3, z4, z5, z6, z7⟩⟩ (fun hHeld => ?_)
            clear hK K
            (try refine stateAt (d := 60) (by kernel_rfl) ?_)
            (try simp only [Act.put, List.setIfInBounds_toArray, List.set_cons_zero, List.set_cons_succ])
            refine takeAt (i := 8) (d := 61) (v := ?_) rfl (by kernel_rfl) (by kernel_rfl) (by kernel_rfl) (by kernel_rfl) (fun _ _ _ h => h) (Or.inl ⟨by kernel_rfl, ?_⟩) (by assumption) ?_
            rotate_left
            · (intro w hSw; (try dsimp only at hSw); go_simp; all_goals (with_reducible rfl))
            (try simp only [Act.put, List.setIfInBounds_toArray, List.set_cons_zero, List.set_cons_succ])
            refine takeAt (i := 9) (d := 62) (v := ?_) rfl (by kernel_rfl) (by kernel_rfl) (by kernel_rfl) (by kernel_rfl) (fun _ _ _ h => h) (Or.inl ⟨by kernel_rfl, ?_⟩) (by assumption) ?_
            rotate_left
            · (intro w hSw; (try dsimp only at hSw); go_simp; all_goals (with_reducible rfl))
            (try simp only [Act.put, List.setIfInBounds_toArray, List.set_cons_zero, List.set_cons_succ])
            refine takeAt (i := 10) (d := 4) (v := ?_) rfl (by kernel_rfl) (by kernel_rfl) (by kernel_rfl) (by kernel_rfl) (fun _ _ _ h => h) (Or.inl ⟨by kernel_rfl, ?_⟩) (by assumption) ?_
            rotate_left
            · (intro w hSw; (try dsimp only at hSw); go_simp; all_goals (with_reducible rfl))
            (try simp only [Act.put, List.setIfInBounds_toArray, List.set_cons_zero, List.set_cons_succ])
            refine wpAnyH_done (by kernel_rfl) ?_ _
            go_wp2_with fail
            go_ret
            exact ⟨rfl, HB.out⟩
      · have d2 : (E2 == 0) = false := by simp [q2]
        have d2' : (E2 != 0) = true := by simp [q2]
        have hz := HZ2.out q2
        simp only [Value.slice.injEq] at hz
        obtain ⟨rfl, rfl, rfl⟩ := hz
        clear HV1 HV2 HZ1 HZ2 q2
        go_wp2_with fail
        go_ret
        exact ⟨rfl, HB.out⟩
    · have d1 : (E1 == 0) = false := by simp [q1]
      have d1' : (E1 != 0) = true := by simp [q1]
      have hz := HZ1.out q1
      simp only [Value.slice.injEq] at hz
      obtain ⟨rfl, rfl, rfl⟩ := hz
      clear HV1 HZ1 q1
      by_cases q2 : E2 = 0
      · subst q2
        go_wp2_with fail
        go_ret
        exact ⟨rfl, HB.out⟩
      · have d2 : (E2 == 0) = false := by simp [q2]
        have d2' : (E2 != 0) = true := by simp [q2]
        have hz := HZ2.out q2
        simp only [Value.slice.injEq] at hz
        obtain ⟨rfl, rfl, rfl⟩ := hz
        clear HV2 HZ2 q2
        go_wp2_with fail
        go_ret
        exact ⟨rfl, HB.out⟩
end Go.Proofs.YteaolgldkfjdkaaDoor
