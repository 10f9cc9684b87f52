/- flagonref22.Write, walked. -/
import Derived.Test.YthlkckpadjjbdaaDoorWrite22a
import Derived.Lib.SlBytesConst
namespace Go.Proofs.YthlkckpadjjbdaaDoor
open Go Go.RowKit
set_option linter.unusedSimpArgs false

set_option maxRecDepth 100000 in
set_option maxHeartbeats 6400000 in
theorem ref22_Write (w : World) (S) (cs : List Value) (s : StateD) (h : RState S w cs s) (wf : WfState s) :
    Calls Tryd.prog 9 #[.agg cs.toArray] w fun e w' => ∃ v c, e = .returned (.tuple #[v, .int .i64 c]) ∧ Below w.heap.size w w' ∧
      (okState s = true → c = 0 ∧ w'.ownsRow w.heap.size 5 1 v (encState s).length ((encState s).map (Value.int .u8))) ∧ (okState s = false → v = .slice none 0 0 ∧ c = 44) := by
  obtain ⟨i0, hi, hz0, hz1, hz2⟩ := info_parts Tryd.infoU8
  obtain ⟨fv, gv, pv, rv, rfl, hf, hg, hp, hr⟩ := h
  obtain ⟨ga, gc, rfl, _⟩ := hg.len
  obtain ⟨ra, rc, rfl, _⟩ := hr.len
  obtain ⟨pa, pc, rfl, _⟩ := hp.len
  obtain ⟨fa, fc, rfl, _⟩ := hf.len
  have HRS : Hid (RState S w [.slice fa s.frames.length fc, .slice ga s.globals.length gc, .slice pa s.pages.length pc, .int .i64 s.replies, .int .i8 s.ends, .slice ra s.results.length rc, .int .i8 s.trap, .int .i64 s.used] s) := Lib.hid ⟨_, _, _, _, rfl, hf, hg, hp, hr⟩
  have HWf := Lib.hid wf
  clear hf hg hp hr wf
  have hb0 := below_alloc w (.cells #[.slice fa s.frames.length fc, .slice ga s.globals.length gc, .slice pa s.pages.length pc, .int .i64 s.replies, .int .i8 s.ends, .slice ra s.results.length rc, .int .i8 s.trap, .int .i64 s.used] 27)
  have hr0 := heap_alloc_new w (.cells #[.slice fa s.frames.length fc, .slice ga s.globals.length gc, .slice pa s.pages.length pc, .int .i64 s.replies, .int .i8 s.ends, .slice ra s.results.length rc, .int .i8 s.trap, .int .i64 s.used] 27)
  go_enter Tryd.func9, Tryd.ntmps9
  go_upto_region 1 with fail
  generalize w.alloc (.cells #[.slice fa s.frames.length fc, .slice ga s.globals.length gc, .slice pa s.pages.length pc, .int .i64 s.replies, .int .i8 s.ends, .slice ra s.results.length rc, .int .i8 s.trap, .int .i64 s.used] 27) = W at *
  have x0 := row_cell hr0 0 rfl; have x1 := row_cell hr0 1 rfl; have x2 := row_cell hr0 2 rfl; have x3 := row_cell hr0 3 rfl; have x4 := row_cell hr0 4 rfl; have x5 := row_cell hr0 5 rfl; have x6 := row_cell hr0 6 rfl; have x7 := row_cell hr0 7 rfl
  have HB0 := Lib.hid hb0; have HR0 := Lib.hid hr0
  have HRS0 := Lib.hid (HRS.out.keeps (Keeps.all _ hb0))
  clear hb0 hr0 HRS
  go_wp2_with fail
  refine (ref22_May W _ _ s HRS0.out HWf.out).mono ?_
  rintro e w1 ⟨rfl, hb1⟩
  have HR1 := Lib.hid ((hb1.block _ (row_lt HR0.out)).trans HR0.out)
  have HB1 := Lib.hid (below_next HB0.out hb1)
  have HRS1 := Lib.hid (HRS0.out.keeps (Keeps.all _ hb1))
  clear x0 x1 x2 x3 x4 x5 x6 x7 HB0 HR0 HRS0 hb1
  cases hok : okState s with
  | false =>
    go_wp2
    go_ret2
    exact ⟨_, _, rfl, HB1.out, fun h => by rw [hok] at h; simp at h, fun _ => ⟨rfl, rfl⟩⟩
  | true =>
    have HFt := Lib.hid (fits_of hok)
    have HOK := Lib.hid hok
    clear hok
    obtain ⟨fv, gv, pv, rv, ee, hf, hg, hp, hr⟩ := HRS1.out
    simp only [List.cons.injEq, and_true, true_and] at ee
    obtain ⟨rfl, rfl, rfl, rfl⟩ := ee
    have HF := Lib.hid hf; have HG := Lib.hid hg; have HP := Lib.hid hp; have HR := Lib.hid hr
    clear hf hg hp hr HRS1
    have HC : Hid (∀ wr, Below w1.heap.size w1 wr → wr.cell? ⟨w.heap.size, 0, none⟩ = some (.slice fa s.frames.length fc) ∧ wr.cell? ⟨w.heap.size, 1, none⟩ = some (.slice ga s.globals.length gc) ∧ wr.cell? ⟨w.heap.size, 2, none⟩ = some (.slice pa s.pages.length pc) ∧ wr.cell? ⟨w.heap.size, 3, none⟩ = some (.int .i64 s.replies) ∧ wr.cell? ⟨w.heap.size, 4, none⟩ = some (.int .i8 s.ends) ∧ wr.cell? ⟨w.heap.size, 5, none⟩ = some (.slice ra s.results.length rc) ∧ wr.cell? ⟨w.heap.size, 6, none⟩ = some (.int .i8 s.trap) ∧ wr.cell? ⟨w.heap.size, 7, none⟩ = some (.int .i64 s.used)) := Lib.hid fun wr hb => by
      have := (hb.block _ (row_lt HR1.out)).trans HR1.out
      exact ⟨row_cell this 0 rfl, row_cell this 1 rfl, row_cell this 2 rfl, row_cell this 3 rfl, row_cell this 4 rfl, row_cell this 5 rfl, row_cell this 6 rfl, row_cell this 7 rfl⟩
    clear HR1
    have hen := HFt.out.ends; have htr := HFt.out.trap
    have ce : IntKind.u8.wrap s.ends = s.ends := IntWalk.u8_in _ ⟨by omega, by omega⟩
    have ct : IntKind.u8.wrap s.trap = s.trap := IntWalk.u8_in _ ⟨by omega, by omega⟩
    have kc := Lib.run_convert_bytes_const (P := Tryd.prog) w1 31 5 #[.int .u8 70, .int .u8 83, .int .u8 78, .int .u8 80, .int .u8 1] 5 5 Tryd.underlying31 Tryd.underlying5
    go_upto_region 5 with fail
    have hbA : Below w1.heap.size w1 (w1.alloc (Obj.cells #[.int .u8 70, .int .u8 83, .int .u8 78, .int .u8 80, .int .u8 1] 5 (5, 6))) := below_alloc _ _
    have hrA := heap_alloc_new w1 (Obj.cells #[.int .u8 70, .int .u8 83, .int .u8 78, .int .u8 80, .int .u8 1] 5 (5, 6))
    clear kc
    generalize w1.alloc (Obj.cells #[.int .u8 70, .int .u8 83, .int .u8 78, .int .u8 80, .int .u8 1] 5 (5, 6)) = WA at *
    have c4 := (HC.out WA hbA).2.2.2.2.1
    have HBA := Lib.hid hbA; have HRA := Lib.hid hrA
    clear hbA hrA
    go_wp2_with (at_builtin; refine wpList_append_grows _ rfl _ _ 31 rfl 5 i0 (.int .u8 0) 1 1 Tryd.underlying31 hi hz0 hz1 hz2 rfl (by decide) (some ⟨w1.heap.size, 0, none⟩) 5 5 [.int .u8 70, .int .u8 83, .int .u8 78, .int .u8 80, .int .u8 1] rfl (by simp) rfl (by intro b hb; cases hb; exact World.news_of_block (cs := #[.int .u8 70, .int .u8 83, .int .u8 78, .int .u8 80, .int .u8 1]) (t := 5) (fr := (5, 6)) (((below_alloc WA _).block _ (row_lt HRA.out)).trans HRA.out)) ⟨WA.heap.size, 0, none⟩ 1 1 [.int .u8 s.ends] rfl rfl (cell_one_new _ _ _) (by simp [Value.oneCell']) (by omega) (by unfold maxLen; omega) (by omega) ?_)
    intro v6 w6 hown6 hgrow6
    have hb6 : Below w1.heap.size w1 w6 := (HBA.out.alloc HBA.out.size _).grown hgrow6 (by first | (have := HBA.out.size; omega) | (rw [World.size_alloc]; have := HBA.out.size; omega)) fun k hk => by cases hk
    have H6 : Hid (Rw w1 w6 v6 ([70, 83, 78, 80, 1] ++ [s.ends])) := Lib.hid ⟨by simpa using own_base hown6 (by first | (have := HBA.out.size; omega) | (rw [World.size_alloc]; have := HBA.out.size; omega)), hb6⟩
    clear hown6 hgrow6 hb6 c4 HBA HRA
    have c6 := (HC.out w6 H6.out.bel).2.2.2.2.2.2.1
    go_wp2_with (at_builtin; refine wpList_append_own _ rfl _ _ 31 rfl w1.heap.size 5 i0 (.int .u8 0) 1 1 Tryd.underlying31 hi hz0 hz1 hz2 rfl (by decide) _ _ _ rfl (H6.out.on (below_alloc _ _)).own ⟨w6.heap.size, 0, none⟩ 1 1 [.int .u8 s.trap] rfl rfl (cell_one_new _ _ _) (by simp [Value.oneCell']) (by unfold maxLen; simp) (by simp) (by first | (have := H6.out.bel.size; omega) | (rw [World.size_alloc]; have := H6.out.bel.size; omega)) ?_)
    intro v7 w7 hown7 hgrow7 _
    have H7 := Lib.hid ((H6.out.on (below_alloc _ _)).grow (ys := [s.trap]) hgrow7 hown7)
    clear hown7 hgrow7 c6 H6 ce ct hen htr
    -- used
    have H7 : Hid (Rw w1 w7 v7 ([70, 83, 78, 80, 1] ++ [s.ends] ++ [s.trap])) := Lib.hid (H7.out.as rfl)
    have c7 := (HC.out w7 H7.out.bel).2.2.2.2.2.2.2
    obtain ⟨eu, eu2⟩ := u64_in (s.used) (by have := HFt.out.used; omega) (by have := HFt.out.used; omega)
    have hpl : ([70, 83, 78, 80, 1] ++ [s.ends] ++ [s.trap]).length ≤ 1099511627776 := by have hh := hd1_len HWf.out HFt.out; simp only [hd1, List.length_append] at hh ⊢; omega
    go_wp2_with fail
    refine (ref22_numberI w1 w7 _ _ H7.out hpl (s.used) (by have := HFt.out.used; omega) (by have := HFt.out.used; omega)).mono ?_
    rintro e w8 ⟨v8, rfl, h8, _⟩
    have H8 : Hid (Rw w1 w8 v8 ([70, 83, 78, 80, 1] ++ [s.ends] ++ [s.trap] ++ uv s.used.toNat)) := Lib.hid (h8.as (by simp only [Int.toNat_natCast]))
    clear h8 H7 c7 eu eu2 hpl
    have c8 := (HC.out w8 H8.out.bel).2.2.2.1
    obtain ⟨eu, eu2⟩ := u64_in (s.replies) (by have := HFt.out.replies; omega) (by have := HFt.out.replies; omega)
    have hpl : ([70, 83, 78, 80, 1] ++ [s.ends] ++ [s.trap] ++ uv s.used.toNat).length ≤ 1099511627776 := by have hh := hd1_len HWf.out HFt.out; simp only [hd1, List.length_append] at hh ⊢; omega
    go_wp2_with fail
    refine (ref22_numberI w1 w8 _ _ H8.out hpl (s.replies) (by have := HFt.out.replies; omega) (by have := HFt.out.replies; omega)).mono ?_
    rintro e w9 ⟨v9, rfl, h9, _⟩
    have H9 : Hid (Rw w1 w9 v9 ([70, 83, 78, 80, 1] ++ [s.ends] ++ [s.trap] ++ uv s.used.toNat ++ uv s.replies.toNat)) := Lib.hid (h9.as (by simp only [Int.toNat_natCast]))
    clear h9 H8 c8 eu eu2 hpl
    have c9 := (HC.out w9 H9.out.bel).2.2.2.2.2.1
    go_wp2_with fail
    refine (ref22_values w1 w9 _ _ H9.out S _ s.results HR.out HWf.out.results (by have := HFt.out.results; have hh := hd1_len HWf.out HFt.out; simp only [hd1, List.length_append] at hh ⊢; omega)).mono ?_
    rintro e w10 ⟨v10, rfl, h10, _⟩
    have H10 : Hid (Rw w1 w10 v10 ([70, 83, 78, 80, 1] ++ [s.ends] ++ [s.trap] ++ uv s.used.toNat ++ uv s.replies.toNat ++ encVals s.results)) := Lib.hid (h10.as rfl)
    clear h10 H9 c9
    have c10 := (HC.out w10 H10.out.bel).2.1
    go_wp2_with fail
    refine (ref22_values w1 w10 _ _ H10.out S _ s.globals HG.out HWf.out.globals (by have := HFt.out.globals; have hh := hd1_len HWf.out HFt.out; simp only [hd1, List.length_append] at hh ⊢; omega)).mono ?_
    rintro e w11 ⟨v11, rfl, h11, _⟩
    have H11 : Hid (Rw w1 w11 v11 (hd1 s)) := Lib.hid (h11.as rfl)
    clear h11 H10 c10
    have c11 := (HC.out w11 H11.out.bel).2.2.1
    obtain ⟨eu, eu2⟩ := u64_in ((s.pages.length : Int)) (by have := HFt.out.pages; omega) (by have := HFt.out.pages; omega)
    have hpl : (hd1 s).length ≤ 1099511627776 := by have hh := hd1_len HWf.out HFt.out; omega
    go_wp2_with fail
    refine (ref22_numberI w1 w11 _ _ H11.out hpl ((s.pages.length : Int)) (by have := HFt.out.pages; omega) (by have := HFt.out.pages; omega)).mono ?_
    rintro e w12 ⟨v12, rfl, h12, _⟩
    have H12 : Hid (Rw w1 w12 v12 (hd1 s ++ uv s.pages.length)) := Lib.hid (h12.as (by simp only [Int.toNat_natCast]))
    clear h12 H11 c11 eu eu2 hpl
    go_wp2
    go_loopw [6, 7] (fun n i wr => ∃ k : Nat, k ≤ s.pages.length ∧ i = .int .i64 k ∧ n = .int .i64 ((nz s.pages k).length : Nat) ∧ Hid (Rw w1 wr v12 (hd1 s ++ uv s.pages.length))) (fun _ i _ => s.pages.length - (intOf i).toNat)
    case atStart => exact ⟨0, by omega, rfl, rfl, H12⟩
    case round =>
      obtain ⟨k, hk, rfl, rfl, HK⟩ := hrel
      clear H12
      have c2 := (HC.out _ HK.out.bel).2.2.1
      by_cases hlt : k < s.pages.length
      · obtain ⟨_, _, ee, _, _, rr⟩ := HP.out
        obtain ⟨b, o, cs, ea, _, hn1, hcell, vl, rfl, hrl⟩ := rr k hlt
        rw [← (Value.slice.inj ee).1] at ea
        subst ea
        obtain ⟨la, lc, rfl, _⟩ := hrl.len
        have x0' := hcell 0 (by omega)
        simp at x0'
        clear ee rr hcell hn1
        have HL := Lib.hid hrl
        have HX0 := Lib.hid x0'
        have x0 := cell_below HK.out.bel x0'
        clear x0'
        have HN := Lib.hid (noughts_page (HFt.out.page _ (List.getElem_mem hlt)))
        have HZ := Lib.hid (fun h => pgs_zero (l := s.pages) hlt h)
        have HM := Lib.hid (fun h => pgs_more (l := s.pages) hlt h)
        have HE := Lib.hid (HFt.out.page _ (List.getElem_mem hlt))
        have HBy := Lib.hid (HWf.out.pages _ (List.getElem_mem hlt))
        clear hrl
        generalize s.pages[k] = y at *
        obtain ⟨z, hz⟩ : ∃ z, decide (y = zpage) = z := ⟨_, rfl⟩
        rw [hz] at HN
        have HD := Lib.hid hz; clear hz
        have hnl : (nz s.pages k).length ≤ 64 := by have := nz_len s.pages k; have := HFt.out.pages; omega
        cases z with
        | true =>
          have hz : y = zpage := of_decide_eq_true HD.out
          have HZZ := Lib.hid (HZ.out hz)
          clear hz HD HZ HM
          go_wp2_with fail
          refine (ref22_noughts _ _ _ y (HK.out.rd HL.out)).mono ?_
          rintro e w' ⟨rfl, rfl⟩
          rw [HN.out]
          clear HN HL HE HBy HX0
          go_wp2
          go_roundw
          case rel => exact ⟨k + 1, by omega, by go_num, by rw [HZZ.out], HK⟩
          case measure => simp [intOf]; omega
        | false =>
          have hz : ¬ y = zpage := of_decide_eq_false HD.out
          have HMM : Hid ((nz s.pages (k + 1)).length = (nz s.pages k).length + 1) := Lib.hid (by rw [(HM.out hz).1]; simp)
          clear hz HD HZ HM
          go_wp2_with fail
          refine (ref22_noughts _ _ _ y (HK.out.rd HL.out)).mono ?_
          rintro e w' ⟨rfl, rfl⟩
          rw [HN.out]
          clear HN HL HE HBy HX0
          generalize (nz s.pages k).length = m at *
          go_wp2
          go_roundw
          case rel => exact ⟨k + 1, by omega, by go_num, by rw [HMM.out]; go_num, HK⟩
          case measure => simp [intOf]; omega
      · obtain rfl : k = s.pages.length := by omega
        have hnl : (nz s.pages s.pages.length).length ≤ 64 := by have := nz_len s.pages s.pages.length; have := HFt.out.pages; omega
        obtain ⟨N, hN⟩ : ∃ N, N = (nz s.pages s.pages.length).length := ⟨_, rfl⟩
        rw [← hN] at hnl ⊢
        have HNN := Lib.hid hN; clear hN
        obtain ⟨eu, eu2⟩ := u64_in (N : Int) (by omega) (by omega)
        have hpl : (hd1 s ++ uv s.pages.length).length ≤ 1099511627776 := by have hh := hd1_len HWf.out HFt.out; have := uv_len10 (n := s.pages.length) (by have := HFt.out.pages; omega); simp only [List.length_append]; omega
        go_wp2_with fail
        refine (ref22_numberI w1 _ _ _ HK.out hpl (N : Int) (by omega) (by omega)).mono ?_
        rintro e w13 ⟨v13, rfl, h13, _⟩
        have H13 : Hid (Rw w1 w13 v13 (hd1 s ++ uv s.pages.length ++ uv (nz s.pages s.pages.length).length)) := Lib.hid (h13.as (by rw [← HNN.out, Int.toNat_natCast]))
        clear h13 HK eu eu2 hpl HNN hnl
        obtain ⟨P2, hP2⟩ : ∃ P2, hd1 s ++ uv s.pages.length ++ uv (nz s.pages s.pages.length).length = P2 := ⟨_, rfl⟩
        have hP2l : P2.length ≤ 6100 := by
          have hh := hd1_len HWf.out HFt.out; have := uv_len10 (n := s.pages.length) (by have := HFt.out.pages; omega); have := uv_len10 (n := (nz s.pages s.pages.length).length) (by have := nz_len s.pages s.pages.length; have := HFt.out.pages; omega)
          rw [← hP2]; simp only [List.length_append]; omega
        rw [hP2] at H13
        have HP2 := Lib.hid hP2; clear hP2
        go_wp2
        go_loopw [5, 8] (fun vb i wr => ∃ k : Nat, k ≤ s.pages.length ∧ i = .int .i64 k ∧ Hid (Rw w1 wr vb (P2 ++ pgs s.pages k))) (fun _ i _ => s.pages.length - (intOf i).toNat)
        case atStart => exact ⟨0, by omega, rfl, Lib.hid (by simpa [pgs, nz] using H13.out)⟩
        case round =>
          obtain ⟨k, hk, rfl, HK⟩ := hrel
          clear H13
          have c2 := (HC.out _ HK.out.bel).2.2.1
          by_cases hlt : k < s.pages.length
          · obtain ⟨_, _, ee, _, _, rr⟩ := HP.out
            obtain ⟨b, o, cs, ea, _, hn1, hcell, vl, rfl, hrl⟩ := rr k hlt
            rw [← (Value.slice.inj ee).1] at ea
            subst ea
            obtain ⟨la, lc, rfl, _⟩ := hrl.len
            have x0' := hcell 0 (by omega)
            simp at x0'
            clear ee rr hcell hn1
            have HL := Lib.hid hrl
            have HX0 := Lib.hid x0'
            have x0 := cell_below HK.out.bel x0'
            clear x0'
            have HN := Lib.hid (noughts_page (HFt.out.page _ (List.getElem_mem hlt)))
            have HZ := Lib.hid (fun h => pgs_zero (l := s.pages) hlt h)
            have HM := Lib.hid (fun h => pgs_more (l := s.pages) hlt h)
            have HE := Lib.hid (HFt.out.page _ (List.getElem_mem hlt))
            have HBy := Lib.hid (HWf.out.pages _ (List.getElem_mem hlt))
            clear hrl
            generalize s.pages[k] = y at *
            obtain ⟨z, hz⟩ : ∃ z, decide (y = zpage) = z := ⟨_, rfl⟩
            rw [hz] at HN
            have HD := Lib.hid hz; clear hz
            have hk64 : k ≤ 64 := by have := HFt.out.pages; omega
            have hpl : (P2 ++ pgs s.pages k).length ≤ 300000 := by have := pgs_len HFt.out.page k (by omega) hk64; simp only [List.length_append]; omega
            cases z with
            | true =>
              have hz : y = zpage := of_decide_eq_true HD.out
              have HZZ : Hid (pgs s.pages (k + 1) = pgs s.pages k) := Lib.hid (by unfold pgs; rw [HZ.out hz])
              clear hz HD HZ HM
              go_wp2_with fail
              refine (ref22_noughts _ _ _ y (HK.out.rd HL.out)).mono ?_
              rintro e w' ⟨rfl, rfl⟩
              rw [HN.out]
              clear HN HL HE HBy HX0
              go_wp2
              go_roundw
              case rel => exact ⟨k + 1, by omega, by go_num, Lib.hid (by rw [HZZ.out]; exact HK.out)⟩
              case measure => simp [intOf]; omega
            | false =>
              have hz : ¬ y = zpage := of_decide_eq_false HD.out
              have HMM := Lib.hid (HM.out hz).2
              clear hz HD HZ HM
              go_wp2_with fail
              refine (ref22_noughts _ _ _ y (HK.out.rd HL.out)).mono ?_
              rintro e w' ⟨rfl, rfl⟩
              rw [HN.out]
              obtain ⟨eu, eu2⟩ := u64_in (k : Int) (by omega) (by omega)
              clear HN HBy
              go_wp2_with fail
              refine (ref22_numberI w1 _ _ _ HK.out (by omega) (k : Int) (by omega) (by omega)).mono ?_
              rintro e w14 ⟨v14, rfl, h14, _⟩
              have H14 : Hid (Rw w1 w14 v14 (P2 ++ pgs s.pages k ++ uv k)) := Lib.hid (h14.as (by rw [Int.toNat_natCast]))
              clear h14 HK eu eu2
              clear c2 x0
              have c2 := (HC.out _ H14.out.bel).2.2.1
              have x0 := cell_below H14.out.bel HX0.out
              obtain ⟨aa, rfl⟩ : ∃ a, la = some a := by
                obtain ⟨l1, c1, e1, _, _, hce⟩ := HL.out
                simp only [Value.slice.injEq] at e1
                obtain ⟨rfl, -, -⟩ := e1
                obtain ⟨bb, off, e2, _, _⟩ := hce 0 (by have := HE.out; omega)
                exact ⟨_, e2⟩
              have HNW := Lib.hid (H14.out.rd HL.out).news
              go_wp2_with (at_builtin; refine wpList_append_own _ rfl _ _ 31 rfl w1.heap.size 5 i0 (.int .u8 0) 1 1 Tryd.underlying31 hi hz0 hz1 hz2 rfl (by decide) _ _ _ rfl H14.out.own aa y.length lc (y.map (Value.int .u8)) rfl (by simp) HNW.out (by intro u hu; simp at hu; obtain ⟨x, _, rfl⟩ := hu; rfl) (by unfold maxLen; have := HE.out; have := uv_len10 (n := k) (by omega); simp only [List.length_append] at hpl ⊢; omega) (by have := HE.out; have := uv_len10 (n := k) (by omega); simp only [List.length_append] at hpl ⊢; omega) H14.out.bel.size ?_)
              intro v15 w15 hown15 hgrow15 _
              have H15 : Hid (Rw w1 w15 v15 (P2 ++ pgs s.pages (k + 1))) := Lib.hid ((H14.out.grow (ys := y) hgrow15 (by simpa [List.append_assoc, Nat.add_assoc] using hown15)).as (by rw [HMM.out]; simp only [List.append_assoc]))
              clear hown15 hgrow15 H14 HNW HL HE HX0 c2 x0 hpl
              go_wp2
              go_roundw
              case rel => exact ⟨k + 1, by omega, by go_num, H15⟩
              case measure => simp [intOf]; omega
          · obtain rfl : k = s.pages.length := by omega
            obtain ⟨P3, hP3⟩ : ∃ P3, P2 ++ pgs s.pages s.pages.length = P3 := ⟨_, rfl⟩
            have hP3l : P3.length ≤ 300000 := by have := pgs_len HFt.out.page s.pages.length (by omega) HFt.out.pages; have := HFt.out.pages; rw [← hP3]; simp only [List.length_append]; omega
            rw [hP3] at HK
            have HP3 := Lib.hid hP3; clear hP3
            obtain ⟨eu, eu2⟩ := u64_in (s.frames.length : Int) (by omega) (by have := HFt.out.frames; omega)
            have c0 := (HC.out _ HK.out.bel).1
            go_wp2_with fail
            refine (ref22_numberI w1 _ _ _ HK.out (by omega) (s.frames.length : Int) (by omega) (by have := HFt.out.frames; omega)).mono ?_
            rintro e w16 ⟨v16, rfl, h16, _⟩
            have H16 : Hid (Rw w1 w16 v16 (P3 ++ uv s.frames.length)) := Lib.hid (h16.as (by rw [Int.toNat_natCast]))
            clear h16 HK eu eu2 c2 c0
            obtain ⟨P4, hP4⟩ : ∃ P4, P3 ++ uv s.frames.length = P4 := ⟨_, rfl⟩
            have hP4l : P4.length ≤ 300010 := by have := uv_len10 (n := s.frames.length) (by have := HFt.out.frames; omega); rw [← hP4]; simp only [List.length_append]; omega
            rw [hP4] at H16
            have HP4 := Lib.hid hP4; clear hP4
            go_wp2
            go_loopw [5, 9] (fun vb i wr => ∃ k : Nat, k ≤ s.frames.length ∧ i = .int .i64 k ∧ Hid (Rw w1 wr vb (P4 ++ (s.frames.take k).flatMap encFrame))) (fun _ i _ => s.frames.length - (intOf i).toNat)
            case atStart => exact ⟨0, by omega, rfl, Lib.hid (by simpa using H16.out)⟩
            case round =>
              obtain ⟨k, hk, rfl, HK⟩ := hrel
              clear H16
              have c0 := (HC.out _ HK.out.bel).1
              by_cases hlt : k < s.frames.length
              · obtain ⟨_, _, ee, _, _, rr⟩ := HF.out
                obtain ⟨b, o, cs, ea, _, hn4, hcell, lv, sv, rfl, hl, hs⟩ := rr k hlt
                rw [← (Value.slice.inj ee).1] at ea
                subst ea
                obtain ⟨la, lc, rfl, _⟩ := hl.len
                obtain ⟨sa, sc, rfl, _⟩ := hs.len
                have q0 := hcell 0 (by omega); have q1 := hcell 1 (by omega); have q2 := hcell 2 (by omega); have q3 := hcell 3 (by omega)
                simp at q0 q1 q2 q3
                have x0 := cell_below HK.out.bel q0; have x1 := cell_below HK.out.bel q1; have x2 := cell_below HK.out.bel q2; have x3 := cell_below HK.out.bel q3
                have HL := Lib.hid hl; have HS := Lib.hid hs
                have hle := frames_len (l := s.frames.take k) (fun g hg => HWf.out.frames g (List.mem_of_mem_take hg)) (List.all_eq_true.2 fun g hg => List.all_eq_true.1 HFt.out.frame g (List.mem_of_mem_take hg))
                have HLE : Hid ((P4 ++ (s.frames.take k).flatMap encFrame).length ≤ 700000) := Lib.hid (by have := HFt.out.frames; simp only [List.length_append, List.length_take] at hle ⊢; omega)
                have HN := Lib.hid (flatMap_take_succ encFrame s.frames k hlt)
                have HFF := Lib.hid (frame_fits (List.all_eq_true.1 HFt.out.frame _ (List.getElem_mem hlt)))
                have HWF := Lib.hid (HWf.out.frames _ (List.getElem_mem hlt))
                clear ee rr hcell hn4 hl hs q0 q1 q2 q3 hle
                generalize s.frames[k] = f at *
                obtain ⟨P, hP⟩ : ∃ P, P4 ++ (s.frames.take k).flatMap encFrame = P := ⟨_, rfl⟩
                rw [hP] at HK HLE
                have HPP := Lib.hid hP; clear hP
                have hb3 := below_alloc wr (.cells #[.int .i64 f.fn, .int .i64 f.pc, .slice la f.loc.length lc, .slice sa f.stk.length sc] 66)
                have hr3 := heap_alloc_new wr (.cells #[.int .i64 f.fn, .int .i64 f.pc, .slice la f.loc.length lc, .slice sa f.stk.length sc] 66)
                go_upto_region 30 with fail
                have hvk : Hid (u5.ownBlock ≠ some wr.heap.size) := Lib.hid fun e => by have := (HK.out.own.lt _ e).2; omega
                generalize wr.alloc (.cells #[.int .i64 f.fn, .int .i64 f.pc, .slice la f.loc.length lc, .slice sa f.stk.length sc] 66) = wb at *
                have HQ : Hid (∀ wx v, Way wb u5 wx v → wx.heap[wr.heap.size]? = some (Obj.cells #[.int .i64 f.fn, .int .i64 f.pc, .slice la f.loc.length lc, .slice sa f.stk.length sc] 66 (0, 0))) := Lib.hid fun wx v hy => (hy.keep.block _ (row_lt hr3) hvk.out).trans hr3
                have H20 := Lib.hid (HK.out.on hb3)
                have Y20 := Lib.hid (Way.refl wb u5)
                have z0 := row_cell (HQ.out _ _ Y20.out) 0 rfl
                simp only [List.getElem_toArray, List.getElem_cons_zero, List.getElem_cons_succ] at z0
                clear hb3 hr3 HK x0 x1 x2 x3 c0 hvk
                obtain ⟨eu, eu2⟩ := u64_in f.fn (by have := HFF.out; omega) (by have := HFF.out; omega)
                go_wp2_with fail
                refine (ref22_numberI w1 _ _ _ H20.out (by have := HLE.out; omega) f.fn (by have := HFF.out; omega) (by have := HFF.out; omega)).mono ?_
                rintro e w21 ⟨v21, rfl, h21, y21⟩
                have H21 := Lib.hid h21; have Y21 := Lib.hid (Y20.out.trans y21)
                have hu1 := uv_le10 f.fn (by have := HFF.out; omega)
                have z1 := row_cell (HQ.out _ _ Y21.out) 1 rfl
                simp only [List.getElem_toArray, List.getElem_cons_zero, List.getElem_cons_succ] at z1
                clear h21 y21 H20 Y20 z0 eu eu2
                obtain ⟨eu, eu2⟩ := u64_in f.pc (by have := HFF.out; omega) (by have := HFF.out; omega)
                go_wp2_with fail
                refine (ref22_numberI w1 _ _ _ H21.out (by have := HLE.out; simp only [List.length_append]; omega) f.pc (by have := HFF.out; omega) (by have := HFF.out; omega)).mono ?_
                rintro e w22 ⟨v22, rfl, h22, y22⟩
                have H22 := Lib.hid h22; have Y22 := Lib.hid (Y21.out.trans y22)
                have hu2 := uv_le10 f.pc (by have := HFF.out; omega)
                have z2 := row_cell (HQ.out _ _ Y22.out) 2 rfl
                simp only [List.getElem_toArray, List.getElem_cons_zero, List.getElem_cons_succ] at z2
                clear h22 y22 H21 Y21 z1 eu eu2
                go_wp2_with fail
                refine (ref22_values w1 _ _ _ H22.out S _ f.loc HL.out HWF.out.loc (by have := HLE.out; have := HFF.out; simp only [List.length_append]; omega)).mono ?_
                rintro e w23 ⟨v23, rfl, h23, y23⟩
                have H23 := Lib.hid h23; have Y23 := Lib.hid (Y22.out.trans y23)
                have hu3 := encVals_le HWF.out.loc (by have := HFF.out; omega)
                have z3 := row_cell (HQ.out _ _ Y23.out) 3 rfl
                simp only [List.getElem_toArray, List.getElem_cons_zero, List.getElem_cons_succ] at z3
                clear h23 y23 H22 Y22 z2
                go_wp2_with fail
                refine (ref22_values w1 _ _ _ H23.out S _ f.stk HS.out HWF.out.stk (by have := HLE.out; have := HFF.out; simp only [List.length_append]; omega)).mono ?_
                rintro e w24 ⟨v24, rfl, h24, y24⟩
                have H24 : Hid (Rw w1 w24 v24 (P4 ++ (s.frames.take (k + 1)).flatMap encFrame)) := Lib.hid (h24.as (by rw [HN.out, ← HPP.out, encFrame]; simp only [List.append_assoc]))
                clear h24 y24 H23 Y23 z3 hu1 hu2 hu3
                go_wp2
                go_roundw
                case rel => exact ⟨k + 1, by omega, by go_num, H24⟩
                case measure => simp [intOf]; omega
              · obtain rfl : k = s.frames.length := by omega
                go_wp2
                go_ret2
                have hE : P4 ++ (s.frames.take s.frames.length).flatMap encFrame = encState s := by rw [List.take_length, ← HP4.out, ← HP3.out, ← HP2.out, enc_all]
                have hF := HK.out
                rw [hE] at hF
                exact ⟨_, 0, rfl, below_next HB1.out hF.bel, fun _ => ⟨rfl, own_base hF.own HB1.out.size⟩, fun h => by rw [HOK.out] at h; simp at h⟩
end Go.Proofs.YthlkckpadjjbdaaDoor
