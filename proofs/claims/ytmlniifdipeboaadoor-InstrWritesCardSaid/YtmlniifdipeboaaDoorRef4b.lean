/- flagonref04.Encode. -/
import Derived.Test.YtmlniifdipeboaaDoorRef4a
import Derived.Test.YtmlniifdipeboaaDoorInstr3
namespace Go.Proofs.YtmlniifdipeboaaDoor
open Go Go.RowKit

set_option maxRecDepth 100000 in
set_option maxHeartbeats 6400000 in
/-- 'flagonref04.Encode'. -/
theorem ref4_Encode (w : World) (S) (x : InsD) (vl : Value) (wf : WfIns x) (hr : RdI .i64 S w vl x.l) :
    Calls Tryd.prog 62 #[.agg #[.int .u8 x.op, .int .i64 x.a, vl]] w fun e w' => ∃ v', e = .returned (.tuple #[v', .int .i64 (checkI x)]) ∧ Below w.heap.size w w' ∧
      w'.ownsRow w.heap.size 5 1 v' (encI x).length ((encI x).map (Value.int .u8)) ∧ (checkI x ≠ 0 → v' = .slice none 0 0) := by
  obtain ⟨i0, hi, hz0, hz1, hz2⟩ := info_parts Tryd.infoU8
  have hchk := fun w0 hl0 => ref4_Check w0 (· < w0.heap.size) x vl wf hl0
  have HCk := Lib.hid hchk
  clear hchk
  have HL := Lib.hid hr; have HWf := Lib.hid wf
  have HEn : Hid (encI x = if checkI x = 0 then (x.op : Int) :: tailI x else []) := Lib.hid rfl
  obtain ⟨va, vc, rfl, hlc⟩ := hr.lenc
  clear wf hr
  have ho := HWf.out.op
  have hb0 := below_alloc w (.cells #[.int .u8 x.op, .int .i64 x.a, .slice va x.l.length vc] 81)
  have hr0 := heap_alloc_new w (.cells #[.int .u8 x.op, .int .i64 x.a, .slice va x.l.length vc] 81)
  obtain ⟨c, hcc⟩ : ∃ c, checkI x = c := ⟨_, rfl⟩
  rw [hcc] at HCk HEn ⊢
  have HCc := Lib.hid hcc; clear hcc
  obtain ⟨op, hop⟩ : ∃ o, o = x.op := ⟨_, rfl⟩
  obtain ⟨a, ha⟩ : ∃ o, o = x.a := ⟨_, rfl⟩
  obtain ⟨l, hl⟩ : ∃ o, o = x.l := ⟨_, rfl⟩
  have HOP := Lib.hid hop; have HA := Lib.hid ha; have HLL := Lib.hid hl
  rw [← hop, ← ha, ← hl] at hb0 hr0 HCk ⊢
  rw [← hl] at HL hlc
  rw [← hop] at ho HEn
  clear hop ha hl
  go_enter Tryd.func62, Tryd.ntmps62
  have b0 := row_cell hr0 0 rfl; have b1 := row_cell hr0 1 rfl; have b2 := row_cell hr0 2 rfl
  simp only [List.getElem_toArray, List.getElem_cons_zero, List.getElem_cons_succ] at b0 b1 b2
  go_wp2_with fail
  generalize w.alloc (.cells #[.int .u8 op, .int .i64 a, .slice va l.length vc] 81) = w0 at *
  have HB0 := Lib.hid hb0; have HR0 := Lib.hid hr0
  have HL0 := Lib.hid (HL.out.any.bel hb0)
  clear hb0 hr0 HL b0 b1 b2
  refine (HCk.out _ HL0.out).mono ?_
  rintro e w1 ⟨rfl, hb1⟩
  have HB1 := Lib.hid (below_next HB0.out hb1)
  have HR1 : Hid (w1.heap[w.heap.size]? = some (.cells #[.int .u8 op, .int .i64 a, .slice va l.length vc] 81 (0, 0))) := Lib.hid ((hb1.block _ (row_lt HR0.out)).trans HR0.out)
  have HL1 := Lib.hid (HL0.out.bel hb1)
  clear hb1 HB0 HR0 HL0 HCk
  by_cases hc : ¬ c = 0
  · have HE : Hid (encI x = []) := by have := HEn.out; rw [if_neg hc] at this; exact this
    have hc' : (c != 0) = true := by rw [bne_iff_ne]; exact hc
    go_wp2
    go_ret2
    refine ⟨_, rfl, HB1.out, ?_, fun _ => rfl⟩
    rw [HE.out]
    exact World.ownsRow_nil _ _ _ _
  have hc := Decidable.not_not.1 hc
  subst hc
  have HE : Hid (encI x = (op : Int) :: tailI x) := by have := HEn.out; rw [if_pos rfl] at this; exact this
  obtain ⟨k1, k2, k3, k4⟩ := check_ok HCc.out
  clear HEn
  have HTl : Hid (tailI x = if takesP op = 3 then uv l.length ++ uvs l else if takesP op = 8 then uv (zig a) else if isU (takesP op) then uv a.toNat else []) := by show _ = _; rw [HOP.out, HA.out, HLL.out]; rfl
  rw [← HOP.out] at k1 k2 k3 k4
  rw [← HA.out] at k2
  rw [← HLL.out] at k3 k4
  have HW : Hid (i64P a) := Lib.hid (by rw [HA.out]; exact HWf.out.a)
  clear HLL HA HOP HWf
  have HK3 := Lib.hid k3
  have hE2 : EnS w w1.heap.size op a (.slice va l.length vc) l (w1.alloc (.cells #[.int .u8 op] 5)) (.slice (some ⟨w1.heap.size, 0, none⟩) 1 1) [(op : Int)] :=
    ⟨below_next HB1.out (below_alloc w1 _), ((below_alloc w1 _).block _ (row_lt HR1.out)).trans HR1.out, HL1.out.keeps (Keeps.all _ (below_alloc w1 _)), World.ownsRow_lit w1 #[.int .u8 op] 1 (Nat.le_refl _) (by decide) rfl, row_lt HR1.out, (below_alloc w1 _).size⟩
  have b0 := row_cell HR1.out 0 rfl
  have c0 := hE2.cells.1
  simp only [List.getElem_toArray, List.getElem_cons_zero] at b0
  go_wp2_with fail
  have HE2 := Lib.hid hE2
  clear hE2 b0 c0 HB1 HL1 HR1
  generalize w1.alloc (.cells #[.int .u8 op] 5) = w2 at *
  refine (ref_Takes _ op ho).mono ?_
  rintro e w3 ⟨rfl, hb3⟩
  rw [if_pos k1]
  have HE3 := Lib.hid (HE2.out.on hb3)
  clear hb3 HE2
  generalize w1.heap.size = B at *
  have hu := fun h : isU (takesP op) = true => bounds_u h
  have HIn : Hid ((boundsI op).1 ≤ a ∧ a ≤ (boundsI op).2) := by have := k2; simp only [inI, decide_eq_true_eq] at this; exact this
  have hcs := takes_cases ⟨op, ho⟩
  simp only at hcs
  generalize (boundsI op).1 = lo at *
  generalize (boundsI op).2 = hi' at *
  generalize takesP op = t at *
  have HU := Lib.hid hu
  clear hu k1 k2 k3
  obtain ⟨c0, c1, c2⟩ := HE3.out.cells
  rcases hcs with h3 | h8 | hU | h0
  · subst h3
    obtain ⟨j1, j2, j3⟩ := HK3.out rfl
    have HJ := Lib.hid j3
    clear j3 k4 HU
    have hwl : IntKind.u64.wrap (l.length : Int) = (l.length : Int) := IntWalk.u64_in _ ⟨by omega, by omega⟩
    have HX : Hid (encI x = (op : Int) :: (uv l.length ++ uvs l)) := by have := HE.out; rw [HTl.out, if_pos rfl] at this; exact this
    have hu10 := uv_len10 (n := l.length) (by omega)
    clear HE HTl
    go_wp2_with fail
    refine (ref_Uvar _ l.length (by omega)).mono ?_
    rintro e w5 ⟨v5, rfl, hown5, hb5⟩
    have HE5 := HE3.out.on hb5
    obtain ⟨g5, cap5, rfl, _, _⟩ := hown5.form (uv_pos _)
    clear c0 c1 c2 hb5
    go_wp2_with (at_builtin; refine wpList_append_own _ rfl _ _ 34 rfl B 5 i0 (.int .u8 0) 1 1 Tryd.underlying34 hi hz0 hz1 hz2 rfl (by decide) _ _ _ rfl HE5.own ⟨g5, 0, none⟩ (uv l.length).length cap5 ((uv l.length).map (Value.int .u8)) rfl (by simp) (hown5.cells rfl) (by intro u hu; simp at hu; obtain ⟨x, _, rfl⟩ := hu; rfl) (by unfold maxLen; simp; omega) (by simp; omega) HE5.hi ?_)
    intro v6 w6 hown6 hgrow6 _
    have HE6 := HE5.grow (ys := uv l.length) hgrow6 hown6
    obtain ⟨_, _, c2⟩ := HE6.cells
    have HQ6 := Lib.hid HE6
    clear HE5 hown5 hown6 hgrow6 HE3 HE6
    go_wp2
    clear c2
    go_loopw [5, 6] (fun vb i wr => ∃ k : Nat, k ≤ l.length ∧ i = .int .i64 k ∧ Hid (EnS w B op a (.slice va l.length vc) l wr vb ((op : Int) :: (uv l.length ++ uvs (l.take k))))) (fun _ i _ => l.length - (intOf i).toNat)
    case atStart => exact ⟨0, by omega, rfl, Lib.hid (by have := HQ6.out; simpa [uvs] using this)⟩
    case round =>
      obtain ⟨k, hk, rfl, HEr⟩ := hrel
      have c2 := HEr.out.cells.2.2
      by_cases hlt : k < l.length
      · obtain ⟨va', vc', e, _, _, hcell⟩ := HEr.out.rd
        simp only [Value.slice.injEq] at e
        obtain ⟨rfl, _, rfl⟩ := e
        obtain ⟨bb, off, rfl, _, hcl⟩ := hcell k hlt
        have hn : 0 ≤ l[k] ∧ l[k] ≤ 2147483647 := by simpa [smallI] using HJ.out l[k] (List.getElem_mem _)
        obtain ⟨m, hm⟩ := Int.eq_ofNat_of_zero_le hn.1
        have HT' : Hid (uvs (l.take (k + 1)) = uvs (l.take k) ++ uv m) := by have := uvs_take hlt; rw [hm] at this; exact this
        rw [hm] at hcl hn
        have hbs : (uvs (l.take k)).length ≤ 160 := by
          have h1 := uvs_len (l := l.take k) fun n hn => HJ.out n (List.mem_of_mem_take hn)
          simp at h1; omega
        have hwm : IntKind.u64.wrap (m : Int) = (m : Int) := IntWalk.u64_in _ ⟨by omega, by omega⟩
        have hm10 := uv_len10 (n := m) (by omega)
        clear hcell hm HX HQ6
        go_wp2_with fail
        refine (ref_Uvar _ m (by omega)).mono ?_
        rintro e w7 ⟨v7, rfl, hown7, hb7⟩
        have HE7 := HEr.out.on hb7
        obtain ⟨g7, cap7, rfl, _, _⟩ := hown7.form (uv_pos _)
        clear hb7 HEr hcl
        go_wp2_with (at_builtin; refine wpList_append_own _ rfl _ _ 34 rfl B 5 i0 (.int .u8 0) 1 1 Tryd.underlying34 hi hz0 hz1 hz2 rfl (by decide) _ _ _ rfl HE7.own ⟨g7, 0, none⟩ (uv m).length cap7 ((uv m).map (Value.int .u8)) rfl (by simp) (hown7.cells rfl) (by intro u hu; simp at hu; obtain ⟨x, _, rfl⟩ := hu; rfl) (by unfold maxLen; simp; omega) (by simp; omega) HE7.hi ?_)
        intro v8 w8 hown8 hgrow8 _
        have HE8 := Lib.hid (HE7.grow (ys := uv m) hgrow8 (by simpa using hown8))
        clear HE7 hown7 hown8 hgrow8
        go_wp2
        go_roundw
        case rel => exact ⟨k + 1, by omega, by go_num, Lib.hid (by rw [HT'.out, ← List.append_assoc]; exact HE8.out)⟩
        case measure => simp [intOf]; omega
      · have HD : Hid (EnS w B op a (.slice va l.length vc) l wr u5 (encI x)) := Lib.hid (by rw [HX.out]; have := HEr.out; rw [List.take_of_length_le (by omega)] at this; exact this)
        clear HEr
        go_wp2
        go_ret2
        exact ⟨_, rfl, HD.out.bel, HD.out.done, fun h => absurd rfl h⟩
  · subst h8
    have HX : Hid (encI x = (op : Int) :: uv (zig a)) := by have := HE.out; rw [HTl.out, if_neg (by decide), if_pos rfl] at this; exact this
    have hu10 := uv_len10 (n := zig a) (zig_le HW.out)
    clear HE HTl HU k4
    go_wp2_with fail
    refine (ref_Svar _ a HW.out).mono ?_
    rintro e w5 ⟨v5, rfl, hown5, hb5⟩
    have HE5 := HE3.out.on hb5
    obtain ⟨g5, cap5, rfl, _, _⟩ := hown5.form (uv_pos _)
    clear c0 c1 c2 hb5
    go_wp2_with (at_builtin; refine wpList_append_own _ rfl _ _ 34 rfl B 5 i0 (.int .u8 0) 1 1 Tryd.underlying34 hi hz0 hz1 hz2 rfl (by decide) _ _ _ rfl HE5.own ⟨g5, 0, none⟩ (uv (zig a)).length cap5 ((uv (zig a)).map (Value.int .u8)) rfl (by simp) (hown5.cells rfl) (by intro u hu; simp at hu; obtain ⟨x, _, rfl⟩ := hu; rfl) (by unfold maxLen; simp; omega) (by simp; omega) HE5.hi ?_)
    intro v6 w6 hown6 hgrow6 _
    have HQ6 := Lib.hid (HE5.grow (ys := uv (zig a)) hgrow6 hown6)
    clear HE5 hown5 hown6 hgrow6 HE3
    go_wp2
    go_ret2
    exact ⟨_, rfl, HQ6.out.bel, by rw [HX.out]; exact HQ6.out.done, fun h => absurd rfl h⟩
  · have hn := isU_not hU
    obtain ⟨e1, e2, e3⟩ := HU.out hU
    have h0' : (t == 0) = false := by rw [beq_eq_false_iff_ne]; intro c; rw [c] at hU; exact absurd hU (by decide)
    have h3' : (t == 3) = false := by rw [beq_eq_false_iff_ne]; exact hn.1
    have h8' : (t == 8) = false := by rw [beq_eq_false_iff_ne]; exact hn.2.1
    obtain ⟨m, hm⟩ := Int.eq_ofNat_of_zero_le (show 0 ≤ a by have := HIn.out; omega)
    have HX : Hid (encI x = (op : Int) :: uv m) := by have := HE.out; rw [HTl.out, if_neg hn.1, if_neg hn.2.1, if_pos hU, hm] at this; exact this
    have hwa : IntKind.u64.wrap a = (m : Int) := by have := HIn.out; rw [hm]; exact IntWalk.u64_in _ ⟨by omega, by omega⟩
    have hm4 : m ≤ 4294967295 := by have := HIn.out; omega
    have hu10 := uv_len10 (n := m) (by omega)
    have HUU := Lib.hid hU
    clear HE HTl HU k4 e1 e2 e3 hn hU hm
    go_wp2_with fail
    all_goals
      refine (ref_Uvar _ m (by omega)).mono ?_
      rintro e w5 ⟨v5, rfl, hown5, hb5⟩
      have HE5 := HE3.out.on hb5
      obtain ⟨g5, cap5, rfl, _, _⟩ := hown5.form (uv_pos _)
      clear c0 c1 c2 hb5
      go_wp2_with (at_builtin; refine wpList_append_own _ rfl _ _ 34 rfl B 5 i0 (.int .u8 0) 1 1 Tryd.underlying34 hi hz0 hz1 hz2 rfl (by decide) _ _ _ rfl HE5.own ⟨g5, 0, none⟩ (uv m).length cap5 ((uv m).map (Value.int .u8)) rfl (by simp) (hown5.cells rfl) (by intro u hu; simp at hu; obtain ⟨x, _, rfl⟩ := hu; rfl) (by unfold maxLen; simp; omega) (by simp; omega) HE5.hi ?_)
      intro v6 w6 hown6 hgrow6 _
      have HQ6 := Lib.hid (HE5.grow (ys := uv m) hgrow6 hown6)
      clear HE5 hown5 hown6 hgrow6 HE3
      go_wp2
      go_ret2
      exact ⟨_, rfl, HQ6.out.bel, by rw [HX.out]; exact HQ6.out.done, fun h => absurd rfl h⟩
  · subst h0
    have HX : Hid (encI x = [(op : Int)]) := by have := HE.out; rw [HTl.out, if_neg (by decide), if_neg (by decide), if_neg (by decide)] at this; exact this
    clear HE HTl HU k4
    go_wp2
    go_ret2
    exact ⟨_, rfl, HE3.out.bel, by rw [HX.out]; exact HE3.out.done, fun h => absurd rfl h⟩
end Go.Proofs.YtmlniifdipeboaaDoor
