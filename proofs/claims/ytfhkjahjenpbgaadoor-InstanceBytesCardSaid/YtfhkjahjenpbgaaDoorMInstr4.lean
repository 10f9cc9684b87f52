/- instr's reader: number, signed. instr.Encode. An instruction's bytes are bytes, and few: plain. -/
import Derived.Test.YtfhkjahjenpbgaaDoorMInstr2
import Derived.Laws.OwnMore
namespace Go.Proofs.YtfhkjahjenpbgaaDoor
open Go Go.RowKit

theorem ruvGo_zero (b : List Int) (p : Nat) : ∀ (f i v : Nat), (ruvGo b p f i v).2.2 ≠ 0 → (ruvGo b p f i v).2.1 = 0 := by
  intro f
  induction f with
  | zero => intro i v _; rfl
  | succ f ih =>
    intro i v h
    rw [ruvGo] at h ⊢
    split at h
    · rename_i h1; rw [if_pos h1]
    · rename_i h1
      rw [if_neg h1]
      split at h
      · rename_i h2; rw [if_pos h2]
      · rename_i h2
        rw [if_neg h2]
        split at h
        · rename_i h3
          rw [if_pos h3]
          split at h
          · rename_i h4; rw [if_pos h4]
          · simp at h
        · rename_i h3
          rw [if_neg h3]
          exact ih _ _ h
theorem ruv_at_le (b : List Int) (p : Nat) : (ruv b p).2.1 ≤ b.length := by
  by_cases h : (ruv b p).2.2 = 0
  · exact ruv_le h
  · have : (ruv b p).2.1 = 0 := ruvGo_zero b p 10 0 0 h
    omega


end Go.Proofs.YtfhkjahjenpbgaaDoor
namespace Go.Proofs.YtfhkjahjenpbgaaDoor
open Go Go.RowKit

theorem check_ok {x : InsD} (h : checkI x = 0) : isOp x.op = true ∧ inI x.op x.a = true ∧ (takesP x.op = 3 → 1 ≤ x.l.length ∧ x.l.length ≤ 16 ∧ ∀ n ∈ x.l, smallI n = true) ∧ (takesP x.op ≠ 3 → x.l = []) := by
  unfold checkI at h
  split at h
  · exact absurd h (by decide)
  rename_i h1
  split at h
  · exact absurd h (by decide)
  rename_i h2
  refine ⟨by simpa using h1, by simpa using h2, fun h3 => ?_, fun h3 => ?_⟩
  · rw [if_neg (by simp [h3])] at h
    split at h
    · exact absurd h (by decide)
    rename_i h4
    refine ⟨by omega, by omega, fun n hn => ?_⟩
    cases hall : x.l.all smallI with
    | true => exact List.all_eq_true.1 hall n hn
    | false => rw [hall] at h; exact absurd h (by decide)
  · rw [if_pos h3] at h
    split at h
    · exact absurd h (by decide)
    exact List.eq_nil_of_length_eq_zero (by omega)
theorem uvs_take {l : List Int} {k : Nat} (h : k < l.length) : uvs (l.take (k + 1)) = uvs (l.take k) ++ uv l[k].toNat := by
  rw [uvs, List.take_succ_eq_append_getElem h, List.flatMap_append]; simp [uvs]
theorem uvs_len {l : List Int} (h : ∀ n ∈ l, smallI n = true) : (uvs l).length ≤ 10 * l.length := by
  induction l with
  | nil => simp [uvs]
  | cons n l ih =>
    have h1 : 0 ≤ n ∧ n ≤ 2147483647 := by simpa [smallI] using h n List.mem_cons_self
    have h2 := uv_len10 (n := n.toNat) (by omega)
    have := ih fun x hx => h x (List.mem_cons_of_mem _ hx)
    simp only [uvs, List.flatMap_cons, List.length_append, List.length_cons] at *
    omega
/-- How Encode stands: its box, the list that it reads, the bytes that it owns. -/
structure EnS (w : World) (B : Nat) (op : Nat) (a : Int) (vl : Value) (l : List Int) (wx : World) (vb : Value) (bs : List Int) : Prop where
  bel : Below w.heap.size w wx
  row : wx.heap[w.heap.size]? = some (.cells #[.int .u8 op, .int .i64 a, vl] 68 (0, 0))
  rd : RdI .i64 (· < B) wx vl l
  own : wx.ownsRow B 5 1 vb bs.length (bs.map (Value.int .u8))
  lo : w.heap.size < B
  hi : B ≤ wx.heap.size
theorem EnS.on {w : World} {B op : Nat} {a : Int} {vl : Value} {l : List Int} {wx wy : World} {vb : Value} {bs : List Int} (h : EnS w B op a vl l wx vb bs) (hb : Below wx.heap.size wx wy) : EnS w B op a vl l wy vb bs :=
  ⟨below_next h.bel hb, (hb.block _ (row_lt h.row)).trans h.row, h.rd.keeps (Keeps.all _ hb), own_below h.own hb, h.lo, Nat.le_trans h.hi hb.size⟩
theorem EnS.grow {w : World} {B op : Nat} {a : Int} {vl : Value} {l : List Int} {wx wy : World} {vb v' : Value} {bs ys : List Int} (h : EnS w B op a vl l wx vb bs) (hg : wx.grownBy wy vb.ownBlock)
    (ho : wy.ownsRow B 5 1 v' (bs.length + ys.length) (bs.map (Value.int .u8) ++ ys.map (Value.int .u8))) : EnS w B op a vl l wy v' (bs ++ ys) :=
  ⟨h.bel.grown hg (Nat.le_trans (Nat.le_of_lt h.lo) h.hi) fun k hk => Nat.le_trans (Nat.le_of_lt h.lo) (h.own.lt k hk).1,
    grown_block hg h.row fun e => by have := (h.own.lt _ e).1; have := h.lo; omega,
    h.rd.keeps ((Keeps.refl _ wx).grown hg fun k hk _ hlt => by have := (h.own.lt k hk).1; omega),
    by simpa using ho, h.lo, Nat.le_trans h.hi hg.size⟩
theorem EnS.cells {w : World} {B op : Nat} {a : Int} {vl : Value} {l : List Int} {wx : World} {vb : Value} {bs : List Int} (h : EnS w B op a vl l wx vb bs) :
    wx.cell? ⟨w.heap.size, 0, none⟩ = some (.int .u8 op) ∧ wx.cell? ⟨w.heap.size, 1, none⟩ = some (.int .i64 a) ∧ wx.cell? ⟨w.heap.size, 2, none⟩ = some vl := ⟨row_cell h.row 0 rfl, row_cell h.row 1 rfl, row_cell h.row 2 rfl⟩
theorem EnS.done {w : World} {B op : Nat} {a : Int} {vl : Value} {l : List Int} {wx : World} {vb : Value} {bs : List Int} (h : EnS w B op a vl l wx vb bs) : wx.ownsRow w.heap.size 5 1 vb bs.length (bs.map (Value.int .u8)) := by
  refine ⟨h.own.1, ?_⟩
  rcases h.own.2 with hn | ⟨g, cap, cur, e, hb, rest⟩
  · exact .inl hn
  · exact .inr ⟨g, cap, cur, e, Nat.le_trans (Nat.le_of_lt h.lo) hb, rest⟩

set_option maxRecDepth 100000 in
set_option maxHeartbeats 6400000 in
/-- 'instr.Encode'. -/
theorem instr_Encode (w : World) (S) (x : InsD) (vl : Value) (wf : WfIns x) (hr : RdI .i64 S w vl x.l) (ht : Tb w) :
    Calls Tryd.prog 46 #[.agg #[.int .u8 x.op, .int .i64 x.a, vl]] w fun e w' => ∃ v', e = .returned (.tuple #[v', .int .i64 (checkI x)]) ∧ Below w.heap.size w w' ∧
      w'.ownsRow w.heap.size 5 1 v' (encI x).length ((encI x).map (Value.int .u8)) ∧ (checkI x ≠ 0 → v' = .slice none 0 0) := by
  obtain ⟨i0, hi, hz0, hz1, hz2⟩ := info_parts Tryd.infoU8
  have hchk := fun w0 hl0 ht0 => instr_Check w0 (· < w0.heap.size) x vl wf hl0 ht0
  have HCk := Lib.hid hchk
  clear hchk
  have HT := Lib.hid ht; have HL := Lib.hid hr; have HWf := Lib.hid wf
  have HEn : Hid (encI x = if checkI x = 0 then (x.op : Int) :: tailI x else []) := Lib.hid rfl
  obtain ⟨va, vc, rfl, hlc⟩ := hr.lenc
  clear wf hr ht
  have ho := HWf.out.op
  have hb0 := below_alloc w (.cells #[.int .u8 x.op, .int .i64 x.a, .slice va x.l.length vc] 68)
  have hr0 := heap_alloc_new w (.cells #[.int .u8 x.op, .int .i64 x.a, .slice va x.l.length vc] 68)
  obtain ⟨c, hcc⟩ : ∃ c, checkI x = c := ⟨_, rfl⟩
  rw [hcc] at HCk HEn ⊢
  have HCc := Lib.hid hcc; clear hcc
  obtain ⟨op, hop⟩ : ∃ o, o = x.op := ⟨_, rfl⟩
  obtain ⟨a, ha⟩ : ∃ o, o = x.a := ⟨_, rfl⟩
  obtain ⟨l, hl⟩ : ∃ o, o = x.l := ⟨_, rfl⟩
  have HOP := Lib.hid hop; have HA := Lib.hid ha; have HLL := Lib.hid hl
  rw [← hop, ← ha, ← hl] at hb0 hr0 HCk ⊢
  rw [← hl] at HL hlc
  rw [← hop] at ho HEn
  clear hop ha hl
  go_enter Tryd.func46, Tryd.ntmps46
  have b0 := row_cell hr0 0 rfl; have b1 := row_cell hr0 1 rfl; have b2 := row_cell hr0 2 rfl
  simp only [List.getElem_toArray, List.getElem_cons_zero, List.getElem_cons_succ] at b0 b1 b2
  go_wp2_with fail
  generalize w.alloc (.cells #[.int .u8 op, .int .i64 a, .slice va l.length vc] 68) = w0 at *
  have HB0 := Lib.hid hb0; have HR0 := Lib.hid hr0
  have HT0 := Lib.hid (HT.out.bel hb0)
  have HL0 := Lib.hid (HL.out.any.bel hb0)
  clear hb0 hr0 HL HT b0 b1 b2
  refine (HCk.out _ HL0.out HT0.out).mono ?_
  rintro e w1 ⟨rfl, hb1⟩
  have HB1 := Lib.hid (below_next HB0.out hb1)
  have HR1 : Hid (w1.heap[w.heap.size]? = some (.cells #[.int .u8 op, .int .i64 a, .slice va l.length vc] 68 (0, 0))) := Lib.hid ((hb1.block _ (row_lt HR0.out)).trans HR0.out)
  have HL1 := Lib.hid (HL0.out.bel hb1)
  have HT1 := Lib.hid (HT0.out.bel hb1)
  clear hb1 HB0 HR0 HL0 HT0 HCk
  by_cases hc : ¬ c = 0
  · have HE : Hid (encI x = []) := by have := HEn.out; rw [if_neg hc] at this; exact this
    have hc' : (c != 0) = true := by rw [bne_iff_ne]; exact hc
    go_wp2
    go_ret2
    refine ⟨_, rfl, HB1.out, ?_, fun _ => rfl⟩
    rw [HE.out]
    exact World.ownsRow_nil _ _ _ _
  have hc := Decidable.not_not.1 hc
  subst hc
  have HE : Hid (encI x = (op : Int) :: tailI x) := by have := HEn.out; rw [if_pos rfl] at this; exact this
  obtain ⟨k1, k2, k3, k4⟩ := check_ok HCc.out
  clear HEn
  have HTl : Hid (tailI x = if takesP op = 3 then uv l.length ++ uvs l else if takesP op = 8 then uv (zig a) else if isU (takesP op) then uv a.toNat else []) := by show _ = _; rw [HOP.out, HA.out, HLL.out]; rfl
  rw [← HOP.out] at k1 k2 k3 k4
  rw [← HA.out] at k2
  rw [← HLL.out] at k3 k4
  have HW : Hid (i64P a) := Lib.hid (by rw [HA.out]; exact HWf.out.a)
  clear HLL HA HOP HWf
  have HK3 := Lib.hid k3
  have hE2 : EnS w w1.heap.size op a (.slice va l.length vc) l (w1.alloc (.cells #[.int .u8 op] 5)) (.slice (some ⟨w1.heap.size, 0, none⟩) 1 1) [(op : Int)] :=
    ⟨below_next HB1.out (below_alloc w1 _), ((below_alloc w1 _).block _ (row_lt HR1.out)).trans HR1.out, HL1.out.keeps (Keeps.all _ (below_alloc w1 _)), World.ownsRow_lit w1 #[.int .u8 op] 1 (Nat.le_refl _) (by decide) rfl, row_lt HR1.out, (below_alloc w1 _).size⟩
  have HT2 : Hid (Tb (w1.alloc (.cells #[.int .u8 op] 5))) := Lib.hid (HT1.out.bel (below_alloc w1 _))
  have b0 := row_cell HR1.out 0 rfl
  have c0 := hE2.cells.1
  simp only [List.getElem_toArray, List.getElem_cons_zero] at b0
  go_wp2_with fail
  have HE2 := Lib.hid hE2
  clear hE2 b0 c0 HT1 HB1 HL1 HR1
  generalize w1.alloc (.cells #[.int .u8 op] 5) = w2 at *
  refine (ops_Of _ op ho HT2.out).mono ?_
  rintro e w3 ⟨rfl, hb3⟩
  rw [irow_eq op k1, k1]
  have HE3 := Lib.hid ((HE2.out.on hb3).on (below_alloc w3 (.cells (irow op) 132)))
  clear hb3 HE2 HT2
  generalize w1.heap.size = B at *
  unfold irow at *
  have hu := fun h : isU (takesP op) = true => bounds_u h
  have HIn : Hid ((boundsI op).1 ≤ a ∧ a ≤ (boundsI op).2) := by have := k2; simp only [inI, decide_eq_true_eq] at this; exact this
  have hcs := takes_cases ⟨op, ho⟩
  simp only at hcs
  generalize (progRow op).pops = pp at *
  generalize (progRow op).pushes = pu at *
  generalize (progRow op).plain = pl at *
  generalize wordP op = wd at *
  generalize (boundsI op).1 = lo at *
  generalize (boundsI op).2 = hi' at *
  generalize takesP op = t at *
  have HU := Lib.hid hu
  clear hu k1 k2 k3
  obtain ⟨c0, c1, c2⟩ := HE3.out.cells
  rcases hcs with h3 | h8 | hU | h0
  · subst h3
    obtain ⟨j1, j2, j3⟩ := HK3.out rfl
    have HJ := Lib.hid j3
    clear j3 k4 HU
    have hwl : IntKind.u64.wrap (l.length : Int) = (l.length : Int) := IntWalk.u64_in _ ⟨by omega, by omega⟩
    have HX : Hid (encI x = (op : Int) :: (uv l.length ++ uvs l)) := by have := HE.out; rw [HTl.out, if_pos rfl] at this; exact this
    have hu10 := uv_len10 (n := l.length) (by omega)
    clear HE HTl
    go_wp2_with fail
    refine (wire_Uvar _ l.length (by omega)).mono ?_
    rintro e w5 ⟨v5, rfl, hown5, hb5⟩
    have HE5 := HE3.out.on hb5
    obtain ⟨g5, cap5, rfl, _, _⟩ := hown5.form (uv_pos _)
    clear c0 c1 c2 hb5
    go_wp2_with (at_builtin; refine wpList_append_own _ rfl _ _ 41 rfl B 5 i0 (.int .u8 0) 1 1 Tryd.underlying41 hi hz0 hz1 hz2 rfl (by decide) _ _ _ rfl HE5.own ⟨g5, 0, none⟩ (uv l.length).length cap5 ((uv l.length).map (Value.int .u8)) rfl (by simp) (hown5.cells rfl) (by intro u hu; simp at hu; obtain ⟨x, _, rfl⟩ := hu; rfl) (by unfold maxLen; simp; omega) (by simp; omega) HE5.hi ?_)
    intro v6 w6 hown6 hgrow6 _
    have HE6 := HE5.grow (ys := uv l.length) hgrow6 hown6
    obtain ⟨_, _, c2⟩ := HE6.cells
    have HQ6 := Lib.hid HE6
    clear HE5 hown5 hown6 hgrow6 HE3 HE6
    go_wp2
    clear c2
    go_loopw [5, 49] (fun vb i wr => ∃ k : Nat, k ≤ l.length ∧ i = .int .i64 k ∧ Hid (EnS w B op a (.slice va l.length vc) l wr vb ((op : Int) :: (uv l.length ++ uvs (l.take k))))) (fun _ i _ => l.length - (intOf i).toNat)
    case atStart => exact ⟨0, by omega, rfl, Lib.hid (by have := HQ6.out; simpa [uvs] using this)⟩
    case round =>
      obtain ⟨k, hk, rfl, HEr⟩ := hrel
      by_cases hlt : k < l.length
      · obtain ⟨va', vc', e, _, _, hcell⟩ := HEr.out.rd
        simp only [Value.slice.injEq] at e
        obtain ⟨rfl, _, rfl⟩ := e
        obtain ⟨bb, off, rfl, _, hcl⟩ := hcell k hlt
        have hn : 0 ≤ l[k] ∧ l[k] ≤ 2147483647 := by simpa [smallI] using HJ.out l[k] (List.getElem_mem _)
        obtain ⟨m, hm⟩ := Int.eq_ofNat_of_zero_le hn.1
        have HT' : Hid (uvs (l.take (k + 1)) = uvs (l.take k) ++ uv m) := by have := uvs_take hlt; rw [hm] at this; exact this
        rw [hm] at hcl hn
        have hbs : (uvs (l.take k)).length ≤ 160 := by
          have h1 := uvs_len (l := l.take k) fun n hn => HJ.out n (List.mem_of_mem_take hn)
          simp at h1; omega
        have hwm : IntKind.u64.wrap (m : Int) = (m : Int) := IntWalk.u64_in _ ⟨by omega, by omega⟩
        have hm10 := uv_len10 (n := m) (by omega)
        clear hcell hm HX HQ6
        go_wp2_with fail
        refine (wire_Uvar _ m (by omega)).mono ?_
        rintro e w7 ⟨v7, rfl, hown7, hb7⟩
        have HE7 := HEr.out.on hb7
        obtain ⟨g7, cap7, rfl, _, _⟩ := hown7.form (uv_pos _)
        clear hb7 HEr hcl
        go_wp2_with (at_builtin; refine wpList_append_own _ rfl _ _ 41 rfl B 5 i0 (.int .u8 0) 1 1 Tryd.underlying41 hi hz0 hz1 hz2 rfl (by decide) _ _ _ rfl HE7.own ⟨g7, 0, none⟩ (uv m).length cap7 ((uv m).map (Value.int .u8)) rfl (by simp) (hown7.cells rfl) (by intro u hu; simp at hu; obtain ⟨x, _, rfl⟩ := hu; rfl) (by unfold maxLen; simp; omega) (by simp; omega) HE7.hi ?_)
        intro v8 w8 hown8 hgrow8 _
        have HE8 := Lib.hid (HE7.grow (ys := uv m) hgrow8 (by simpa using hown8))
        clear HE7 hown7 hown8 hgrow8
        go_wp2
        go_roundw
        case rel => exact ⟨k + 1, by omega, by go_num, Lib.hid (by rw [HT'.out, ← List.append_assoc]; exact HE8.out)⟩
        case measure => simp [intOf]; omega
      · have HD : Hid (EnS w B op a (.slice va l.length vc) l wr u5 (encI x)) := Lib.hid (by rw [HX.out]; have := HEr.out; rw [List.take_of_length_le (by omega)] at this; exact this)
        clear HEr
        go_wp2
        go_ret2
        exact ⟨_, rfl, HD.out.bel, HD.out.done, fun h => absurd rfl h⟩
  · subst h8
    have HX : Hid (encI x = (op : Int) :: uv (zig a)) := by have := HE.out; rw [HTl.out, if_neg (by decide), if_pos rfl] at this; exact this
    have hu10 := uv_len10 (n := zig a) (zig_le HW.out)
    clear HE HTl HU k4
    go_wp2_with fail
    refine (wire_Svar _ a HW.out).mono ?_
    rintro e w5 ⟨v5, rfl, hown5, hb5⟩
    have HE5 := HE3.out.on hb5
    obtain ⟨g5, cap5, rfl, _, _⟩ := hown5.form (uv_pos _)
    clear c0 c1 c2 hb5
    go_wp2_with (at_builtin; refine wpList_append_own _ rfl _ _ 41 rfl B 5 i0 (.int .u8 0) 1 1 Tryd.underlying41 hi hz0 hz1 hz2 rfl (by decide) _ _ _ rfl HE5.own ⟨g5, 0, none⟩ (uv (zig a)).length cap5 ((uv (zig a)).map (Value.int .u8)) rfl (by simp) (hown5.cells rfl) (by intro u hu; simp at hu; obtain ⟨x, _, rfl⟩ := hu; rfl) (by unfold maxLen; simp; omega) (by simp; omega) HE5.hi ?_)
    intro v6 w6 hown6 hgrow6 _
    have HQ6 := Lib.hid (HE5.grow (ys := uv (zig a)) hgrow6 hown6)
    clear HE5 hown5 hown6 hgrow6 HE3
    go_wp2
    go_ret2
    exact ⟨_, rfl, HQ6.out.bel, by rw [HX.out]; exact HQ6.out.done, fun h => absurd rfl h⟩
  · have hn := isU_not hU
    obtain ⟨e1, e2, e3⟩ := HU.out hU
    have h3' : (t == 3) = false := by rw [beq_eq_false_iff_ne]; exact hn.1
    have h8' : (t == 8) = false := by rw [beq_eq_false_iff_ne]; exact hn.2.1
    obtain ⟨m, hm⟩ := Int.eq_ofNat_of_zero_le (show 0 ≤ a by have := HIn.out; omega)
    have HX : Hid (encI x = (op : Int) :: uv m) := by have := HE.out; rw [HTl.out, if_neg hn.1, if_neg hn.2.1, if_pos hU, hm] at this; exact this
    have hwa : IntKind.u64.wrap a = (m : Int) := by have := HIn.out; rw [hm]; exact IntWalk.u64_in _ ⟨by omega, by omega⟩
    have hm4 : m ≤ 4294967295 := by have := HIn.out; omega
    have hu10 := uv_len10 (n := m) (by omega)
    have HUU := Lib.hid hU
    clear HE HTl HU k4 e1 e2 e3 hn hU hm
    go_wp2_with fail
    all_goals try (exfalso; have := HUU.out; simp only [isU, decide_eq_true_eq] at this; (try simp only [beq_iff_eq, beq_eq_false_iff_ne, ne_eq] at *); omega)
    all_goals
      refine (wire_Uvar _ m (by omega)).mono ?_
      rintro e w5 ⟨v5, rfl, hown5, hb5⟩
      have HE5 := HE3.out.on hb5
      obtain ⟨g5, cap5, rfl, _, _⟩ := hown5.form (uv_pos _)
      clear c0 c1 c2 hb5
      go_wp2_with (at_builtin; refine wpList_append_own _ rfl _ _ 41 rfl B 5 i0 (.int .u8 0) 1 1 Tryd.underlying41 hi hz0 hz1 hz2 rfl (by decide) _ _ _ rfl HE5.own ⟨g5, 0, none⟩ (uv m).length cap5 ((uv m).map (Value.int .u8)) rfl (by simp) (hown5.cells rfl) (by intro u hu; simp at hu; obtain ⟨x, _, rfl⟩ := hu; rfl) (by unfold maxLen; simp; omega) (by simp; omega) HE5.hi ?_)
      intro v6 w6 hown6 hgrow6 _
      have HQ6 := Lib.hid (HE5.grow (ys := uv m) hgrow6 hown6)
      clear HE5 hown5 hown6 hgrow6 HE3
      go_wp2
      go_ret2
      exact ⟨_, rfl, HQ6.out.bel, by rw [HX.out]; exact HQ6.out.done, fun h => absurd rfl h⟩
  · subst h0
    have HX : Hid (encI x = [(op : Int)]) := by have := HE.out; rw [HTl.out, if_neg (by decide), if_neg (by decide), if_neg (by decide)] at this; exact this
    clear HE HTl HU k4
    go_wp2
    go_ret2
    exact ⟨_, rfl, HE3.out.bel, by rw [HX.out]; exact HE3.out.done, fun h => absurd rfl h⟩
end Go.Proofs.YtfhkjahjenpbgaaDoor
namespace Go.Proofs.YtfhkjahjenpbgaaDoor
open Go Go.RowKit

theorem bytes_app {a b : List Int} (ha : Bytes a) (hb : Bytes b) : Bytes (a ++ b) := fun x hx => (List.mem_append.1 hx).elim (ha x) (hb x)
theorem bytes_uv {n : Nat} (h : n ≤ 18446744073709551615) : Bytes (uv n) := fun x hx => uv_byte 10 n (Nat.lt_of_le_of_lt h (by decide)) x hx
theorem bytes_uvs {l : List Int} (h : ∀ n ∈ l, smallI n = true) : Bytes (uvs l) := by
  intro x hx
  simp only [uvs, List.mem_flatMap] at hx
  obtain ⟨n, hn, hx⟩ := hx
  have hs : 0 ≤ n ∧ n ≤ 2147483647 := by simpa [smallI] using h n hn
  exact bytes_uv (by omega) x hx
theorem enc_ok {x : InsD} (wf : WfIns x) (hc : checkI x = 0) : Bytes (encI x) ∧ (encI x).length ≤ 200 := by
  obtain ⟨k1, k2, k3, k4⟩ := check_ok hc
  have he : encI x = (x.op : Int) :: tailI x := by rw [encI, if_pos hc]
  have ho : Bytes [(x.op : Int)] := by intro y hy; simp at hy; have := wf.op; omega
  have ht : Bytes (tailI x) ∧ (tailI x).length ≤ 180 := by
    unfold tailI
    split
    · rename_i h3
      obtain ⟨j1, j2, j3⟩ := k3 h3
      have := uvs_len j3
      have := uv_len10 (n := x.l.length) (by omega)
      exact ⟨bytes_app (bytes_uv (by omega)) (bytes_uvs j3), by rw [List.length_append]; omega⟩
    split
    · exact ⟨bytes_uv (zig_le wf.a), by have := uv_len10 (zig_le wf.a); omega⟩
    split
    · rename_i hu
      have hb := bounds_u hu
      have hi : (boundsI x.op).1 ≤ x.a ∧ x.a ≤ (boundsI x.op).2 := by simpa [inI] using k2
      exact ⟨bytes_uv (by omega), by have := uv_len10 (n := x.a.toNat) (by omega); omega⟩
    · exact ⟨fun x hx => by simp at hx, by simp⟩
  rw [he]
  exact ⟨bytes_app ho ht.1, by rw [List.length_cons]; omega⟩
/-- What stays while the law goes on: the box, the bytes behind. -/
structure Bk (w : World) (x : InsD) (vl v1 v2 : Value) (ah be : List Int) (wx : World) : Prop where
  bel : Below w.heap.size w wx
  tb : Tb wx
  row : wx.heap[w.heap.size]? = some (.cells #[.int .u8 x.op, .int .i64 x.a, vl] 68 (0, 0))
  rx : RdI .i64 (· < w.heap.size) wx vl x.l
  r1 : RdI .u8 (· < w.heap.size) wx v1 ah
  r2 : RdI .u8 (· < w.heap.size) wx v2 be
theorem encI_len {x : InsD} (wf : WfIns x) : (encI x).length ≤ 200 := by
  by_cases hc : checkI x = 0
  · exact (enc_ok wf hc).2
  · rw [encI, if_neg hc]; decide
end Go.Proofs.YtfhkjahjenpbgaaDoor
