/- snap's writer: pages. -/
import Derived.Test.YthlkckpadjjbdaaDoorWriter
import Derived.Test.YthlkckpadjjbdaaDoorArr
namespace Go.Proofs.YthlkckpadjjbdaaDoor
open Go Go.RowKit

theorem Tryd.infoInt : (Tryd.prog.info? 3).map (fun i => (i.zero, i.size, i.bytes)) = some (some (.int .i64 0), 1, 8) := by kernel_rfl

/-- The places of the pages that are not all noughts, below k. -/
def nz (pages : List (List Int)) (k : Nat) : List Nat := (List.range k).filter fun i => pages.getD i [] ≠ zpage
theorem nz_succ (pages : List (List Int)) (k : Nat) : nz pages (k + 1) = nz pages k ++ (if pages.getD k [] ≠ zpage then [k] else []) := by
  unfold nz
  rw [List.range_succ, List.filter_append]
  congr 1
  by_cases h : pages.getD k [] = zpage
  · rw [if_neg (by simpa using h), List.filter_cons_of_neg (by simpa using h)]; rfl
  · rw [if_pos (by simpa using h), List.filter_cons_of_pos (by simpa using h)]; rfl
theorem nz_len (pages : List (List Int)) (k : Nat) : (nz pages k).length ≤ k := by
  have := List.length_filter_le (fun i => decide (pages.getD i [] ≠ zpage)) (List.range k)
  rw [List.length_range] at this; exact this
theorem nz_lt {pages : List (List Int)} {k i : Nat} (h : i ∈ nz pages k) : i < k := by
  have := (List.mem_filter.1 h).1
  simpa using this
/-- The pages' bytes. -/
def encPages (pages : List (List Int)) : List Int :=
  uv pages.length ++ (uv (nz pages pages.length).length ++ (nz pages pages.length).flatMap fun i => uv i ++ pages.getD i [])
def okPages (pages : List (List Int)) : Bool := decide (pages.length ≤ 64 ∧ ∀ x ∈ pages, x.length = 4096)

theorem pages_add {w1 wr w2 : World} {l : List (List Int)} {k : Nat} {u v' : Value} (hbel : Below w1.heap.size w1 wr)
    (hown : wr.ownsRow w1.heap.size 3 1 u (nz l k).length ((nz l k).map fun (i : Nat) => Value.int .i64 (i : Int)))
    (hown' : w2.ownsRow w1.heap.size 3 1 v' ((nz l k).length + 1) (((nz l k).map fun (i : Nat) => Value.int .i64 (i : Int)) ++ [Value.int .i64 (k : Int)]))
    {o : Obj} (hgrow : (wr.alloc o).grownBy w2 u.ownBlock) (hne : l.getD k [] ≠ zpage) :
    Hid (w2.ownsRow w1.heap.size 3 1 v' (nz l (k + 1)).length ((nz l (k + 1)).map fun (i : Nat) => Value.int .i64 (i : Int))) ∧ Below w1.heap.size w1 w2 := by
  refine ⟨?_, (hbel.alloc hbel.size _).grown hgrow (by have := hbel.size; rw [World.size_alloc]; omega) fun k hk => (hown.lt k hk).1⟩
  rw [nz_succ, if_pos hne]
  simpa [Hid] using hown'
theorem pages_len {l : List (List Int)} {k : Nat} (h : ∀ j, j < k → (l.getD j []).length = 4096) (hk : (l.getD k []).length = 4096) : ∀ j, j < k + 1 → (l.getD j []).length = 4096 := by
  intro j hj
  rcases Nat.lt_or_ge j k with h1 | h1
  · exact h j h1
  · obtain rfl : j = k := by omega
    exact hk
theorem wr_bad {base : Nat} {w0 w : World} {p : Nat} {v0 v : Value} {xs : List Int} {bad : Bool} (h : Wr base w p v xs bad) (ht : WrTo p v0 w0 v w) :
    Wr base (w.setCell ⟨p, 1, none⟩ (.bool true)) p v xs true ∧ WrTo p v0 w0 v (w.setCell ⟨p, 1, none⟩ (.bool true)) := by
  have hk : Keeps (fun b => b ≠ p) w (w.setCell ⟨p, 1, none⟩ (.bool true)) := (Keeps.refl _ w).setCell (a := ⟨p, 1, none⟩) (by simp) _
  exact ⟨⟨by simpa using row_setCell h.row 1 (.bool true), own_keeps h.own hk fun b hb e => h.apart (e ▸ hb), h.apart⟩,
    ht.trans ⟨hk.mono fun b _ h => h.1, fun b hb => .inl hb⟩⟩

theorem pages_next {ys ys3 xs2 F F' : List Int} {q : Nat} {u pg : List Int} (h : ys = xs2 ++ F) (h3 : ys3 = ys ++ uv q) (hf : F' = F ++ (uv q ++ u)) (hu : u = pg) : Hid (ys3 ++ pg = xs2 ++ F') := by
  show _ = _
  rw [h3, h, hf, hu]
  simp only [List.append_assoc]

set_option maxRecDepth 100000 in
set_option maxHeartbeats 1600000 in
theorem wr_pages (base : Nat) (w : World) (p : Nat) (v : Value) (xs : List Int) (bad : Bool) (h : Wr base w p v xs bad) (hb : base ≤ w.heap.size) (hl : xs.length ≤ 1000000000)
    (S) (lv : Value) (l : List (List Int)) (hr : RdLL .u8 S w lv l) (hS : ∀ b, S b → b ≠ p ∧ v.ownBlock ≠ some b) (hw : ∀ y ∈ l, ∀ x ∈ y, 0 ≤ x ∧ x ≤ 255) :
    Calls Tryd.prog 27 #[.pointer (some ⟨p, 0, none⟩), lv] w fun e w' => e = .returned (.tuple #[]) ∧
      ∃ v' xs', Wr base w' p v' xs' (bad || !okPages l) ∧ WrTo p v w v' w' ∧ (bad = false → okPages l = true → xs' = xs ++ encPages l) ∧ xs'.length ≤ xs.length + 270000 := by
  obtain ⟨i0, hi, hz0, hz1, hz2⟩ := info_parts Tryd.infoInt
  have HRd := Lib.hid hr
  obtain ⟨a, c, rfl, hc, hm, r⟩ := hr
  have Hcells := Lib.hid r; have HS := Lib.hid hS; have HW := Lib.hid hw; have HWr := Lib.hid h
  clear r hS hw h
  go_enter Tryd.func27, Tryd.ntmps27
  go_wp2_with fail
  (with_reducible refine (wr_numberI base w p v xs bad HWr.out hb (by omega) l.length 64 64 (by omega) (by omega) (by omega)).mono ?_)
  rintro e w1 ⟨rfl, v1, xs1, hw1, hto1, hx1, hlen1⟩
  have HX1 := Lib.hid hx1; clear hx1
  have HTO := Lib.hid hto1; clear hto1
  have hsz1 := HTO.out.keep.size
  by_cases hbad : (bad || !okn (l.length : Int) 64) = true
  · rw [hbad] at hw1
    have c1 := row_cell hw1.row 1 rfl
    have HF := Lib.hid hw1; clear hw1
    have HB : Hid ((bad || !okPages l) = true ∧ (bad = false → okPages l = true → xs1 = xs ++ encPages l)) := by
      show _ ∧ _
      by_cases hh : l.length ≤ 64
      · have : okn (l.length : Int) 64 = true := decide_eq_true ⟨by omega, by omega⟩
        rw [this] at hbad
        simp at hbad
        simp [hbad]
      · have : okPages l = false := decide_eq_false (fun h => hh h.1)
        simp [this]
    go_wp2
    exact bodyPost_ret (results_none rfl _ _ _) rfl ⟨rfl, v1, xs1, by rw [HB.out.1]; exact HF.out, HTO.out, HB.out.2, by omega⟩
  · have hbad' : (bad || !okn (l.length : Int) 64) = false := by simpa using hbad
    rw [hbad'] at hw1
    have HB : Hid (bad = false ∧ xs1 = xs ++ uv l.length) := by
      show _ ∧ _
      have h2 : okn (l.length : Int) 64 = true := by simp at hbad'; exact hbad'.2
      have h1 : bad = false := by simp at hbad'; exact hbad'.1
      exact ⟨h1, by simpa using HX1.out h2⟩
    have hl64 : l.length ≤ 64 := by
      have h2 : okn (l.length : Int) 64 = true := by simp at hbad'; exact hbad'.2
      have := of_decide_eq_true h2
      omega
    clear hbad hbad' HX1
    have c1 := row_cell hw1.row 1 rfl
    have HF := Lib.hid hw1; clear hw1
    have RK := Lib.hid (HRd.out.keeps (HTO.out.keep.mono fun b _ hb => HS.out b hb))
    have hplt := row_lt HF.out.row
    go_wp2
    go_loopw [4, 19] (fun sv i wr => ∃ (k : Nat), k ≤ l.length ∧ i = .int .i64 k ∧ Hid (wr.ownsRow w1.heap.size 3 1 sv (nz l k).length ((nz l k).map fun (i : Nat) => Value.int .i64 (i : Int))) ∧ Hid (∀ j, j < k → (l.getD j []).length = 4096) ∧ Below w1.heap.size w1 wr) (fun _ i _ => l.length - (intOf i).toNat)
    case atStart => exact ⟨0, by omega, rfl, World.ownsRow_nil _ _ _ _, (show ∀ j, j < 0 → _ from fun j h => absurd h (by omega)), Below.refl _ _⟩
    case round =>
      obtain ⟨k, hk, rfl, HO, HL, hbel⟩ := hrel
      by_cases hlt : k < l.length
      · obtain ⟨bb, off, cs, rfl, hSb, hn1, _⟩ := Hcells.out k hlt
        obtain ⟨_, _, ee, _, _, rr⟩ := RK.out
        obtain ⟨b2, o2, cs2, ee2, _, hn2, hcell, v0, rfl, hr0⟩ := rr k hlt
        simp only [Value.slice.injEq] at ee
        rw [← ee.1] at ee2
        simp only [Option.some.injEq, Addr.mk.injEq, and_true] at ee2
        obtain ⟨rfl, rfl⟩ := ee2
        clear rr ee
        have e0 := cell_below hbel (hcell 0 (by omega))
        simp at e0
        clear hcell hn1 hn2
        obtain ⟨a0, c0, rfl, hl0c, hl0, r0⟩ := hr0
        have R0 := Lib.hid r0; clear r0
        have hwb := Lib.hid (HW.out l[k] (List.getElem_mem _))
        have hgd : l.getD k [] = l[k] := by simp [hlt]
        have HG := Lib.hid hgd; clear hgd
        by_cases hpl : l[k].length = 4096
        · have HPL := Lib.hid hpl
          have hpl2 : ((l[k].length : Int) != 4096) = false := by simp [hpl]
          have hpl3 : 4096 ≤ l[k].length := by omega
          clear hpl
          obtain ⟨pb, po, rfl, _, _⟩ := R0.out 0 (by omega)
          have hrd : ∀ j v, (l[k].map (Value.int .u8))[j]? = some v → wr.cell? ((⟨pb, po, none⟩ : Addr).add j) = some v := by
            intro j v hv
            have hj : j < l[k].length := by have := (List.getElem?_eq_some_iff.1 hv).1; simpa using this
            obtain ⟨b', o', e, _, hcell⟩ := R0.out j hj
            simp only [Option.some.injEq, Addr.mk.injEq, and_true] at e
            obtain ⟨rfl, rfl⟩ := e
            simp [hj] at hv
            subst hv
            have hcell := cell_below hbel hcell
            unfold Addr.add
            split
            · rename_i e0; subst e0; exact hcell
            · exact hcell
          have HRD := Lib.hid hrd; clear hrd
          have HNE := fun w => Lib.hid (run_neq_arr (P := Tryd.prog) w 103 5 4096 Tryd.underlying103 Tryd.underlying5 Tryd.u8Size l[k] zpage hwb.out zpage_bytes HPL.out zpage_len)
          have HNW := Lib.hid HNE; clear HNE
          have HI : Hid ((Tryd.prog.info? 103).map (·.size) = some (l[k].map (Value.int .u8)).length) := by
            show _ = _
            rw [List.length_map, HPL.out]; exact Tryd.pageInfo
          go_wp2_with (first
            | (refine wpList_arrayAt rfl 103 _ rfl 5 4096 _ _ _ rfl Tryd.underlying103 hpl3 ?_)
            | (refine wpList_loadArr rfl 103 _ rfl ⟨pb, po, none⟩ rfl 4096 5 Tryd.underlying103 (l[k].map (Value.int .u8)) HI.out HRD.out ?_)
            | (refine wpList_build rfl 103 rfl _ Tryd.pageZero ?_)
            | (refine wpList_binOp rfl .neq 103 103 _ _ rfl _ _ _ rfl rfl (run_eqGuard_agg _ _ _ _ _ _ _ Tryd.pageGuard) (HNW.out _).out ?_)
            | (at_builtin; refine wpList_append_own _ rfl _ _ 101 rfl w1.heap.size 3 i0 (.int .i64 0) 1 8 Tryd.underlying101 hi hz0 hz1 hz2 rfl (by decide) _ _ _ rfl (HO.out.alloc _) ⟨wr.heap.size, 0, none⟩ 1 1 [.int .i64 k] rfl rfl (cell_one_new _ _ _) (by simp [Value.oneCell']) ?c3 ?c4 ?c5 ?_))
          case c3 => have := nz_len l k; unfold maxLen; omega
          case c4 => have := nz_len l k; omega
          case c5 => have := hbel.size; simp; omega
          · intro v' w2 hown' hgrow' _
            have hne : (!decide (l[k] = zpage)) = true := by assumption
            have P := Lib.hid (pages_add hbel HO.out hown' hgrow' (show l.getD k [] ≠ zpage by rw [HG.out]; simpa using hne))
            have PL := Lib.hid (pages_len HL.out (show (l.getD k []).length = 4096 by rw [HG.out]; exact HPL.out))
            clear hown' hgrow' hne
            go_wp2
            go_roundw
            case rel => exact ⟨k + 1, by omega, by go_num, P.out.1, PL, P.out.2⟩
            case measure => simp [intOf]; omega
          · have hne : (!decide (l[k] = zpage)) = false := by assumption
            have e : nz l (k + 1) = nz l k := by rw [nz_succ, if_neg (by rw [HG.out]; simpa using hne), List.append_nil]
            have PL := Lib.hid (pages_len HL.out (show (l.getD k []).length = 4096 by rw [HG.out]; exact HPL.out))
            go_roundw
            case rel => exact ⟨k + 1, by omega, by go_num, by rw [e]; exact HO, PL, hbel⟩
            case measure => simp [intOf]; omega
        · have hpl2 : ((l[k].length : Int) != 4096) = true := by simp; omega
          have hok : okPages l = false := decide_eq_false fun h => hpl (h.2 _ (List.getElem_mem _))
          have hrow2 := (hbel.block p hplt).trans HF.out.row
          have c1 := row_cell hrow2 1 rfl
          have f1 := row_free hrow2 1
          have HFin := Lib.hid (wr_bad ⟨hrow2, own_below HF.out.own hbel, HF.out.apart⟩ (HTO.out.trans ⟨Keeps.all _ hbel, fun b h => .inl h⟩))
          have HOK := Lib.hid hok
          clear hpl hok hrow2
          go_wp2
          exact bodyPost_ret (results_none rfl _ _ _) rfl ⟨rfl, v1, xs1, by rw [HOK.out]; simpa using HFin.out.1, HFin.out.2, fun _ h => by rw [HOK.out] at h; simp at h, by omega⟩
      · obtain rfl : k = l.length := by omega
        have HOKP : Hid (okPages l = true) := by
          refine decide_eq_true ⟨hl64, fun x hx => ?_⟩
          obtain ⟨j, hj, rfl⟩ := List.getElem_of_mem hx
          have := HL.out j hj
          simpa [hj] using this
        have hidx : ∀ q ∈ nz l l.length, q < l.length := fun q hq => nz_lt hq
        have HIDX := Lib.hid hidx; clear hidx
        have hm64 := nz_len l l.length
        have HW1 : Hid (Wr base wr p v1 xs1 false) := ⟨(hbel.block p hplt).trans HF.out.row, own_below HF.out.own hbel, HF.out.apart⟩
        have HTO1 : Hid (WrTo p v w v1 wr) := HTO.out.trans ⟨Keeps.all _ hbel, fun b h => .inl h⟩
        obtain ⟨sa, sc, rfl, hsa⟩ := own_slice HO.out
        have HRI : Hid (RdI .i64 (fun b => (Value.slice sa (nz l l.length).length sc).ownBlock = some b) wr (.slice sa (nz l l.length).length sc) ((nz l l.length).map fun (q : Nat) => (q : Int))) := by
          exact RdI.of_own (k := .i64) (l := (nz l l.length).map fun (q : Nat) => (q : Int)) (w := wr) (base := w1.heap.size) (e := 3) (v := .slice sa (nz l l.length).length sc) (by rw [List.map_map, List.length_map]; exact HO.out) (by simp; omega)
        have HSV : Hid (∀ b, (Value.slice sa (nz l l.length).length sc).ownBlock = some b → b ≠ p ∧ v1.ownBlock ≠ some b ∧ b < wr.heap.size) := by
          intro b hb
          have h1 := HO.out.lt b hb
          refine ⟨by omega, fun e => ?_, h1.2⟩
          have := HF.out.own.lt b e
          omega
        have hszr := hbel.size
        generalize hidn : nz l l.length = idx at *
        have HN := Lib.hid hidn; clear hidn HO
        go_wp2_with fail
        (with_reducible refine (wr_numberI base wr p v1 xs1 false HW1.out (by omega) (by omega) idx.length 64 64 (by omega) (by omega) (by omega)).mono ?_)
        rintro e w2 ⟨rfl, v2, xs2, hw2, hto2, hx2, hlen2⟩
        have eok : okn (idx.length : Int) 64 = true := decide_eq_true ⟨by omega, by omega⟩
        rw [eok] at hw2
        have HX2 : Hid (xs2 = xs ++ (uv l.length ++ uv idx.length)) := by
          show _ = _
          have := hx2 eok
          rw [HB.out.2] at this
          simpa using this
        have HWR2 : Hid (Wr base w2 p v2 xs2 false) := hw2
        have HSV2 : Hid (∀ b, (Value.slice sa idx.length sc).ownBlock = some b → b ≠ p ∧ v2.ownBlock ≠ some b) := by
          intro b hb
          have h1 := HSV.out b hb
          refine ⟨h1.1, fun e => ?_⟩
          rcases hto2.at_ b e with h2 | h2
          · exact h1.2.1 h2
          · omega
        have HRI2 : Hid (RdI .i64 (fun b => (Value.slice sa idx.length sc).ownBlock = some b) w2 (.slice sa idx.length sc) (idx.map fun (q : Nat) => (q : Int))) :=
          HRI.out.keeps (hto2.keep.mono fun b _ hb => ⟨(HSV.out b hb).1, (HSV.out b hb).2.1⟩)
        have HTO2 : Hid (WrTo p v w v2 w2) := HTO1.out.trans hto2
        have hsz2 := HTO2.out.keep.size
        clear hw2 hto2 hx2 eok HRI HSV HW1 HTO1 hsa
        go_wp2
        go_loopw [46] (fun i wr => ∃ (j : Nat) (vk : Value) (ys : List Int), j ≤ idx.length ∧ i = .int .i64 j ∧ Hid (Wr base wr p vk ys false) ∧ Hid (WrTo p v2 w2 vk wr) ∧ Hid (ys = xs2 ++ (idx.take j).flatMap fun q => uv q ++ l.getD q []) ∧ ys.length ≤ xs2.length + 4106 * j) (fun i _ => idx.length - (intOf i).toNat)
        case atStart => exact ⟨0, v2, xs2, by omega, rfl, HWR2, WrTo.refl _ _ _, by simp [Hid], by omega⟩
        case round =>
          obtain ⟨j, vk, ys, hj, rfl, HK, HT, HY, hlen⟩ := hrel
          by_cases hjl : j < idx.length
          · have RI := HRI2.out.keeps (HT.out.keep.mono fun b _ hb => HSV2.out b hb)
            have hto := HTO2.out.trans HT.out
            have RP := HRd.out.keeps (hto.keep.mono fun b _ hb => HS.out b hb)
            obtain ⟨_, _, ee, _, _, rr⟩ := RI
            obtain ⟨b2, o2, ee2, _, hcell⟩ := rr j (by simpa using hjl)
            simp only [Value.slice.injEq] at ee
            rw [← ee.1] at ee2
            clear ee
            subst ee2
            simp only [List.getElem_map] at hcell
            clear rr
            have hq := HIDX.out idx[j] (List.getElem_mem _)
            have HYN : Hid ((idx.take (j + 1)).flatMap (fun q => uv q ++ l.getD q []) = (idx.take j).flatMap (fun q => uv q ++ l.getD q []) ++ (uv idx[j] ++ l.getD idx[j] [])) := by
              show _ = _
              rw [List.take_succ_eq_append_getElem hjl, List.flatMap_append]; simp
            generalize idx[j] = q at *
            have hq64 : q ≤ 64 := by omega
            have hszw := hto.keep.size
            clear hto RP
            go_wp2_with fail
            (with_reducible refine (wr_numberI base wr p vk ys false HK.out (by omega) (by omega) q 64 64 (by omega) (by omega) (by omega)).mono ?_)
            rintro e w3 ⟨rfl, v3, ys3, hw3, hto3, hx3, hlen3⟩
            have eok : okn (q : Int) 64 = true := decide_eq_true ⟨by omega, by omega⟩
            rw [eok] at hw3
            have HW3 : Hid (Wr base w3 p v3 ys3 false) := hw3
            have HY3 : Hid (ys3 = ys ++ uv q) := by
              show _ = _
              have := hx3 eok
              simpa using this
            have HT3 : Hid (WrTo p v2 w2 v3 w3) := HT.out.trans hto3
            have HTA : Hid (WrTo p v w v3 w3) := HTO2.out.trans HT3.out
            clear hw3 hto3 hx3 eok
            have RP := HRd.out.keeps (HTA.out.keep.mono fun b _ hb => HS.out b hb)
            obtain ⟨_, _, ee, _, _, rr⟩ := RP
            obtain ⟨b3, o3, cs3, ee3, hS3, hn3, hcell3, v0, rfl, hr0⟩ := rr q hq
            simp only [Value.slice.injEq] at ee
            rw [← ee.1] at ee3
            clear ee
            subst ee3
            clear rr
            have e3 := hcell3 0 (by omega)
            simp at e3
            clear hcell3 hn3
            have hlq : l[q].length = 4096 := (of_decide_eq_true HOKP.out).2 _ (List.getElem_mem _)
            have HGQ : Hid (l.getD q [] = l[q]) := by show _ = _; simp [hq]
            have hr0' := hr0
            obtain ⟨a0, c0, rfl, hl0c, hl0, r0⟩ := hr0
            obtain ⟨pb, po, rfl, _, hcl⟩ := r0 0 (by omega)
            clear hcl
            have HNEWS := Lib.hid hr0'.news
            clear hr0' r0
            have HLQ := Lib.hid hlq; clear hlq
            have hlq0 : 0 < l[q].length := by have := HLQ.out; omega
            have hlq1 : l[q].length ≤ 4096 := by have := HLQ.out; omega
            generalize l[q] = pg at *
            have hszw3 := HTA.out.keep.size
            have hb3 : base ≤ w3.heap.size := by omega
            have hys3 : ys3.length ≤ 1500000000 := by omega
            have cw := row_cell HW3.out.row 0 rfl
            have fw := row_free HW3.out.row 0
            have hltp := row_lt HW3.out.row
            have HR := Lib.hid HW3.out.row; have HO3 := Lib.hid HW3.out.own; have HA := Lib.hid HW3.out.apart
            have hq0 : (0 : Int) ≤ (q : Int) := by omega
            have hq1 : (q : Int) < (l.length : Int) := by omega
            obtain ⟨i5, hi5, hz50, hz51, hz52⟩ := info_parts Tryd.infoU8
            go_wp2
            go_region_law (refine step_append_lies _ (by rfl) _ _ 31 (by rfl) base 5 i5 _ 1 1 Tryd.underlying31 hi5 hz50 hz51 hz52 rfl (by omega) v3 ys3.length (ys3.map (Value.int .u8)) (by rfl) HO3.out ⟨pb, po, none⟩ pg.length c0 (pg.map (Value.int .u8)) (by rfl) (by simp) HNEWS.out (by intro u hu; simp at hu; obtain ⟨x, _, rfl⟩ := hu; rfl) hlq0 (by unfold maxLen; omega) (by omega) hb3 w3.heap.size rfl ?_; intro g cap w4 hown4 hgrow4 hat hlt4; have hrow4 := grown_block hgrow4 HR.out HA.out; have c4 := row_cell hrow4 0 rfl; have f4 := row_free hrow4 0)
            all_goals have P := Lib.hid (wr_put (w := w3) (w1 := w3.drew) (bad := false) (xs := ys3) (ys := pg) hltp HA.out (Below.refl _ _) hrow4 hown4 hgrow4 hat)
            all_goals go_wp2
            all_goals go_roundw
            all_goals first
              | exact ⟨j + 1, _, _, by omega, by go_num, P.out.1, HT3.out.trans P.out.2, pages_next HY.out HY3.out HYN.out HGQ.out, by rw [List.length_append]; omega⟩
              | (simp [intOf]; omega)
          · obtain rfl : j = idx.length := by omega
            have HF2 : Hid (ys = xs ++ encPages l) := by
              show _ = _
              rw [HY.out, List.take_length, HX2.out, encPages, HN.out]
              simp only [List.append_assoc]
            go_wp2
            exact bodyPost_end (results_none rfl _ _ _) rfl ⟨rfl, vk, ys, by rw [HB.out.1, HOKP.out]; exact HK.out, HTO2.out.trans HT.out, fun _ _ => HF2.out, by omega⟩
end Go.Proofs.YthlkckpadjjbdaaDoor
