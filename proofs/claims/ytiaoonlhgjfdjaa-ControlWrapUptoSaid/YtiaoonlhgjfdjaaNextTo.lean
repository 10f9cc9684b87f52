/- control.Next's closure. -/
import Derived.Test.YtiaoonlhgjfdjaaLabelsC
import Derived.Deep.RegionLaw
import Derived.Deep.AppendLies
namespace Go.Proofs.Ytiaoonlhgjfdjaa
open Go Go.RowKit

/-- What control.Next reads, boxed; all of it apart from its list's box gl. -/
structure Nf (W : World) (gl ga gc ge : Nat) (l : List InsD) (lab E : List Int) : Prop where
  at_ : ∃ v, W.heap[ga]? = some (.cells #[v] 25 (0, 0)) ∧ RdI .i64 (fun b => b < W.heap.size ∧ b ≠ gl) W v lab
  en : ∃ v, W.heap[ge]? = some (.cells #[v] 25 (0, 0)) ∧ RdI .i64 (fun b => b < W.heap.size ∧ b ≠ gl) W v E
  co : ∃ v, W.heap[gc]? = some (.cells #[v] 22 (0, 0)) ∧ CdS (fun b => b < W.heap.size ∧ b ≠ gl) W v l
  ne : ga ≠ gl ∧ gc ≠ gl ∧ ge ≠ gl
/-- The list, grown to acc. -/
structure Nx (W : World) (gl : Nat) (wr : World) (acc : List Int) : Prop where
  kp : Keeps (fun b => b < W.heap.size ∧ b ≠ gl) W wr
  lo : gl < W.heap.size
  box : ∃ lv, wr.heap[gl]? = some (.cells #[lv] 25 (0, 0)) ∧ OwnI W.heap.size 3 wr lv acc
theorem Nf.on {W wr : World} {gl ga gc ge : Nat} {l : List InsD} {lab E acc : List Int} (h : Nf W gl ga gc ge l lab E) (k : Nx W gl wr acc) :
    (∃ v, wr.heap[ga]? = some (.cells #[v] 25 (0, 0)) ∧ RdI .i64 (fun b => b < W.heap.size ∧ b ≠ gl) wr v lab) ∧ (∃ v, wr.heap[ge]? = some (.cells #[v] 25 (0, 0)) ∧ RdI .i64 (fun b => b < W.heap.size ∧ b ≠ gl) wr v E) ∧ ∃ v, wr.heap[gc]? = some (.cells #[v] 22 (0, 0)) ∧ CdS (fun b => b < W.heap.size ∧ b ≠ gl) wr v l := by
  obtain ⟨v1, a1, b1⟩ := h.at_
  obtain ⟨v2, a2, b2⟩ := h.en
  obtain ⟨v3, a3, b3⟩ := h.co
  exact ⟨⟨v1, (k.kp.block _ (row_lt a1) ⟨row_lt a1, h.ne.1⟩).trans a1, b1.keeps k.kp⟩, ⟨v2, (k.kp.block _ (row_lt a2) ⟨row_lt a2, h.ne.2.2⟩).trans a2, b2.keeps k.kp⟩, v3, (k.kp.block _ (row_lt a3) ⟨row_lt a3, h.ne.2.1⟩).trans a3, b3.keeps k.kp fun _ h => h⟩
theorem Nx.on {W wr wy : World} {gl : Nat} {acc : List Int} (h : Nx W gl wr acc) (hb : Below wr.heap.size wr wy) : Nx W gl wy acc := by
  obtain ⟨lv, h1, h2⟩ := h.box
  exact ⟨h.kp.trans (Keeps.all _ hb), h.lo, lv, (hb.block _ (row_lt h1)).trans h1, own_below h2 hb⟩
theorem Nx.app {W wr wx w7 : World} {gl : Nat} {acc ps : List Int} {lv v' : Value} (h : Nx W gl wr acc) (hl : wr.heap[gl]? = some (.cells #[lv] 25 (0, 0))) (hb : Below wr.heap.size wr wx)
    (ho : w7.ownsRow W.heap.size 3 1 v' (acc.length + ps.length) (ints acc ++ ints ps)) (hg : wx.grownBy w7 lv.ownBlock) :
    Nx W gl (w7.setCell ⟨gl, 0, none⟩ v') (acc ++ ps) := by
  obtain ⟨lv', h1, h2⟩ := h.box
  rw [h1] at hl
  simp only [Option.some.injEq, Obj.cells.injEq, and_true] at hl
  obtain rfl : lv' = lv := by simpa using hl
  have hx := h.on hb
  have hlt : ∀ g, lv'.ownBlock = some g → W.heap.size ≤ g := fun g e => (h2.lt g e).1
  have k7 : Keeps (fun b => b < W.heap.size) wx w7 := (Keeps.refl _ wx).grown hg fun g e _ hb => by have := hlt g e; omega
  have hx1 : wx.heap[gl]? = some (.cells #[lv'] 25 (0, 0)) := (hb.block _ (row_lt h1)).trans h1
  have h7 : w7.heap[gl]? = some (.cells #[lv'] 25 (0, 0)) := (k7.block _ (row_lt hx1) h.lo).trans hx1
  refine ⟨(hx.kp.trans (k7.mono fun b _ hb => hb.1)).setCell (a := ⟨gl, 0, none⟩) (by simp) _, h.lo, v', by simpa using row_setCell h7 0 v', ?_⟩
  have e : OwnI W.heap.size 3 w7 v' (acc ++ ps) := by simpa [OwnI, ints] using ho
  refine own_keeps (S := fun b => b ≠ gl) e ((Keeps.refl _ w7).setCell (a := ⟨gl, 0, none⟩) (by simp) v') fun b hb => ?_
  have := (ho.lt b hb).1
  have := h.lo
  omega
theorem Nx.cell7 {W wr wx w7 : World} {gl : Nat} {acc : List Int} {lv : Value} (h : Nx W gl wr acc) (hl : wr.heap[gl]? = some (.cells #[lv] 25 (0, 0))) (hb : Below wr.heap.size wr wx) (hg : wx.grownBy w7 lv.ownBlock) :
    w7.cell? ⟨gl, 0, none⟩ = some lv ∧ w7.frozen? ⟨gl, 0, none⟩ = false := by
  obtain ⟨lv', h1, h2⟩ := h.box
  rw [h1] at hl
  simp only [Option.some.injEq, Obj.cells.injEq, and_true] at hl
  obtain rfl : lv' = lv := by simpa using hl
  have k7 : Keeps (fun b => b < W.heap.size) wx w7 := (Keeps.refl _ wx).grown hg fun g e _ hb => by have := (h2.lt g e).1; omega
  have hx1 : wx.heap[gl]? = some (.cells #[lv'] 25 (0, 0)) := (hb.block _ (row_lt h1)).trans h1
  have h7 : w7.heap[gl]? = some (.cells #[lv'] 25 (0, 0)) := (k7.block _ (row_lt hx1) h.lo).trans hx1
  exact ⟨row_cell h7 0 rfl, row_free h7 0⟩
set_option maxRecDepth 100000 in
set_option maxHeartbeats 6400000 in
theorem next_to (W w : World) (gl ga gc ge : Nat) (l : List InsD) (lab E acc : List Int) (n : Int) (hf : Nf W gl ga gc ge l lab E) (hx : Nx W gl w acc) (hl : l.length ≤ 1048576) (ha : acc.length ≤ 1048576)
    (hlE : E.length = l.length) (hlab : ∀ x ∈ lab, -1 ≤ x ∧ x < l.length) (hEr : ∀ x ∈ E, -1 ≤ x ∧ x < l.length) :
    Calls Try.prog 23 #[.int .i64 n, .pointer (some ⟨ga, 0, none⟩), .pointer (some ⟨gl, 0, none⟩), .pointer (some ⟨gc, 0, none⟩), .pointer (some ⟨ge, 0, none⟩)] w fun e w' =>
      e = .returned (.tuple #[]) ∧ Nx W gl w' (acc ++ keepP [placeP (opsOf l) E lab n]) := by
  obtain ⟨i0, hi, hz0, hz1, hz2⟩ := info_parts Try.infoIntF
  have HX := Lib.hid hx
  have HLR := Lib.hid hlab; have HER := Lib.hid hEr
  obtain ⟨⟨va, a1, a2⟩, ⟨ve, e1, e2⟩, ⟨vc, c1, c2⟩⟩ := hf.on hx
  obtain ⟨lv, l1, l2⟩ := hx.box
  have ha0 := row_cell a1 0 rfl; have he0 := row_cell e1 0 rfl; have hc0 := row_cell c1 0 rfl; have hl0 := row_cell l1 0 rfl
  have hlf := row_free l1 0
  simp only [List.getElem_toArray, List.getElem_cons_zero] at ha0 he0 hc0 hl0
  have HA := Lib.hid a2; have HE := Lib.hid e2; have HC := Lib.hid c2; have HL := Lib.hid l2; have HL1 := Lib.hid l1
  have HLO := Lib.hid hx.lo
  obtain ⟨av, ac, rfl, _⟩ := a2.lenc
  obtain ⟨ev, ec, rfl, _⟩ := e2.lenc
  obtain ⟨cv, cc, rfl, _⟩ := c2.len
  obtain ⟨lvs, lvc, rfl, _⟩ := own_slice l2
  clear hf hx hlab hEr a1 a2 e1 e2 c1 c2 l1 l2
  have HOL : Hid ((opsOf l).length = l.length) := Lib.hid (opsOf_len l)
  by_cases h0 : n < 0
  · have HF := Lib.hid (placeP_out (ops := opsOf l) (ends := E) (lab := lab) (n := n) (.inl h0))
    go_enter Try.func23, Try.ntmps23
    go_wp2
    exact bodyPost_ret (results_none rfl _ _ _) rfl ⟨rfl, by rw [HF.out, keepP_none, List.append_nil]; exact HX.out⟩
  by_cases h1 : (lab.length : Int) ≤ n
  · have HF := Lib.hid (placeP_out (ops := opsOf l) (ends := E) (lab := lab) (n := n) (.inr h1))
    go_enter Try.func23, Try.ntmps23
    go_wp2
    exact bodyPost_ret (results_none rfl _ _ _) rfl ⟨rfl, by rw [HF.out, keepP_none, List.append_nil]; exact HX.out⟩
  have HF := Lib.hid (placeP_in (ops := opsOf l) (ends := E) (lab := lab) (n := n) (by omega))
  obtain ⟨k, rfl⟩ : ∃ k : Nat, n = k := ⟨n.toNat, by omega⟩
  have hk : k < lab.length := by omega
  obtain ⟨la', lc', e, _, _, hle⟩ := HA.out
  simp only [Value.slice.injEq] at e
  obtain ⟨rfl, _, rfl⟩ := e
  obtain ⟨lb, lo, rfl, _, hcl⟩ := hle k hk
  have hx := HLR.out lab[k] (List.getElem_mem hk)
  have hg : lab.getD (k : Int).toNat (-1) = lab[k] := by rw [Int.toNat_natCast, List.getD_eq_getElem?_getD, List.getElem?_eq_getElem hk]; rfl
  have HG : Hid (placeP (opsOf l) E lab k = placeQ (opsOf l) E lab[k]) := Lib.hid (by rw [HF.out, hg])
  clear hle hg HF HLR
  generalize lab[k] = o at *
  by_cases ho : o < 0
  · have HR : Hid (keepP [placeP (opsOf l) E lab k] = [(l.length : Int)]) := Lib.hid (by rw [HG.out, placeQ, if_pos ho, HOL.out, keepP_one (by omega)])
    go_enter Try.func23, Try.ntmps23
    have hb6 := below_alloc w (.cells #[.int .i64 (l.length : Int)] 3)
    have hA6 : (w.alloc (.cells #[.int .i64 (l.length : Int)] 3)).ownsRow W.heap.size 3 1 _ acc.length (ints acc) := own_below HL.out hb6
    have HA6 := Lib.hid hA6
    have HB6 := Lib.hid hb6
    have hB6 : W.heap.size ≤ (w.alloc (.cells #[.int .i64 (l.length : Int)] 3)).heap.size := by have := HX.out.kp.size; have := hb6.size; omega
    clear hb6 hA6
    go_wp2_with (at_builtin; refine wpList_append_kept _ rfl _ _ 25 rfl W.heap.size 3 i0 (.int .i64 0) 1 8 Try.underlying25 hi hz0 hz1 hz2 rfl (by decide) _ acc.length (ints acc) rfl HA6.out ⟨w.heap.size, 0, none⟩ 1 1 [.int .i64 (l.length : Int)] rfl rfl (cell_one_new _ _ _) (by simp [Value.oneCell']) (by unfold maxLen; omega) (by omega) hB6 ?_)
    intro v' w7 ho hkk hn
    obtain ⟨v7, c7, rfl, _⟩ := own_slice ho
    obtain ⟨x7, f7⟩ := HX.out.cell7 HL1.out HB6.out hkk.grown
    have HZ : Hid (Nx W gl (w7.setCell ⟨gl, 0, none⟩ _) (acc ++ [(l.length : Int)])) := Lib.hid (HX.out.app HL1.out HB6.out (by simpa [ints] using ho) hkk.grown)
    clear ho hkk hn HA6 HB6
    go_wp2
    (try simp only [Exit.inBlock, Exit.then, Exit.noGoto_ret])
    first | refine bodyPost_end (results_none rfl _ _ _) rfl ⟨rfl, ?_⟩ | refine bodyPost_ret (results_none rfl _ _ _) rfl ⟨rfl, ?_⟩
    rw [HR.out]
    exact HZ.out
  obtain ⟨j, rfl⟩ : ∃ j : Nat, o = j := ⟨o.toNat, by omega⟩
  have hj : j < l.length := by omega
  obtain ⟨b, off, vl, rfl, x0, -, -, -⟩ := Cd.at_ HC.out hj
  have HOP : Hid ((opsOf l).getD (j : Int).toNat 0 = l[j].op) := Lib.hid (by rw [Int.toNat_natCast]; exact opsOf_at hj)
  generalize l[j].op = op at *
  by_cases h3 : op = 3
  · subst h3
    have HR : Hid (keepP [placeP (opsOf l) E lab k] = [(j : Int) + 1]) := Lib.hid (by rw [HG.out, placeQ, if_neg ho, if_pos HOP.out, keepP_one (by omega)])
    go_enter Try.func23, Try.ntmps23
    have hb6 := below_alloc w (.cells #[.int .i64 ((j : Int) + 1)] 3)
    have hA6 : (w.alloc (.cells #[.int .i64 ((j : Int) + 1)] 3)).ownsRow W.heap.size 3 1 _ acc.length (ints acc) := own_below HL.out hb6
    have HA6 := Lib.hid hA6
    have HB6 := Lib.hid hb6
    have hB6 : W.heap.size ≤ (w.alloc (.cells #[.int .i64 ((j : Int) + 1)] 3)).heap.size := by have := HX.out.kp.size; have := hb6.size; omega
    clear hb6 hA6
    go_wp2_with (at_builtin; refine wpList_append_kept _ rfl _ _ 25 rfl W.heap.size 3 i0 (.int .i64 0) 1 8 Try.underlying25 hi hz0 hz1 hz2 rfl (by decide) _ acc.length (ints acc) rfl HA6.out ⟨w.heap.size, 0, none⟩ 1 1 [.int .i64 ((j : Int) + 1)] rfl rfl (cell_one_new _ _ _) (by simp [Value.oneCell']) (by unfold maxLen; omega) (by omega) hB6 ?_)
    intro v' w7 ho hkk hn
    obtain ⟨v7, c7, rfl, _⟩ := own_slice ho
    obtain ⟨x7, f7⟩ := HX.out.cell7 HL1.out HB6.out hkk.grown
    have HZ : Hid (Nx W gl (w7.setCell ⟨gl, 0, none⟩ _) (acc ++ [((j : Int) + 1)])) := Lib.hid (HX.out.app HL1.out HB6.out (by simpa [ints] using ho) hkk.grown)
    clear ho hkk hn HA6 HB6
    go_wp2
    (try simp only [Exit.inBlock, Exit.then, Exit.noGoto_ret])
    first | refine bodyPost_end (results_none rfl _ _ _) rfl ⟨rfl, ?_⟩ | refine bodyPost_ret (results_none rfl _ _ _) rfl ⟨rfl, ?_⟩
    rw [HR.out]
    exact HZ.out
  · have hjE : j < E.length := by omega
    obtain ⟨ea', ec', e, _, _, hee⟩ := HE.out
    simp only [Value.slice.injEq] at e
    obtain ⟨rfl, _, rfl⟩ := e
    obtain ⟨eb, eo, rfl, _, hce⟩ := hee j hjE
    have hy := HER.out E[j] (List.getElem_mem hjE)
    have HR : Hid (keepP [placeP (opsOf l) E lab k] = [E[j] + 1]) := Lib.hid (by rw [HG.out, placeQ, if_neg ho, if_neg (by rw [HOP.out]; exact h3), Int.toNat_natCast, List.getD_eq_getElem?_getD, List.getElem?_eq_getElem hjE]; exact keepP_one (by simp only [Option.getD_some]; omega))
    clear hee
    have hb3 : ((op : Int) == 3) = false := by simp; omega
    clear h3
    generalize E[j] = y at *
    go_enter Try.func23, Try.ntmps23
    go_upto_region 2 with fail
    have hb6 := (below_alloc w (.cells #[.int .i64 (y + 1)] 3)).drew
    have hA6 : (w.alloc (.cells #[.int .i64 (y + 1)] 3)).drew.ownsRow W.heap.size 3 1 _ acc.length (ints acc) := own_below HL.out hb6
    have HA6 := Lib.hid hA6
    have HB6 := Lib.hid hb6
    have hB6 : W.heap.size ≤ (w.alloc (.cells #[.int .i64 (y + 1)] 3)).drew.heap.size := by have := HX.out.kp.size; have := hb6.size; omega
    have hw1 : IntKind.i64.wrap (y + 1) = y + 1 := IntWalk.i64_in _ ⟨by omega, by omega⟩
    have hl2 : (w.alloc (.cells #[.int .i64 (y + 1)] 3)).cell? ⟨gl, 0, none⟩ = some (.slice lvs acc.length lvc) := cell_below (below_alloc _ _) hl0
    have hl3 : (w.alloc (.cells #[.int .i64 (y + 1)] 3)).drew.cell? ⟨gl, 0, none⟩ = some (.slice lvs acc.length lvc) := hl2
    clear hb6 hA6
    go_region_law (first
      | (refine step_append_lies _ (by rfl) _ _ 25 (by rfl) W.heap.size 3 i0 _ 1 8 Try.underlying25 hi hz0 hz1 hz2 rfl (by omega) (.slice lvs acc.length lvc) acc.length (ints acc) (by rfl) HA6.out ⟨w.heap.size, 0, none⟩ 1 1 [.int .i64 (y + 1)] (by rfl) (by rfl) (cell_one_new _ _ _) (by simp [Value.oneCell']) (by omega) (by unfold maxLen; omega) (by omega) hB6 (w.heap.size + 1) (by show (World.alloc _ _).heap.size = _; rw [World.size_alloc]) ?_; intro g cap w7 ho hgr hat5 hlt5; obtain ⟨x7, f7⟩ := HX.out.cell7 HL1.out HB6.out hgr))
    all_goals have HZ : Hid (Nx W gl (w7.setCell ⟨gl, 0, none⟩ _) (acc ++ [y + 1])) := Lib.hid (HX.out.app HL1.out HB6.out (by simpa [ints] using ho) hgr)
    all_goals go_wp2
    all_goals first | refine bodyPost_end (results_none rfl _ _ _) rfl ⟨rfl, ?_⟩ | refine bodyPost_ret (results_none rfl _ _ _) rfl ⟨rfl, ?_⟩
    all_goals (rw [HR.out]; exact HZ.out)
end Go.Proofs.Ytiaoonlhgjfdjaa
