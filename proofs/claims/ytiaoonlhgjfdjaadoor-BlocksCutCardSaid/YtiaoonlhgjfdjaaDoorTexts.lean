/- flagonref00.text, WideTexts, SpareTexts: lists of texts with marks behind them. -/
import Derived.Test.YtiaoonlhgjfdjaaDoorRdV
import Derived.Test.YtiaoonlhgjfdjaaDoorWide
import Derived.Test.YtiaoonlhgjfdjaaDoorShelf
import Derived.Lib.LaidTab
import Derived.Lib.ItoaLen
import Derived.WideShapes
namespace Go.Proofs.YtiaoonlhgjfdjaaDoor
open Go Go.RowKit Go.Sort

/-- The library's table of powers of ten lies. -/
def Tp (w : World) : Prop := Lib.TabIs Tryd.prog w "internal/strconv.uint64pow10" .u64 Lib.pow10Tab
theorem Tp.bel {w w' : World} (h : Tp w) (hb : Below w.heap.size w w') : Tp w' := by
  unfold Tp Lib.TabIs World.var? at *
  obtain ⟨g, hg, h1⟩ := Option.bind_eq_some_iff.1 h
  refine Option.bind_eq_some_iff.2 ⟨g, hg, ?_⟩
  split at h1
  · rename_i cs T fr hr
    rw [hb.block g (row_lt hr), hr]
    exact h1
  · simp at h1
def txtB (n i : Nat) : ByteArray := ⟨(33 :: Lib.itoa ((1048576 * n + i + 1 : Nat) : Int)).toArray⟩
theorem below_grow (w : World) (k : Nat) (os : Array Obj) : Below w.heap.size w (grow (w.drewN k) os) :=
  ⟨rfl, rfl, rfl, by show w.heap.size ≤ (w.heap ++ os).size; simp, fun b hb => by show (w.heap ++ os)[b]? = _; rw [Array.getElem?_append_left hb]⟩
theorem txt_app (l : List UInt8) : (⟨#[33]⟩ ++ ⟨l.toArray⟩ : ByteArray) = ⟨(33 :: l).toArray⟩ := by
  apply Go.WideShapes.bytes_inj
  simp [ByteArray.data_append]
set_option maxRecDepth 100000 in
set_option maxHeartbeats 1600000 in
theorem ref_text (w : World) (n i : Nat) (hn : n ≤ 1000000) (hi : i ≤ 1125899906842624) (ht : Tp w) :
    Calls Tryd.prog 72 #[.int .i64 n, .int .i64 i] w fun e w' => e = .returned (.string (txtB n i)) ∧ Below w.heap.size w w' := by
  have HN := Lib.hid (ref_num w n i hn hi)
  have HT := Lib.hid ht
  have HI := Lib.hid (Tryd.strconv_Itoa ((1048576 * n + i + 1 : Nat) : Int) (by omega) (by omega) w ht)
  have HL := Lib.hid (Lib.itoa_length_le ((1048576 * n + i + 1 : Nat) : Int) (by omega) (by omega))
  have HX : Hid (txtB n i = ⟨(33 :: Lib.itoa ((1048576 * n + i + 1 : Nat) : Int)).toArray⟩) := Lib.hid rfl
  clear ht hn hi
  go_enter Tryd.func72, Tryd.ntmps72
  go_wp2_with fail
  refine HN.out.mono ?_
  rintro e w' ⟨rfl, hw'⟩
  obtain rfl : w = w' := hw'.symm
  generalize 1048576 * n + i + 1 = x at *
  go_wp2_with fail
  refine HI.out.mono ?_
  rintro e w' ⟨rfl, k, os, hw⟩
  have HB : Hid (Below w.heap.size w w') := Lib.hid (by rw [hw]; exact below_grow w k os)
  clear hw
  have hl := HL.out
  go_wp2
  go_ret
  exact ⟨by rw [HX.out, txt_app]; rfl, HB.out⟩
theorem Tryd.infoTxt : (Tryd.prog.info? 9).map (fun i => (i.zero, i.size, i.bytes)) = some (some (.string ⟨#[]⟩), 1, 16) := by kernel_rfl
/-- What lies behind a list of texts that is handed in. -/
def behindT (l : List ByteArray) : List ByteArray := l ++ (List.range 64).map fun i => txtB 9 (l.length + i)
theorem behindT_len (l : List ByteArray) : (behindT l).length = l.length + 64 := by simp [behindT]
theorem behindT_lo {l : List ByteArray} {j : Nat} (h : j < l.length) : (behindT l)[j]? = some l[j] := by
  rw [behindT, List.getElem?_append_left h, List.getElem?_eq_getElem h]
theorem behindT_hi {l : List ByteArray} {j : Nat} (h : l.length ≤ j) (h2 : j < l.length + 64) : (behindT l)[j]? = some (txtB 9 j) := by
  rw [behindT, List.getElem?_append_right h, List.getElem?_map, List.getElem?_range (by omega)]
  simp only [Option.map_some]
  rw [show l.length + (j - l.length) = j by omega]
/-- The block g holds the texts l and the marks behind them. -/
def WideT (w : World) (g : Nat) (l : List ByteArray) : Prop := ∃ c : Array Value, w.heap[g]? = some (.cells c 9 (0, 0)) ∧ ∀ (j : Nat) (x : ByteArray), (behindT l)[j]? = some x → c[j]? = some (Value.string x)
theorem WideT.keeps {S : Nat → Prop} {w w' : World} {g : Nat} {l : List ByteArray} (h : WideT w g l) (hk : Keeps S w w') (hg : S g) : WideT w' g l := by
  obtain ⟨c, h1, h2⟩ := h
  exact ⟨c, (hk.block g (row_lt h1) hg).trans h1, h2⟩
theorem WideT.cell {w : World} {g j : Nat} {l : List ByteArray} {x : ByteArray} (h : WideT w g l) (hx : (behindT l)[j]? = some x) : w.cell? ⟨g, j, none⟩ = some (.string x) := by
  obtain ⟨c, h1, h2⟩ := h
  exact row_cell h1 j (h2 j x hx)
theorem WideT.lt {w : World} {g : Nat} {l : List ByteArray} (h : WideT w g l) : g < w.heap.size := by obtain ⟨c, h1, _⟩ := h; exact row_lt h1
theorem WideT.rd {w : World} {g : Nat} {l : List ByteArray} (h : WideT w g l) (hl : l.length ≤ 140737488355328) : RdV (· = g) w (.slice (some ⟨g, 0, none⟩) l.length (l.length + 64)) (texts l) :=
  ⟨_, l.length + 64, by simp, by simp, by simpa using hl, fun j hj => ⟨g, 0, rfl, rfl, by rw [Nat.zero_add]; simpa using h.cell (behindT_lo (j := j) (by simpa using hj))⟩⟩
set_option maxRecDepth 100000 in
set_option maxHeartbeats 1600000 in
theorem wideTexts (w : World) (S) (v : Value) (l : List ByteArray) (hr : RdV S w v (texts l)) (hl : l.length ≤ 8796093022144) (ht : Tp w) :
    Calls Tryd.prog 35 #[v] w fun e w' => e = .returned (.slice (some ⟨w.heap.size, 0, none⟩) l.length (l.length + 64)) ∧ WideT w' w.heap.size l ∧ Below w.heap.size w w' := by
  obtain ⟨i0, hi, hz0, hz1, hz2⟩ := info_parts Tryd.infoTxt
  have HL := Lib.hid hr
  have HT0 := Lib.hid ht
  obtain ⟨va, vc, rfl, hlc⟩ := hr.lenc
  simp only [List.length_map] at hlc HL ⊢
  clear hr ht
  have e1 : wrap64 ((l.length : Int) + 64) = ((l.length + 64 : Nat) : Int) := by unfold wrap64; omega
  have e2 : (l.length : Int) + 64 = ((l.length + 64 : Nat) : Int) := by omega
  obtain ⟨N, hN⟩ : ∃ N, N = l.length + 64 := ⟨_, rfl⟩
  rw [← hN] at e1 e2 ⊢
  have HN := Lib.hid hN; clear hN
  go_enter Tryd.func35, Tryd.ntmps35
  go_wp2_with (at_make; refine wpList_make_full _ rfl _ _ 23 rfl w.heap.size 9 i0 (.string ⟨#[]⟩) 1 Tryd.underlying23 hi hz0 hz1 _ _ _ _ N rfl rfl rfl rfl ?b1 ?b2 (Nat.le_refl _) ?_)
  case b1 => rw [hz2, HN.out]; omega
  case b2 => rw [HN.out]; unfold maxLen; omega
  intro w1 hown hgrow
  have hb1 : Below w.heap.size w w1 := (Below.refl _ _).grown hgrow (Nat.le_refl _) (fun k hk => by cases hk)
  have hrow : ∃ c : Array Value, w1.heap[w.heap.size]? = some (.cells c 9 (0, 0)) ∧ c.size = N := by
    rcases hown.2 with ⟨h, _⟩ | ⟨g, cap, cur, e, _, hg, _, _, hs, _⟩
    · simp at h
    · simp only [Value.slice.injEq, Option.some.injEq, Addr.mk.injEq, and_true, true_and] at e
      obtain ⟨rfl, rfl⟩ := e
      exact ⟨cur, hg, by simpa using hs⟩
  have HB1 := Lib.hid hb1; have HW1 := Lib.hid hrow
  have HL0 := Lib.hid HL.out.any
  clear hown hgrow hb1 hrow HL
  go_wp2
  go_loopw [4] (fun i wr => ∃ k : Nat, k ≤ N ∧ i = .int .i64 k ∧ Hid (∃ c : Array Value, wr.heap[w.heap.size]? = some (.cells c 9 (0, 0)) ∧ c.size = N ∧ ∀ (j : Nat) (x : ByteArray), j < k → (behindT l)[j]? = some x → c[j]? = some (Value.string x)) ∧ Hid (Below w.heap.size w wr)) (fun i _ => N - (intOf i).toNat)
  case atStart => exact ⟨0, by omega, rfl, Lib.hid (by obtain ⟨c, h1, h2⟩ := HW1.out; exact ⟨c, h1, h2, fun j x h => absurd h (by omega)⟩), HB1⟩
  case round =>
    obtain ⟨k, hk, rfl, HC, HB⟩ := hrel
    obtain ⟨c, hc, hcs, hcf⟩ := HC.out
    by_cases hlt : k < N
    · have HNx : Hid (∀ wy, Below wr.heap.size wr wy → (∃ u, wy.cell? ⟨w.heap.size, k, none⟩ = some u) ∧ wy.frozen? ⟨w.heap.size, k, none⟩ = false ∧ ∀ x : ByteArray, (behindT l)[k]? = some x → (∃ c : Array Value, (wy.setCell ⟨w.heap.size, k, none⟩ (.string x)).heap[w.heap.size]? = some (.cells c 9 (0, 0)) ∧ c.size = N ∧ ∀ (j : Nat) (x : ByteArray), j < k + 1 → (behindT l)[j]? = some x → c[j]? = some (Value.string x)) ∧ Below w.heap.size w (wy.setCell ⟨w.heap.size, k, none⟩ (.string x))) := by
        refine Lib.hid fun wy hby => ?_
        have hcy := (hby.block _ (row_lt hc)).trans hc
        refine ⟨⟨c[k]'(by omega), row_cell hcy k (Array.getElem?_eq_getElem (by omega))⟩, row_free hcy k, fun x hx => ?_⟩
        refine ⟨⟨_, row_setCell hcy k _, by simpa using hcs, fun j y hj hy => ?_⟩, (below_next HB.out hby).setCell (p := ⟨w.heap.size, k, none⟩) (Nat.le_refl _) _⟩
        by_cases hjk : j = k
        · subst hjk
          obtain rfl : x = y := Option.some.inj (hx.symm.trans hy)
          rw [Array.getElem?_setIfInBounds_self_of_lt (by omega)]
        · rw [Array.getElem?_setIfInBounds_ne (Ne.symm hjk)]
          exact hcf j y (by omega) hy
      clear hc hcs hcf HC
      by_cases h1 : k < l.length
      · obtain ⟨⟨u, hcell⟩, hfree, hx⟩ := HNx.out wr (Below.refl _ _)
        have HX := Lib.hid (hx _ (behindT_lo h1)); clear HNx hx
        obtain ⟨va', vc', e, _, _, hce⟩ := HL0.out.keeps (Keeps.of_below HB.out)
        simp only [Value.slice.injEq] at e
        obtain ⟨rfl, -, rfl⟩ := e
        obtain ⟨bb, off, rfl, _, hcl⟩ := hce k (by simpa using h1)
        simp only [List.getElem_map] at hcl
        clear hce
        generalize l[k] = x at *
        go_wp2
        go_roundw
        case rel => exact ⟨k + 1, by omega, by go_num, Lib.hid HX.out.1, Lib.hid HX.out.2⟩
        case measure => simp [intOf]; omega
      · have hbk : (behindT l)[k]? = some (txtB 9 k) := behindT_hi (by omega) (by have := HN.out; omega)
        have HBK := Lib.hid hbk
        have HM := Lib.hid (ref_text wr 9 k (by omega) (by have := HN.out; omega) (HT0.out.bel HB.out)); clear hbk
        generalize txtB 9 k = x at *
        go_wp2_with fail
        refine HM.out.mono ?_
        rintro e w5 ⟨rfl, hb5⟩
        obtain ⟨⟨u, hcell⟩, hfree, hx⟩ := HNx.out w5 hb5
        have HX := Lib.hid (hx _ HBK.out)
        clear HNx hx hb5
        go_wp2
        go_roundw
        case rel => exact ⟨k + 1, by omega, by go_num, Lib.hid HX.out.1, Lib.hid HX.out.2⟩
        case measure => simp [intOf]; omega
    · obtain rfl : k = N := by omega
      have hle : l.length ≤ k := by have := HN.out; omega
      go_wp2
      go_ret
      exact ⟨rfl, ⟨c, hc, fun j x hx => hcf j x (by have := (List.getElem?_eq_some_iff.1 hx).1; rw [behindT_len] at this; have := HN.out; omega) hx⟩, HB.out⟩
set_option maxRecDepth 100000 in
set_option maxHeartbeats 1600000 in
theorem spareTexts (w : World) (g : Nat) (l : List ByteArray) (h : WideT w g l) (hl : l.length ≤ 8796093022144) (ht : Tp w) :
    Calls Tryd.prog 62 #[.slice (some ⟨g, 0, none⟩) l.length (l.length + 64)] w fun e w' => e = .returned (.bool true) ∧ Below w.heap.size w w' := by
  have H := Lib.hid h; clear h
  have HT0 := Lib.hid ht; clear ht
  have HG := Lib.hid H.out.lt
  have e1 : wrap64 ((l.length : Int) + 64) = ((l.length + 64 : Nat) : Int) := by unfold wrap64; omega
  have e2 : (l.length : Int) + 64 = ((l.length + 64 : Nat) : Int) := by omega
  obtain ⟨N, hN⟩ : ∃ N, N = l.length + 64 := ⟨_, rfl⟩
  rw [← hN] at e1 e2 ⊢
  have hle : l.length ≤ N := by omega
  have HN := Lib.hid hN; clear hN
  go_enter Tryd.func62, Tryd.ntmps62
  go_wp2
  go_loopw [4] (fun i wr => ∃ k : Nat, l.length ≤ k ∧ k ≤ N ∧ i = .int .i64 k ∧ Hid (Below w.heap.size w wr)) (fun i _ => N - (intOf i).toNat)
  case atStart => exact ⟨l.length, by omega, hle, rfl, Lib.hid (Below.refl _ _)⟩
  case round =>
    obtain ⟨k, hk1, hk, rfl, HB⟩ := hrel
    by_cases hlt : k < N
    · have hcell := (H.out.keeps (Keeps.all (fun _ => True) HB.out) trivial).cell (behindT_hi hk1 (by have := HN.out; omega))
      have HM := Lib.hid (ref_text wr 9 k (by omega) (by have := HN.out; omega) (HT0.out.bel HB.out))
      have hb : k ≤ 8796093022208 := by have := HN.out; omega
      generalize txtB 9 k = x at *
      go_wp2_with fail
      refine HM.out.mono ?_
      rintro e w5 ⟨rfl, hb5⟩
      have HB5 := Lib.hid (below_next HB.out hb5)
      clear hb5
      go_wp2
      go_roundw
      case rel => exact ⟨k + 1, by omega, by omega, by go_num, HB5⟩
      case measure => simp [intOf]; omega
    · obtain rfl : k = N := by omega
      go_wp2
      go_ret
      exact ⟨rfl, HB.out⟩
end Go.Proofs.YtiaoonlhgjfdjaaDoor
