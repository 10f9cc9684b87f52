/- The law ControlWrap. -/
import Derived.Test.YtiaoonlhgjfdjaaMoved
import Derived.Test.YtiaoonlhgjfdjaaAround
import Derived.Test.YtiaoonlhgjfdjaaWorks09P
import Derived.Deep.RegionHeld3
namespace Go.Proofs.Ytiaoonlhgjfdjaa
open Go Go.RowKit
set_option linter.unusedSimpArgs false

def insN (op : Nat) : InsD := ⟨op, 0, []⟩
def wrL (l : List InsD) : List InsD := insN 2 :: (l ++ [insN 6])
theorem wrL_ops (l : List InsD) : opsOf (wrL l) = wrO (opsOf l) := by simp [wrL, opsOf, wrO, insN]
theorem wrL_len (l : List InsD) : (wrL l).length = l.length + 2 := by simp [wrL]
theorem own_app {w : World} {B g c n : Nat} {v : Value} {ps : List (InsD × Value)} (h : OwnC B w v ps) (hv : v = .slice (some ⟨g, 0, none⟩) n c) : ∀ j u, (insC ps)[j]? = some u → w.cell? ((⟨g, 0, none⟩ : Addr).add j) = some u := by
  intro j u hu
  have := own_at h.row (g := g) (by rw [hv]; rfl) hu
  unfold Addr.add
  split
  · rename_i e0; subst e0; exact this
  · simpa using this
theorem wpAnyH_more {P : Program} {md : Region.Mode} {ops : Array Oper} {Q : Exit → Act → World → Prop} {S S' : World → Prop} (hs : ∀ w, S' w → S w) : ∀ {fuel : Nat} {listed : Array Bool} {a : Act} {w : World}, wpAnyH P md ops Q S' fuel listed a w → wpAnyH P md ops Q S fuel listed a w
  | 0, _, _, _, h => h
  | _ + 1, _, _, _, h => ⟨h.1, fun i hi => wpOp_mono (fun _ _ h' => ⟨hs _ h'.1, wpAnyH_more hs h'.2⟩) (h.2 i hi)⟩
theorem takeAt {P : Program} {md : Region.Mode} {ops : Array Oper} {Q : Exit → Act → World → Prop} {S : World → Prop} {i d : Nat} {oi : Oper} {v : Value} {fuel : Nat} {listed : Array Bool} {a : Act} {w : World} (hi : ops[i]? = some oi) (hd : oi.dst = some d)
    (hs : Region.noSelect ops = true) (hf : Region.free md ops listed i = true) (hr : (Region.ready md ops listed).contains i = true)
    (hQ : ∀ c a w, Q (.panic c) (a.put oi.dst v) w → Q (.panic c) a w) (hy : YieldsIf P ops S oi v a) (hS : S w)
    (h : wpAnyH P md ops Q S fuel (listed.setIfInBounds i true) (a.put (some d) v) w) : wpAnyH P md ops Q S (fuel + 1) listed a w :=
  wpAnyH_take hi hs hf hr hQ hy hS (by rw [hd]; exact h)
theorem stateAt {P : Program} {md : Region.Mode} {ops : Array Oper} {Q : Exit → Act → World → Prop} {S : World → Prop} {fuel : Nat} {listed : Array Bool} {a : Act} {o : Oper} {d : Nat} {v : Value} {w : World} (hd : o.dst = some d) (h : wpAnyH P md ops Q S fuel listed (a.put (some d) v) w) : wpAnyH P md ops Q S fuel listed (a.put o.dst v) w := by
  rw [hd]; exact h
theorem keepW {w w' : World} {a1 a2 a3 : Addr} {x1 x2 x3 : Value} (h : Hid (w.cell? a1 = some x1 ∧ w.cell? a2 = some x2 ∧ w.cell? a3 = some x3)) (hb : Hid (Below w.heap.size w w')) :
    (w'.cell? a1 = some x1 ∧ w'.cell? a2 = some x2 ∧ w'.cell? a3 = some x3) ∧ Hid (Below w.heap.size w w') :=
  ⟨⟨cell_below hb.out h.out.1, cell_below hb.out h.out.2.1, cell_below hb.out h.out.2.2⟩, hb⟩
theorem moved1 {w0 w : World} {b off n c k : Nat} {E : List Int} {x y : Int} (h : Hid (RdI .i64 (· < w0.heap.size) w0 (.slice (some ⟨b, off, none⟩) n c) E)) (hk : k < E.length) (hx : Hid (gI E k = x ∧ mvI x = y)) (hE : -1 ≤ x ∧ x ≤ 1000000) (hq : Hid (Below w0.heap.size w0 w)) :
    Calls Try.prog 14 #[.slice (some ⟨b, off + k, none⟩) 1 (c - k), .int .i64 (-2), .bool false] w fun e w' => ∃ g c', e = .returned (.slice (some ⟨g, 0, none⟩) 1 c') ∧ w'.cell? ⟨g, 0, none⟩ = some (.int .i64 y) ∧ Hid (Below w0.heap.size w0 w') ∧ Hid (Below w.heap.size w w') := by
  obtain ⟨rfl, rfl⟩ := hx.out
  obtain ⟨a', c', e, hc, _, he⟩ := h.out.bel hq.out
  simp only [Value.slice.injEq] at e
  obtain ⟨rfl, rfl, rfl⟩ := e
  obtain ⟨b', o', e, hs, hcell⟩ := he k hk
  simp only [Option.some.injEq, Addr.mk.injEq, and_true] at e
  obtain ⟨rfl, rfl⟩ := e
  have hgi : E[k] = gI E k := by rw [gI, List.getD_eq_getElem?_getD, List.getElem?_eq_getElem hk]; rfl
  have hr : RdI .i64 (· < w.heap.size) w (.slice (some ⟨b, off + k, none⟩) 1 (c - k)) [gI E k] := by
    refine ⟨_, _, rfl, by simp; omega, by simp, fun j hj => ⟨b, off + k, rfl, hs, ?_⟩⟩
    obtain rfl : j = 0 := by simp at hj; exact hj
    rw [Nat.add_zero, hcell, hgi]; rfl
  refine (law_moved w _ _ _ (-2) false hr (by simp) (fun x hx => by obtain rfl := List.mem_singleton.1 hx; omega) (by omega)).mono ?_
  rintro e w' ⟨v', rfl, hb, ho⟩
  have hm : movedP [gI E k] (-2) false = [mvI (gI E k)] := by unfold movedP mvI; simp
  rw [hm] at ho
  obtain ⟨g, c2, rfl, _, _, hcl, _⟩ := ho.at_ (k := 0) (by simp)
  exact ⟨g, c2, rfl, by simpa using hcl, Lib.hid (below_next hq.out hb), Lib.hid hb⟩
theorem getD_ins {l : List InsD} {k : Nat} (h : k < l.length) : l.getD k insZ = l[k] := by rw [List.getD_eq_getElem?_getD, List.getElem?_eq_getElem h]; rfl
theorem wrL_at {l : List InsD} {k : Nat} (h : k < l.length) : (wrL l).getD ((k : Int) + 1).toNat insZ = l[k] := by
  rw [show ((k : Int) + 1).toNat = k + 1 by omega, List.getD_eq_getElem?_getD, wrL, List.getElem?_cons_succ, List.getElem?_append_left h, List.getElem?_eq_getElem h]; rfl
theorem wrL_ll {l : List InsD} (h : ∀ j (h : j < l.length), l[j].l.length ≤ 1048576) : ∀ j (h : j < (wrL l).length), (wrL l)[j].l.length ≤ 1048576 := by
  intro j hj
  have : ∀ x ∈ wrL l, x.l.length ≤ 1048576 := by
    intro x hx
    unfold wrL at hx
    rcases List.mem_cons.1 hx with rfl | hx
    · exact Nat.zero_le _
    · rcases List.mem_append.1 hx with hx | hx
      · obtain ⟨i, hi, rfl⟩ := List.mem_iff_getElem.1 hx; exact h i hi
      · obtain rfl := List.mem_singleton.1 hx; exact Nat.zero_le _
  exact this _ (List.getElem_mem hj)
theorem nextsP_mem (ops : List Nat) (pc a : Int) (l : List Int) : ∀ x ∈ nextsP ops pc a l, 0 ≤ x ∧ x ≤ ops.length := by
  unfold nextsP
  split
  · intro x h; cases h
  · unfold rise
    intro x hx
    obtain ⟨i, hi, rfl⟩ := List.mem_map.1 hx
    have := List.mem_range.1 (List.mem_filter.1 hi).1
    omega
theorem nextsP_len' (ops : List Nat) (pc a : Int) (l : List Int) : (nextsP ops pc a l).length ≤ ops.length + 1 := by
  unfold nextsP
  split
  · exact Nat.zero_le _
  · unfold rise
    rw [List.length_map]
    exact Nat.le_trans (List.length_filter_le _ _) (by rw [List.length_range]; exact Nat.le_refl _)
theorem keep27 {w w' : World} {a1 a2 a3 : Addr} {x1 x2 x3 : Value} (h : Hid (w.cell? a1 = some x1 ∧ w.cell? a2 = some x2 ∧ w.cell? a3 = some x3)) (hb : Hid (Below w.heap.size w w')) :
    (w'.cell? a1 = some x1 ∧ w'.cell? a2 = some x2 ∧ w'.cell? a3 = some x3) ∧ True ∧ Hid (Below w.heap.size w w') :=
  ⟨⟨cell_below hb.out h.out.1, cell_below hb.out h.out.2.1, cell_below hb.out h.out.2.2⟩, trivial, hb⟩
set_option maxRecDepth 100000 in
set_option maxHeartbeats 12800000 in
theorem law_wrap (w : World) (v : Value) (l : List InsD) (hc : Cd w v l) :
    Calls Try.prog 4 #[v] w fun e w' => e = .returned (.bool true) ∧ Below w.heap.size w w' := by
  obtain ⟨ii, hii, hiz0, hiz1, hiz2⟩ := info_parts Try.infoInsC
  have HC := Lib.hid hc
  have HLO : Hid ((opsOf l).length = l.length) := Lib.hid (opsOf_len l)
  obtain ⟨va, vc, rfl, _⟩ := hc.len
  clear hc
  go_enter Try.func4, Try.ntmps4
  go_wp2_with fail
  refine (law_works09 w).mono ?_
  rintro e w1 ⟨rfl, hb1⟩
  have HB1 := Lib.hid hb1
  have HC1 := Lib.hid (Cd.bel HC.out hb1)
  clear hb1
  go_wp2_with fail
  refine (sizeCode w1 _ l HC1.out).mono ?_
  rintro e w' ⟨m, rfl, hw', hm⟩
  obtain rfl : w1 = w' := hw'.symm
  have HM := Lib.hid hm
  clear hw' hm
  by_cases hbig : 600 < m
  · go_wp2
    go_ret
    exact ⟨rfl, HB1.out⟩
  have hl : l.length ≤ 600 := by have := (HM.out (by omega)).1; omega
  have HLL2 : Hid (∀ j (h : j < l.length), l[j].l.length ≤ 1048576) := Lib.hid (fun j h => by have := (HM.out (by omega)).2 j h; omega)
  clear HM
  have hdm : decide ((600 : Int) < m) = false := decide_eq_false (by omega)
  go_wp2_with fail
  clear hdm
  refine (control_Map w1 _ l HC1.out (by omega)).mono ?_
  rintro e w2 ⟨v1, v2, v3, rfl, hA⟩
  have HROW := Lib.hid hA.rows
  have HC2 := Lib.hid (Cd.bel HC1.out hA.bel)
  have HB2 := Lib.hid (below_next HB1.out hA.bel)
  obtain ⟨er, her⟩ : ∃ er, (mapP (opsOf l)).2.2.2.1 = er := ⟨_, rfl⟩
  have HER := Lib.hid her
  rw [her]
  generalize (mapP (opsOf l)).2.2.2.2 = q at *
  clear her hA
  by_cases he : er = 0
  · subst he
    have HK := Lib.hid (mapP_ok HER.out)
    have HMB := Lib.hid (mapP_br HER.out)
    have HWM := Lib.hid (wrap_map HER.out)
    have hpos := HMB.out.pos
    rw [HLO.out] at hpos
    have HEl : Hid ((mapP (opsOf l)).1.length = l.length) := Lib.hid (by rw [HK.out.le, HLO.out])
    have HLl : Hid ((mapP (opsOf l)).2.1.length = l.length) := Lib.hid (by rw [HK.out.ll, HLO.out])
    have HOl : Hid ((mapP (opsOf l)).2.2.1.length = l.length) := Lib.hid (by rw [HK.out.lo, HLO.out])
    have HR : Hid (Rd2 w2 (.slice va l.length vc) v1 v2 l (mapP (opsOf l)).1 (mapP (opsOf l)).2.1) := Lib.hid ⟨HC2.out, (HROW.out.r1.rd (by rw [HEl.out]; omega)).any, (HROW.out.r2.rd (by rw [HLl.out]; omega)).any⟩
    have HR3 : Hid (Rd2 w2 (.slice va l.length vc) v1 v3 l (mapP (opsOf l)).1 (mapP (opsOf l)).2.2.1) := Lib.hid ⟨HC2.out, (HROW.out.r1.rd (by rw [HEl.out]; omega)).any, (HROW.out.r3.rd (by rw [HOl.out]; omega)).any⟩
    obtain ⟨e1, c1, rfl, hcE⟩ := HR.out.e.lenc
    obtain ⟨e2, c2, rfl, hcL⟩ := HR.out.l.lenc
    obtain ⟨e3, c3, rfl, _⟩ := HR3.out.l.lenc
    have hb3 := below_alloc w2 (.cells #[.int .u8 2, .int .i64 0, .slice none 0 0] 31)
    have HO3 : Hid (OwnC w2.heap.size (w2.alloc (.cells #[.int .u8 2, .int .i64 0, .slice none 0 0] 31)) (.slice (some ⟨w2.heap.size, 0, none⟩) 1 1) [(insN 2, .slice none 0 0)]) := Lib.hid
      ⟨World.ownsRow_lit w2 #[.int .u8 2, .int .i64 0, .slice none 0 0] 1 (Nat.le_refl _) (by decide) rfl, fun p hp => by
        obtain rfl : p = _ := List.mem_singleton.1 hp
        exact RdI.nil _ _ _⟩
    have HB3 := Lib.hid (below_next HB2.out hb3)
    have HC3 := Lib.hid (Cd.bel HC2.out hb3)
    have hs3 : (w2.alloc (.cells #[.int .u8 2, .int .i64 0, .slice none 0 0] 31)).heap.size = w2.heap.size + 1 := World.size_alloc _ _
    have HCC := Lib.hid (copyCode _ _ l HC3.out (by omega) HLL2.out)
    have HB23 := Lib.hid hb3
    clear hb3 HROW
    go_wp2_with fail
    refine HCC.out.mono ?_
    clear HCC
    obtain ⟨w3, hw3⟩ : ∃ w3, w2.alloc (.cells #[.int .u8 2, .int .i64 0, .slice none 0 0] 31) = w3 := ⟨_, rfl⟩
    rw [hw3] at HO3 HB3 HC3 hs3 HB23 ⊢
    clear hw3
    rintro e w4 ⟨v4, ps, rfl, hps, ho4, hb4⟩
    have hpl : ps.length = l.length := by rw [← hps, List.length_map]
    obtain ⟨g4, c4, rfl⟩ : ∃ g c, v4 = .slice (some ⟨g, 0, none⟩) ps.length c := by
      rcases ho4.row.2 with ⟨_, h0⟩ | ⟨g, cap, cur, rfl, _⟩
      · omega
      · exact ⟨g, cap, rfl⟩
    have HO4 := Lib.hid ho4
    have HO34 := Lib.hid (HO3.out.on hb4)
    have HB34 := Lib.hid hb4
    have HPS := Lib.hid hps
    have hsz4 := hb4.size
    have HNW : Hid (∀ j u, (insC ps)[j]? = some u → w4.cell? ((⟨g4, 0, none⟩ : Addr).add j) = some u) := Lib.hid (own_app ho4 rfl)
    have hpl' : ps.length ≤ 600 := by omega
    have hpl2 : 0 < ps.length := by omega
    have hB4 : w2.heap.size ≤ w4.heap.size := by omega
    have HPL := Lib.hid hpl
    have HS3 := Lib.hid hs3
    clear ho4 hb4 hps hpl hs3
    go_wp2_with (at_builtin; refine wpList_append_kept _ rfl _ _ 22 rfl w2.heap.size 31 ii (.agg #[.int .u8 0, .int .i64 0, .slice none 0 0]) 3 40 Try.underlying22 hii hiz0 hiz1 hiz2 rfl (by decide) _ 1 (insC [(insN 2, .slice none 0 0)]) rfl HO34.out.row ⟨g4, 0, none⟩ ps.length c4 (insC ps) rfl (insC_len ps) HNW.out (insC_one ps HO4.out.one) (by unfold maxLen; omega) (by omega) hB4 ?_)
    intro v5 w5 ho5 hk5 hf5
    have HO5 : Hid (OwnC w2.heap.size w5 v5 ([(insN 2, .slice none 0 0)] ++ ps)) := Lib.hid (HO34.out.app ho5 hk5 hf5 fun p hp => (HO4.out.ls p hp).mono fun b _ hb => ⟨by have := HS3.out; omega, fun e => by
      simp only [Value.ownBlock, Option.some.injEq] at e
      have := HS3.out
      omega⟩)
    obtain ⟨a5, d5, rfl⟩ : ∃ a c, v5 = .slice a (ps.length + 1) c := by
      obtain ⟨a, c, e⟩ := HO5.out.max
      exact ⟨a, c, by simpa using e⟩
    have HB5 := Lib.hid ((below_next HB23.out HB34.out).grown hk5.grown hB4 fun j hj => (HO34.out.row.lt j hj).1)
    have hs5 : w2.heap.size ≤ w5.heap.size := HB5.out.size
    have hb6 := below_alloc w5 (.cells #[.int .u8 6, .int .i64 0, .slice none 0 0] 31)
    have HO6 := Lib.hid (HO5.out.on hb6)
    have HR6 : Hid ((w5.alloc (.cells #[.int .u8 6, .int .i64 0, .slice none 0 0] 31)).ownsRow w2.heap.size 31 3 (.slice a5 (ps.length + 1) d5) (ps.length + 1) (insC ([(insN 2, .slice none 0 0)] ++ ps))) := Lib.hid HO6.out.row
    have hB6 : w2.heap.size ≤ (w5.alloc (.cells #[.int .u8 6, .int .i64 0, .slice none 0 0] 31)).heap.size := by rw [World.size_alloc]; omega
    have HB6 := Lib.hid (HB5.out.trans (hb6.mono hs5))
    clear ho5 hk5 hf5 hb6 HO34 HO4 HO3 HNW hB4 HB3 HC3 HB23 HB34 hsz4 HO5 HB5
    go_wp2_with (at_builtin; refine wpList_append_kept _ rfl _ _ 22 rfl w2.heap.size 31 ii (.agg #[.int .u8 0, .int .i64 0, .slice none 0 0]) 3 40 Try.underlying22 hii hiz0 hiz1 hiz2 rfl (by decide) (.slice a5 (ps.length + 1) d5) (ps.length + 1) (insC ([(insN 2, .slice none 0 0)] ++ ps)) rfl HR6.out ⟨w5.heap.size, 0, none⟩ 1 1 [.int .u8 6, .int .i64 0, .slice none 0 0] rfl rfl (cells3_new _ _ _ _ _) (by simp [Value.oneCell']) (by unfold maxLen; omega) (by omega) hB6 ?_)
    intro v7 w7 ho7 hk7 hf7
    have hO7 : OwnC w2.heap.size w7 v7 (([(insN 2, .slice none 0 0)] ++ ps) ++ [(insN 6, .slice none 0 0)]) := HO6.out.app ho7 hk7 (fun g hg => by have := hf7 g hg; rw [World.size_alloc]; exact this) fun p hp => by
      obtain rfl : p = _ := List.mem_singleton.1 hp
      exact RdI.nil _ _ _
    have hmap : ((([(insN 2, Value.slice none 0 0)] ++ ps) ++ [(insN 6, Value.slice none 0 0)]).map Prod.fst) = wrL l := by
      rw [List.map_append, List.map_append, HPS.out]; rfl
    have hcd := hO7.cd (by simp; omega)
    rw [hmap] at hcd
    have HCD := Lib.hid hcd
    have hb7 := HB6.out.grown hk7.grown hB6 fun j hj => (HO6.out.row.lt j hj).1
    have HB7 := Lib.hid hb7
    have HC7 := Lib.hid (Cd.bel HC2.out hb7)
    have HLW : Hid ((wrL l).length ≤ 1048576) := Lib.hid (by rw [wrL_len]; omega)
    clear ho7 hk7 hf7 hO7 hmap hcd hb7 HO6 HB6 hB6 HPS HPL HS3
    go_wp2_with fail
    refine (control_Map w7 v7 (wrL l) HCD.out HLW.out).mono ?_
    rintro e w8 ⟨u1, u2, u3, rfl, hA8⟩
    rw [wrL_ops] at hA8 ⊢
    have HR8 := Lib.hid hA8.rows
    have HB8 := Lib.hid (below_next HB7.out hA8.bel)
    have HC8 := Lib.hid (Cd.bel HC7.out hA8.bel)
    have HCD8 := Lib.hid (Cd.bel HCD.out hA8.bel)
    have HB08 := Lib.hid (below_next HB2.out HB8.out)
    obtain ⟨q8, hq8⟩ : ∃ q8, (mapP (wrO (opsOf l))).2.2.2.2 = q8 := ⟨_, rfl⟩
    rw [hq8]
    clear hA8 hq8 HB7 HCD HC7
    rcases HWM.out.2 with ⟨h35, i, hi, hdeep⟩ | ⟨hz, hWr⟩
    · have H35 := Lib.hid h35
      have HDP := Lib.hid (And.intro hi hdeep)
      rw [h35]
      clear h35 hi hdeep
      go_wp2
      go_loopw [16, 17] (fun d16 i17 wr => ∃ k d : Nat, k ≤ l.length ∧ i17 = .int .i64 k ∧ d16 = .int .i64 d ∧ d ≤ 33 ∧ Hid (∀ j, j < k → (labP (mapP (opsOf l)).2.2.1 j).length ≤ d) ∧ Hid (Below w8.heap.size w8 wr)) (fun _ i17 _ => l.length - (intOf i17).toNat)
      case atStart => exact ⟨0, 0, by omega, rfl, rfl, by omega, Lib.hid fun j h => absurd h (by omega), Lib.hid (Below.refl _ _)⟩
      case round =>
        obtain ⟨k, d, hk, rfl, rfl, hd, HD, HB⟩ := hrel
        by_cases hlt : k < l.length
        · have HLS := Lib.hid (labelsP_some HER.out (n := k) (by rw [HLO.out]; exact hlt))
          have h33 := HWM.out.1 k (by rw [HLO.out]; exact hlt)
          go_wp2_with fail
          refine (control_Labels wr _ l k (Cd.bel HC8.out HB.out) (by omega)).mono ?_
          rintro e w9 ⟨v9, rfl, hb9, ho9⟩
          rw [HLS.out] at ho9
          obtain ⟨a9, c9, rfl, _⟩ := own_slice ho9
          have HB9 := Lib.hid (below_next HB.out hb9)
          have HLN : Hid (∃ n, (labP (mapP (opsOf l)).2.2.1 k).length = n) := Lib.hid ⟨_, rfl⟩
          obtain ⟨n, hn⟩ := HLN.out
          have HN := Lib.hid hn
          rw [hn] at h33 ⊢
          clear hb9 ho9 hn HLS
          have HDN : Hid (∀ j, j < k + 1 → (labP (mapP (opsOf l)).2.2.1 j).length ≤ max d n) := Lib.hid fun j hj => by
            by_cases e : j = k
            · rw [e, HN.out]; omega
            · have := HD.out j (by omega); omega
          go_wp2
          go_roundw
          case rel => exact ⟨k + 1, max d n, by omega, by go_num, congrArg (Value.int .i64) (by omega), by omega, HDN, HB9⟩
          case measure => simp [intOf]; omega
        · obtain rfl : k = l.length := by omega
          have h1 := HD.out i (by have := HDP.out.1; rw [HLO.out] at this; exact this)
          rw [HDP.out.2] at h1
          obtain rfl : d = 33 := by omega
          go_wp2
          go_ret
          exact ⟨rfl, below_next HB08.out HB.out⟩
    · have HZ := Lib.hid hz
      have HWR := Lib.hid hWr
      rw [HLO.out] at HWR
      have hle := HWR.out.le; have hll := HWR.out.ll; have hlo := HWR.out.lo
      have HE' : Hid (RdI .i64 (· < w8.heap.size) w8 u1 (mapP (wrO (opsOf l))).1) := Lib.hid (HR8.out.r1.rd (by omega)).any
      have HL' : Hid (RdI .i64 (· < w8.heap.size) w8 u2 (mapP (wrO (opsOf l))).2.1) := Lib.hid (HR8.out.r2.rd (by omega)).any
      have HO' : Hid (RdI .i64 (· < w8.heap.size) w8 u3 (mapP (wrO (opsOf l))).2.2.1) := Lib.hid (HR8.out.r3.rd (by omega)).any
      have HRk := Lib.hid (HR.out.bel HB8.out)
      have HR3k := Lib.hid (HR3.out.bel HB8.out)
      have HNX : Hid (∀ i a xl, i < l.length → namedP ((opsOf l).getD i 0) a xl (labP (mapP (opsOf l)).2.2.1 i).length → nextsP (wrO (opsOf l)) ((i + 1 : Nat) : Int) a xl = movedP (nextsP (opsOf l) i a xl) l.length (decide ((opsOf l).getD i 0 = 10))) := Lib.hid fun i a xl hi hn => by
        have := wr_next HER.out hz hWr (i := i) (by rw [HLO.out]; exact hi) hn
        rw [HLO.out] at this
        exact this
      rw [hz]
      clear hz hWr HWM
      generalize (mapP (wrO (opsOf l))).1 = E' at *
      generalize (mapP (wrO (opsOf l))).2.1 = L' at *
      generalize (mapP (wrO (opsOf l))).2.2.1 = O' at *
      obtain ⟨ea', ec', rfl, _⟩ := HE'.out.lenc
      obtain ⟨la', lc', rfl, _⟩ := HL'.out.lenc
      obtain ⟨oa', oc', rfl, _⟩ := HO'.out.lenc
      obtain ⟨eb, eo, rfl, x0⟩ := rd_cell HE'.out (j := 0) (by omega)
      obtain ⟨lb, lo, rfl, x1⟩ := rd_cell HL'.out (j := 0) (by omega)
      obtain ⟨ob, oo, rfl, x2⟩ := rd_cell HO'.out (j := 0) (by omega)
      obtain ⟨_, _, e7, x3⟩ := rd_cell HO'.out (j := l.length + 1) (by omega)
      simp only [Option.some.injEq, Addr.mk.injEq, and_true] at e7
      obtain ⟨rfl, rfl⟩ := e7
      obtain ⟨_, _, e7, x4⟩ := rd_cell HE'.out (j := l.length + 1) (by omega)
      simp only [Option.some.injEq, Addr.mk.injEq, and_true] at e7
      obtain ⟨rfl, rfl⟩ := e7
      rw [HWR.out.e0] at x0; rw [HWR.out.l0] at x1; rw [HWR.out.o0] at x2; rw [HWR.out.o2] at x3; rw [HWR.out.e2] at x4
      simp only [Nat.add_zero] at x0 x1 x2
      have hEl : l.length + 1 < E'.length := by omega
      have hLl : l.length + 1 < L'.length := by omega
      have hOl : l.length + 1 < O'.length := by omega
      have hne : ((E'.length : Int) != (l.length : Int) + 2) = false := by rw [hle]; simp
      have HEL := Lib.hid hle; have HLL := Lib.hid hll; have HOL := Lib.hid hlo
      clear hle hll hlo HR8
      go_wp2
      clear x0 x1 x2 x3 x4 hne hEl hLl hOl
      have HKE := Lib.hid (fun k => HK.out.endD k); have HKL := Lib.hid (fun k => HK.out.elsD k)
      generalize hEg : (mapP (opsOf l)).1 = E at *
      generalize hLg : (mapP (opsOf l)).2.1 = L at *
      generalize hOg : (mapP (opsOf l)).2.2.1 = O at *
      have HOg := Lib.hid hOg
      clear hEg hLg hOg
      go_loopw [18, 19] (fun i18 _ wr => ∃ k : Nat, k ≤ l.length ∧ i18 = .int .i64 k ∧ Hid (Below w8.heap.size w8 wr)) (fun i18 _ _ => l.length - (intOf i18).toNat)
      case atStart => exact ⟨0, by omega, rfl, Lib.hid (Below.refl _ _)⟩
      case round =>
        obtain ⟨k, hk, rfl, HB⟩ := hrel
        by_cases hlt : k < l.length
        · have hkE : k < E.length := by rw [HEl.out]; exact hlt
          have hkL : k < L.length := by rw [HLl.out]; exact hlt
          have hkO : k < O.length := by rw [HOl.out]; exact hlt
          have hkE' : k + 1 < E'.length := by rw [HEL.out]; omega
          have hkL' : k + 1 < L'.length := by rw [HLL.out]; omega
          have hkO' : k + 1 < O'.length := by rw [HOL.out]; omega
          obtain ⟨ob1, oo1, rfl, y0⟩ := rd_cell (HR3k.out.bel HB.out).l hkO
          obtain ⟨_, _, e7, y1⟩ := rd_cell (HE'.out.bel HB.out) hkE'
          simp only [Option.some.injEq, Addr.mk.injEq, and_true] at e7
          obtain ⟨rfl, rfl⟩ := e7
          obtain ⟨_, _, e7, y2⟩ := rd_cell (HL'.out.bel HB.out) hkL'
          simp only [Option.some.injEq, Addr.mk.injEq, and_true] at e7
          obtain ⟨rfl, rfl⟩ := e7
          obtain ⟨_, _, e7, y3⟩ := rd_cell (HO'.out.bel HB.out) hkO'
          simp only [Option.some.injEq, Addr.mk.injEq, and_true] at e7
          obtain ⟨rfl, rfl⟩ := e7
          rw [HWR.out.e1 k hlt] at y1; rw [HWR.out.l1 k hlt] at y2; rw [HWR.out.o1 k hlt] at y3
          obtain ⟨eb1, eo1, rfl, z1⟩ := rd_cell (HRk.out.bel HB.out).e hkE
          obtain ⟨lb1, lo1, rfl, z2⟩ := rd_cell (HRk.out.bel HB.out).l hkL
          have hO2 : -1 ≤ gI O k ∧ gI O k < 1000000 := by
            have := HK.out.own k (gI O k) (by rw [gI, List.getD_eq_getElem?_getD, List.getElem?_eq_getElem hkO]; rfl)
            omega
          have hEk : -1 ≤ gI E k ∧ gI E k ≤ 1000000 := by have := HKE.out k; rw [HLO.out] at this; show -1 ≤ E.getD k (-1) ∧ E.getD k (-1) ≤ 1000000; omega
          have hLk : -1 ≤ gI L k ∧ gI L k ≤ 1000000 := by have := HKL.out k; rw [HLO.out] at this; show -1 ≤ L.getD k (-1) ∧ L.getD k (-1) ≤ 1000000; omega
          obtain ⟨xO, hxO⟩ : ∃ x, gI O k = x := ⟨_, rfl⟩
          obtain ⟨xE, hxE⟩ : ∃ x, gI E k = x := ⟨_, rfl⟩
          obtain ⟨xL, hxL⟩ : ∃ x, gI L k = x := ⟨_, rfl⟩
          rw [hxO] at y0 y3 hO2
          rw [hxE] at y1 z1 hEk
          rw [hxL] at y2 z2 hLk
          obtain ⟨mE, hmE⟩ : ∃ y, mvI xE = y := ⟨_, rfl⟩
          obtain ⟨mL, hmL⟩ : ∃ y, mvI xL = y := ⟨_, rfl⟩
          rw [hmE] at y1; rw [hmL] at y2
          have HXE := Lib.hid (And.intro hxE hmE); have HXL := Lib.hid (And.intro hxL hmL)
          have HEk := Lib.hid hEk; have HLk := Lib.hid hLk
          have hO3 : -1 ≤ xO := hO2.1
          have hO4 : xO < 1000000 := hO2.2
          clear hxO hxE hxL hmE hmL hO2
          go_upto_region 25 with fail
          go_cut [166] from 128 to 166 (fun s wx => s = .bool false ∧ Hid (Below wr.heap.size wr wx))
          case first =>
            --FIRST
            have HKW := Lib.hid (And.intro y1 (And.intro y2 y3))
            have HRE : Hid (RdI .i64 (· < wr.heap.size) wr (.slice (some ⟨eb1, eo1, none⟩) E.length c1) E) := Lib.hid (HRk.out.bel HB.out).e
            have HRL : Hid (RdI .i64 (· < wr.heap.size) wr (.slice (some ⟨lb1, lo1, none⟩) L.length c2) L) := Lib.hid (HRk.out.bel HB.out).l
            have hs1 : 0 ≤ (k : Int) + 1 := by omega
            have hs2 : ((k : Int) + 1).toNat = k + 1 := by omega
            have hs3 : IntKind.i64.wrap ((k : Int) + 1) = (k : Int) + 1 := IntWalk.i64_in _ (by omega)
            have hq := hid_refl wr
            have i1 : (k : Int) + 1 < E'.length := by omega
            have i2 : (k : Int) + 1 < L'.length := by omega
            have i3 : (k : Int) + 1 < O'.length := by omega
            have i4 : (k : Int) + 1 ≤ c1 := by omega
            have i5 : (k : Int) + 1 ≤ c2 := by omega
            have i6 : (k : Int) ≤ (k : Int) + 1 := by omega
            have i7 : k + 1 ≤ c1 := by omega
            have i8 : k + 1 ≤ c2 := by omega
            have i9 : (0 : Int) ≤ k := by omega
            have i10 : k ≤ k + 1 := by omega
            have i11 : k + 1 - k = 1 := by omega
            have i12 : (k : Int) + 1 - k = 1 := by omega
            have i13 : ¬ c1 = k := by omega
            have i14 : ¬ c2 = k := by omega
            clear y1 y2 y3 y0 z1 z2 hEk hLk
            refine wp_region_held_drew (S := fun w' => (w'.cell? ⟨eb, eo + (k + 1), none⟩ = some (.int .i64 mE) ∧ w'.cell? ⟨lb, lo + (k + 1), none⟩ = some (.int .i64 mL) ∧ w'.cell? ⟨ob, oo + (k + 1), none⟩ = some (.int .i64 (xO + 1))) ∧ Hid (Below wr.heap.size wr w')) (by kernel_rfl) (keepW HKW (hid_drew hq)) (fun hHeld => ?_)
            refine takeAt (i := 0) (d := 128) (v := ?_) rfl (by kernel_rfl) (by kernel_rfl) (by kernel_rfl) (by kernel_rfl) (fun _ _ _ h => h) (Or.inl ⟨by kernel_rfl, ?_⟩) (by assumption) ?_
            rotate_left
            · (intro w hSw; (try dsimp only at hSw); go_simp; all_goals (with_reducible rfl))
            (try simp only [Act.put, List.setIfInBounds_toArray, List.set_cons_zero, List.set_cons_succ])
            refine takeAt (i := 1) (d := 129) (v := ?_) rfl (by kernel_rfl) (by kernel_rfl) (by kernel_rfl) (by kernel_rfl) (fun _ _ _ h => h) (Or.inl ⟨by kernel_rfl, ?_⟩) (by assumption) ?_
            rotate_left
            · (intro w hSw; (try dsimp only at hSw); go_simp; all_goals (with_reducible rfl))
            (try simp only [Act.put, List.setIfInBounds_toArray, List.set_cons_zero, List.set_cons_succ])
            refine takeAt (i := 2) (d := 130) (v := ?_) rfl (by kernel_rfl) (by kernel_rfl) (by kernel_rfl) (by kernel_rfl) (fun _ _ _ h => h) (Or.inl ⟨by kernel_rfl, ?_⟩) (by assumption) ?_
            rotate_left
            · (intro w hSw; (try dsimp only at hSw); go_simp; all_goals (with_reducible rfl))
            (try simp only [Act.put, List.setIfInBounds_toArray, List.set_cons_zero, List.set_cons_succ])
            refine takeAt (i := 3) (d := 131) (v := ?_) rfl (by kernel_rfl) (by kernel_rfl) (by kernel_rfl) (by kernel_rfl) (fun _ _ _ h => h) (Or.inl ⟨by kernel_rfl, ?_⟩) (by assumption) ?_
            rotate_left
            · (intro w hSw; (try dsimp only at hSw); go_simp; all_goals (with_reducible rfl))
            (try simp only [Act.put, List.setIfInBounds_toArray, List.set_cons_zero, List.set_cons_succ])
            refine takeAt (i := 4) (d := 132) (v := ?_) rfl (by kernel_rfl) (by kernel_rfl) (by kernel_rfl) (by kernel_rfl) (fun _ _ _ h => h) (Or.inl ⟨by kernel_rfl, ?_⟩) (by assumption) ?_
            rotate_left
            · (intro w hSw; (try dsimp only at hSw); go_simp; all_goals (with_reducible rfl))
            (try simp only [Act.put, List.setIfInBounds_toArray, List.set_cons_zero, List.set_cons_succ])
            refine takeAt (i := 5) (d := 133) (v := ?_) rfl (by kernel_rfl) (by kernel_rfl) (by kernel_rfl) (by kernel_rfl) (fun _ _ _ h => h) (Or.inl ⟨by kernel_rfl, ?_⟩) (by assumption) ?_
            rotate_left
            · (intro w hSw; (try dsimp only at hSw); go_simp; all_goals (with_reducible rfl))
            (try simp only [Act.put, List.setIfInBounds_toArray, List.set_cons_zero, List.set_cons_succ])
            refine takeAt (i := 6) (d := 134) (v := ?_) rfl (by kernel_rfl) (by kernel_rfl) (by kernel_rfl) (by kernel_rfl) (fun _ _ _ h => h) (Or.inl ⟨by kernel_rfl, ?_⟩) (by assumption) ?_
            rotate_left
            · (intro w hSw; (try dsimp only at hSw); go_simp; all_goals (with_reducible rfl))
            (try simp only [Act.put, List.setIfInBounds_toArray, List.set_cons_zero, List.set_cons_succ])
            refine takeAt (i := 7) (d := 135) (v := ?_) rfl (by kernel_rfl) (by kernel_rfl) (by kernel_rfl) (by kernel_rfl) (fun _ _ _ h => h) (Or.inl ⟨by kernel_rfl, ?_⟩) (by assumption) ?_
            rotate_left
            · (intro w hSw; (try dsimp only at hSw); go_simp; all_goals (with_reducible rfl))
            (try simp only [Act.put, List.setIfInBounds_toArray, List.set_cons_zero, List.set_cons_succ])
            refine takeAt (i := 8) (d := 136) (v := ?_) rfl (by kernel_rfl) (by kernel_rfl) (by kernel_rfl) (by kernel_rfl) (fun _ _ _ h => h) (Or.inl ⟨by kernel_rfl, ?_⟩) (by assumption) ?_
            rotate_left
            · (intro w hSw; (try dsimp only at hSw); go_simp; all_goals (with_reducible rfl))
            (try simp only [Act.put, List.setIfInBounds_toArray, List.set_cons_zero, List.set_cons_succ])
            refine takeAt (i := 9) (d := 137) (v := ?_) rfl (by kernel_rfl) (by kernel_rfl) (by kernel_rfl) (by kernel_rfl) (fun _ _ _ h => h) (Or.inl ⟨by kernel_rfl, ?_⟩) (by assumption) ?_
            rotate_left
            · (intro w hSw; (try dsimp only at hSw); go_simp; all_goals (with_reducible rfl))
            (try simp only [Act.put, List.setIfInBounds_toArray, List.set_cons_zero, List.set_cons_succ])
            refine wpAnyH_ready (rs := [10]) (by kernel_rfl) (by simp) ?_
            refine AllReadyH.cons rfl (fun K hK => ?_) AllReadyH.nil
            go_simp
            refine (moved1 HRE hkE HXE HEk.out (hid_next (Lib.hid hHeld.2.out) (hid_refl _))).mono ?_
            rintro e w' ⟨g1, cc, rfl, hg1, hq, hqq⟩
            go_wp2_with fail
            refine hK.out _ _ (keepW HKW hq) (fun hHeld0 => ?_)
            refine wpAnyH_more (S' := fun w' => ((w'.cell? ⟨eb, eo + (k + 1), none⟩ = some (.int .i64 mE) ∧ w'.cell? ⟨lb, lo + (k + 1), none⟩ = some (.int .i64 mL) ∧ w'.cell? ⟨ob, oo + (k + 1), none⟩ = some (.int .i64 (xO + 1))) ∧ Hid (Below wr.heap.size wr w')) ∧ w'.cell? ⟨g1, 0, none⟩ = some (.int .i64 mE)) (fun _ h => h.1) ?_
            have hHeld : ((w'.cell? ⟨eb, eo + (k + 1), none⟩ = some (.int .i64 mE) ∧ w'.cell? ⟨lb, lo + (k + 1), none⟩ = some (.int .i64 mL) ∧ w'.cell? ⟨ob, oo + (k + 1), none⟩ = some (.int .i64 (xO + 1))) ∧ Hid (Below wr.heap.size wr w')) ∧ w'.cell? ⟨g1, 0, none⟩ = some (.int .i64 mE) := ⟨keepW HKW hq, hg1⟩
            clear hK K hHeld0
            (try refine stateAt (d := 138) (by kernel_rfl) ?_)
            (try simp only [Act.put, List.setIfInBounds_toArray, List.set_cons_zero, List.set_cons_succ])
            refine takeAt (i := 11) (d := 139) (v := ?_) rfl (by kernel_rfl) (by kernel_rfl) (by kernel_rfl) (by kernel_rfl) (fun _ _ _ h => h) (Or.inl ⟨by kernel_rfl, ?_⟩) (by assumption) ?_
            rotate_left
            · (intro w hSw; (try dsimp only at hSw); go_simp; all_goals (with_reducible rfl))
            (try simp only [Act.put, List.setIfInBounds_toArray, List.set_cons_zero, List.set_cons_succ])
            refine takeAt (i := 12) (d := 140) (v := ?_) rfl (by kernel_rfl) (by kernel_rfl) (by kernel_rfl) (by kernel_rfl) (fun _ _ _ h => h) (Or.inl ⟨by kernel_rfl, ?_⟩) (by assumption) ?_
            rotate_left
            · (intro w hSw; (try dsimp only at hSw); go_simp; all_goals (with_reducible rfl))
            (try simp only [Act.put, List.setIfInBounds_toArray, List.set_cons_zero, List.set_cons_succ])
            refine takeAt (i := 13) (d := 141) (v := ?_) rfl (by kernel_rfl) (by kernel_rfl) (by kernel_rfl) (by kernel_rfl) (fun _ _ _ h => h) (Or.inl ⟨by kernel_rfl, ?_⟩) (by assumption) ?_
            rotate_left
            · (intro w hSw; (try dsimp only at hSw); go_simp; all_goals (with_reducible rfl))
            (try simp only [Act.put, List.setIfInBounds_toArray, List.set_cons_zero, List.set_cons_succ])
            refine takeAt (i := 14) (d := 142) (v := ?_) rfl (by kernel_rfl) (by kernel_rfl) (by kernel_rfl) (by kernel_rfl) (fun _ _ _ h => h) (Or.inl ⟨by kernel_rfl, ?_⟩) (by assumption) ?_
            rotate_left
            · (intro w hSw; (try dsimp only at hSw); go_simp; all_goals (with_reducible rfl))
            (try simp only [Act.put, List.setIfInBounds_toArray, List.set_cons_zero, List.set_cons_succ])
            refine takeAt (i := 15) (d := 143) (v := ?_) rfl (by kernel_rfl) (by kernel_rfl) (by kernel_rfl) (by kernel_rfl) (fun _ _ _ h => h) (Or.inl ⟨by kernel_rfl, ?_⟩) (by assumption) ?_
            rotate_left
            · (intro w hSw; (try dsimp only at hSw); go_simp; all_goals (with_reducible rfl))
            (try simp only [Act.put, List.setIfInBounds_toArray, List.set_cons_zero, List.set_cons_succ])
            refine takeAt (i := 16) (d := 144) (v := ?_) rfl (by kernel_rfl) (by kernel_rfl) (by kernel_rfl) (by kernel_rfl) (fun _ _ _ h => h) (Or.inl ⟨by kernel_rfl, ?_⟩) (by assumption) ?_
            rotate_left
            · (intro w hSw; (try dsimp only at hSw); go_simp; all_goals (with_reducible rfl))
            (try simp only [Act.put, List.setIfInBounds_toArray, List.set_cons_zero, List.set_cons_succ])
            refine takeAt (i := 17) (d := 145) (v := ?_) rfl (by kernel_rfl) (by kernel_rfl) (by kernel_rfl) (by kernel_rfl) (fun _ _ _ h => h) (Or.inl ⟨by kernel_rfl, ?_⟩) (by assumption) ?_
            rotate_left
            · (intro w hSw; (try dsimp only at hSw); go_simp; all_goals (with_reducible rfl))
            (try simp only [Act.put, List.setIfInBounds_toArray, List.set_cons_zero, List.set_cons_succ])
            refine takeAt (i := 18) (d := 146) (v := ?_) rfl (by kernel_rfl) (by kernel_rfl) (by kernel_rfl) (by kernel_rfl) (fun _ _ _ h => h) (Or.inl ⟨by kernel_rfl, ?_⟩) (by assumption) ?_
            rotate_left
            · (intro w hSw; (try dsimp only at hSw); go_simp; all_goals (with_reducible rfl))
            (try simp only [Act.put, List.setIfInBounds_toArray, List.set_cons_zero, List.set_cons_succ])
            refine takeAt (i := 19) (d := 147) (v := ?_) rfl (by kernel_rfl) (by kernel_rfl) (by kernel_rfl) (by kernel_rfl) (fun _ _ _ h => h) (Or.inl ⟨by kernel_rfl, ?_⟩) (by assumption) ?_
            rotate_left
            · (intro w hSw; (try dsimp only at hSw); go_simp; all_goals (with_reducible rfl))
            (try simp only [Act.put, List.setIfInBounds_toArray, List.set_cons_zero, List.set_cons_succ])
            refine takeAt (i := 20) (d := 148) (v := ?_) rfl (by kernel_rfl) (by kernel_rfl) (by kernel_rfl) (by kernel_rfl) (fun _ _ _ h => h) (Or.inl ⟨by kernel_rfl, ?_⟩) (by assumption) ?_
            rotate_left
            · (intro w hSw; (try dsimp only at hSw); go_simp; all_goals (with_reducible rfl))
            (try simp only [Act.put, List.setIfInBounds_toArray, List.set_cons_zero, List.set_cons_succ])
            refine takeAt (i := 21) (d := 149) (v := ?_) rfl (by kernel_rfl) (by kernel_rfl) (by kernel_rfl) (by kernel_rfl) (fun _ _ _ h => h) (Or.inl ⟨by kernel_rfl, ?_⟩) (by assumption) ?_
            rotate_left
            · (intro w hSw; (try dsimp only at hSw); go_simp; all_goals (with_reducible rfl))
            (try simp only [Act.put, List.setIfInBounds_toArray, List.set_cons_zero, List.set_cons_succ])
            refine takeAt (i := 22) (d := 150) (v := ?_) rfl (by kernel_rfl) (by kernel_rfl) (by kernel_rfl) (by kernel_rfl) (fun _ _ _ h => h) (Or.inl ⟨by kernel_rfl, ?_⟩) (by assumption) ?_
            rotate_left
            · (intro w hSw; (try dsimp only at hSw); go_simp; all_goals (with_reducible rfl))
            (try simp only [Act.put, List.setIfInBounds_toArray, List.set_cons_zero, List.set_cons_succ])
            refine takeAt (i := 23) (d := 151) (v := ?_) rfl (by kernel_rfl) (by kernel_rfl) (by kernel_rfl) (by kernel_rfl) (fun _ _ _ h => h) (Or.inl ⟨by kernel_rfl, ?_⟩) (by assumption) ?_
            rotate_left
            · (intro w hSw; (try dsimp only at hSw); go_simp; all_goals (with_reducible rfl))
            (try simp only [Act.put, List.setIfInBounds_toArray, List.set_cons_zero, List.set_cons_succ])
            refine takeAt (i := 24) (d := 152) (v := ?_) rfl (by kernel_rfl) (by kernel_rfl) (by kernel_rfl) (by kernel_rfl) (fun _ _ _ h => h) (Or.inl ⟨by kernel_rfl, ?_⟩) (by assumption) ?_
            rotate_left
            · (intro w hSw; (try dsimp only at hSw); go_simp; all_goals (with_reducible rfl))
            (try simp only [Act.put, List.setIfInBounds_toArray, List.set_cons_zero, List.set_cons_succ])
            have hHB := hHeld.1.2
            have hcont := fun wx hb => moved1 (w := wx) HRL hkL HXL HLk.out hb
            have HCONT := Lib.hid hcont
            clear hcont
            refine wpAnyH_ready (rs := [25]) (by kernel_rfl) (by simp) ?_
            refine AllReadyH.cons rfl (fun K hK => ?_) AllReadyH.nil
            clear hHeld
            go_simp
            refine (HCONT.out _ hHB).mono ?_
            rintro e w' ⟨g2, cc2, rfl, hg2, hq2, hqq2⟩
            go_wp2_with fail
            refine hK.out _ _ ⟨keepW HKW hq2, ?_⟩ (fun hHeld0 => ?_)
            · exact cell_below hqq2.out hg1
            refine wpAnyH_more (S' := fun w' => (((w'.cell? ⟨eb, eo + (k + 1), none⟩ = some (.int .i64 mE) ∧ w'.cell? ⟨lb, lo + (k + 1), none⟩ = some (.int .i64 mL) ∧ w'.cell? ⟨ob, oo + (k + 1), none⟩ = some (.int .i64 (xO + 1))) ∧ Hid (Below wr.heap.size wr w')) ∧ w'.cell? ⟨g1, 0, none⟩ = some (.int .i64 mE)) ∧ w'.cell? ⟨g2, 0, none⟩ = some (.int .i64 mL)) (fun _ h => h.1) ?_
            have hHeld : (((w'.cell? ⟨eb, eo + (k + 1), none⟩ = some (.int .i64 mE) ∧ w'.cell? ⟨lb, lo + (k + 1), none⟩ = some (.int .i64 mL) ∧ w'.cell? ⟨ob, oo + (k + 1), none⟩ = some (.int .i64 (xO + 1))) ∧ Hid (Below wr.heap.size wr w')) ∧ w'.cell? ⟨g1, 0, none⟩ = some (.int .i64 mE)) ∧ w'.cell? ⟨g2, 0, none⟩ = some (.int .i64 mL) := ⟨⟨keepW HKW hq2, cell_below hqq2.out hg1⟩, hg2⟩
            clear hK K hHeld0
            (try refine stateAt (d := 153) (by kernel_rfl) ?_)
            (try simp only [Act.put, List.setIfInBounds_toArray, List.set_cons_zero, List.set_cons_succ])
            refine takeAt (i := 26) (d := 154) (v := ?_) rfl (by kernel_rfl) (by kernel_rfl) (by kernel_rfl) (by kernel_rfl) (fun _ _ _ h => h) (Or.inl ⟨by kernel_rfl, ?_⟩) (by assumption) ?_
            rotate_left
            · (intro w hSw; (try dsimp only at hSw); go_simp; all_goals (with_reducible rfl))
            (try simp only [Act.put, List.setIfInBounds_toArray, List.set_cons_zero, List.set_cons_succ])
            refine takeAt (i := 27) (d := 155) (v := ?_) rfl (by kernel_rfl) (by kernel_rfl) (by kernel_rfl) (by kernel_rfl) (fun _ _ _ h => h) (Or.inl ⟨by kernel_rfl, ?_⟩) (by assumption) ?_
            rotate_left
            · (intro w hSw; (try dsimp only at hSw); go_simp; all_goals (with_reducible rfl))
            (try simp only [Act.put, List.setIfInBounds_toArray, List.set_cons_zero, List.set_cons_succ])
            refine takeAt (i := 28) (d := 156) (v := ?_) rfl (by kernel_rfl) (by kernel_rfl) (by kernel_rfl) (by kernel_rfl) (fun _ _ _ h => h) (Or.inl ⟨by kernel_rfl, ?_⟩) (by assumption) ?_
            rotate_left
            · (intro w hSw; (try dsimp only at hSw); go_simp; all_goals (with_reducible rfl))
            (try simp only [Act.put, List.setIfInBounds_toArray, List.set_cons_zero, List.set_cons_succ])
            refine takeAt (i := 29) (d := 157) (v := ?_) rfl (by kernel_rfl) (by kernel_rfl) (by kernel_rfl) (by kernel_rfl) (fun _ _ _ h => h) (Or.inl ⟨by kernel_rfl, ?_⟩) (by assumption) ?_
            rotate_left
            · (intro w hSw; (try dsimp only at hSw); go_simp; all_goals (with_reducible rfl))
            (try simp only [Act.put, List.setIfInBounds_toArray, List.set_cons_zero, List.set_cons_succ])
            refine takeAt (i := 30) (d := 158) (v := ?_) rfl (by kernel_rfl) (by kernel_rfl) (by kernel_rfl) (by kernel_rfl) (fun _ _ _ h => h) (Or.inl ⟨by kernel_rfl, ?_⟩) (by assumption) ?_
            rotate_left
            · (intro w hSw; (try dsimp only at hSw); go_simp; all_goals (with_reducible rfl))
            (try simp only [Act.put, List.setIfInBounds_toArray, List.set_cons_zero, List.set_cons_succ])
            refine takeAt (i := 31) (d := 159) (v := ?_) rfl (by kernel_rfl) (by kernel_rfl) (by kernel_rfl) (by kernel_rfl) (fun _ _ _ h => h) (Or.inl ⟨by kernel_rfl, ?_⟩) (by assumption) ?_
            rotate_left
            · (intro w hSw; (try dsimp only at hSw); go_simp; all_goals (with_reducible rfl))
            (try simp only [Act.put, List.setIfInBounds_toArray, List.set_cons_zero, List.set_cons_succ])
            refine takeAt (i := 32) (d := 160) (v := ?_) rfl (by kernel_rfl) (by kernel_rfl) (by kernel_rfl) (by kernel_rfl) (fun _ _ _ h => h) (Or.inl ⟨by kernel_rfl, ?_⟩) (by assumption) ?_
            rotate_left
            · (intro w hSw; (try dsimp only at hSw); go_simp; all_goals (with_reducible rfl))
            (try simp only [Act.put, List.setIfInBounds_toArray, List.set_cons_zero, List.set_cons_succ])
            refine takeAt (i := 33) (d := 161) (v := ?_) rfl (by kernel_rfl) (by kernel_rfl) (by kernel_rfl) (by kernel_rfl) (fun _ _ _ h => h) (Or.inl ⟨by kernel_rfl, ?_⟩) (by assumption) ?_
            rotate_left
            · (intro w hSw; (try dsimp only at hSw); go_simp; all_goals (with_reducible rfl))
            (try simp only [Act.put, List.setIfInBounds_toArray, List.set_cons_zero, List.set_cons_succ])
            refine takeAt (i := 34) (d := 162) (v := ?_) rfl (by kernel_rfl) (by kernel_rfl) (by kernel_rfl) (by kernel_rfl) (fun _ _ _ h => h) (Or.inl ⟨by kernel_rfl, ?_⟩) (by assumption) ?_
            rotate_left
            · (intro w hSw; (try dsimp only at hSw); go_simp; all_goals (with_reducible rfl))
            (try simp only [Act.put, List.setIfInBounds_toArray, List.set_cons_zero, List.set_cons_succ])
            refine takeAt (i := 35) (d := 163) (v := ?_) rfl (by kernel_rfl) (by kernel_rfl) (by kernel_rfl) (by kernel_rfl) (fun _ _ _ h => h) (Or.inl ⟨by kernel_rfl, ?_⟩) (by assumption) ?_
            rotate_left
            · (intro w hSw; (try dsimp only at hSw); go_simp; all_goals (with_reducible rfl))
            (try simp only [Act.put, List.setIfInBounds_toArray, List.set_cons_zero, List.set_cons_succ])
            refine takeAt (i := 36) (d := 164) (v := ?_) rfl (by kernel_rfl) (by kernel_rfl) (by kernel_rfl) (by kernel_rfl) (fun _ _ _ h => h) (Or.inl ⟨by kernel_rfl, ?_⟩) (by assumption) ?_
            rotate_left
            · (intro w hSw; (try dsimp only at hSw); go_simp; all_goals (with_reducible rfl))
            (try simp only [Act.put, List.setIfInBounds_toArray, List.set_cons_zero, List.set_cons_succ])
            refine takeAt (i := 37) (d := 165) (v := ?_) rfl (by kernel_rfl) (by kernel_rfl) (by kernel_rfl) (by kernel_rfl) (fun _ _ _ h => h) (Or.inl ⟨by kernel_rfl, ?_⟩) (by assumption) ?_
            rotate_left
            · (intro w hSw; (try dsimp only at hSw); go_simp; all_goals (with_reducible rfl))
            (try simp only [Act.put, List.setIfInBounds_toArray, List.set_cons_zero, List.set_cons_succ])
            refine takeAt (i := 38) (d := 166) (v := ?_) rfl (by kernel_rfl) (by kernel_rfl) (by kernel_rfl) (by kernel_rfl) (fun _ _ _ h => h) (Or.inl ⟨by kernel_rfl, ?_⟩) (by assumption) ?_
            rotate_left
            · (intro w hSw; (try dsimp only at hSw); go_simp; all_goals (with_reducible rfl))
            (try simp only [Act.put, List.setIfInBounds_toArray, List.set_cons_zero, List.set_cons_succ])
            refine wpAnyH_done (by kernel_rfl) ?_ _
            go_wp2_with fail
            go_meet
            exact ⟨rfl, hq2⟩
          case rest =>
          obtain ⟨rfl, HBc⟩ := hcut
          clear y1 y2 y3 y0 z1 z2 hEk hLk
          have HBW := Lib.hid (below_next HB.out HBc.out)
          have HCc := Lib.hid (Cd.bel HC8.out HBW.out)
          have HWc := Lib.hid (Cd.bel HCD8.out HBW.out)
          obtain ⟨wa7, wc7, rfl, _⟩ := HWc.out.len
          have HXk := Lib.hid (getD_ins hlt)
          have HOK : Hid ((opsOf l).getD k 0 = l[k].op) := Lib.hid (opsOf_at hlt)
          have HXw : Hid ((wrL l).getD ((k : Int) + 1).toNat insZ = l[k]) := Lib.hid (wrL_at hlt)
          obtain ⟨b, off, vl, rfl, x0, x1, x2, hrl⟩ := Cd.at_ HCc.out hlt
          have HRL2 := Lib.hid hrl
          have hxll := HLL2.out k hlt
          obtain ⟨x, hx⟩ : ∃ x, l[k] = x := ⟨_, rfl⟩
          rw [hx] at x0 x1 hrl HRL2 HXk HOK HXw hxll
          obtain ⟨op, xa, xl⟩ := x
          simp only at x0 x1 HRL2 HOK hxll
          have HLB : Hid (labelsP (opsOf l) (k : Int) = labP O k) := Lib.hid (by rw [← HOg.out]; exact labelsP_some HER.out (n := k) (by rw [HLO.out]; exact hlt))
          obtain ⟨N, hN⟩ : ∃ N, (labP O k).length = N := ⟨_, rfl⟩
          have HN := Lib.hid hN
          obtain ⟨A, hA⟩ : ∃ A, nextsP (opsOf l) (k : Int) xa xl = A := ⟨_, rfl⟩
          obtain ⟨B, hB⟩ : ∃ B, nextsP (wrO (opsOf l)) ((k : Int) + 1) xa xl = B := ⟨_, rfl⟩
          obtain ⟨b10, hb10⟩ : ∃ b, ((op : Int) == 10) = b := ⟨_, rfl⟩
          have HA := Lib.hid hA
          have HBB := Lib.hid hB
          have HAl : Hid (A.length ≤ 1048577) := Lib.hid (by rw [← hA]; have := nextsP_len' (opsOf l) (k : Int) xa xl; rw [HLO.out] at this; omega)
          have h8 : (wrO (opsOf l)).length = l.length + 2 := by rw [← wrL_ops, opsOf_len, wrL_len]
          have h9 := nextsP_len' (wrO (opsOf l)) ((k : Int) + 1) xa xl
          have HBl : Hid (B.length ≤ 1048577) := Lib.hid (by rw [← hB]; omega)
          clear h8 h9
          have HAb : Hid (∀ x ∈ A, -1 ≤ x ∧ x ≤ 1048577) := Lib.hid (by rw [← hA]; intro y hy; have := nextsP_mem (opsOf l) (k : Int) xa xl y hy; rw [HLO.out] at this; omega)
          have HMB2 : Hid (namedP op xa xl N → movedP A l.length b10 = B) := Lib.hid (fun hn => by
            have h1 := HNX.out k xa xl hlt (by rw [HOK.out, hN]; exact hn)
            rw [hA, HOK.out] at h1
            rw [← hB, ← hb10]
            rw [show ((op : Int) == 10) = decide (op = 10) by rw [Bool.eq_iff_iff]; simp; omega]
            rw [← h1]
            simp)
          have hb0 := hid_refl wc
          have HLab : Hid (∀ wx, Hid (Below wc.heap.size wc wx) → Calls Try.prog 13 #[.slice (some ⟨b, off, none⟩) l.length vc, .int .i64 k] wx fun e w' => ∃ a c, e = .returned (.slice a N c) ∧ Hid (Below wc.heap.size wc w')) := Lib.hid fun wx hb => by
            refine (control_Labels wx _ l k (Cd.bel HCc.out hb.out) (by omega)).mono ?_
            rintro e w' ⟨v', rfl, hb', ho⟩
            rw [HLB.out] at ho
            obtain ⟨a, c, rfl, _⟩ := own_slice ho
            rw [HN.out]
            exact ⟨a, c, rfl, Lib.hid (below_next hb.out hb')⟩
          have HNam : Hid (∀ wx, Hid (Below wc.heap.size wc wx) → Calls Try.prog 15 #[.agg #[.int .u8 op, .int .i64 xa, vl], .int .i64 N] wx fun e w' => e = .returned (.bool (decide (namedP op xa xl N))) ∧ Hid (Below wc.heap.size wc w')) := Lib.hid fun wx hb => by
            refine (law_named wx _ op xa vl xl N (HRL2.out.bel hb.out) hxll).mono ?_
            rintro e w' ⟨rfl, hb'⟩
            exact ⟨rfl, Lib.hid (below_next hb.out hb')⟩
          have HNc : Hid (∀ wx, Hid (Below wc.heap.size wc wx) → Calls Try.prog 17 #[.slice (some ⟨b, off, none⟩) l.length vc, .int .i64 k] wx fun e w' => ∃ a c, e = .returned (.slice a A.length c) ∧ Hid (Below wc.heap.size wc w') ∧ Hid (Below wx.heap.size wx w') ∧ Hid (RdI .i64 (· < w'.heap.size) w' (.slice a A.length c) A)) := Lib.hid fun wx hb => by
            refine (control_Next wx _ l k (Cd.bel HCc.out hb.out) (by omega) HLL2.out).mono ?_
            rintro e w' ⟨v', rfl, hb', ho⟩
            rw [show (k : Int).toNat = k by omega, HXk.out] at ho
            simp only [HA.out] at ho
            obtain ⟨a, c, rfl, _, _⟩ := ho.slice
            exact ⟨a, c, rfl, Lib.hid (below_next hb.out hb'), Lib.hid hb', Lib.hid (ho.rdI (by have := HAl.out; omega)).any⟩
          have HNw : Hid (∀ wx, Hid (Below wc.heap.size wc wx) → Calls Try.prog 17 #[.slice wa7 (wrL l).length wc7, .int .i64 ((k : Int) + 1)] wx fun e w' => ∃ a c, e = .returned (.slice a B.length c) ∧ Hid (Below wc.heap.size wc w') ∧ Hid (Below wx.heap.size wx w') ∧ Hid (RdI .i64 (· < w'.heap.size) w' (.slice a B.length c) B)) := Lib.hid fun wx hb => by
            refine (control_Next wx _ (wrL l) ((k : Int) + 1) (Cd.bel HWc.out hb.out) (by rw [wrL_len]; omega) (wrL_ll HLL2.out)).mono ?_
            rintro e w' ⟨v', rfl, hb', ho⟩
            rw [HXw.out, wrL_ops] at ho
            simp only [HBB.out] at ho
            obtain ⟨a, c, rfl, _, _⟩ := ho.slice
            exact ⟨a, c, rfl, Lib.hid (below_next hb.out hb'), Lib.hid hb', Lib.hid (ho.rdI (by have := HBl.out; omega)).any⟩
          have HKC := Lib.hid (And.intro x0 (And.intro x1 x2))
          clear hrl hN hA hB
          go_upto_region 27 with fail
          have i1 : (0 : Int) ≤ (k : Int) := by omega
          have i2 : (k : Int) < l.length := by omega
          have i3 : IntKind.i64.wrap ((k : Int) + 1) = (k : Int) + 1 := IntWalk.i64_in _ (by omega)
          by_cases hn : namedP op xa xl N
          · have HMv : Hid (∀ wx va, Hid (Below wc.heap.size wc wx) → Hid (RdI .i64 (· < wx.heap.size) wx va A) → Calls Try.prog 14 #[va, .int .i64 l.length, .bool b10] wx fun e w' => ∃ a c, e = .returned (.slice a B.length c) ∧ Hid (Below wc.heap.size wc w') ∧ Hid (Below wx.heap.size wx w') ∧ Hid (RdI .i64 (· < w'.heap.size) w' (.slice a B.length c) B)) := Lib.hid fun wx va hb hr => by
              refine (law_moved wx _ va A l.length b10 hr.out HAl.out HAb.out (by omega)).mono ?_
              rintro e w' ⟨v', rfl, hb', ho⟩
              rw [HMB2.out hn] at ho
              obtain ⟨a, c, rfl, _⟩ := own_slice ho
              exact ⟨a, c, rfl, Lib.hid (below_next hb.out hb'), Lib.hid hb', Lib.hid (ho.rd (by have := HBl.out; omega)).any⟩
            have HEq : Hid (∀ wx va vb, Hid (Below wc.heap.size wc wx) → Hid (RdI .i64 (· < wx.heap.size) wx va B) → Hid (RdI .i64 (· < wx.heap.size) wx vb B) → Calls Try.prog 16 #[va, vb] wx fun e w' => e = .returned (.bool true) ∧ Hid (Below wc.heap.size wc w')) := Lib.hid fun wx va vb hb h1 h2 => by
              refine (eqIntsT wx _ _ va vb B h1.out h2.out).mono ?_
              rintro e w' ⟨rfl, n, rfl⟩
              exact ⟨rfl, hid_drewN hb n⟩
            have hdn : decide (namedP op xa xl N) = true := decide_eq_true hn
            rw [hdn] at HNam
            generalize A.length = nA at *
            generalize B.length = nB at *
            clear hn hdn
            go_region_held3 (fun w' => (w'.cell? ⟨b, off + k * 3, none⟩ = some (.int .u8 op) ∧ w'.cell? ⟨b, off + k * 3 + 1, none⟩ = some (.int .i64 xa) ∧ w'.cell? ⟨b, off + k * 3 + 2, none⟩ = some vl) ∧ True ∧ Hid (Below wc.heap.size wc w')) (first | exact keep27 HKC (hid_drew hb0) | exact keep27 HKC (by assumption)) (first
              | (go_at_call 13; with_reducible refine (HLab.out _ (heldOf (by assumption))).mono ?_; rintro e w' ⟨a, c, rfl, hbL⟩)
              | (go_at_call 15; with_reducible refine (HNam.out _ (heldOf (by assumption))).mono ?_; rintro e w' ⟨rfl, hbN⟩)
              | (go_at_call 17; with_reducible refine (HNw.out _ (heldOf (by assumption))).mono ?_; rintro e w' ⟨a, c, rfl, hbW, hbW', hNW⟩; (try have hNC := Lib.hid (hNC.out.bel hbW'.out)); (try have hNM := Lib.hid (hNM.out.bel hbW'.out)))
              | (go_at_call 17; with_reducible refine (HNc.out _ (heldOf (by assumption))).mono ?_; rintro e w' ⟨a, c, rfl, hbC, hbC', hNC⟩; (try have hNW := Lib.hid (hNW.out.bel hbC'.out)))
              | (go_at_call 14; with_reducible refine (HMv.out _ _ (heldOf (by assumption)) hNC).mono ?_; rintro e w' ⟨a, c, rfl, hbM, hbM', hNM⟩; (try have hNW := Lib.hid (hNW.out.bel hbM'.out)))
              | (go_at_call 16; with_reducible refine (HEq.out _ _ _ (heldOf (by assumption)) hNW hNM).mono ?_; rintro e w' ⟨rfl, hbE⟩))
            all_goals
              have HBE := Lib.hid (below_next HBW.out hbE.out)
              go_wp2
              go_roundw
              case rel => exact ⟨k + 1, by omega, by go_num, HBE⟩
              case measure => simp [intOf]; omega
          · have hdn : decide (namedP op xa xl N) = false := decide_eq_false hn
            rw [hdn] at HNam
            clear hn hdn
            refine wp_region_held_drew (S := (fun w' => (w'.cell? ⟨b, off + k * 3, none⟩ = some (.int .u8 op) ∧ w'.cell? ⟨b, off + k * 3 + 1, none⟩ = some (.int .i64 xa) ∧ w'.cell? ⟨b, off + k * 3 + 2, none⟩ = some vl) ∧ True ∧ Hid (Below wc.heap.size wc w'))) (by kernel_rfl) (keep27 HKC (hid_drew hb0)) (fun hHeld => ?_)
            refine takeAt (i := 0) (d := 167) (v := ?_) rfl (by kernel_rfl) (by kernel_rfl) (by kernel_rfl) (by kernel_rfl) (fun _ _ _ h => h) (Or.inl ⟨by kernel_rfl, ?_⟩) (by assumption) ?_
            rotate_left
            · (intro w hSw; (try dsimp only at hSw); go_simp; all_goals (with_reducible rfl))
            (try simp only [Act.put, List.setIfInBounds_toArray, List.set_cons_zero, List.set_cons_succ])
            refine takeAt (i := 1) (d := 168) (v := ?_) rfl (by kernel_rfl) (by kernel_rfl) (by kernel_rfl) (by kernel_rfl) (fun _ _ _ h => h) (Or.inl ⟨by kernel_rfl, ?_⟩) (by assumption) ?_
            rotate_left
            · (intro w hSw; (try dsimp only at hSw); go_simp; all_goals (with_reducible rfl))
            (try simp only [Act.put, List.setIfInBounds_toArray, List.set_cons_zero, List.set_cons_succ])
            refine takeAt (i := 2) (d := 169) (v := ?_) rfl (by kernel_rfl) (by kernel_rfl) (by kernel_rfl) (by kernel_rfl) (fun _ _ _ h => h) (Or.inl ⟨by kernel_rfl, ?_⟩) (by assumption) ?_
            rotate_left
            · (intro w hSw; (try dsimp only at hSw); go_simp; all_goals (with_reducible rfl))
            (try simp only [Act.put, List.setIfInBounds_toArray, List.set_cons_zero, List.set_cons_succ])
            refine takeAt (i := 3) (d := 170) (v := ?_) rfl (by kernel_rfl) (by kernel_rfl) (by kernel_rfl) (by kernel_rfl) (fun _ _ _ h => h) (Or.inl ⟨by kernel_rfl, ?_⟩) (by assumption) ?_
            rotate_left
            · (intro w hSw; (try dsimp only at hSw); go_simp; all_goals (with_reducible rfl))
            (try simp only [Act.put, List.setIfInBounds_toArray, List.set_cons_zero, List.set_cons_succ])
            refine takeAt (i := 4) (d := 171) (v := ?_) rfl (by kernel_rfl) (by kernel_rfl) (by kernel_rfl) (by kernel_rfl) (fun _ _ _ h => h) (Or.inl ⟨by kernel_rfl, ?_⟩) (by assumption) ?_
            rotate_left
            · (intro w hSw; (try dsimp only at hSw); go_simp; all_goals (with_reducible rfl))
            (try simp only [Act.put, List.setIfInBounds_toArray, List.set_cons_zero, List.set_cons_succ])
            refine takeAt (i := 5) (d := 172) (v := ?_) rfl (by kernel_rfl) (by kernel_rfl) (by kernel_rfl) (by kernel_rfl) (fun _ _ _ h => h) (Or.inl ⟨by kernel_rfl, ?_⟩) (by assumption) ?_
            rotate_left
            · (intro w hSw; (try dsimp only at hSw); go_simp; all_goals (with_reducible rfl))
            (try simp only [Act.put, List.setIfInBounds_toArray, List.set_cons_zero, List.set_cons_succ])
            have hHB := hHeld.2.2
            refine wpAnyH_ready (rs := [6]) (by kernel_rfl) (by simp) ?_
            refine AllReadyH.cons rfl (fun K hK => ?_) AllReadyH.nil
            clear hHeld
            go_simp
            refine (HLab.out _ hHB).mono ?_
            rintro e w' ⟨a, c, rfl, hbL⟩
            go_wp2_with fail
            refine hK.out _ _ (keep27 HKC hbL) (fun hHeld => ?_)
            clear hK K hHB
            (try refine stateAt (d := 173) (by kernel_rfl) ?_)
            (try simp only [Act.put, List.setIfInBounds_toArray, List.set_cons_zero, List.set_cons_succ])
            refine takeAt (i := 7) (d := 174) (v := ?_) rfl (by kernel_rfl) (by kernel_rfl) (by kernel_rfl) (by kernel_rfl) (fun _ _ _ h => h) (Or.inl ⟨by kernel_rfl, ?_⟩) (by assumption) ?_
            rotate_left
            · (intro w hSw; (try dsimp only at hSw); go_simp; all_goals (with_reducible rfl))
            (try simp only [Act.put, List.setIfInBounds_toArray, List.set_cons_zero, List.set_cons_succ])
            have hHB := hHeld.2.2
            refine wpAnyH_ready (rs := [8]) (by kernel_rfl) (by simp) ?_
            refine AllReadyH.cons rfl (fun K hK => ?_) AllReadyH.nil
            clear hHeld
            go_simp
            refine (HNam.out _ hHB).mono ?_
            rintro e w' ⟨rfl, hbN⟩
            go_wp2_with fail
            refine hK.out _ _ (keep27 HKC hbN) (fun hHeld => ?_)
            clear hK K hHB
            (try refine stateAt (d := 175) (by kernel_rfl) ?_)
            (try simp only [Act.put, List.setIfInBounds_toArray, List.set_cons_zero, List.set_cons_succ])
            refine takeAt (i := 9) (d := 176) (v := ?_) rfl (by kernel_rfl) (by kernel_rfl) (by kernel_rfl) (by kernel_rfl) (fun _ _ _ h => h) (Or.inl ⟨by kernel_rfl, ?_⟩) (by assumption) ?_
            rotate_left
            · (intro w hSw; (try dsimp only at hSw); go_simp; all_goals (with_reducible rfl))
            (try simp only [Act.put, List.setIfInBounds_toArray, List.set_cons_zero, List.set_cons_succ])
            refine takeAt (i := 10) (d := 177) (v := undef) rfl (by kernel_rfl) (by kernel_rfl) (by kernel_rfl) (by kernel_rfl) (fun _ _ _ h => h) (Or.inr ⟨by kernel_rfl, rfl⟩) (by assumption) ?_
            (try simp only [Act.put, List.setIfInBounds_toArray, List.set_cons_zero, List.set_cons_succ])
            refine takeAt (i := 11) (d := 178) (v := undef) rfl (by kernel_rfl) (by kernel_rfl) (by kernel_rfl) (by kernel_rfl) (fun _ _ _ h => h) (Or.inr ⟨by kernel_rfl, rfl⟩) (by assumption) ?_
            (try simp only [Act.put, List.setIfInBounds_toArray, List.set_cons_zero, List.set_cons_succ])
            refine takeAt (i := 12) (d := 179) (v := undef) rfl (by kernel_rfl) (by kernel_rfl) (by kernel_rfl) (by kernel_rfl) (fun _ _ _ h => h) (Or.inr ⟨by kernel_rfl, rfl⟩) (by assumption) ?_
            (try simp only [Act.put, List.setIfInBounds_toArray, List.set_cons_zero, List.set_cons_succ])
            refine takeAt (i := 13) (d := 180) (v := undef) rfl (by kernel_rfl) (by kernel_rfl) (by kernel_rfl) (by kernel_rfl) (fun _ _ _ h => h) (Or.inr ⟨by kernel_rfl, rfl⟩) (by assumption) ?_
            (try simp only [Act.put, List.setIfInBounds_toArray, List.set_cons_zero, List.set_cons_succ])
            refine takeAt (i := 14) (d := 181) (v := undef) rfl (by kernel_rfl) (by kernel_rfl) (by kernel_rfl) (by kernel_rfl) (fun _ _ _ h => h) (Or.inr ⟨by kernel_rfl, rfl⟩) (by assumption) ?_
            (try simp only [Act.put, List.setIfInBounds_toArray, List.set_cons_zero, List.set_cons_succ])
            refine takeAt (i := 15) (d := 182) (v := undef) rfl (by kernel_rfl) (by kernel_rfl) (by kernel_rfl) (by kernel_rfl) (fun _ _ _ h => h) (Or.inr ⟨by kernel_rfl, rfl⟩) (by assumption) ?_
            (try simp only [Act.put, List.setIfInBounds_toArray, List.set_cons_zero, List.set_cons_succ])
            refine takeAt (i := 16) (d := 183) (v := undef) rfl (by kernel_rfl) (by kernel_rfl) (by kernel_rfl) (by kernel_rfl) (fun _ _ _ h => h) (Or.inr ⟨by kernel_rfl, rfl⟩) (by assumption) ?_
            (try simp only [Act.put, List.setIfInBounds_toArray, List.set_cons_zero, List.set_cons_succ])
            refine takeAt (i := 17) (d := 184) (v := undef) rfl (by kernel_rfl) (by kernel_rfl) (by kernel_rfl) (by kernel_rfl) (fun _ _ _ h => h) (Or.inr ⟨by kernel_rfl, rfl⟩) (by assumption) ?_
            (try simp only [Act.put, List.setIfInBounds_toArray, List.set_cons_zero, List.set_cons_succ])
            refine takeAt (i := 18) (d := 185) (v := undef) rfl (by kernel_rfl) (by kernel_rfl) (by kernel_rfl) (by kernel_rfl) (fun _ _ _ h => h) (Or.inr ⟨by kernel_rfl, rfl⟩) (by assumption) ?_
            (try simp only [Act.put, List.setIfInBounds_toArray, List.set_cons_zero, List.set_cons_succ])
            refine takeAt (i := 19) (d := 186) (v := undef) rfl (by kernel_rfl) (by kernel_rfl) (by kernel_rfl) (by kernel_rfl) (fun _ _ _ h => h) (Or.inr ⟨by kernel_rfl, rfl⟩) (by assumption) ?_
            (try simp only [Act.put, List.setIfInBounds_toArray, List.set_cons_zero, List.set_cons_succ])
            refine takeAt (i := 20) (d := 187) (v := undef) rfl (by kernel_rfl) (by kernel_rfl) (by kernel_rfl) (by kernel_rfl) (fun _ _ _ h => h) (Or.inr ⟨by kernel_rfl, rfl⟩) (by assumption) ?_
            (try simp only [Act.put, List.setIfInBounds_toArray, List.set_cons_zero, List.set_cons_succ])
            refine takeAt (i := 21) (d := 188) (v := undef) rfl (by kernel_rfl) (by kernel_rfl) (by kernel_rfl) (by kernel_rfl) (fun _ _ _ h => h) (Or.inr ⟨by kernel_rfl, rfl⟩) (by assumption) ?_
            (try simp only [Act.put, List.setIfInBounds_toArray, List.set_cons_zero, List.set_cons_succ])
            refine takeAt (i := 22) (d := 189) (v := undef) rfl (by kernel_rfl) (by kernel_rfl) (by kernel_rfl) (by kernel_rfl) (fun _ _ _ h => h) (Or.inr ⟨by kernel_rfl, rfl⟩) (by assumption) ?_
            (try simp only [Act.put, List.setIfInBounds_toArray, List.set_cons_zero, List.set_cons_succ])
            refine takeAt (i := 23) (d := 190) (v := undef) rfl (by kernel_rfl) (by kernel_rfl) (by kernel_rfl) (by kernel_rfl) (fun _ _ _ h => h) (Or.inr ⟨by kernel_rfl, rfl⟩) (by assumption) ?_
            (try simp only [Act.put, List.setIfInBounds_toArray, List.set_cons_zero, List.set_cons_succ])
            refine takeAt (i := 24) (d := 191) (v := undef) rfl (by kernel_rfl) (by kernel_rfl) (by kernel_rfl) (by kernel_rfl) (fun _ _ _ h => h) (Or.inr ⟨by kernel_rfl, rfl⟩) (by assumption) ?_
            (try simp only [Act.put, List.setIfInBounds_toArray, List.set_cons_zero, List.set_cons_succ])
            refine takeAt (i := 25) (d := 192) (v := undef) rfl (by kernel_rfl) (by kernel_rfl) (by kernel_rfl) (by kernel_rfl) (fun _ _ _ h => h) (Or.inr ⟨by kernel_rfl, rfl⟩) (by assumption) ?_
            (try simp only [Act.put, List.setIfInBounds_toArray, List.set_cons_zero, List.set_cons_succ])
            refine takeAt (i := 26) (d := 193) (v := undef) rfl (by kernel_rfl) (by kernel_rfl) (by kernel_rfl) (by kernel_rfl) (fun _ _ _ h => h) (Or.inr ⟨by kernel_rfl, rfl⟩) (by assumption) ?_
            (try simp only [Act.put, List.setIfInBounds_toArray, List.set_cons_zero, List.set_cons_succ])
            refine takeAt (i := 27) (d := 194) (v := ?_) rfl (by kernel_rfl) (by kernel_rfl) (by kernel_rfl) (by kernel_rfl) (fun _ _ _ h => h) (Or.inl ⟨by kernel_rfl, ?_⟩) (by assumption) ?_
            rotate_left
            · (intro w hSw; (try dsimp only at hSw); go_simp; all_goals (with_reducible rfl))
            (try simp only [Act.put, List.setIfInBounds_toArray, List.set_cons_zero, List.set_cons_succ])
            refine wpAnyH_done (by kernel_rfl) ?_ _
            have HBE := Lib.hid (below_next HBW.out hbN.out)
            go_wp2
            go_roundw
            case rel => exact ⟨k + 1, by omega, by go_num, HBE⟩
            case measure => simp [intOf]; omega
        · go_wp2
          go_ret
          exact ⟨rfl, below_next HB08.out HB.out⟩
  · have hen : (er != 0) = true := by simp [he]
    obtain ⟨a1, c1, rfl, _⟩ := own_slice HROW.out.r1
    go_wp2
    go_ret
    exact ⟨rfl, HB2.out⟩
end Go.Proofs.Ytiaoonlhgjfdjaa
