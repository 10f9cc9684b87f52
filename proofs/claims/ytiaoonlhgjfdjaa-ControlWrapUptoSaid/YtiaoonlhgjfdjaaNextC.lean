/- control.Next (printed by gen/nextc.py). -/
import Derived.Test.YtiaoonlhgjfdjaaNextTo
import Derived.Test.YtiaoonlhgjfdjaaSlices3
namespace Go.Proofs.Ytiaoonlhgjfdjaa
open Go Go.RowKit

theorem nextsP_none {ops : List Nat} {pc a : Int} {l : List Int} (h : (mapP ops).2.2.2.1 ≠ 0 ∨ pc < 0 ∨ (ops.length : Int) ≤ pc) : nextsP ops pc a l = [] := by rw [nextsP, if_pos h]
theorem nextsP_some {ops : List Nat} {n : Nat} {a : Int} {l : List Int} (h : (mapP ops).2.2.2.1 = 0) (hn : n < ops.length) :
    nextsP ops n a l = Lib.compact ((keepP (someP ops (mapP ops).1 (mapP ops).2.1 (labP (mapP ops).2.2.1 n) n a l)).mergeSort fun x y => decide (x ≤ y)) := by
  rw [nextsP, if_neg (by omega), Int.toNat_natCast, next_rise (mapP_ok h) hn]
theorem insD_at {l : List InsD} {n : Nat} (h : n < l.length) : l.getD n insZ = l[n] := by
  rw [List.getD_eq_getElem?_getD, List.getElem?_eq_getElem h]; rfl
section
variable {ops : List Nat} {E L lab xl : List Int} {n : Nat} {a : Int}
theorem some_0 (h : ops.getD n 0 = 0) : someP ops E L lab n a xl = [] := by unfold someP; rw [if_pos h]
theorem some_4 (h : ops.getD n 0 = 4) : someP ops E L lab n a xl = [(n : Int) + 1, if 0 ≤ L.getD n (-1) then L.getD n (-1) + 1 else E.getD n (-1)] := by unfold someP; rw [if_neg (by omega), if_pos h]
theorem some_5 (h : ops.getD n 0 = 5) : someP ops E L lab n a xl = [E.getD n (-1)] := by unfold someP; rw [if_neg (by omega), if_neg (by omega), if_pos h]
theorem some_7 (h : ops.getD n 0 = 7) : someP ops E L lab n a xl = [placeP ops E lab a] := by unfold someP; rw [if_neg (by omega), if_neg (by omega), if_neg (by omega), if_pos h]
theorem some_8 (h : ops.getD n 0 = 8) : someP ops E L lab n a xl = [(n : Int) + 1, placeP ops E lab a] := by unfold someP; rw [if_neg (by omega), if_neg (by omega), if_neg (by omega), if_neg (by omega), if_pos h]
theorem some_9 (h : ops.getD n 0 = 9) : someP ops E L lab n a xl = xl.map (placeP ops E lab) := by unfold someP; rw [if_neg (by omega), if_neg (by omega), if_neg (by omega), if_neg (by omega), if_neg (by omega), if_pos h]
theorem some_10 (h : ops.getD n 0 = 10) : someP ops E L lab n a xl = [(ops.length : Int)] := by unfold someP; rw [if_neg (by omega), if_neg (by omega), if_neg (by omega), if_neg (by omega), if_neg (by omega), if_neg (by omega), if_pos h]
theorem some_x (h0 : ¬ ops.getD n 0 = 0) (h4 : ¬ ops.getD n 0 = 4) (h5 : ¬ ops.getD n 0 = 5) (h7 : ¬ ops.getD n 0 = 7) (h8 : ¬ ops.getD n 0 = 8) (h9 : ¬ ops.getD n 0 = 9) (h10 : ¬ ops.getD n 0 = 10) : someP ops E L lab n a xl = [(n : Int) + 1] := by
  unfold someP; rw [if_neg h0, if_neg h4, if_neg h5, if_neg h7, if_neg h8, if_neg h9, if_neg h10]
end
theorem Nx.below {w W wr : World} {gl : Nat} {acc : List Int} (h : Nx W gl wr acc) (hb : Below w.heap.size w W) (hg : w.heap.size ≤ gl) : Below w.heap.size w wr :=
  ⟨h.kp.os.trans hb.os, h.kp.tape.trans hb.tape, h.kp.output.trans hb.output, Nat.le_trans hb.size h.kp.size, fun k hk => by
    have := h.lo; have := hb.size
    exact (h.kp.block k (by omega) ⟨by omega, by omega⟩).trans (hb.block k hk)⟩
/-- The list's box, behind a growth of its own row. -/
theorem Nx.cell8 {W wr w8 : World} {gl : Nat} {acc : List Int} {lv : Value} (h : Nx W gl wr acc) (hl : wr.heap[gl]? = some (.cells #[lv] 25 (0, 0))) (hg : wr.grownBy w8 lv.ownBlock) : w8.heap[gl]? = some (.cells #[lv] 25 (0, 0)) := by
  obtain ⟨lv', h1, h2⟩ := h.box
  rw [h1] at hl
  simp only [Option.some.injEq, Obj.cells.injEq, and_true] at hl
  obtain rfl : lv' = lv := by simpa using hl
  exact (hg.block gl (row_lt h1) (fun e => by have := (h2.lt gl e.symm).1; have := h.lo; omega)).trans h1
theorem Nx.finish {w W wr w8 w9 : World} {gl : Nat} {acc : List Int} {lv : Value} (h : Nx W gl wr acc) (hb : Below w.heap.size w W) (hg : w.heap.size ≤ gl) (hl : wr.heap[gl]? = some (.cells #[lv] 25 (0, 0))) (h8 : wr.grownBy w8 lv.ownBlock) (h9 : w8.grownBy w9 lv.ownBlock) : Below w.heap.size w w9 := by
  have hb' := h.below hb hg
  obtain ⟨lv', h1, h2⟩ := h.box
  rw [h1] at hl
  simp only [Option.some.injEq, Obj.cells.injEq, and_true] at hl
  obtain rfl : lv' = lv := by simpa using hl
  have hj : ∀ j, lv'.ownBlock = some j → w.heap.size ≤ j := fun j e => by have := (h2.lt j e).1; have := hb.size; omega
  have hb8 := hb'.grown h8 hb'.size hj
  exact hb8.grown h9 hb8.size hj
theorem Nx.set {W wr : World} {gl g n c k : Nat} {acc : List Int} (h : Nx W gl wr acc) (hl : wr.heap[gl]? = some (.cells #[.slice (some ⟨g, 0, none⟩) n c] 25 (0, 0))) (x : Int) : Nx W gl (wr.setCell ⟨g, k, none⟩ (.int .i64 x)) (acc.set k x) := by
  obtain ⟨lv', h1, h2⟩ := h.box
  rw [h1] at hl
  simp only [Option.some.injEq, Obj.cells.injEq, and_true] at hl
  obtain rfl : lv' = _ := by simpa using hl
  have hg := (h2.lt g rfl).1
  have := h.lo
  refine ⟨h.kp.setCell (a := ⟨g, k, none⟩) (fun hlt _ => absurd hlt (Nat.not_lt.2 hg)) _, h.lo, _, (Below.heap_setCell _ _ _ _ (by show gl ≠ g; omega)).trans h1, h2.set x⟩
theorem Nx.old {W wr : World} {gl b : Nat} {acc : List Int} {o : Obj} (h : Nx W gl wr acc) (hb : W.heap[b]? = some o) (hne : b ≠ gl) : wr.heap[b]? = some o := (h.kp.block b (row_lt hb) ⟨row_lt hb, hne⟩).trans hb
theorem CdS.mono {S T : Nat → Prop} {w : World} {v : Value} {l : List InsD} (h : CdS S w v l) (hS : ∀ b, b < w.heap.size → S b → T b) : CdS T w v l := RdL.mono h (by omega) hS fun _ _ hr => hr.mono hS
set_option maxRecDepth 100000 in
set_option maxHeartbeats 25600000 in
theorem control_Next (w : World) (v : Value) (l : List InsD) (pc : Int) (hc : Cd w v l) (hl : l.length ≤ 1048576) (hll : ∀ j (h : j < l.length), l[j].l.length ≤ 1048576) :
    Calls Try.prog 17 #[v, .int .i64 pc] w fun e w' => ∃ v', e = .returned v' ∧ Below w.heap.size w w' ∧
      Own2 w' w.heap.size 3 1 v' (nextsP (opsOf l) pc (l.getD pc.toNat insZ).a (l.getD pc.toNat insZ).l).length (ints (nextsP (opsOf l) pc (l.getD pc.toNat insZ).a (l.getD pc.toNat insZ).l)) := by
  obtain ⟨i0, hi, hz0, hz1, hz2⟩ := info_parts Try.infoIntF
  obtain ⟨va, vc, rfl, _⟩ := hc.len
  have HLL := Lib.hid hll
  have HLO : Hid ((opsOf l).length = l.length) := Lib.hid (opsOf_len l)
  have hb1 := below_alloc w (.cells #[.slice va l.length vc] 22)
  have hr1 := heap_alloc_new w (.cells #[.slice va l.length vc] 22)
  have HM := Lib.hid (control_Map _ _ l (Cd.bel hc hb1) hl)
  have HC := Lib.hid hc; have HB1 := Lib.hid hb1; have HR1 := Lib.hid hr1
  have hs1 : w.heap.size < (w.alloc (.cells #[.slice va l.length vc] 22)).heap.size := row_lt hr1
  clear hll hc hb1 hr1
  go_enter Try.func17, Try.ntmps17
  go_wp2_with fail
  generalize w.alloc (.cells #[.slice va l.length vc] 22) = w1 at *
  refine HM.out.mono ?_
  rintro e w2 ⟨v1, v2, v3, rfl, hA⟩
  obtain ⟨a1, c1, rfl, _⟩ := own_slice hA.rows.r1
  have hr2 := (hA.bel.block _ (row_lt HR1.out)).trans HR1.out
  have hB2 := below_next HB1.out hA.bel
  have hb3 := below_alloc w2 (.cells #[.slice a1 (mapP (opsOf l)).1.length c1] 25)
  have hr3 := heap_alloc_new w2 (.cells #[.slice a1 (mapP (opsOf l)).1.length c1] 25)
  have hrc := (hb3.block _ (row_lt hr2)).trans hr2
  have cc := row_cell hrc 0 rfl
  simp only [List.getElem_toArray, List.getElem_cons_zero] at cc
  have HRC := Lib.hid hrc
  have HR3 := Lib.hid hr3
  have HB3 := Lib.hid (below_next hB2 hb3)
  have HA := Lib.hid (hA.rows.on hb3)
  have hs2 := hA.bel.size
  have HS2 := Lib.hid hs2
  clear hA hr2 hB2 hb3 hr3 hrc HM HB1 HR1
  obtain ⟨er, her⟩ : ∃ er, (mapP (opsOf l)).2.2.2.1 = er := ⟨_, rfl⟩
  have HER := Lib.hid her
  rw [her]
  generalize (mapP (opsOf l)).2.2.2.2 = q at *
  clear her
  by_cases he : er ≠ 0
  · have HF := Lib.hid (fun a xl => nextsP_none (ops := opsOf l) (pc := pc) (a := a) (l := xl) (.inl (by rw [HER.out]; exact he)))
    go_wp2
    go_ret
    exact ⟨_, rfl, HB3.out, by rw [HF.out]; exact .inl (World.ownsRow_nil _ _ _ _)⟩
  obtain rfl : er = 0 := Decidable.not_not.1 he
  clear he
  by_cases h0 : pc < 0
  · have HF := Lib.hid (fun a xl => nextsP_none (ops := opsOf l) (pc := pc) (a := a) (l := xl) (.inr (.inl h0)))
    go_wp2
    go_ret
    exact ⟨_, rfl, HB3.out, by rw [HF.out]; exact .inl (World.ownsRow_nil _ _ _ _)⟩
  by_cases h1 : (l.length : Int) ≤ pc
  · have HF := Lib.hid (fun a xl => nextsP_none (ops := opsOf l) (pc := pc) (a := a) (l := xl) (.inr (.inr (by rw [HLO.out]; exact h1))))
    go_wp2
    go_ret
    exact ⟨_, rfl, HB3.out, by rw [HF.out]; exact .inl (World.ownsRow_nil _ _ _ _)⟩
  obtain ⟨n, rfl⟩ : ∃ n : Nat, pc = n := ⟨pc.toNat, by omega⟩
  have hn : n < l.length := by omega
  have HK := Lib.hid (mapP_ok HER.out)
  have HF := Lib.hid (nextsP_some (a := l[n].a) (l := l[n].l) HER.out (by rw [HLO.out]; exact hn))
  clear HER
  generalize (mapP (opsOf l)).1 = E at *
  generalize (mapP (opsOf l)).2.1 = L at *
  generalize (mapP (opsOf l)).2.2.1 = O at *
  have hlE : Hid (E.length = l.length) := Lib.hid (by rw [HK.out.le, HLO.out])
  have hlL : Hid (L.length = l.length) := Lib.hid (by rw [HK.out.ll, HLO.out])
  have hlO : Hid (O.length = l.length) := Lib.hid (by rw [HK.out.lo, HLO.out])
  have d1 : decide ((n : Int) < 0) = false := decide_eq_false (by omega)
  have d2 : decide (l.length ≤ n) = false := decide_eq_false (by omega)
  have hb4 := below_alloc (w2.alloc (.cells #[.slice a1 E.length c1] 25)) (.cells #[.slice none 0 0] 25)
  have hr4 := heap_alloc_new (w2.alloc (.cells #[.slice a1 E.length c1] 25)) (.cells #[.slice none 0 0] 25)
  have hrc4 := (hb4.block _ (row_lt HRC.out)).trans HRC.out
  have hre4 := (hb4.block _ (row_lt HR3.out)).trans HR3.out
  have HA4 := Lib.hid (HA.out.on hb4)
  have HB4 := Lib.hid (below_next HB3.out hb4)
  have hsg : (w2.alloc (.cells #[.slice a1 E.length c1] 25)).heap.size = w2.heap.size + 1 := World.size_alloc _ _
  have hsg4 : ((w2.alloc (.cells #[.slice a1 E.length c1] 25)).alloc (.cells #[.slice none 0 0] 25)).heap.size = w2.heap.size + 1 + 1 := by rw [World.size_alloc, hsg]
  rw [hsg] at hr4
  have HLT : Hid ((∀ g, (Value.slice a1 E.length c1).ownBlock = some g → g < w2.heap.size + 1) ∧ (∀ g, v2.ownBlock = some g → g < w2.heap.size + 1)) := Lib.hid ⟨fun g h => by have := (HA.out.r1.lt g h).2; rw [hsg] at this; exact this, fun g h => by have := (HA.out.r2.lt g h).2; rw [hsg] at this; exact this⟩
  go_upto_region 5 with fail
  clear d1 d2
  generalize (w2.alloc (.cells #[.slice a1 E.length c1] 25)).alloc (.cells #[.slice none 0 0] 25) = w4 at *
  have HR4 := Lib.hid (And.intro hr4 (And.intro hrc4 hre4))
  have HSZ := Lib.hid hsg4
  clear hb4 hr4 hrc4 hre4 hsg cc HRC HR3 HB3 HA hsg4
  go_wp2_with fail
  refine (control_labels w4 _ v3 O n (HA4.out.r3.rd (by rw [hlO.out]; omega)) (by rw [hlO.out]; exact hn) HK.out.own (by rw [hlO.out]; exact hl)).mono ?_
  rintro e w5 ⟨av, rfl, hb5, ho5⟩
  obtain ⟨la, lc, rfl, _⟩ := own_slice ho5
  have HLN := Lib.hid (HK.out.lab (pc := n) (by rw [HLO.out]; exact hn))
  have HLB : Hid (∃ lab, labP O n = lab) := Lib.hid ⟨_, rfl⟩
  obtain ⟨lab, hlab⟩ := HLB.out
  rw [hlab] at HLN ho5 HF ⊢
  clear hlab HLB
  have hb6 := below_alloc w5 (.cells #[.slice la lab.length lc] 25)
  have hr6 := heap_alloc_new w5 (.cells #[.slice la lab.length lc] 25)
  have hb46 := below_next hb5 hb6
  have hs6 : (w5.alloc (.cells #[.slice la lab.length lc] 25)).heap.size = w5.heap.size + 1 := World.size_alloc _ _
  have cc := row_cell ((hb46.block _ (row_lt HR4.out.2.1)).trans HR4.out.2.1) 0 rfl
  simp only [List.getElem_toArray, List.getElem_cons_zero] at cc
  obtain ⟨b, off, xv, rfl, x0, x1, x2, hxr⟩ := Cd.at_ (CdS.keeps HC.out (Keeps.all (· < w.heap.size) (below_next HB4.out hb46)) fun _ h => h) hn
  have HOP : Hid ((opsOf l).getD n 0 = l[n].op) := Lib.hid (opsOf_at hn)
  have hxll : l[n].l.length ≤ 1048576 := HLL.out n hn
  obtain ⟨xa, xc, rfl, hxl⟩ := hxr.lenc
  have HXR := Lib.hid hxr
  have HEQ : Hid (l.getD n insZ = l[n]) := Lib.hid (insD_at hn)
  generalize hX : l[n] = X at *
  clear hX hxr
  obtain ⟨op, x, xl⟩ := X
  simp only at *
  have hb7 := below_alloc (w5.alloc (.cells #[.slice la lab.length lc] 25)) (.cells #[.int .u8 op, .int .i64 x, .slice xa xl.length xc] 31)
  have hr7 := heap_alloc_new (w5.alloc (.cells #[.slice la lab.length lc] 25)) (.cells #[.int .u8 op, .int .i64 x, .slice xa xl.length xc] 31)
  have hs7 : ((w5.alloc (.cells #[.slice la lab.length lc] 25)).alloc (.cells #[.int .u8 op, .int .i64 x, .slice xa xl.length xc] 31)).heap.size = w5.heap.size + 1 + 1 := by rw [World.size_alloc, hs6]
  go_upto_region 8 with fail
  have hb47 := below_next hb46 hb7
  have HBW := Lib.hid (below_next HB4.out hb47)
  have hs5 := hb5.size
  have hS1 := HSZ.out
  have hS2 := HS2.out
  have hgs : w.heap.size < w2.heap.size := by omega
  have hlen1 : lab.length ≤ 140737488355328 := by have := HLN.out.2; omega
  have HNF : Hid (Nf ((w5.alloc (.cells #[.slice la lab.length lc] 25)).alloc (.cells #[.int .u8 op, .int .i64 x, .slice xa xl.length xc] 31)) (w2.heap.size + 1) w5.heap.size w.heap.size w2.heap.size l lab E) := Lib.hid (by
    refine ⟨⟨_, (hb7.block _ (row_lt hr6)).trans hr6, ((ho5.rd hlen1).mono fun b hb e => ?_).keeps (Keeps.all _ (below_next hb6 hb7))⟩, ⟨_, (hb47.block _ (row_lt HR4.out.2.2)).trans HR4.out.2.2, ((HA4.out.r1.rd (by rw [hlE.out]; omega)).mono fun b hb e => ?_).keeps (Keeps.all _ hb47)⟩, ⟨_, (hb47.block _ (row_lt HR4.out.2.1)).trans HR4.out.2.1, (CdS.keeps HC.out (Keeps.all (· < w.heap.size) HBW.out) fun _ h => h).mono fun b _ hb => ?_⟩, ?_⟩
    · have := ho5.lt b e; rw [hs7]; omega
    · have := HLT.out.1 b e; rw [hs7]; omega
    · rw [hs7]; omega
    · omega)
  have HLe : Hid (RdI .i64 (fun b => b < ((w5.alloc (.cells #[.slice la lab.length lc] 25)).alloc (.cells #[.int .u8 op, .int .i64 x, .slice xa xl.length xc] 31)).heap.size ∧ b ≠ w2.heap.size + 1) ((w5.alloc (.cells #[.slice la lab.length lc] 25)).alloc (.cells #[.int .u8 op, .int .i64 x, .slice xa xl.length xc] 31)) v2 L) := Lib.hid (((HA4.out.r2.rd (by rw [hlL.out]; omega)).mono fun b hb e => by have := HLT.out.2 b e; rw [hs7]; omega).keeps (Keeps.all _ hb47))
  have HXL : Hid (RdI .i64 (fun b => b < ((w5.alloc (.cells #[.slice la lab.length lc] 25)).alloc (.cells #[.int .u8 op, .int .i64 x, .slice xa xl.length xc] 31)).heap.size ∧ b ≠ w2.heap.size + 1) ((w5.alloc (.cells #[.slice la lab.length lc] 25)).alloc (.cells #[.int .u8 op, .int .i64 x, .slice xa xl.length xc] 31)) (.slice xa xl.length xc) xl) := Lib.hid ((HXR.out.mono fun b hb e => by rw [hs7]; omega).keeps (Keeps.all _ hb7))
  have HLB : Hid (((w5.alloc (.cells #[.slice la lab.length lc] 25)).alloc (.cells #[.int .u8 op, .int .i64 x, .slice xa xl.length xc] 31)).heap[w2.heap.size + 1]? = some (.cells #[.slice none 0 0] 25 (0, 0))) := Lib.hid ((hb47.block _ (row_lt HR4.out.1)).trans HR4.out.1)
  have HNX : Hid (Nx ((w5.alloc (.cells #[.slice la lab.length lc] 25)).alloc (.cells #[.int .u8 op, .int .i64 x, .slice xa xl.length xc] 31)) (w2.heap.size + 1) ((w5.alloc (.cells #[.slice la lab.length lc] 25)).alloc (.cells #[.int .u8 op, .int .i64 x, .slice xa xl.length xc] 31)) []) := Lib.hid ⟨Keeps.refl _ _, row_lt HLB.out, _, HLB.out, World.ownsRow_nil _ _ _ _⟩
  have HRX : Hid (((w5.alloc (.cells #[.slice la lab.length lc] 25)).alloc (.cells #[.int .u8 op, .int .i64 x, .slice xa xl.length xc] 31)).heap[w5.heap.size + 1]? = some (.cells #[.int .u8 op, .int .i64 x, .slice xa xl.length xc] 31 (0, 0)) ∧ w5.heap.size + 1 ≠ w2.heap.size + 1) := Lib.hid ⟨by rw [hs6] at hr7; exact hr7, by omega⟩
  have HGL : Hid (w.heap.size ≤ w2.heap.size + 1) := Lib.hid (by omega)
  generalize (w5.alloc (.cells #[.slice la lab.length lc] 25)).alloc (.cells #[.int .u8 op, .int .i64 x, .slice xa xl.length xc] 31) = W at *
  clear hb47 hb46 hb7 hb6 hb5 hr6 hr7 hs5 hs6 hs7 hS1 hS2 hgs ho5 cc x0 x1 x2 HB4 HA4 HR4 HSZ HS2 hs1 hs2 HLT HXR hlen1
  generalize w2.heap.size + 1 = gl at *
  generalize w5.heap.size + 1 = gx at *
  generalize w5.heap.size = ga at *
  generalize w2.heap.size = ge at *
  have gl0 := row_cell HLB.out 0 rfl
  have y0 := row_cell HRX.out.1 0 rfl; have y1 := row_cell HRX.out.1 1 rfl; have y2 := row_cell HRX.out.1 2 rfl
  simp only [List.getElem_toArray, List.getElem_cons_zero, List.getElem_cons_succ] at gl0 y0 y1 y2
  have HEr : Hid (∀ e ∈ E, -1 ≤ e ∧ e < l.length) := Lib.hid (fun e he => by obtain ⟨j, hj⟩ := List.getElem?_of_mem he; have := HK.out.end_ j e hj; rw [HLO.out] at this; exact this)
  have HLr : Hid (∀ e ∈ lab, -1 ≤ e ∧ e < l.length) := Lib.hid (fun e he => by have := HLN.out.1 e he; omega)
  by_cases o0 : op = 0
  · subst o0
    have HX := HNX
    have HFk : Hid (nextsP (opsOf l) n x xl = Lib.compact (([] : List Int).mergeSort fun x y => decide (x ≤ y))) := Lib.hid (by rw [HF.out, some_0 HOP.out]; rfl)
    have HLen : Hid (([] : List Int).length ≤ 1048577) := Lib.hid (by simp)
    go_upto_region 29 with fail
    clear gl0
    obtain ⟨lv, hl1, hl2⟩ := HX.out.box
    obtain ⟨lva, lvc, rfl, _⟩ := own_slice hl2
    have hl0 := row_cell hl1 0 rfl
    simp only [List.getElem_toArray, List.getElem_cons_zero] at hl0
    have HBX := Lib.hid hl1
    have HLX := Lib.hid hl2
    clear hl1 hl2
    go_wp2_with fail
    refine (sort_own _ W.heap.size _ _ HLX.out (by have := HLen.out; omega)).mono ?_
    rintro e w8 ⟨rfl, ho8, hg8⟩
    have hc8 := row_cell (HX.out.cell8 HBX.out hg8) 0 rfl
    simp only [List.getElem_toArray, List.getElem_cons_zero] at hc8
    have HO8 := Lib.hid (And.intro ho8 hg8)
    clear hl0 ho8 hg8
    go_wp2_with fail
    refine (compact_own w8 W.heap.size _ _ HO8.out.1 (by rw [List.length_mergeSort]; have := HLen.out; omega)).mono ?_
    rintro e w9 ⟨v9, rfl, ho9, hg9, hb9⟩
    have HB9 := Lib.hid (HX.out.finish HBW.out HGL.out HBX.out HO8.out.2 hg9)
    have HO9 := Lib.hid ho9
    clear hc8 ho9 hg9 hb9
    go_wp2_with fail
    refine (clip_two w9 W.heap.size v9 _ HO9.out (by have := compact_len (([] : List Int).mergeSort fun x y => decide (x ≤ y)); rw [List.length_mergeSort] at this; have := HLen.out; omega)).mono ?_
    rintro e w10 ⟨v10, rfl, hw, ho10, -⟩
    obtain rfl : w9 = w10 := hw.symm
    have HZ := Lib.hid (ho10.base HBW.out.size)
    clear hw ho10
    go_wp2
    go_ret
    exact ⟨_, rfl, HB9.out, by rw [Int.toNat_natCast, HEQ.out, HFk.out]; exact HZ.out⟩
  by_cases o10 : op = 10
  · subst o10
    have HFk : Hid (nextsP (opsOf l) n x xl = Lib.compact (([(l.length : Int)] : List Int).mergeSort fun x y => decide (x ≤ y))) := Lib.hid (by rw [HF.out, some_10 HOP.out, HLO.out, keepP_one (by omega)])
    have HLen : Hid (([(l.length : Int)] : List Int).length ≤ 1048577) := Lib.hid (by simp)
    obtain ⟨cv, c1, c2⟩ := HNF.out.co
    obtain ⟨ca, ccp, rfl, _⟩ := c2.len
    have hc0 := row_cell c1 0 rfl
    simp only [List.getElem_toArray, List.getElem_cons_zero] at hc0
    clear c1 c2
    have hb6 := below_alloc W (.cells #[.int .i64 (l.length : Int)] 3)
    have HB6 := Lib.hid hb6
    have hB6 : W.heap.size ≤ (W.alloc (.cells #[.int .i64 (l.length : Int)] 3)).heap.size := hb6.size
    clear hb6
    go_wp2_with (at_builtin; refine wpList_append_kept _ rfl _ _ 25 rfl W.heap.size 3 i0 (.int .i64 0) 1 8 Try.underlying25 hi hz0 hz1 hz2 rfl (by decide) (.slice none 0 0) 0 [] rfl (World.ownsRow_nil _ _ _ _) ⟨W.heap.size, 0, none⟩ 1 1 [.int .i64 (l.length : Int)] rfl rfl (cell_one_new _ _ _) (by simp [Value.oneCell']) (by unfold maxLen; omega) (by omega) hB6 ?_)
    intro v' w7 ho hkk hn'
    obtain ⟨v7, c7, rfl, _⟩ := own_slice ho
    obtain ⟨x7, f7⟩ := HNX.out.cell7 HLB.out HB6.out hkk.grown
    have HX : Hid (Nx W gl (w7.setCell ⟨gl, 0, none⟩ _) [(l.length : Int)]) := Lib.hid (HNX.out.app (ps := [(l.length : Int)]) HLB.out HB6.out (by simpa [ints] using ho) hkk.grown)
    clear ho hkk hn' HB6
    go_upto_region 29 with fail
    clear x7 f7 gl0
    generalize w7.setCell ⟨gl, 0, none⟩ _ = wr at *
    obtain ⟨lv, hl1, hl2⟩ := HX.out.box
    obtain ⟨lva, lvc, rfl, _⟩ := own_slice hl2
    have hl0 := row_cell hl1 0 rfl
    simp only [List.getElem_toArray, List.getElem_cons_zero] at hl0
    have HBX := Lib.hid hl1
    have HLX := Lib.hid hl2
    clear hl1 hl2
    go_wp2_with fail
    refine (sort_own _ W.heap.size _ _ HLX.out (by have := HLen.out; omega)).mono ?_
    rintro e w8 ⟨rfl, ho8, hg8⟩
    have hc8 := row_cell (HX.out.cell8 HBX.out hg8) 0 rfl
    simp only [List.getElem_toArray, List.getElem_cons_zero] at hc8
    have HO8 := Lib.hid (And.intro ho8 hg8)
    clear hl0 ho8 hg8
    go_wp2_with fail
    refine (compact_own w8 W.heap.size _ _ HO8.out.1 (by rw [List.length_mergeSort]; have := HLen.out; omega)).mono ?_
    rintro e w9 ⟨v9, rfl, ho9, hg9, hb9⟩
    have HB9 := Lib.hid (HX.out.finish HBW.out HGL.out HBX.out HO8.out.2 hg9)
    have HO9 := Lib.hid ho9
    clear hc8 ho9 hg9 hb9
    go_wp2_with fail
    refine (clip_two w9 W.heap.size v9 _ HO9.out (by have := compact_len (([(l.length : Int)] : List Int).mergeSort fun x y => decide (x ≤ y)); rw [List.length_mergeSort] at this; have := HLen.out; omega)).mono ?_
    rintro e w10 ⟨v10, rfl, hw, ho10, -⟩
    obtain rfl : w9 = w10 := hw.symm
    have HZ := Lib.hid (ho10.base HBW.out.size)
    clear hw ho10
    go_wp2
    go_ret
    exact ⟨_, rfl, HB9.out, by rw [Int.toNat_natCast, HEQ.out, HFk.out]; exact HZ.out⟩
  by_cases o5 : op = 5
  · subst o5
    obtain ⟨ev, e1, e2⟩ := HNF.out.en
    obtain ⟨ea, ec, rfl, _, _, hee⟩ := e2
    have he0 := row_cell e1 0 rfl
    simp only [List.getElem_toArray, List.getElem_cons_zero] at he0
    have hnE : n < E.length := by rw [hlE.out]; exact hn
    obtain ⟨eb, eo, rfl, _, hce⟩ := hee n hnE
    have hgE : Hid (E.getD n (-1) = E[n]) := Lib.hid (by rw [List.getD_eq_getElem?_getD, List.getElem?_eq_getElem hnE]; rfl)
    have hy := HEr.out E[n] (List.getElem_mem hnE)
    clear e1 hee
    have hE0 : 0 ≤ E.getD n (-1) := (HK.out.end4 (by rw [HLO.out]; exact hn) (.inr HOP.out)).1
    rw [hgE.out] at hE0
    have HFk : Hid (nextsP (opsOf l) n x xl = Lib.compact (([E[n]] : List Int).mergeSort fun x y => decide (x ≤ y))) := Lib.hid (by rw [HF.out, some_5 HOP.out, hgE.out, keepP_one hE0])
    have HLen : Hid (([E[n]] : List Int).length ≤ 1048577) := Lib.hid (by simp)
    clear hgE
    generalize E[n] = y at *
    have hb6 := (below_alloc W (.cells #[.int .i64 y] 3)).drew
    have hA6 : (W.alloc (.cells #[.int .i64 y] 3)).drew.ownsRow W.heap.size 3 1 (.slice none 0 0) 0 [] := World.ownsRow_nil _ _ _ _
    have HA6 := Lib.hid hA6
    have HB6 := Lib.hid hb6
    have hB6 : W.heap.size ≤ (W.alloc (.cells #[.int .i64 y] 3)).drew.heap.size := hb6.size
    have gl2 : (W.alloc (.cells #[.int .i64 y] 3)).cell? ⟨gl, 0, none⟩ = some (.slice none 0 0) := cell_below (below_alloc _ _) gl0
    have gl3 : (W.alloc (.cells #[.int .i64 y] 3)).drew.cell? ⟨gl, 0, none⟩ = some (.slice none 0 0) := gl2
    clear hb6 hA6
    go_upto_region 19 with fail
    go_region_law (first
      | (refine step_append_lies _ (by rfl) _ _ 25 (by rfl) W.heap.size 3 i0 _ 1 8 Try.underlying25 hi hz0 hz1 hz2 rfl (by omega) (.slice none 0 0) 0 [] (by rfl) HA6.out ⟨W.heap.size, 0, none⟩ 1 1 [.int .i64 y] (by rfl) (by rfl) (cell_one_new _ _ _) (by simp [Value.oneCell']) (by omega) (by unfold maxLen; omega) (by omega) hB6 (W.heap.size + 1) (by show (World.alloc _ _).heap.size = _; rw [World.size_alloc]) ?_; intro g cap w7 ho hgr hat5 hlt5; obtain ⟨x7, f7⟩ := HNX.out.cell7 HLB.out HB6.out hgr))
    all_goals have HX : Hid (Nx W gl (w7.setCell ⟨gl, 0, none⟩ _) [y]) := Lib.hid (HNX.out.app (ps := [y]) HLB.out HB6.out (by simpa [ints] using ho) hgr)
    all_goals clear HA6 HB6 hB6 gl2 gl3
    all_goals clear ho hgr hat5
    all_goals go_upto_region 29 with fail
    all_goals clear x7 f7 gl0
    all_goals generalize w7.setCell ⟨gl, 0, none⟩ _ = wr at *
    all_goals
      obtain ⟨lv, hl1, hl2⟩ := HX.out.box
      obtain ⟨lva, lvc, rfl, _⟩ := own_slice hl2
      have hl0 := row_cell hl1 0 rfl
      simp only [List.getElem_toArray, List.getElem_cons_zero] at hl0
      have HBX := Lib.hid hl1
      have HLX := Lib.hid hl2
      clear hl1 hl2
      go_wp2_with fail
      refine (sort_own _ W.heap.size _ _ HLX.out (by have := HLen.out; omega)).mono ?_
      rintro e w8 ⟨rfl, ho8, hg8⟩
      have hc8 := row_cell (HX.out.cell8 HBX.out hg8) 0 rfl
      simp only [List.getElem_toArray, List.getElem_cons_zero] at hc8
      have HO8 := Lib.hid (And.intro ho8 hg8)
      clear hl0 ho8 hg8
      go_wp2_with fail
      refine (compact_own w8 W.heap.size _ _ HO8.out.1 (by rw [List.length_mergeSort]; have := HLen.out; omega)).mono ?_
      rintro e w9 ⟨v9, rfl, ho9, hg9, hb9⟩
      have HB9 := Lib.hid (HX.out.finish HBW.out HGL.out HBX.out HO8.out.2 hg9)
      have HO9 := Lib.hid ho9
      clear hc8 ho9 hg9 hb9
      go_wp2_with fail
      refine (clip_two w9 W.heap.size v9 _ HO9.out (by have := compact_len (([y] : List Int).mergeSort fun x y => decide (x ≤ y)); rw [List.length_mergeSort] at this; have := HLen.out; omega)).mono ?_
      rintro e w10 ⟨v10, rfl, hw, ho10, -⟩
      obtain rfl : w9 = w10 := hw.symm
      have HZ := Lib.hid (ho10.base HBW.out.size)
      clear hw ho10
      go_wp2
      go_ret
      exact ⟨_, rfl, HB9.out, by rw [Int.toNat_natCast, HEQ.out, HFk.out]; exact HZ.out⟩
  by_cases o7 : op = 7
  · subst o7
    have HX := HNX
    have hcl := next_to W _ gl ga w.heap.size ge l lab E [] x HNF.out HX.out hl (by simp) hlE.out HLr.out HEr.out
    have HCL := Lib.hid hcl
    clear hcl
    have HFk : Hid (nextsP (opsOf l) n x xl = Lib.compact (((keepP [placeP (opsOf l) E lab x]) : List Int).mergeSort fun x y => decide (x ≤ y))) := Lib.hid (by rw [HF.out, some_7 HOP.out])
    have HLen : Hid (((keepP [placeP (opsOf l) E lab x]) : List Int).length ≤ 1048577) := Lib.hid (by unfold keepP; exact Nat.le_trans (List.length_filter_le _ _) (by simp))
    go_wp2_with fail
    refine HCL.out.mono ?_
    rintro e wr ⟨rfl, hnx⟩
    have HX : Hid (Nx W gl wr (keepP [placeP (opsOf l) E lab x])) := Lib.hid hnx
    clear hnx gl0 HCL
    go_upto_region 29 with fail
    obtain ⟨lv, hl1, hl2⟩ := HX.out.box
    obtain ⟨lva, lvc, rfl, _⟩ := own_slice hl2
    have hl0 := row_cell hl1 0 rfl
    simp only [List.getElem_toArray, List.getElem_cons_zero] at hl0
    have HBX := Lib.hid hl1
    have HLX := Lib.hid hl2
    clear hl1 hl2
    go_wp2_with fail
    refine (sort_own _ W.heap.size _ _ HLX.out (by have := HLen.out; omega)).mono ?_
    rintro e w8 ⟨rfl, ho8, hg8⟩
    have hc8 := row_cell (HX.out.cell8 HBX.out hg8) 0 rfl
    simp only [List.getElem_toArray, List.getElem_cons_zero] at hc8
    have HO8 := Lib.hid (And.intro ho8 hg8)
    clear hl0 ho8 hg8
    go_wp2_with fail
    refine (compact_own w8 W.heap.size _ _ HO8.out.1 (by rw [List.length_mergeSort]; have := HLen.out; omega)).mono ?_
    rintro e w9 ⟨v9, rfl, ho9, hg9, hb9⟩
    have HB9 := Lib.hid (HX.out.finish HBW.out HGL.out HBX.out HO8.out.2 hg9)
    have HO9 := Lib.hid ho9
    clear hc8 ho9 hg9 hb9
    go_wp2_with fail
    refine (clip_two w9 W.heap.size v9 _ HO9.out (by have := compact_len ((keepP [placeP (opsOf l) E lab x]).mergeSort fun x y => decide (x ≤ y)); rw [List.length_mergeSort] at this; have := HLen.out; omega)).mono ?_
    rintro e w10 ⟨v10, rfl, hw, ho10, -⟩
    obtain rfl : w9 = w10 := hw.symm
    have HZ := Lib.hid (ho10.base HBW.out.size)
    clear hw ho10
    go_wp2
    go_ret
    exact ⟨_, rfl, HB9.out, by rw [Int.toNat_natCast, HEQ.out, HFk.out]; exact HZ.out⟩
  by_cases o8 : op = 8
  · subst o8
    have HFk : Hid (nextsP (opsOf l) n x xl = Lib.compact ((([(n : Int) + 1] ++ keepP [placeP (opsOf l) E lab x]) : List Int).mergeSort fun x y => decide (x ≤ y))) := Lib.hid (by rw [HF.out, some_8 HOP.out, keepP_cons (by omega)]; rfl)
    have HLen : Hid ((([(n : Int) + 1] ++ keepP [placeP (opsOf l) E lab x]) : List Int).length ≤ 1048577) := Lib.hid (by rw [List.length_append]; have : (keepP [placeP (opsOf l) E lab x]).length ≤ 1 := Nat.le_trans (List.length_filter_le _ _) (by simp); simp only [List.length_singleton]; omega)
    have hb6 := below_alloc W (.cells #[.int .i64 ((n : Int) + 1)] 3)
    have HB6 := Lib.hid hb6
    have hB6 : W.heap.size ≤ (W.alloc (.cells #[.int .i64 ((n : Int) + 1)] 3)).heap.size := hb6.size
    clear hb6
    go_wp2_with (at_builtin; refine wpList_append_kept _ rfl _ _ 25 rfl W.heap.size 3 i0 (.int .i64 0) 1 8 Try.underlying25 hi hz0 hz1 hz2 rfl (by decide) (.slice none 0 0) 0 [] rfl (World.ownsRow_nil _ _ _ _) ⟨W.heap.size, 0, none⟩ 1 1 [.int .i64 ((n : Int) + 1)] rfl rfl (cell_one_new _ _ _) (by simp [Value.oneCell']) (by unfold maxLen; omega) (by omega) hB6 ?_)
    intro v' w7 ho hkk hn'
    obtain ⟨v7, c7, rfl, _⟩ := own_slice ho
    obtain ⟨x7, f7⟩ := HNX.out.cell7 HLB.out HB6.out hkk.grown
    have HX : Hid (Nx W gl (w7.setCell ⟨gl, 0, none⟩ _) [((n : Int) + 1)]) := Lib.hid (HNX.out.app (ps := [((n : Int) + 1)]) HLB.out HB6.out (by simpa [ints] using ho) hkk.grown)
    clear ho hkk hn' HB6
    go_upto_region 21 with fail
    clear x7 f7 gl0
    generalize w7.setCell ⟨gl, 0, none⟩ _ = wr at *
    have hcl := next_to W _ gl ga w.heap.size ge l lab E _ x HNF.out HX.out hl (by simp) hlE.out HLr.out HEr.out
    have HCL := Lib.hid hcl
    clear hcl
    have y0 := row_cell (HX.out.old HRX.out.1 HRX.out.2) 0 rfl; have y1 := row_cell (HX.out.old HRX.out.1 HRX.out.2) 1 rfl
    simp only [List.getElem_toArray, List.getElem_cons_zero, List.getElem_cons_succ] at y0 y1
    go_wp2_with fail
    refine HCL.out.mono ?_
    rintro e w12 ⟨rfl, hnx⟩
    have HX : Hid (Nx W gl w12 ([(n : Int) + 1] ++ keepP [placeP (opsOf l) E lab x])) := Lib.hid hnx
    clear hnx HCL y0 y1
    go_upto_region 29 with fail
    obtain ⟨lv, hl1, hl2⟩ := HX.out.box
    obtain ⟨lva, lvc, rfl, _⟩ := own_slice hl2
    have hl0 := row_cell hl1 0 rfl
    simp only [List.getElem_toArray, List.getElem_cons_zero] at hl0
    have HBX := Lib.hid hl1
    have HLX := Lib.hid hl2
    clear hl1 hl2
    go_wp2_with fail
    refine (sort_own _ W.heap.size _ _ HLX.out (by have := HLen.out; omega)).mono ?_
    rintro e w8 ⟨rfl, ho8, hg8⟩
    have hc8 := row_cell (HX.out.cell8 HBX.out hg8) 0 rfl
    simp only [List.getElem_toArray, List.getElem_cons_zero] at hc8
    have HO8 := Lib.hid (And.intro ho8 hg8)
    clear hl0 ho8 hg8
    go_wp2_with fail
    refine (compact_own w8 W.heap.size _ _ HO8.out.1 (by rw [List.length_mergeSort]; have := HLen.out; omega)).mono ?_
    rintro e w9 ⟨v9, rfl, ho9, hg9, hb9⟩
    have HB9 := Lib.hid (HX.out.finish HBW.out HGL.out HBX.out HO8.out.2 hg9)
    have HO9 := Lib.hid ho9
    clear hc8 ho9 hg9 hb9
    go_wp2_with fail
    refine (clip_two w9 W.heap.size v9 _ HO9.out (by have := compact_len (([(n : Int) + 1] ++ keepP [placeP (opsOf l) E lab x]).mergeSort fun x y => decide (x ≤ y)); rw [List.length_mergeSort] at this; have := HLen.out; omega)).mono ?_
    rintro e w10 ⟨v10, rfl, hw, ho10, -⟩
    obtain rfl : w9 = w10 := hw.symm
    have HZ := Lib.hid (ho10.base HBW.out.size)
    clear hw ho10
    go_wp2
    go_ret
    exact ⟨_, rfl, HB9.out, by rw [Int.toNat_natCast, HEQ.out, HFk.out]; exact HZ.out⟩
  by_cases o9 : op = 9
  · subst o9
    have HFk : Hid (nextsP (opsOf l) n x xl = Lib.compact (((keepP (xl.map (placeP (opsOf l) E lab))) : List Int).mergeSort fun x y => decide (x ≤ y))) := Lib.hid (by rw [HF.out, some_9 HOP.out])
    have HLen : Hid (((keepP (xl.map (placeP (opsOf l) E lab))) : List Int).length ≤ 1048577) := Lib.hid (by unfold keepP; exact Nat.le_trans (List.length_filter_le _ _) (by rw [List.length_map]; omega))
    have HX0 := HNX
    rw [show ((9 : Nat) : Int) = 9 from rfl]
    go_wp2_with fail
    clear gl0 y0 y1 y2
    go_loopw [100] (fun i wr => ∃ k : Nat, k ≤ xl.length ∧ i = .int .i64 k ∧ Hid (Nx W gl wr (keepP ((xl.take k).map (placeP (opsOf l) E lab))))) (fun i _ => xl.length - (intOf i).toNat)
    case atStart => exact ⟨0, by omega, rfl, HX0⟩
    case round =>
      obtain ⟨k, hk, rfl, HX⟩ := hrel
      by_cases hlt : k < xl.length
      · have hka : (keepP ((xl.take k).map (placeP (opsOf l) E lab))).length ≤ 1048576 := by unfold keepP; exact Nat.le_trans (List.length_filter_le _ _) (by rw [List.length_map, List.length_take]; omega)
        have HCL := Lib.hid (next_to W wr gl ga w.heap.size ge l lab E _ xl[k] HNF.out HX.out hl hka hlE.out HLr.out HEr.out)
        obtain ⟨xa', xc', e, _, _, hxe⟩ := HXL.out.keeps HX.out.kp
        simp only [Value.slice.injEq] at e
        obtain ⟨rfl, _, rfl⟩ := e
        obtain ⟨xb, xo, rfl, _, hcx⟩ := hxe k hlt
        have HQ : Hid (keepP ((xl.take k).map (placeP (opsOf l) E lab)) ++ keepP [placeP (opsOf l) E lab xl[k]] = keepP ((xl.take (k + 1)).map (placeP (opsOf l) E lab))) := Lib.hid (by
          rw [← keepP_app, List.take_add_one, List.getElem?_eq_getElem hlt, List.map_append]; rfl)
        clear hxe hka
        generalize xl[k] = y at *
        go_wp2_with fail
        refine HCL.out.mono ?_
        rintro e w12 ⟨rfl, hnx⟩
        have HX2 : Hid (Nx W gl w12 (keepP ((xl.take (k + 1)).map (placeP (opsOf l) E lab)))) := Lib.hid (by rw [← HQ.out]; exact hnx)
        clear hnx HCL
        go_wp2
        go_roundw
        case rel => exact ⟨k + 1, by omega, by go_num, HX2⟩
        case measure => simp [intOf]; omega
      · obtain rfl : k = xl.length := by omega
        have HX1 := HX.out
        rw [List.take_length] at HX1
        have HX := Lib.hid HX1
        clear HX1
        go_upto_region 29 with fail
        obtain ⟨lv, hl1, hl2⟩ := HX.out.box
        obtain ⟨lva, lvc, rfl, _⟩ := own_slice hl2
        have hl0 := row_cell hl1 0 rfl
        simp only [List.getElem_toArray, List.getElem_cons_zero] at hl0
        have HBX := Lib.hid hl1
        have HLX := Lib.hid hl2
        clear hl1 hl2
        go_wp2_with fail
        refine (sort_own _ W.heap.size _ _ HLX.out (by have := HLen.out; omega)).mono ?_
        rintro e w8 ⟨rfl, ho8, hg8⟩
        have hc8 := row_cell (HX.out.cell8 HBX.out hg8) 0 rfl
        simp only [List.getElem_toArray, List.getElem_cons_zero] at hc8
        have HO8 := Lib.hid (And.intro ho8 hg8)
        clear hl0 ho8 hg8
        go_wp2_with fail
        refine (compact_own w8 W.heap.size _ _ HO8.out.1 (by rw [List.length_mergeSort]; have := HLen.out; omega)).mono ?_
        rintro e w9 ⟨v9, rfl, ho9, hg9, hb9⟩
        have HB9 := Lib.hid (HX.out.finish HBW.out HGL.out HBX.out HO8.out.2 hg9)
        have HO9 := Lib.hid ho9
        clear hc8 ho9 hg9 hb9
        go_wp2_with fail
        refine (clip_two w9 W.heap.size v9 _ HO9.out (by have := compact_len ((keepP (xl.map (placeP (opsOf l) E lab))).mergeSort fun x y => decide (x ≤ y)); rw [List.length_mergeSort] at this; have := HLen.out; omega)).mono ?_
        rintro e w10 ⟨v10, rfl, hw, ho10, -⟩
        obtain rfl : w9 = w10 := hw.symm
        have HZ := Lib.hid (ho10.base HBW.out.size)
        clear hw ho10
        go_wp2
        go_ret
        exact ⟨_, rfl, HB9.out, by rw [Int.toNat_natCast, HEQ.out, HFk.out]; exact HZ.out⟩
  by_cases o4 : op = 4
  · subst o4
    obtain ⟨ev, e1, e2⟩ := HNF.out.en
    obtain ⟨ea, ec, rfl, _, _, hee⟩ := e2
    have he0 := row_cell e1 0 rfl
    simp only [List.getElem_toArray, List.getElem_cons_zero] at he0
    have hnE : n < E.length := by rw [hlE.out]; exact hn
    obtain ⟨eb, eo, rfl, _, hce⟩ := hee n hnE
    have hgE : Hid (E.getD n (-1) = E[n]) := Lib.hid (by rw [List.getD_eq_getElem?_getD, List.getElem?_eq_getElem hnE]; rfl)
    have hy := HEr.out E[n] (List.getElem_mem hnE)
    clear e1 hee
    have hE0 : 0 ≤ E.getD n (-1) := (HK.out.end4 (by rw [HLO.out]; exact hn) (.inl HOP.out)).1
    rw [hgE.out] at hE0
    have hnL : n < L.length := by rw [hlL.out]; exact hn
    have hgL : Hid (L.getD n (-1) = L[n]) := Lib.hid (by rw [List.getD_eq_getElem?_getD, List.getElem?_eq_getElem hnL]; rfl)
    obtain ⟨va2, vc2, rfl, _⟩ := HLe.out.lenc
    have hw1 : IntKind.i64.wrap ((n : Int) + 1) = (n : Int) + 1 := IntWalk.i64_in _ ⟨by omega, by omega⟩
    have hzr := HK.out.els n L[n] (List.getElem?_eq_getElem hnL)
    rw [HLO.out] at hzr
    by_cases hz : 0 ≤ L[n]
    · have HFk : Hid (nextsP (opsOf l) n x xl = Lib.compact (([(n : Int) + 1, L[n] + 1] : List Int).mergeSort fun x y => decide (x ≤ y))) := Lib.hid (by rw [HF.out, some_4 HOP.out, hgL.out, hgE.out, if_pos hz, keepP_cons (by omega), keepP_one (by omega)])
      have HLen : Hid (([(n : Int) + 1, L[n] + 1] : List Int).length ≤ 1048577) := Lib.hid (by simp)
      obtain ⟨z, hzz⟩ : ∃ z, L[n] = z := ⟨_, rfl⟩
      have HLz := Lib.hid hzz
      rw [hzz] at hz hzr HFk HLen
      clear hzz hgE hgL
      generalize E[n] = y at *
      have hb6 := (below_alloc W (.cells #[.int .i64 ((n : Int) + 1), .int .i64 y] 3)).drew
      have hA6 : (W.alloc (.cells #[.int .i64 ((n : Int) + 1), .int .i64 y] 3)).drew.ownsRow W.heap.size 3 1 (.slice none 0 0) 0 [] := World.ownsRow_nil _ _ _ _
      have HA6 := Lib.hid hA6
      have HB6 := Lib.hid hb6
      have hB6 : W.heap.size ≤ (W.alloc (.cells #[.int .i64 ((n : Int) + 1), .int .i64 y] 3)).drew.heap.size := hb6.size
      have gl2 : (W.alloc (.cells #[.int .i64 ((n : Int) + 1), .int .i64 y] 3)).cell? ⟨gl, 0, none⟩ = some (.slice none 0 0) := cell_below (below_alloc _ _) gl0
      have gl3 : (W.alloc (.cells #[.int .i64 ((n : Int) + 1), .int .i64 y] 3)).drew.cell? ⟨gl, 0, none⟩ = some (.slice none 0 0) := gl2
      clear hb6 hA6
      go_upto_region 16 with fail
      go_region_law (first
        | (refine step_append_lies _ (by rfl) _ _ 25 (by rfl) W.heap.size 3 i0 _ 1 8 Try.underlying25 hi hz0 hz1 hz2 rfl (by omega) (.slice none 0 0) 0 [] (by rfl) HA6.out ⟨W.heap.size, 0, none⟩ 2 2 [.int .i64 ((n : Int) + 1), .int .i64 y] (by rfl) (by rfl) (cell_two_new _ _ _ _) (by simp [Value.oneCell']) (by omega) (by unfold maxLen; omega) (by omega) hB6 (W.heap.size + 1) (by show (World.alloc _ _).heap.size = _; rw [World.size_alloc]) ?_; intro g cap w7 ho hgr hat5 hlt5; obtain ⟨x7, f7⟩ := HNX.out.cell7 HLB.out HB6.out hgr))
      all_goals have HX : Hid (Nx W gl (w7.setCell ⟨gl, 0, none⟩ _) [((n : Int) + 1), y]) := Lib.hid (HNX.out.app (ps := [((n : Int) + 1), y]) HLB.out HB6.out (by simpa [ints] using ho) hgr)
      all_goals clear HA6 HB6 hB6 gl2 gl3
      all_goals clear ho hgr hat5
      all_goals go_upto_region 17 with fail
      all_goals clear x7 f7 gl0
      all_goals generalize w7.setCell ⟨gl, 0, none⟩ _ = wr at *
      all_goals
        obtain ⟨va2', vc2', e, _, _, hle⟩ := HLe.out.keeps HX.out.kp
        simp only [Value.slice.injEq] at e
        obtain ⟨rfl, _, rfl⟩ := e
        obtain ⟨lb2, lo2, rfl, _, hcL⟩ := hle n hnL
        rw [HLz.out] at hcL
        clear hle
      all_goals
        obtain ⟨lv, hl1, hl2⟩ := HX.out.box
        obtain ⟨g5, c5, e, _, _, hcell, hfree⟩ := hl2.at_ (k := 1) (by simp)
        subst e
        have hl0 := row_cell hl1 0 rfl
        simp only [List.getElem_toArray, List.getElem_cons_zero, List.getElem_cons_succ, List.length_cons, List.length_nil] at hl0 hcell
        have HX3 : Hid (Nx W gl (wr.setCell ⟨g5, 1, none⟩ (.int .i64 (z + 1))).drew [(n : Int) + 1, z + 1]) := Lib.hid ((HX.out.set hl1 (z + 1)).on (Below.refl _ _).drew)
        clear hl1 hl2
        go_upto_region 18 with fail
        go_still_tail 7, (by kernel_rfl)
        go_upto_region 29 with fail
        clear HX hl0 hcell hfree hcL
        have HX := HX3
        clear HX3
        generalize (wr.setCell ⟨g5, 1, none⟩ (.int .i64 (z + 1))).drew = wz at *
        obtain ⟨lv, hl1, hl2⟩ := HX.out.box
        obtain ⟨lva, lvc, rfl, _⟩ := own_slice hl2
        have hl0 := row_cell hl1 0 rfl
        simp only [List.getElem_toArray, List.getElem_cons_zero] at hl0
        have HBX := Lib.hid hl1
        have HLX := Lib.hid hl2
        clear hl1 hl2
        go_wp2_with fail
        refine (sort_own _ W.heap.size _ _ HLX.out (by have := HLen.out; omega)).mono ?_
        rintro e w8 ⟨rfl, ho8, hg8⟩
        have hc8 := row_cell (HX.out.cell8 HBX.out hg8) 0 rfl
        simp only [List.getElem_toArray, List.getElem_cons_zero] at hc8
        have HO8 := Lib.hid (And.intro ho8 hg8)
        clear hl0 ho8 hg8
        go_wp2_with fail
        refine (compact_own w8 W.heap.size _ _ HO8.out.1 (by rw [List.length_mergeSort]; have := HLen.out; omega)).mono ?_
        rintro e w9 ⟨v9, rfl, ho9, hg9, hb9⟩
        have HB9 := Lib.hid (HX.out.finish HBW.out HGL.out HBX.out HO8.out.2 hg9)
        have HO9 := Lib.hid ho9
        clear hc8 ho9 hg9 hb9
        go_wp2_with fail
        refine (clip_two w9 W.heap.size v9 _ HO9.out (by have := compact_len (([(n : Int) + 1, z + 1] : List Int).mergeSort fun x y => decide (x ≤ y)); rw [List.length_mergeSort] at this; have := HLen.out; omega)).mono ?_
        rintro e w10 ⟨v10, rfl, hw, ho10, -⟩
        obtain rfl : w9 = w10 := hw.symm
        have HZ := Lib.hid (ho10.base HBW.out.size)
        clear hw ho10
        go_wp2
        go_ret
        exact ⟨_, rfl, HB9.out, by rw [Int.toNat_natCast, HEQ.out, HFk.out]; exact HZ.out⟩
    · have HFk : Hid (nextsP (opsOf l) n x xl = Lib.compact (([(n : Int) + 1, E[n]] : List Int).mergeSort fun x y => decide (x ≤ y))) := Lib.hid (by rw [HF.out, some_4 HOP.out, hgL.out, hgE.out, if_neg hz, keepP_cons (by omega), keepP_one (by omega)])
      have HLen : Hid (([(n : Int) + 1, E[n]] : List Int).length ≤ 1048577) := Lib.hid (by simp)
      obtain ⟨z, hzz⟩ : ∃ z, L[n] = z := ⟨_, rfl⟩
      have HLz := Lib.hid hzz
      rw [hzz] at hz hzr
      clear hzz hgE hgL
      generalize E[n] = y at *
      have hb6 := (below_alloc W (.cells #[.int .i64 ((n : Int) + 1), .int .i64 y] 3)).drew
      have hA6 : (W.alloc (.cells #[.int .i64 ((n : Int) + 1), .int .i64 y] 3)).drew.ownsRow W.heap.size 3 1 (.slice none 0 0) 0 [] := World.ownsRow_nil _ _ _ _
      have HA6 := Lib.hid hA6
      have HB6 := Lib.hid hb6
      have hB6 : W.heap.size ≤ (W.alloc (.cells #[.int .i64 ((n : Int) + 1), .int .i64 y] 3)).drew.heap.size := hb6.size
      have gl2 : (W.alloc (.cells #[.int .i64 ((n : Int) + 1), .int .i64 y] 3)).cell? ⟨gl, 0, none⟩ = some (.slice none 0 0) := cell_below (below_alloc _ _) gl0
      have gl3 : (W.alloc (.cells #[.int .i64 ((n : Int) + 1), .int .i64 y] 3)).drew.cell? ⟨gl, 0, none⟩ = some (.slice none 0 0) := gl2
      clear hb6 hA6
      go_upto_region 16 with fail
      go_region_law (first
        | (refine step_append_lies _ (by rfl) _ _ 25 (by rfl) W.heap.size 3 i0 _ 1 8 Try.underlying25 hi hz0 hz1 hz2 rfl (by omega) (.slice none 0 0) 0 [] (by rfl) HA6.out ⟨W.heap.size, 0, none⟩ 2 2 [.int .i64 ((n : Int) + 1), .int .i64 y] (by rfl) (by rfl) (cell_two_new _ _ _ _) (by simp [Value.oneCell']) (by omega) (by unfold maxLen; omega) (by omega) hB6 (W.heap.size + 1) (by show (World.alloc _ _).heap.size = _; rw [World.size_alloc]) ?_; intro g cap w7 ho hgr hat5 hlt5; obtain ⟨x7, f7⟩ := HNX.out.cell7 HLB.out HB6.out hgr))
      all_goals have HX : Hid (Nx W gl (w7.setCell ⟨gl, 0, none⟩ _) [((n : Int) + 1), y]) := Lib.hid (HNX.out.app (ps := [((n : Int) + 1), y]) HLB.out HB6.out (by simpa [ints] using ho) hgr)
      all_goals clear HA6 HB6 hB6 gl2 gl3
      all_goals clear ho hgr hat5
      all_goals go_upto_region 17 with fail
      all_goals clear x7 f7 gl0
      all_goals generalize w7.setCell ⟨gl, 0, none⟩ _ = wr at *
      all_goals
        obtain ⟨va2', vc2', e, _, _, hle⟩ := HLe.out.keeps HX.out.kp
        simp only [Value.slice.injEq] at e
        obtain ⟨rfl, _, rfl⟩ := e
        obtain ⟨lb2, lo2, rfl, _, hcL⟩ := hle n hnL
        rw [HLz.out] at hcL
        clear hle
      all_goals
        go_upto_region 29 with fail
        clear hcL
        obtain ⟨lv, hl1, hl2⟩ := HX.out.box
        obtain ⟨lva, lvc, rfl, _⟩ := own_slice hl2
        have hl0 := row_cell hl1 0 rfl
        simp only [List.getElem_toArray, List.getElem_cons_zero] at hl0
        have HBX := Lib.hid hl1
        have HLX := Lib.hid hl2
        clear hl1 hl2
        go_wp2_with fail
        refine (sort_own _ W.heap.size _ _ HLX.out (by have := HLen.out; omega)).mono ?_
        rintro e w8 ⟨rfl, ho8, hg8⟩
        have hc8 := row_cell (HX.out.cell8 HBX.out hg8) 0 rfl
        simp only [List.getElem_toArray, List.getElem_cons_zero] at hc8
        have HO8 := Lib.hid (And.intro ho8 hg8)
        clear hl0 ho8 hg8
        go_wp2_with fail
        refine (compact_own w8 W.heap.size _ _ HO8.out.1 (by rw [List.length_mergeSort]; have := HLen.out; omega)).mono ?_
        rintro e w9 ⟨v9, rfl, ho9, hg9, hb9⟩
        have HB9 := Lib.hid (HX.out.finish HBW.out HGL.out HBX.out HO8.out.2 hg9)
        have HO9 := Lib.hid ho9
        clear hc8 ho9 hg9 hb9
        go_wp2_with fail
        refine (clip_two w9 W.heap.size v9 _ HO9.out (by have := compact_len (([(n : Int) + 1, y] : List Int).mergeSort fun x y => decide (x ≤ y)); rw [List.length_mergeSort] at this; have := HLen.out; omega)).mono ?_
        rintro e w10 ⟨v10, rfl, hw, ho10, -⟩
        obtain rfl : w9 = w10 := hw.symm
        have HZ := Lib.hid (ho10.base HBW.out.size)
        clear hw ho10
        go_wp2
        go_ret
        exact ⟨_, rfl, HB9.out, by rw [Int.toNat_natCast, HEQ.out, HFk.out]; exact HZ.out⟩
  have HFk : Hid (nextsP (opsOf l) n x xl = Lib.compact (([(n : Int) + 1] : List Int).mergeSort fun x y => decide (x ≤ y))) := Lib.hid (by rw [HF.out, some_x (by rw [HOP.out]; exact o0) (by rw [HOP.out]; exact o4) (by rw [HOP.out]; exact o5) (by rw [HOP.out]; exact o7) (by rw [HOP.out]; exact o8) (by rw [HOP.out]; exact o9) (by rw [HOP.out]; exact o10), keepP_one (by omega)])
  have HLen : Hid (([(n : Int) + 1] : List Int).length ≤ 1048577) := Lib.hid (by simp)
  have hb0 : ((op : Int) == 0) = false := by simp; omega
  have hb4 : ((op : Int) == 4) = false := by simp; omega
  have hb5 : ((op : Int) == 5) = false := by simp; omega
  have hb7 : ((op : Int) == 7) = false := by simp; omega
  have hb8 : ((op : Int) == 8) = false := by simp; omega
  have hb9 : ((op : Int) == 9) = false := by simp; omega
  have hb10 : ((op : Int) == 10) = false := by simp; omega
  clear o0 o4 o5 o7 o8 o9 o10
  have hb6 := below_alloc W (.cells #[.int .i64 ((n : Int) + 1)] 3)
  have HB6 := Lib.hid hb6
  have hB6 : W.heap.size ≤ (W.alloc (.cells #[.int .i64 ((n : Int) + 1)] 3)).heap.size := hb6.size
  clear hb6
  go_wp2_with (at_builtin; refine wpList_append_kept _ rfl _ _ 25 rfl W.heap.size 3 i0 (.int .i64 0) 1 8 Try.underlying25 hi hz0 hz1 hz2 rfl (by decide) (.slice none 0 0) 0 [] rfl (World.ownsRow_nil _ _ _ _) ⟨W.heap.size, 0, none⟩ 1 1 [.int .i64 ((n : Int) + 1)] rfl rfl (cell_one_new _ _ _) (by simp [Value.oneCell']) (by unfold maxLen; omega) (by omega) hB6 ?_)
  intro v' w7 ho hkk hn'
  obtain ⟨v7, c7, rfl, _⟩ := own_slice ho
  obtain ⟨x7, f7⟩ := HNX.out.cell7 HLB.out HB6.out hkk.grown
  have HX : Hid (Nx W gl (w7.setCell ⟨gl, 0, none⟩ _) [((n : Int) + 1)]) := Lib.hid (HNX.out.app (ps := [((n : Int) + 1)]) HLB.out HB6.out (by simpa [ints] using ho) hkk.grown)
  clear ho hkk hn' HB6
  go_upto_region 29 with fail
  clear x7 f7 gl0
  generalize w7.setCell ⟨gl, 0, none⟩ _ = wr at *
  obtain ⟨lv, hl1, hl2⟩ := HX.out.box
  obtain ⟨lva, lvc, rfl, _⟩ := own_slice hl2
  have hl0 := row_cell hl1 0 rfl
  simp only [List.getElem_toArray, List.getElem_cons_zero] at hl0
  have HBX := Lib.hid hl1
  have HLX := Lib.hid hl2
  clear hl1 hl2
  go_wp2_with fail
  refine (sort_own _ W.heap.size _ _ HLX.out (by have := HLen.out; omega)).mono ?_
  rintro e w8 ⟨rfl, ho8, hg8⟩
  have hc8 := row_cell (HX.out.cell8 HBX.out hg8) 0 rfl
  simp only [List.getElem_toArray, List.getElem_cons_zero] at hc8
  have HO8 := Lib.hid (And.intro ho8 hg8)
  clear hl0 ho8 hg8
  go_wp2_with fail
  refine (compact_own w8 W.heap.size _ _ HO8.out.1 (by rw [List.length_mergeSort]; have := HLen.out; omega)).mono ?_
  rintro e w9 ⟨v9, rfl, ho9, hg9, hb9⟩
  have HB9 := Lib.hid (HX.out.finish HBW.out HGL.out HBX.out HO8.out.2 hg9)
  have HO9 := Lib.hid ho9
  clear hc8 ho9 hg9 hb9
  go_wp2_with fail
  refine (clip_two w9 W.heap.size v9 _ HO9.out (by have := compact_len (([(n : Int) + 1] : List Int).mergeSort fun x y => decide (x ≤ y)); rw [List.length_mergeSort] at this; have := HLen.out; omega)).mono ?_
  rintro e w10 ⟨v10, rfl, hw, ho10, -⟩
  obtain rfl : w9 = w10 := hw.symm
  have HZ := Lib.hid (ho10.base HBW.out.size)
  clear hw ho10
  go_wp2
  go_ret
  exact ⟨_, rfl, HB9.out, by rw [Int.toNat_natCast, HEQ.out, HFk.out]; exact HZ.out⟩
end Go.Proofs.Ytiaoonlhgjfdjaa
