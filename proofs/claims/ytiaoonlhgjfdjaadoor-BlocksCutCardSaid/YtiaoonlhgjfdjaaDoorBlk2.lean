/- blocks.segments: an iterator; its contract. -/
import Derived.RangeFuncNested
import Derived.RangeFuncBound
import Derived.RangeFuncCalls
import Derived.RangeFuncLeaves
import Derived.Shelf.Abstract
import Derived.Shelf.RegionOpen
import Derived.WalkKit
import Derived.OwnWalkIn
import Derived.TacticsInMore
import Derived.LoopNIn
import Derived.LoopIn
import Derived.Maps.AppendAt
import Derived.Test.YtiaoonlhgjfdjaaDoorBlk1
namespace Go.Proofs.YtiaoonlhgjfdjaaDoor
open Go Go.RowKit Go.Shelf
attribute [local go_sem] Oper.semAt_some

/-- A segment: where it begins, how long it is. -/
abbrev Sg := Nat × Fin 17
def sgOf (x : Nat × Nat) : Sg := (x.1, ⟨min x.2 16, by omega⟩)
def segsQ (l : List Bool) (k f : Nat) : List Sg := (segsP l l.length k f).map sgOf
def sgs (l : List Bool) : List Sg := segsQ l l.length 0
theorem segG_hi (l : List Bool) (n f : Nat) : ∀ k m, m ≤ 16 → segG l n f k m ≤ 16
  | 0, m, h => by rw [segG]; exact h
  | k + 1, m, h => by
    rw [segG]
    split
    · exact segG_hi l n f k (m + 1) (by omega)
    · exact h
theorem segsQ_next {l : List Bool} {k f : Nat} (hf : f < l.length) (hk : l.length ≤ f + k) : ∃ k', k = k' + 1 ∧ segsQ l k f = (f, ⟨segN l l.length f, by have := segG_hi l l.length f 16 1 (by omega); unfold segN; omega⟩) :: segsQ l k' (f + segN l l.length f) := by
  obtain ⟨k', rfl⟩ : ∃ k', k = k' + 1 := ⟨k - 1, by omega⟩
  refine ⟨k', rfl, ?_⟩
  have h16 := segG_hi l l.length f 16 1 (by omega)
  unfold segsQ
  rw [segsP, if_pos hf, List.map_cons]
  congr 1
  unfold sgOf segN
  simp only [Prod.mk.injEq, true_and]
  exact Fin.ext (by simp; omega)
theorem segsQ_end {l : List Bool} {k f : Nat} (hf : ¬ f < l.length) : segsQ l k f = [] := by
  unfold segsQ
  cases k with
  | zero => rfl
  | succ k => rw [segsP, if_neg hf]; rfl
theorem segG_go {l : List Bool} {n f k m : Nat} (h1 : m < 16) (h2 : f + m < n) (h3 : l.getD (f + m) false = false) (hk : 17 ≤ m + k) : ∃ k', segG l n f k m = segG l n f k' (m + 1) ∧ 17 ≤ m + 1 + k' := by
  obtain ⟨k', rfl⟩ : ∃ k', k = k' + 1 := ⟨k - 1, by omega⟩
  exact ⟨k', by rw [segG, if_pos ⟨h1, h2, h3⟩], by omega⟩
theorem segG_stop {l : List Bool} {n f k m : Nat} (h : ¬ (m < 16 ∧ f + m < n ∧ l.getD (f + m) false = false)) : segG l n f k m = m := by
  cases k with
  | zero => rfl
  | succ k => rw [segG, if_neg h]
/-- The slice v reads as the bools l; what it reads lies in the blocks S. -/
def RdBo (S : Nat → Prop) (w : World) (v : Value) (l : List Bool) : Prop :=
  ∃ a c, v = .slice a l.length c ∧ l.length ≤ c ∧ ∀ j (h : j < l.length), ∃ b off, a = some ⟨b, off, none⟩ ∧ S b ∧ w.cell? ⟨b, off + j, none⟩ = some (.bool l[j])
theorem RdBo.keeps {S : Nat → Prop} {w w' : World} {v : Value} {l : List Bool} (h : RdBo S w v l) (hk : Keeps S w w') : RdBo S w' v l := by
  obtain ⟨a, c, e, hc, h⟩ := h
  refine ⟨a, c, e, hc, fun j hj => ?_⟩
  obtain ⟨b, off, e1, e2, e3⟩ := h j hj
  exact ⟨b, off, e1, e2, hk.cell e3 e2⟩
theorem Own2.rdB {w : World} {base e : Nat} {v : Value} {l : List Bool} (h : Own2 w base e 1 v l.length (bools l)) : RdBo (fun b => v.ownBlock = some b) w v l := by
  obtain ⟨a, c, rfl, hc, ha⟩ := h.slice
  refine ⟨a, c, rfl, hc, fun j hj => ?_⟩
  obtain ⟨g, rfl⟩ := ha (by omega)
  exact ⟨g, 0, rfl, rfl, by rw [Nat.zero_add]; exact h.at_ rfl (by simp [hj])⟩
theorem RdBo.mono {S T : Nat → Prop} {w : World} {v : Value} {l : List Bool} (h : RdBo S w v l) (hs : ∀ b, S b → T b) : RdBo T w v l := by
  obtain ⟨a, c, e, hc, h⟩ := h
  refine ⟨a, c, e, hc, fun j hj => ?_⟩
  obtain ⟨b, off, e1, e2, e3⟩ := h j hj
  exact ⟨b, off, e1, hs b e2, e3⟩
set_option maxRecDepth 100000 in
set_option maxHeartbeats 3200000 in
theorem seg1_in (F : Fence) (n : Nat) (hF : F.fn 73) (hro : F.round = none) (hn : 1 ≤ n) (ly Bn : Nat) (S : Nat → Prop) (v : Value) (l : List Bool) (hl : l.length ≤ 1048576) (J Jx : List Sg → World → Prop)
    (hY : ∀ pre x W, J pre W → pre.length < l.length → YieldAt F (n - 1) Tryd.prog ly #[.int .i64 (x.1 : Nat), .int .i64 (x.2 : Nat)] W fun e W' =>
      (e = .returned (.bool true) ∧ J (pre ++ [x]) W' ∧ Keeps S W W') ∨ (e = .returned (.bool false) ∧ Jx (pre ++ [x]) W'))
    (W : World) (hBn : S Bn) (hc : W.cell? ⟨Bn, 0, none⟩ = some v) (hr : RdBo S W v l) (h0 : J [] W) :
    CallsIn F n Tryd.prog 73 #[.func (.yield ly) #[] #[], .pointer (some ⟨Bn, 0, none⟩)] W fun e W' => (∃ v, e = .returned v) ∧
      ((∃ ys, ys = sgs l ∧ J ys W') ∨ (∃ pre, pre <+: sgs l ∧ Jx pre W')) := by
  have HR := Lib.hid hr
  obtain ⟨a, c, rfl, _, _⟩ := hr
  have HC := Lib.hid hc
  have HJ := Lib.hid hY
  clear hc hY
  refine callsIn_of_wp Tryd.func73 rfl hF ?_ hro
  simp only [Tryd.ntmps73, List.size_toArray, List.length_cons, List.length_nil, Nat.reduceAdd, Nat.reduceSub, Array.replicate_succ, Array.replicate_zero, List.push_toArray, List.append_toArray, List.nil_append, List.cons_append]
  gi_wp2
  gi_loopw [3] (fun p wr => ∃ (pre : List Sg) (k f : Nat), p = .int .i64 f ∧ f ≤ l.length ∧ l.length ≤ f + k ∧ pre.length ≤ f ∧ Hid (sgs l = pre ++ segsQ l k f) ∧ Hid (J pre wr) ∧ Hid (Keeps S W wr))
    (fun p _ => l.length - (intOf p).toNat)
  case atStart => exact ⟨[], l.length, 0, rfl, by omega, by omega, by simp, Lib.hid rfl, Lib.hid h0, Lib.hid (Keeps.refl _ _)⟩
  case round =>
    obtain ⟨pre, k, f, rfl, hf, hk, hpl, HS, HJr, HK⟩ := hrel
    have hcr := HK.out.cell HC.out hBn
    by_cases hlt : f < l.length
    · obtain ⟨k', rfl, hq⟩ := segsQ_next hlt hk
      have HQ := Lib.hid hq
      clear hq
      obtain ⟨wo, rfl⟩ : ∃ wo : World, wo = wr := ⟨_, rfl⟩
      gi_wp2
      gi_loopw [4] (fun p wi => ∃ m : Nat, p = .int .i64 m ∧ 1 ≤ m ∧ m ≤ 16 ∧ f + m ≤ l.length ∧ Hid (∃ k2, segN l l.length f = segG l l.length f k2 m ∧ 17 ≤ m + k2) ∧ Hid (wi = wo)) (fun p _ => 16 - (intOf p).toNat)
      case atStart => exact ⟨1, rfl, by omega, by omega, by omega, Lib.hid ⟨16, rfl, by omega⟩, Lib.hid rfl⟩
      case round =>
        obtain ⟨m, rfl, hm1, hm2, hm3, HG, HW⟩ := hrel
        have hcr2 := hcr
        rw [← HW.out] at hcr2
        have HR2 := Lib.hid (HR.out.keeps HK.out)
        rw [← HW.out] at HR2
        have hs1 : 0 ≤ (f : Int) + m := by omega
        have hs2 : ((f : Int) + m).toNat = f + m := by omega
        obtain ⟨k2, hg1, hg2⟩ := HG.out
        by_cases hgo : m < 16 ∧ f + m < l.length ∧ l.getD (f + m) false = false
        · obtain ⟨h16, hfm, hb⟩ := hgo
          obtain ⟨k3, hg3, hg4⟩ := segG_go h16 hfm hb hg2
          have HG3 := Lib.hid (⟨k3, hg1.trans hg3, hg4⟩ : ∃ k2, segN l l.length f = segG l l.length f k2 (m + 1) ∧ 17 ≤ m + 1 + k2)
          obtain ⟨a', c', e', _, hce⟩ := HR2.out
          simp only [Value.slice.injEq] at e'
          obtain ⟨rfl, _, rfl⟩ := e'
          obtain ⟨b, off, rfl, -, hcell⟩ := hce (f + m) hfm
          have hb' : l[f + m] = false := by rw [List.getD_eq_getElem?_getD, List.getElem?_eq_getElem hfm] at hb; exact hb
          rw [hb'] at hcell
          clear hg1 hg2 hg3 hg4 hb hb' hce HG
          gi_wp2
          go_roundw
          case rel => exact ⟨m + 1, by go_num, by omega, by omega, by omega, HG3, HW⟩
          case measure => simp [intOf]; omega
        · have hseg : segN l l.length f = m := hg1.trans (segG_stop hgo)
          have hw := HW.out
          subst hw
          have hq2 := HQ.out
          obtain ⟨M, hM⟩ : ∃ M : Fin 17, (M : Nat) = m := ⟨⟨m, by omega⟩, rfl⟩
          rw [show (⟨segN l l.length f, by have := segG_hi l l.length f 16 1 (by omega); unfold segN; omega⟩ : Fin 17) = M from Fin.ext (hseg.trans hM.symm), hseg] at hq2
          have HT : Hid (sgs l = pre ++ ((f, M) :: segsQ l k' (f + m))) := Lib.hid (HS.out.trans (by rw [hq2]))
          obtain ⟨fn, tmps, assign, body, hy, hR⟩ := HJ.out pre (f, M) wr HJr.out (by omega)
          dsimp only at hy
          rw [hM] at hy
          clear hM
          have HRR := Lib.hid hR
          clear hseg hq2 hR HG hg1 hg2 HW
          have hthree : (m = 16) ∨ (m < 16 ∧ f + m = l.length) ∨ (m < 16 ∧ f + m < l.length ∧ l.getD (f + m) false = true) := by
            by_cases e1 : m = 16
            · exact .inl e1
            · by_cases e2 : f + m = l.length
              · exact .inr (.inl ⟨by omega, e2⟩)
              · refine .inr (.inr ⟨by omega, by omega, ?_⟩)
                cases hb : l.getD (f + m) false with
                | true => rfl
                | false => exact absurd ⟨by omega, by omega, hb⟩ hgo
          clear hgo
          rcases hthree with h16 | ⟨h16, hfm⟩ | ⟨h16, hfm, hb⟩
          · have h16' : 16 ≤ m := by omega
            have hd1 : decide ((m : Int) < 16) = false := decide_eq_false (by omega)
            clear h16
            gi_wp2
            refine HRR.out.mono ?_
            rintro e W3 (⟨rfl, hJ3, hk3⟩ | ⟨rfl, hJx3⟩)
            · have HJ3 := Lib.hid hJ3; have HK3 := Lib.hid hk3
              clear hJ3 hk3
              gi_wp2
              go_roundw
              case rel => exact ⟨pre ++ [(f, M)], k', f + m, by go_num, by omega, by omega, by simp; omega, Lib.hid (by rw [HT.out]; simp), HJ3, Lib.hid (HK.out.trans HK3.out)⟩
              case measure => simp [intOf]; omega
            · gi_wp2
              refine bodyPost_ret (results_none rfl _ _ _) rfl ?_
              exact ⟨⟨_, rfl⟩, .inr ⟨pre ++ [(f, M)], ⟨segsQ l k' (f + m), by rw [HT.out]; simp⟩, hJx3⟩⟩
          · have hfm' : l.length ≤ f + m := by omega
            have hd1 : decide ((f : Int) + m < l.length) = false := decide_eq_false (by omega)
            clear hfm
            gi_wp2
            refine HRR.out.mono ?_
            rintro e W3 (⟨rfl, hJ3, hk3⟩ | ⟨rfl, hJx3⟩)
            · have HJ3 := Lib.hid hJ3; have HK3 := Lib.hid hk3
              clear hJ3 hk3
              gi_wp2
              go_roundw
              case rel => exact ⟨pre ++ [(f, M)], k', f + m, by go_num, by omega, by omega, by simp; omega, Lib.hid (by rw [HT.out]; simp), HJ3, Lib.hid (HK.out.trans HK3.out)⟩
              case measure => simp [intOf]; omega
            · gi_wp2
              refine bodyPost_ret (results_none rfl _ _ _) rfl ?_
              exact ⟨⟨_, rfl⟩, .inr ⟨pre ++ [(f, M)], ⟨segsQ l k' (f + m), by rw [HT.out]; simp⟩, hJx3⟩⟩
          · obtain ⟨a', c', e', _, hce⟩ := HR2.out
            simp only [Value.slice.injEq] at e'
            obtain ⟨rfl, _, rfl⟩ := e'
            obtain ⟨b, off, rfl, -, hcell⟩ := hce (f + m) hfm
            have hb' : l[f + m] = true := by rw [List.getD_eq_getElem?_getD, List.getElem?_eq_getElem hfm] at hb; exact hb
            rw [hb'] at hcell
            clear hb hb' hce
            gi_wp2
            refine HRR.out.mono ?_
            rintro e W3 (⟨rfl, hJ3, hk3⟩ | ⟨rfl, hJx3⟩)
            · have HJ3 := Lib.hid hJ3; have HK3 := Lib.hid hk3
              clear hJ3 hk3
              gi_wp2
              go_roundw
              case rel => exact ⟨pre ++ [(f, M)], k', f + m, by go_num, by omega, by omega, by simp; omega, Lib.hid (by rw [HT.out]; simp), HJ3, Lib.hid (HK.out.trans HK3.out)⟩
              case measure => simp [intOf]; omega
            · gi_wp2
              refine bodyPost_ret (results_none rfl _ _ _) rfl ?_
              exact ⟨⟨_, rfl⟩, .inr ⟨pre ++ [(f, M)], ⟨segsQ l k' (f + m), by rw [HT.out]; simp⟩, hJx3⟩⟩
    · have hd : decide (f < l.length) = false := decide_eq_false hlt
      gi_wp2
      go_end0
      exact ⟨⟨_, rfl⟩, .inl ⟨pre, by rw [HS.out, segsQ_end hlt, List.append_nil], HJr.out⟩⟩
end Go.Proofs.YtiaoonlhgjfdjaaDoor
