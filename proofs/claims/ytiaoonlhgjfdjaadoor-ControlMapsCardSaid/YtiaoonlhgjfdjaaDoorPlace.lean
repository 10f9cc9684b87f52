/- flagonref09.place. -/
import Derived.Test.YtiaoonlhgjfdjaaDoorLabelsC
namespace Go.Proofs.YtiaoonlhgjfdjaaDoor
open Go Go.RowKit

set_option maxRecDepth 100000 in
set_option maxHeartbeats 3200000 in
theorem ref09_place (w : World) (S1 S2) (v ve vl : Value) (l : List InsD) (E lab : List Int) (n : Int) (hc : Cd w v l) (hl : l.length ≤ 1048576) (hE : RdI .i64 S1 w ve E) (hL : RdI .i64 S2 w vl lab)
    (hlE : E.length = l.length) (hlab : ∀ x ∈ lab, -1 ≤ x ∧ x < l.length) (hEr : ∀ x ∈ E, -1 ≤ x ∧ x < l.length) :
    Calls Tryd.prog 71 #[v, ve, vl, .int .i64 n] w fun e w' => e = .returned (.int .i64 (placeP (opsOf l) E lab n)) ∧ w' = w := by
  have HC := Lib.hid hc; have HE := Lib.hid hE; have HLb := Lib.hid hL
  have HLR := Lib.hid hlab; have HER := Lib.hid hEr
  obtain ⟨va, vc, rfl, _⟩ := hc.len
  obtain ⟨ea, ec, rfl, _⟩ := hE.lenc
  obtain ⟨la, lc, rfl, _⟩ := hL.lenc
  clear hc hE hL hlab hEr
  have HLO : Hid ((opsOf l).length = l.length) := Lib.hid (opsOf_len l)
  go_enter Tryd.func71, Tryd.ntmps71
  by_cases h0 : n < 0
  · have HF := Lib.hid (placeP_out (ops := opsOf l) (ends := E) (lab := lab) (n := n) (.inl h0))
    go_wp2
    go_ret
    exact ⟨ret_int HF.out.symm, rfl⟩
  by_cases h1 : (lab.length : Int) ≤ n
  · have HF := Lib.hid (placeP_out (ops := opsOf l) (ends := E) (lab := lab) (n := n) (.inr h1))
    go_wp2
    go_ret
    exact ⟨ret_int HF.out.symm, rfl⟩
  have HF := Lib.hid (placeP_in (ops := opsOf l) (ends := E) (lab := lab) (n := n) (by omega))
  obtain ⟨k, rfl⟩ : ∃ k : Nat, n = k := ⟨n.toNat, by omega⟩
  have hk : k < lab.length := by omega
  obtain ⟨la', lc', e, _, _, hle⟩ := HLb.out
  simp only [Value.slice.injEq] at e
  obtain ⟨rfl, _, rfl⟩ := e
  obtain ⟨lb, lo, rfl, _, hcl⟩ := hle k hk
  have hx := HLR.out lab[k] (List.getElem_mem hk)
  have hg : lab.getD (k : Int).toNat (-1) = lab[k] := by rw [Int.toNat_natCast, List.getD_eq_getElem?_getD, List.getElem?_eq_getElem hk]; rfl
  have HG : Hid (placeP (opsOf l) E lab k = placeQ (opsOf l) E lab[k]) := Lib.hid (by rw [HF.out, hg])
  clear hle hg HF HLR
  generalize lab[k] = o at *
  by_cases ho : o < 0
  · have HR : Hid (placeP (opsOf l) E lab k = l.length) := Lib.hid (by rw [HG.out, placeQ, if_pos ho, HLO.out])
    go_wp2
    go_ret
    exact ⟨ret_int HR.out.symm, rfl⟩
  obtain ⟨j, rfl⟩ : ∃ j : Nat, o = j := ⟨o.toNat, by omega⟩
  have hj : j < l.length := by omega
  obtain ⟨b, off, vl, rfl, x0, -, -, -⟩ := Cd.at_ HC.out hj
  have HOP : Hid ((opsOf l).getD (j : Int).toNat 0 = l[j].op) := Lib.hid (by rw [Int.toNat_natCast]; exact opsOf_at hj)
  generalize l[j].op = op at *
  by_cases h3 : op = 3
  · subst h3
    have HR : Hid (placeP (opsOf l) E lab k = ((j + 1 : Nat) : Int)) := Lib.hid (by rw [HG.out, placeQ, if_neg ho, if_pos HOP.out]; omega)
    go_wp2
    go_ret
    exact ⟨ret_int (by rw [HR.out]; omega), rfl⟩
  · have HR : Hid (placeP (opsOf l) E lab k = E.getD (j : Int).toNat (-1) + 1) := Lib.hid (by rw [HG.out, placeQ, if_neg ho, if_neg (by rw [HOP.out]; exact h3)])
    have hjE : j < E.length := by omega
    obtain ⟨ea', ec', e, _, _, hee⟩ := HE.out
    simp only [Value.slice.injEq] at e
    obtain ⟨rfl, _, rfl⟩ := e
    obtain ⟨eb, eo, rfl, _, hce⟩ := hee j hjE
    have hy := HER.out E[j] (List.getElem_mem hjE)
    have HR2 : Hid (placeP (opsOf l) E lab k = E[j] + 1) := Lib.hid (by rw [HR.out, Int.toNat_natCast, List.getD_eq_getElem?_getD, List.getElem?_eq_getElem hjE]; rfl)
    clear hee HR
    generalize E[j] = y at *
    go_wp2
    go_ret
    exact ⟨ret_int (by rw [HR2.out]), rfl⟩
end Go.Proofs.YtiaoonlhgjfdjaaDoor
