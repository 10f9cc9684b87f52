/- control.Labels. -/
import Derived.Test.YtiaoonlhgjfdjaaDoorLabels
namespace Go.Proofs.YtiaoonlhgjfdjaaDoor
open Go Go.RowKit

theorem OwnI.rd {B T : Nat} {w : World} {v : Value} {l : List Int} (h : OwnI B T w v l) (hl : l.length ≤ 140737488355328) : RdI .i64 (fun b => v.ownBlock = some b) w v l := RdI.of_own h hl
theorem labelsP_none {ops : List Nat} {pc : Int} (h : (mapP ops).2.2.2.1 ≠ 0 ∨ pc < 0 ∨ (ops.length : Int) ≤ pc) : labelsP ops pc = [] := by rw [labelsP, if_pos h]
theorem labelsP_some {ops : List Nat} {n : Nat} (h : (mapP ops).2.2.2.1 = 0) (hn : n < ops.length) : labelsP ops n = labP (mapP ops).2.2.1 n := by
  rw [labelsP, if_neg (by omega)]; rfl
set_option maxRecDepth 100000 in
set_option maxHeartbeats 3200000 in
theorem control_Labels (w : World) (v : Value) (l : List InsD) (pc : Int) (hc : Cd w v l) (hl : l.length ≤ 1048576) :
    Calls Tryd.prog 29 #[v, .int .i64 pc] w fun e w' => ∃ v', e = .returned v' ∧ Below w.heap.size w w' ∧ OwnI w.heap.size 3 w' v' (labelsP (opsOf l) pc) := by
  have HC := Lib.hid (control_Map w v l hc hl)
  obtain ⟨va, vc, rfl, _⟩ := hc.len
  clear hc
  have HLO : Hid ((opsOf l).length = l.length) := Lib.hid (opsOf_len l)
  go_enter Tryd.func29, Tryd.ntmps29
  go_wp2_with fail
  refine HC.out.mono ?_
  rintro e w1 ⟨v1, v2, v3, rfl, hA⟩
  have HE := Lib.hid hA
  clear hA HC
  obtain ⟨er, her⟩ : ∃ er, (mapP (opsOf l)).2.2.2.1 = er := ⟨_, rfl⟩
  have HER := Lib.hid her
  rw [her]
  generalize (mapP (opsOf l)).2.2.2.2 = q at *
  clear her
  by_cases he : er = 0
  · subst he
    by_cases h0 : pc < 0
    · have HF := Lib.hid (labelsP_none (ops := opsOf l) (pc := pc) (.inr (.inl h0)))
      go_wp2
      go_ret
      exact ⟨_, rfl, HE.out.bel, by rw [HF.out]; exact World.ownsRow_nil _ _ _ _⟩
    by_cases h1 : (l.length : Int) ≤ pc
    · have HF := Lib.hid (labelsP_none (ops := opsOf l) (pc := pc) (.inr (.inr (by rw [HLO.out]; exact h1))))
      go_wp2
      go_ret
      exact ⟨_, rfl, HE.out.bel, by rw [HF.out]; exact World.ownsRow_nil _ _ _ _⟩
    obtain ⟨n, rfl⟩ : ∃ n : Nat, pc = n := ⟨pc.toNat, by omega⟩
    have hn : n < l.length := by omega
    have HK := Lib.hid (mapP_ok HER.out)
    have HF := Lib.hid (labelsP_some HER.out (by rw [HLO.out]; exact hn))
    have HLN : Hid ((mapP (opsOf l)).2.2.1.length = l.length) := Lib.hid (by rw [HK.out.lo, HLO.out])
    go_wp2_with fail
    refine (control_labels w1 _ v3 _ n (HE.out.rows.r3.rd (by rw [HLN.out]; omega)) (by rw [HLN.out]; exact hn) HK.out.own (by rw [HLN.out]; exact hl)).mono ?_
    rintro e w2 ⟨v', rfl, hb, ho⟩
    have HZ := Lib.hid (And.intro (below_next HE.out.bel hb) (own_base ho HE.out.bel.size))
    clear hb ho
    go_wp2
    go_ret
    exact ⟨_, rfl, HZ.out.1, by rw [HF.out]; exact HZ.out.2⟩
  · have HF := Lib.hid (labelsP_none (ops := opsOf l) (pc := pc) (.inl (by rw [HER.out]; exact he)))
    go_wp2
    go_ret
    exact ⟨_, rfl, HE.out.bel, by rw [HF.out]; exact World.ownsRow_nil _ _ _ _⟩
end Go.Proofs.YtiaoonlhgjfdjaaDoor
