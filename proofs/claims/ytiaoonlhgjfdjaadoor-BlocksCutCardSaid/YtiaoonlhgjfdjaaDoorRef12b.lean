/- flagonref12: Cuts, same, Leaders, Of. -/
import Derived.Test.YtiaoonlhgjfdjaaDoorBlk1
import Derived.Test.YtiaoonlhgjfdjaaDoorMapR
import Derived.Test.YtiaoonlhgjfdjaaDoorRdV
import Derived.Test.YtiaoonlhgjfdjaaDoorBlkOf
namespace Go.Proofs.YtiaoonlhgjfdjaaDoor
open Go Go.RowKit

set_option maxRecDepth 100000 in
theorem ref12_Cuts (w : World) (op : Nat) : Calls Tryd.prog 41 #[.int .u8 op] w fun e w' => e = .returned (.bool (decide (cutsP op))) ∧ w' = w := by
  by_cases h : op = 0
  · subst h
    go_enter Tryd.func41, Tryd.ntmps41
    go_wp2
    go_ret
    exact ⟨rfl, rfl⟩
  · have h0 : ((op : Int) == 0) = false := by rw [beq_eq_false_iff_ne]; omega
    by_cases h3 : 3 ≤ op
    · have h3' : decide ((3 : Int) ≤ op) = true := decide_eq_true (by omega)
      by_cases h12 : op ≤ 12
      · have h12' : decide ((op : Int) ≤ 12) = true := decide_eq_true (by omega)
        rw [decide_eq_true (show cutsP op from .inr ⟨h3, h12⟩)]
        clear h h3 h12
        go_enter Tryd.func41, Tryd.ntmps41
        go_wp2
        go_ret
        exact ⟨rfl, rfl⟩
      · have h12' : decide ((op : Int) ≤ 12) = false := decide_eq_false (by omega)
        rw [decide_eq_false (show ¬ cutsP op from fun e => e.elim h fun e => h12 e.2)]
        clear h h3 h12
        go_enter Tryd.func41, Tryd.ntmps41
        go_wp2
        go_ret
        exact ⟨rfl, rfl⟩
    · have h3' : decide ((3 : Int) ≤ op) = false := decide_eq_false (by omega)
      rw [decide_eq_false (show ¬ cutsP op from fun e => e.elim h fun e => h3 e.1)]
      clear h h3
      go_enter Tryd.func41, Tryd.ntmps41
      go_wp2
      go_ret
      exact ⟨rfl, rfl⟩
set_option maxRecDepth 100000 in
set_option maxHeartbeats 400000 in
theorem ref12_same (w : World) (S1 S2) (v1 v2 : Value) (l1 l2 : List Int) (h1 : RdI .i64 S1 w v1 l1) (h2 : RdI .i64 S2 w v2 l2) :
    Calls Tryd.prog 40 #[v1, v2] w fun e w' => e = .returned (.bool (decide (l1 = l2))) ∧ ∃ n, w' = w.drewN n := by
  obtain ⟨a1, c1, rfl, hc1, hm1, r1⟩ := h1
  obtain ⟨a2, c2, rfl, hc2, hm2, r2⟩ := h2
  have H1 := Lib.hid r1; have H2 := Lib.hid r2; clear r1 r2
  by_cases hl : l1.length = l2.length
  · have HL := Lib.hid hl
    have hb : ((l1.length : Int) != l2.length) = false := by simp [hl]
    clear hl
    go_enter Tryd.func40, Tryd.ntmps40
    go_wp2
    go_loopw [5] (fun i wr => ∃ k : Nat, k ≤ l1.length ∧ i = .int .i64 k ∧ Hid (l1.take k = l2.take k) ∧ ∃ n, wr = w.drewN n) (fun i _ => l1.length - (intOf i).toNat)
    case atStart => exact ⟨0, by omega, rfl, by simp [Hid], 0, rfl⟩
    case round =>
      obtain ⟨k, hk, rfl, HT, n, rfl⟩ := hrel
      by_cases hlt : k < l1.length
      · have hlt2 : k < l2.length := by rw [← HL.out]; exact hlt
        obtain ⟨b1, o1, rfl, _, e1⟩ := H1.out k hlt
        obtain ⟨b2, o2, rfl, _, e2⟩ := H2.out k hlt2
        go_wp2
        go_quiet (fail)
        go_wp2
        · rename_i hne
          go_ret
          exact ⟨ret_bool (decide_eq_false (ne_of_get hlt hlt2 (by simpa using hne))).symm, _, World.drewN_drewN _ _ _⟩
        · rename_i heq
          go_roundw
          case rel => exact ⟨k + 1, by omega, by go_num, take_eq_succ hlt hlt2 HT.out (by simpa using heq), _, rfl⟩
          case measure => simp [intOf]; omega
      · go_wp2
        go_ret
        exact ⟨ret_bool (decide_eq_true (eq_of_takes HL.out hlt HT.out)).symm, _, rfl⟩
  · have hb : ((l1.length : Int) != l2.length) = true := by simp; omega
    go_enter Tryd.func40, Tryd.ntmps40
    go_wp2
    go_ret
    exact ⟨ret_bool (decide_eq_false fun h => hl (by rw [h])).symm, 0, rfl⟩
/-- Is k a leader, by the ifs below j? -/
def ldR (ops : List Nat) (E : List Int) (j k : Nat) : Bool := decide (k = 0 ∨ (0 < k ∧ cutsP (ops.getD (k - 1) 0)) ∨ ifAt ops E j k = true)
theorem ldR_iff {ops : List Nat} {E : List Int} {j k : Nat} : ldR ops E j k = true ↔ (k = 0 ∨ (0 < k ∧ cutsP (ops.getD (k - 1) 0)) ∨ ifAt ops E j k = true) := by
  unfold ldR; exact decide_eq_true_iff
theorem ldR_zero (ops : List Nat) (E : List Int) : ldR ops E 0 0 = true := ldR_iff.2 (.inl rfl)
theorem ldR_start {ops : List Nat} {E : List Int} {k : Nat} (hk : 0 < k) : ldR ops E 0 k = decide (cutsP (ops.getD (k - 1) 0)) := by
  have h0 : ifAt ops E 0 k = false := rfl
  rw [Bool.eq_iff_iff, ldR_iff, decide_eq_true_iff, h0]
  constructor
  · rintro (h | h | h)
    · omega
    · exact h.2
    · cases h
  · exact fun h => .inr (.inl ⟨hk, h⟩)
theorem ldR_same {ops : List Nat} {E : List Int} {j k : Nat} (h : ¬ (ops.getD j 0 = 4 ∧ gI E j = (k : Int))) : ldR ops E (j + 1) k = ldR ops E j k := by
  rw [Bool.eq_iff_iff, ldR_iff, ldR_iff, ifAt_succ, decide_eq_false h, Bool.or_false]
theorem ldR_yes {ops : List Nat} {E : List Int} {j k : Nat} (h4 : ops.getD j 0 = 4) (hE : gI E j = (k : Int)) : ldR ops E (j + 1) k = true :=
  ldR_iff.2 (.inr (.inr (by rw [ifAt_succ, decide_eq_true ⟨h4, hE⟩, Bool.or_true])))
theorem ifAt_far {ops : List Nat} (h : (mapP ops).2.2.2.1 = 0) {k : Nat} (hk : k < ops.length) : ifAt ops (mapP ops).1 ops.length k = ifAt ops (mapP ops).1 k k := by
  rw [Bool.eq_iff_iff, ifAt_iff, ifAt_iff]
  constructor
  · rintro ⟨i, h1, h2, h3⟩
    obtain ⟨e, e1, e2, _⟩ := (mapP_br h).closed i h1 (by rw [h2]; exact .inr (.inr rfl))
    exact ⟨i, by rw [e1] at h3; omega, h2, h3⟩
  · rintro ⟨i, h1, h2, h3⟩
    exact ⟨i, by omega, h2, h3⟩
theorem ldR_end {ops : List Nat} (h : (mapP ops).2.2.2.1 = 0) {k : Nat} (hk : k < ops.length) : (leadL ops (mapP ops).1).take k ++ [ldR ops (mapP ops).1 k k] = (leadL ops (mapP ops).1).take (k + 1) := by
  rw [List.take_succ_eq_append_getElem (by rw [leadL_len]; exact hk)]
  congr 1
  have e := leadL_at (E := (mapP ops).1) hk
  rw [List.getD_eq_getElem?_getD, List.getElem?_eq_getElem (by rw [leadL_len]; exact hk)] at e
  congr 1
  refine Eq.trans ?_ (Eq.symm e)
  rw [Bool.eq_iff_iff, ldR_iff, ldK_iff, ifAt_far h hk]
  constructor
  · rintro (h | h | h)
    · exact .inl h
    · exact .inr (.inl ⟨h.1, by omega, h.2⟩)
    · exact .inr (.inr h)
  · rintro (h | h | h)
    · exact .inl h
    · exact .inr (.inl ⟨h.1, h.2.2⟩)
    · exact .inr (.inr h)
/-- How the reference's loop of leaders stands. -/
structure Lr (w w1 : World) (ops : List Nat) (u : Value) (k : Nat) (wr : World) : Prop where
  bel : Below w1.heap.size w1 wr
  own : wr.ownsRow w.heap.size 4 1 u k (bools ((leadL ops (mapP ops).1).take k))
  hB : w.heap.size ≤ w1.heap.size
theorem Lr.next {w w1 wr wy wz : World} {ops : List Nat} {u u' : Value} {k : Nat} {o : Obj} (h : Lr w w1 ops u k wr) (hb : Below wr.heap.size wr wy) (he : (mapP ops).2.2.2.1 = 0) (hk : k < ops.length) (hf : ∀ g, u.ownBlock = some g → w1.heap.size ≤ g)
    (ho : wz.ownsRow w.heap.size 4 1 u' (k + 1) (bools ((leadL ops (mapP ops).1).take k) ++ [.bool (ldR ops (mapP ops).1 k k)])) (hkk : Kept (wy.alloc o) wz u.ownBlock (k * 1)) : Lr w w1 ops u' (k + 1) wz := by
  refine ⟨(((h.bel.trans (hb.mono h.bel.size)).alloc (by have := h.bel.size; have := hb.size; omega) o)).grown hkk.grown (by rw [World.size_alloc]; have := h.bel.size; have := hb.size; omega) hf, ?_, h.hB⟩
  rw [← ldR_end he hk]
  simpa [bools] using ho
set_option maxRecDepth 100000 in
set_option maxHeartbeats 6400000 in
theorem ref12_Leaders (w : World) (v : Value) (l : List InsD) (hc : Cd w v l) (hl : l.length ≤ 1048576) :
    Calls Tryd.prog 18 #[v] w fun e w' => ∃ v', e = .returned v' ∧ Below w.heap.size w w' ∧ w'.ownsRow w.heap.size 4 1 v' (leadersP (opsOf l)).length (bools (leadersP (opsOf l))) := by
  obtain ⟨ib, bi, bz0, bz1, bz2⟩ := info_parts Tryd.infoBoolB
  have HM := Lib.hid (ref09_Map w v l hc hl)
  have HC := Lib.hid hc
  have HLO : Hid ((opsOf l).length = l.length) := Lib.hid (opsOf_len l)
  have HAT : Hid (∀ j (h : j < l.length), (opsOf l).getD j 0 = l[j].op) := Lib.hid fun j h => opsOf_at h
  obtain ⟨va, vc, rfl, _⟩ := hc.len
  clear hc
  go_enter Tryd.func18, Tryd.ntmps18
  go_wp2_with fail
  refine HM.out.mono ?_
  rintro e w1 ⟨v1, v2, v3, rfl, hA⟩
  have HE := Lib.hid hA
  clear hA HM
  obtain ⟨er, her⟩ : ∃ er, (mapP (opsOf l)).2.2.2.1 = er := ⟨_, rfl⟩
  have HER := Lib.hid her
  rw [her]
  generalize (mapP (opsOf l)).2.2.2.2 = q at *
  clear her
  by_cases he : er = 0
  · subst he
    have HF : Hid (leadersP (opsOf l) = leadL (opsOf l) (mapP (opsOf l)).1) := Lib.hid (by rw [leadersP, if_neg (by rw [HER.out]; simp)])
    have HEL : Hid ((mapP (opsOf l)).1.length = l.length) := Lib.hid (by rw [(mapP_ok HER.out).le, HLO.out])
    have HRE : Hid (RdI .i64 (· < w1.heap.size) w1 v1 (mapP (opsOf l)).1) := Lib.hid (HE.out.rows.r1.rd (by rw [HEL.out]; omega)).any
    have HC1 := Lib.hid (Cd.bel HC.out HE.out.bel)
    obtain ⟨ea, ec, rfl, hec⟩ := HRE.out.lenc
    rw [HEL.out] at hec
    have HS : Hid (Lr w w1 (opsOf l) (.slice none 0 0) 0 w1) := Lib.hid ⟨Below.refl _ _, World.ownsRow_nil _ _ _ _, HE.out.bel.size⟩
    go_wp2
    go_loopw [8, 9] (fun u i wr => ∃ k : Nat, k ≤ l.length ∧ i = .int .i64 k ∧ Hid (Lr w w1 (opsOf l) u k wr ∧ ∀ g, u.ownBlock = some g → w1.heap.size ≤ g)) (fun _ i _ => l.length - (intOf i).toNat)
    case atStart => exact ⟨0, by omega, rfl, Lib.hid ⟨HS.out, fun g h => by cases h⟩⟩
    case round =>
      obtain ⟨k, hk, rfl, HR⟩ := hrel
      clear HS
      by_cases hlt : k < l.length
      · have HL0 : Hid (∀ b, b = ldR (opsOf l) (mapP (opsOf l)).1 0 k → True) := Lib.hid fun _ _ => trivial
        obtain ⟨b0, hb0⟩ : ∃ b, ldR (opsOf l) (mapP (opsOf l)).1 0 k = b := ⟨_, rfl⟩
        have HB0 := Lib.hid hb0
        have HCr := Lib.hid (Cd.bel HC1.out HR.out.1.bel)
        have HEr := Lib.hid (HRE.out.bel HR.out.1.bel)
        clear HL0 hb0
        go_upto_region 8 with fail
        go_cut [10] from 28 to 38 (fun b w' => b = .bool b0 ∧ w' = wr)
        case first =>
          by_cases hk0 : k = 0
          · subst hk0
            have hbt : b0 = true := by rw [← HB0.out]; exact ldR_zero _ _
            subst hbt
            go_wp2
            go_meet
            exact ⟨rfl, rfl⟩
          · have h0 : ((k : Int) == 0) = false := by rw [beq_eq_false_iff_ne]; omega
            obtain ⟨b, off, vl, rfl, x0, _⟩ := Cd.at_ HCr.out (k := k - 1) (by omega)
            have e1 : ((k : Int) - 1).toNat = k - 1 := by omega
            have e2 : (0 : Int) ≤ (k : Int) - 1 := by omega
            obtain ⟨op, hop⟩ : ∃ op, l[k - 1].op = op := ⟨_, rfl⟩
            rw [hop] at x0
            have hbt : decide (cutsP op) = b0 := by rw [← HB0.out, ldR_start (by omega), HAT.out (k - 1) (by omega), hop]
            have HBT := Lib.hid hbt
            clear hop hbt hk0
            go_wp2_with (go_at_call 41; refine (ref12_Cuts _ op).mono ?_; rintro e w' ⟨rfl, rfl⟩; rw [HBT.out])
            go_meet
            exact ⟨rfl, rfl⟩
        case rest =>
        obtain ⟨rfl, hwc⟩ := hcut
        obtain rfl : wr = wc := hwc.symm
        go_wp2_with fail
        go_loopw [10, 11] (fun b i wx => ∃ j : Nat, j ≤ k ∧ i = .int .i64 j ∧ wx = wr ∧ ∃ c, b = .bool c ∧ Hid (ldR (opsOf l) (mapP (opsOf l)).1 j k = c)) (fun _ i _ => k - (intOf i).toNat)
        case atStart => exact ⟨0, by omega, rfl, rfl, b0, rfl, HB0⟩
        case round =>
          obtain ⟨j, hj, rfl, rfl, c, rfl, HCc⟩ := hrel
          by_cases hjl : j < k
          · obtain ⟨b, off, vl, rfl, x0, _⟩ := Cd.at_ HCr.out (k := j) (by omega)
            obtain ⟨eb, eo, rfl, _, y0⟩ := rd_cellB HEr.out (j := j) (by rw [HEL.out]; omega)
            have hjE : j < (mapP (opsOf l)).1.length := by rw [HEL.out]; omega
            obtain ⟨op, hop⟩ : ∃ op, l[j].op = op := ⟨_, rfl⟩
            obtain ⟨x, hx⟩ : ∃ x, gI (mapP (opsOf l)).1 j = x := ⟨_, rfl⟩
            rw [hop] at x0; rw [hx] at y0
            have HX := Lib.hid (And.intro ((HAT.out j (by omega)).trans hop) hx)
            clear hop hx
            by_cases h4 : op = 4
            · subst h4
              by_cases hxk : x = (k : Int)
              · have HN := Lib.hid (ldR_yes HX.out.1 (HX.out.2.trans hxk))
                have hq : (x == (k : Int)) = true := by simp [hxk]
                clear hxk
                go_wp2
                go_roundw
                case rel => exact ⟨j + 1, by omega, by go_num, by trivial, true, rfl, HN⟩
                case measure => simp [intOf]; omega
              · have HN := Lib.hid ((ldR_same (fun e => hxk (HX.out.2.symm.trans e.2))).trans HCc.out)
                have hq : (x == (k : Int)) = false := by simp [hxk]
                clear hxk
                go_wp2
                go_roundw
                case rel => exact ⟨j + 1, by omega, by go_num, by trivial, c, rfl, HN⟩
                case measure => simp [intOf]; omega
            · have HN := Lib.hid ((ldR_same (k := k) (fun e => h4 (HX.out.1.symm.trans e.1))).trans HCc.out)
              have hq : ((op : Int) == 4) = false := by rw [beq_eq_false_iff_ne]; omega
              clear h4
              go_wp2
              go_roundw
              case rel => exact ⟨j + 1, by omega, by go_num, by trivial, c, rfl, HN⟩
              case measure => simp [intOf]; omega
          · obtain rfl : k = j := by omega
            have hown := HR.out.1.own.alloc (.cells #[.bool c] 4)
            obtain ⟨ua, uc, rfl, _⟩ := own_slice HR.out.1.own
            have hB := HR.out.1.hB; have hBw := HR.out.1.bel.size
            go_wp2_with (at_builtin; refine wpList_append_kept _ rfl _ _ 35 rfl w.heap.size 4 ib (.bool false) 1 1 Tryd.underlying35 bi bz0 bz1 bz2 rfl (by decide) (.slice ua k uc) k (bools ((leadL (opsOf l) (mapP (opsOf l)).1).take k)) rfl hown ⟨wr.heap.size, 0, none⟩ 1 1 [.bool c] rfl rfl (cell_one_new _ _ _) (by simp [Value.oneCell']) (by unfold maxLen; omega) (by omega) (by rw [World.size_alloc]; omega) ?_)
            intro u' w9 ho hkk hg
            have HN : Hid (Lr w w1 (opsOf l) u' (k + 1) w9 ∧ ∀ g, u'.ownBlock = some g → w1.heap.size ≤ g) := Lib.hid ⟨HR.out.1.next (Below.refl _ _) HER.out (by rw [HLO.out]; exact hlt) HR.out.2 (by rw [HCc.out]; simpa [bools] using ho) (by simpa using hkk), fun g e => (hg g e).elim (HR.out.2 g) fun h => by omega⟩
            clear ho hkk hg hown
            go_wp2
            go_roundw
            case rel => exact ⟨k + 1, by omega, by go_num, HN⟩
            case measure => simp [intOf]; omega
      · obtain rfl : k = l.length := by omega
        go_wp2
        go_ret
        have ho := HR.out.1.own
        rw [List.take_of_length_le (by rw [leadL_len, HLO.out]; omega)] at ho
        exact ⟨_, rfl, below_next HE.out.bel HR.out.1.bel, by rw [HF.out, leadL_len, HLO.out]; exact ho⟩
  · have HF : Hid (leadersP (opsOf l) = []) := Lib.hid (by rw [leadersP, if_pos (by rw [HER.out]; exact he)])
    have hen : (er != 0) = true := by simp [he]
    go_wp2
    go_ret
    exact ⟨_, rfl, HE.out.bel, by rw [HF.out]; exact World.ownsRow_nil _ _ _ _⟩
end Go.Proofs.YtiaoonlhgjfdjaaDoor

namespace Go.Proofs.YtiaoonlhgjfdjaaDoor
open Go Go.RowKit
set_option linter.unusedSimpArgs false

theorem Bl.kept {S : Nat → Prop} {B : Nat} {w w' : World} {v1 v2 : Value} {S1 L1 : List Int} (h : Bl B w v1 v2 S1 L1) (hk : Keeps S w w') (h1 : ∀ g, B ≤ g → S g) : Bl B w' v1 v2 S1 L1 :=
  ⟨own_keeps h.s hk fun g hg => h1 g (h.s.lt g hg).1, own_keeps h.l hk fun g hg => h1 g (h.l.lt g hg).1, h.d⟩
theorem Bl.app1' {B : Nat} {w w' : World} {o : Obj} {v1 v2 v1' : Value} {S1 L1 : List Int} {x : Int} (h : Bl B w v1 v2 S1 L1) (ho : w'.ownsRow B 3 1 v1' (S1.length + 1) (ints S1 ++ [.int .i64 x])) {m : Nat} (hk : Kept (w.alloc o) w' v1.ownBlock m)
    (hg : ∀ g, v1'.ownBlock = some g → v1.ownBlock = some g ∨ w.heap.size + 1 ≤ g) : Bl B w' v1' v2 (S1 ++ [x]) L1 := by
  refine ⟨by simpa [OwnI, ints] using ho, ?_, fun g hg' e => ?_⟩
  · have h2 : (w.alloc o).ownsRow B 3 1 v2 L1.length (ints L1) := own_below h.l (below_alloc _ _)
    exact own_keeps (S := fun b => v1.ownBlock ≠ some b) h2 ((Keeps.refl _ _).grown hk.grown fun k hk' _ h' => h' hk') fun b hb e => h.d b e hb
  · rcases hg g hg' with h1 | h1
    · exact h.d g h1 e
    · have := (h.l.lt g e).2; omega
theorem Bl.app2' {B : Nat} {w w' : World} {o : Obj} {v1 v2 v2' : Value} {S1 L1 : List Int} {x : Int} (h : Bl B w v1 v2 S1 L1) (ho : w'.ownsRow B 3 1 v2' (L1.length + 1) (ints L1 ++ [.int .i64 x])) {m : Nat} (hk : Kept (w.alloc o) w' v2.ownBlock m)
    (hg : ∀ g, v2'.ownBlock = some g → v2.ownBlock = some g ∨ w.heap.size + 1 ≤ g) : Bl B w' v1 v2' S1 (L1 ++ [x]) := by
  refine ⟨?_, by simpa [OwnI, ints] using ho, fun g hg' e => ?_⟩
  · have h2 : (w.alloc o).ownsRow B 3 1 v1 S1.length (ints S1) := own_below h.s (below_alloc _ _)
    exact own_keeps (S := fun b => v2.ownBlock ≠ some b) h2 ((Keeps.refl _ _).grown hk.grown fun k hk' _ h' => h' hk') fun b hb e => h.d b hb e
  · rcases hg g e with h1 | h1
    · exact h.d g hg' h1
    · have := (h.s.lt g hg').2; omega
/-- The pair in the box gb, its rows behind it. -/
structure Ob (w0 : World) (gb : Nat) (S1 L1 : List Int) (v1 v2 : Value) (wr : World) : Prop where
  bel : Below gb w0 wr
  row : wr.heap[gb]? = some (.cells #[v1, v2] 33 (0, 0))
  bl : Bl (gb + 1) wr v1 v2 S1 L1
theorem Ob.drewN {w0 : World} {gb : Nat} {S1 L1 : List Int} {v1 v2 : Value} {wr : World} (h : Ob w0 gb S1 L1 v1 v2 wr) (n : Nat) : Ob w0 gb S1 L1 v1 v2 (wr.drewN n) :=
  ⟨h.bel.trans ((drewN_below wr n).mono (Nat.le_of_lt (row_lt h.row))), h.row, h.bl.kept (Keeps.of_drewN (S := fun _ => True) n) fun _ _ => trivial⟩
theorem Ob.app1 {w0 wr w7 : World} {gb m : Nat} {S1 L1 : List Int} {v1 v2 v1' : Value} {x : Int} {o : Obj} (h : Ob w0 gb S1 L1 v1 v2 wr) (ho : w7.ownsRow (gb + 1) 3 1 v1' (S1.length + 1) (ints S1 ++ [.int .i64 x])) (hk : Kept (wr.alloc o) w7 v1.ownBlock m)
    (hg : ∀ g, v1'.ownBlock = some g → v1.ownBlock = some g ∨ wr.heap.size + 1 ≤ g) : w7.heap[gb]? = some (.cells #[v1, v2] 33 (0, 0)) ∧ Ob w0 gb (S1 ++ [x]) L1 v1' v2 (w7.setCell ⟨gb, 0, none⟩ v1') := by
  have hlt := row_lt h.row
  have hb := h.bl.app1' ho hk hg
  have hr : w7.heap[gb]? = some (.cells #[v1, v2] 33 (0, 0)) := grown_block hk.grown ((Below.heap_alloc wr o gb hlt).trans h.row) fun e => by have := (h.bl.s.lt gb e).1; omega
  refine ⟨hr, ?_, by simpa using row_setCell hr 0 v1', hb.kept (S := fun b => b ≠ gb) ((Keeps.refl _ _).setCell (a := ⟨gb, 0, none⟩) (by simp) _) fun g hg => by omega⟩
  exact (((h.bel.alloc (Nat.le_of_lt hlt) o).grown hk.grown (by rw [World.size_alloc]; omega) fun j hj => by have := (h.bl.s.lt j hj).1; omega).setCell (p := ⟨gb, 0, none⟩) (Nat.le_refl _) _)
theorem Ob.app2 {w0 wr w7 : World} {gb m : Nat} {S1 L1 : List Int} {v1 v2 v2' : Value} {x : Int} {o : Obj} (h : Ob w0 gb S1 L1 v1 v2 wr) (ho : w7.ownsRow (gb + 1) 3 1 v2' (L1.length + 1) (ints L1 ++ [.int .i64 x])) (hk : Kept (wr.alloc o) w7 v2.ownBlock m)
    (hg : ∀ g, v2'.ownBlock = some g → v2.ownBlock = some g ∨ wr.heap.size + 1 ≤ g) : w7.heap[gb]? = some (.cells #[v1, v2] 33 (0, 0)) ∧ Ob w0 gb S1 (L1 ++ [x]) v1 v2' (w7.setCell ⟨gb, 1, none⟩ v2') := by
  have hlt := row_lt h.row
  have hb := h.bl.app2' ho hk hg
  have hr : w7.heap[gb]? = some (.cells #[v1, v2] 33 (0, 0)) := grown_block hk.grown ((Below.heap_alloc wr o gb hlt).trans h.row) fun e => by have := (h.bl.l.lt gb e).1; omega
  refine ⟨hr, ?_, by simpa using row_setCell hr 1 v2', hb.kept (S := fun b => b ≠ gb) ((Keeps.refl _ _).setCell (a := ⟨gb, 1, none⟩) (by simp) _) fun g hg => by omega⟩
  exact (((h.bel.alloc (Nat.le_of_lt hlt) o).grown hk.grown (by rw [World.size_alloc]; omega) fun j hj => by have := (h.bl.l.lt j hj).1; omega).setCell (p := ⟨gb, 1, none⟩) (Nat.le_refl _) _)
/-- Where the segment of the pc before k begins. -/
def stB (l : List Bool) (k : Nat) : Nat := match k with | 0 => 0 | p + 1 => startF l p
theorem stB_le (l : List Bool) (k : Nat) : stB l k ≤ k := by
  cases k with
  | zero => exact Nat.le_refl _
  | succ p => have := (startF_le l p).1; show startF l p ≤ p + 1; omega
theorem stB_yes {l : List Bool} {k : Nat} (h : l.getD k false = true ∨ k - stB l k = 16) : stB l (k + 1) = k := by
  cases k with
  | zero => rfl
  | succ p =>
    have h' : l.getD (p + 1) false = true ∨ p + 1 - startF l p = 16 := h
    show startF l (p + 1) = p + 1
    rw [startF, if_pos h']
theorem stB_no {l : List Bool} {k : Nat} (h1 : l.getD k false = false) (h2 : k - stB l k ≠ 16) : stB l (k + 1) = stB l k := by
  cases k with
  | zero => rfl
  | succ p =>
    have h' : ¬ (l.getD (p + 1) false = true ∨ p + 1 - startF l p = 16) := fun e => e.elim (fun e => by rw [h1] at e; cases e) h2
    show startF l (p + 1) = startF l p
    rw [startF, if_neg h']
theorem startsL_len (l : List Bool) (n : Nat) : (startsL l n).length = n := by simp [startsL]
theorem leftsL_len (l : List Bool) (n : Nat) : (leftsL l n).length = n := by simp [leftsL]
theorem startsL_next (l : List Bool) (k : Nat) : startsL l k ++ [((stB l (k + 1) : Nat) : Int)] = startsL l (k + 1) := by
  unfold startsL; rw [List.range_succ, List.map_append]; rfl
theorem lefts_next (l : List Bool) (n k : Nat) : ((List.range k).map fun p => (leftF l n p : Int)) ++ [(leftF l n k : Int)] = (List.range (k + 1)).map fun p => (leftF l n p : Int) := by
  rw [List.range_succ, List.map_append]; rfl
theorem startsL_at {l : List Bool} {n j : Nat} (h : j < n) : (startsL l n)[j]'(by rw [startsL_len]; exact h) = (startF l j : Int) := by simp [startsL]
theorem ref12_results {tmps : Array Value} {w : World} (g : Nat) (cs : Array Value) (hrow : w.heap[g]? = some (.cells cs 33 (0, 0))) (hsz : cs.size = 2) (h4 : tmps.getD 4 undef = .pointer (some ⟨g, 0, none⟩)) :
    (results Tryd.f16 tmps).run Tryd.prog w = .ok (.agg cs) w := by
  have hl := run_loadVar_row (P := Tryd.prog) w g 33 33 cs (0, 0) _ hrow Tryd.underlying33 rfl (by rw [hsz]; kernel_rfl)
  have h4' : tmps[4]?.getD undef = .pointer (some ⟨g, 0, none⟩) := by simpa using h4
  simp [results, Tryd.results16, asAddr, h4', hl]
theorem blkP_no {ops : List Nat} {te tl : List Int} (h : (mapP ops).2.2.2.1 ≠ 0 ∨ (mapP ops).1 ≠ te ∨ (mapP ops).2.1 ≠ tl) : blkP ops te tl = ([], []) := if_pos h
set_option maxRecDepth 100000 in
set_option maxHeartbeats 6400000 in
theorem ref12_Of (w : World) (v v0 ve vl v3 : Value) (hi : Int) (l : List InsD) (te tl : List Int) (hc : Cd w v l) (he : RdI .i64 (· < w.heap.size) w ve te) (hl' : RdI .i64 (· < w.heap.size) w vl tl) (hl : l.length ≤ 1048576) :
    Calls Tryd.prog 16 #[v, .agg #[v0, ve, vl, v3, .int .i64 hi]] w fun e w' => ∃ v1 v2, e = .returned (.agg #[v1, v2]) ∧ Below w.heap.size w w' ∧ Bl w.heap.size w' v1 v2 (blkP (opsOf l) te tl).1 (blkP (opsOf l) te tl).2 := by
  obtain ⟨i0, hii, hz0, hz1, hz2⟩ := info_parts Tryd.infoIntF
  have HC := Lib.hid hc
  have HLO : Hid ((opsOf l).length = l.length) := Lib.hid (opsOf_len l)
  obtain ⟨va, vc, rfl, _⟩ := hc.len
  obtain ⟨ea, ec, rfl, _⟩ := he.lenc
  obtain ⟨la, lc, rfl, _⟩ := hl'.lenc
  have HE := Lib.hid he; have HL := Lib.hid hl'
  clear hc he hl'
  go_enter Tryd.func16, Tryd.ntmps16
  have hb2 := below_alloc2 w (.cells #[v0, .slice ea te.length ec, .slice la tl.length lc, v3, .int .i64 hi] 26) (.cells #[.slice none 0 0, .slice none 0 0] 33)
  have hrT := heap_alloc_new w (.cells #[v0, .slice ea te.length ec, .slice la tl.length lc, v3, .int .i64 hi] 26)
  have hs1 : (w.alloc (.cells #[v0, .slice ea te.length ec, .slice la tl.length lc, v3, .int .i64 hi] 26)).heap.size = w.heap.size + 1 := World.size_alloc _ _
  have hrR := heap_alloc_new (w.alloc (.cells #[v0, .slice ea te.length ec, .slice la tl.length lc, v3, .int .i64 hi] 26)) (.cells #[.slice none 0 0, .slice none 0 0] 33)
  rw [hs1] at hrR
  have hrT2 := (Below.heap_alloc _ (.cells #[.slice none 0 0, .slice none 0 0] 33) _ (row_lt hrT)).trans hrT
  go_upto_region 1 with fail
  obtain ⟨w2, hw2⟩ : ∃ w2, (w.alloc (.cells #[v0, .slice ea te.length ec, .slice la tl.length lc, v3, .int .i64 hi] 26)).alloc (.cells #[.slice none 0 0, .slice none 0 0] 33) = w2 := ⟨_, rfl⟩
  rw [hw2] at hb2 hrR hrT2 ⊢
  have HB2 := Lib.hid hb2; have HRR := Lib.hid hrR; have HRT := Lib.hid hrT2
  clear hw2 hs1 hb2 hrT hrR hrT2
  have HM := Lib.hid (ref09_Map w2 _ l (Cd.bel HC.out HB2.out) hl)
  go_wp2_with fail
  refine HM.out.mono ?_
  rintro e w3 ⟨u1, u2, u3, rfl, hA⟩
  have HA := Lib.hid hA
  clear hA HM
  have HB3 := Lib.hid (below_next HB2.out HA.out.bel)
  have HR3 := Lib.hid ((HA.out.bel.block _ (row_lt HRR.out)).trans HRR.out)
  have hrT3 := (HA.out.bel.block _ (row_lt HRT.out)).trans HRT.out
  have t1 : w3.cell? ⟨w.heap.size, 1, none⟩ = some (.slice ea te.length ec) := row_cell hrT3 1 rfl
  have t2 : w3.cell? ⟨w.heap.size, 2, none⟩ = some (.slice la tl.length lc) := row_cell hrT3 2 rfl
  have r0 : ∃ u, w3.cell? ⟨w.heap.size + 1, 0, none⟩ = some u := ⟨_, row_cell HR3.out 0 rfl⟩
  have r1 : ∃ u, w3.cell? ⟨w.heap.size + 1, 1, none⟩ = some u := ⟨_, row_cell HR3.out 1 rfl⟩
  have f0 := row_free HR3.out 0; have f1 := row_free HR3.out 1
  obtain ⟨x0, r0⟩ := r0; obtain ⟨x1, r1⟩ := r1
  clear hrT3
  obtain ⟨er, her⟩ : ∃ er, (mapP (opsOf l)).2.2.2.1 = er := ⟨_, rfl⟩
  have HER := Lib.hid her
  rw [her]
  generalize (mapP (opsOf l)).2.2.2.2 = q at *
  clear her
  by_cases he : er = 0
  · subst he
    have HEL : Hid ((mapP (opsOf l)).1.length = l.length) := Lib.hid (by rw [(mapP_ok HER.out).le, HLO.out])
    have HLL : Hid ((mapP (opsOf l)).2.1.length = l.length) := Lib.hid (by rw [(mapP_ok HER.out).ll, HLO.out])
    have HRE : Hid (RdI .i64 (· < w3.heap.size) w3 u1 (mapP (opsOf l)).1) := Lib.hid (HA.out.rows.r1.rd (by rw [HEL.out]; omega)).any
    have HRL : Hid (RdI .i64 (· < w3.heap.size) w3 u2 (mapP (opsOf l)).2.1) := Lib.hid (HA.out.rows.r2.rd (by rw [HLL.out]; omega)).any
    have HTE := Lib.hid (HE.out.bel HB3.out)
    have HTL := Lib.hid (HL.out.bel HB3.out)
    have HLP : Hid (leadersP (opsOf l) = leadL (opsOf l) (mapP (opsOf l)).1) := Lib.hid (by rw [leadersP, if_neg (by rw [HER.out]; simp)])
    have HBP : Hid (blkP (opsOf l) te tl = if (mapP (opsOf l)).1 ≠ te ∨ (mapP (opsOf l)).2.1 ≠ tl then ([], []) else (startsL (leadL (opsOf l) te) (opsOf l).length, leftsL (leadL (opsOf l) te) (opsOf l).length)) := Lib.hid (by
      unfold blkP
      rw [HER.out]
      simp only [ne_eq, not_true_eq_false, false_or])
    clear HA HE HL
    generalize (mapP (opsOf l)).1 = E at *
    generalize (mapP (opsOf l)).2.1 = L at *
    go_wp2_with fail
    refine (ref12_same w3 _ _ _ _ E te HRE.out HTE.out).mono ?_
    rintro e w4 ⟨rfl, n4, hw4⟩
    obtain rfl : w4 = w3.drewN n4 := hw4
    by_cases h1 : E = te
    · rw [decide_eq_true h1]
      go_wp2_with fail
      refine (ref12_same _ _ _ _ _ L tl (HRL.out.bel (drewN_below _ _)) (HTL.out.bel (drewN_below _ _))).mono ?_
      rintro e w5 ⟨rfl, n5, hw5⟩
      have HB5 : Hid (Below w.heap.size w w5) := Lib.hid (by rw [hw5]; exact below_next HB3.out (below_next (drewN_below w3 n4) (drewN_below (w3.drewN n4) n5)))
      have HR5 : Hid (w5.heap[w.heap.size + 1]? = some (.cells #[.slice none 0 0, .slice none 0 0] 33 (0, 0))) := Lib.hid (by rw [hw5]; exact HR3.out)
      have t5 : ∃ x0 x1, w5.cell? ⟨w.heap.size + 1, 0, none⟩ = some x0 ∧ w5.cell? ⟨w.heap.size + 1, 1, none⟩ = some x1 ∧ w5.frozen? ⟨w.heap.size + 1, 0, none⟩ = false ∧ w5.frozen? ⟨w.heap.size + 1, 1, none⟩ = false := ⟨_, _, row_cell HR5.out 0 rfl, row_cell HR5.out 1 rfl, row_free HR5.out 0, row_free HR5.out 1⟩
      obtain ⟨z0, z1, s0, s1, g0, g1⟩ := t5
      clear hw5
      by_cases h2 : L = tl
      · rw [decide_eq_true h2]
        subst h1 h2
        have HF : Hid (blkP (opsOf l) E L = (startsL (leadL (opsOf l) E) l.length, leftsL (leadL (opsOf l) E) l.length)) := Lib.hid (by rw [HBP.out, if_neg (by simp), HLO.out])
        clear t1 t2 r0 r1 f0 f1 s0 s1 g0 g1 HR3 HB3 HTE HTL HRE HRL HRR HRT
        go_wp2_with fail
        refine (ref12_Leaders w5 _ l (Cd.bel HC.out HB5.out) hl).mono ?_
        rintro e w6 ⟨vl, rfl, hb6, ho6⟩
        rw [HLP.out, leadL_len, HLO.out] at ho6
        have HO6 := Lib.hid ho6
        have HB6 := Lib.hid (below_next HB5.out hb6)
        have HR6 := Lib.hid ((hb6.block _ (row_lt HR5.out)).trans HR5.out)
        obtain ⟨la6, lc6, rfl, _⟩ := own_slice ho6
        clear ho6 hb6 HR5
        go_upto_region 6 with fail
        have HOB : Hid (Ob w6 w6.heap.size [] [] (.slice none 0 0) (.slice none 0 0) (w6.alloc (.cells #[.slice none 0 0, .slice none 0 0] 33))) := Lib.hid ⟨below_alloc _ _, heap_alloc_new _ _, Bl.none _ _⟩
        obtain ⟨ld, hld⟩ : ∃ ld, leadL (opsOf l) E = ld := ⟨_, rfl⟩
        have HLD : Hid (ld.length = l.length) := Lib.hid (by rw [← hld, leadL_len, HLO.out])
        rw [hld] at HF HO6
        clear hld HBP HLP
        have HLC : Hid (∀ wr, Below w6.heap.size w6 wr → ∀ k, k < l.length → ∃ g, la6 = some ⟨g, 0, none⟩ ∧ wr.cell? ⟨g, k, none⟩ = some (.bool (ld.getD k false))) := Lib.hid fun wr hb k hk => by
          have hk' : k < ld.length := by rw [HLD.out]; exact hk
          rcases HO6.out.2 with ⟨e, _⟩ | ⟨g, c, cur, e, _⟩
          · simp only [Value.slice.injEq] at e; omega
          · simp only [Value.slice.injEq] at e
            obtain ⟨rfl, _, _⟩ := e
            refine ⟨g, rfl, cell_below hb (own_at HO6.out rfl ?_)⟩
            rw [bools, List.getElem?_map, List.getElem?_eq_getElem hk', List.getD_eq_getElem?_getD, List.getElem?_eq_getElem hk']; rfl
        have HGB : Hid (w.heap.size + 1 < w6.heap.size) := Lib.hid (row_lt HR6.out)
        obtain ⟨gb, hgb⟩ : ∃ gb, w6.heap.size = gb := ⟨_, rfl⟩
        have hG := HGB.out
        rw [hgb] at HOB HLC hG ⊢
        clear hgb HGB
        go_wp2
        go_loopw [12, 13] (fun s i wr => ∃ k : Nat, k ≤ l.length ∧ i = .int .i64 k ∧ s = .int .i64 (stB ld k) ∧ Hid (∃ v1, Ob w6 gb (startsL ld k) [] v1 (.slice none 0 0) wr)) (fun _ i _ => l.length - (intOf i).toNat)
        case atStart => exact ⟨0, by omega, rfl, rfl, Lib.hid ⟨_, HOB.out⟩⟩
        case round =>
          obtain ⟨k, hk, rfl, rfl, HOk⟩ := hrel
          clear HOB
          obtain ⟨v1, hob⟩ := HOk.out
          have HO := Lib.hid hob
          clear hob HOk
          by_cases hlt : k < l.length
          · obtain ⟨g, rfl, x0⟩ := HLC.out wr HO.out.bel k hlt
            obtain ⟨b, hb⟩ : ∃ b, ld.getD k false = b := ⟨_, rfl⟩
            obtain ⟨s, hs⟩ : ∃ s, stB ld k = s := ⟨_, rfl⟩
            have hsk := stB_le ld k
            obtain ⟨t, ht⟩ : ∃ t, stB ld (k + 1) = t := ⟨_, rfl⟩
            have HT := Lib.hid ht
            have HY : Hid (b = true → t = k) := Lib.hid fun e => by rw [← ht]; exact stB_yes (.inl (hb.trans e))
            have HY2 : Hid (k - s = 16 → t = k) := Lib.hid fun e => by rw [← ht]; exact stB_yes (.inr (by rw [hs]; exact e))
            have HN : Hid (b = false → k - s ≠ 16 → t = s) := Lib.hid fun e e2 => by rw [← ht, ← hs]; exact stB_no (hb.trans e) (by rw [hs]; exact e2)
            rw [hb] at x0
            rw [hs] at hsk ⊢
            clear hb hs ht
            cases b with
            | true =>
              have HTX : Hid (stB ld (k + 1) = k) := Lib.hid (HT.out.trans (HY.out rfl))
              obtain ⟨a1, c1, rfl, _⟩ := own_slice HO.out.bl.s
              rw [startsL_len] at HO
              have hd0 := row_cell HO.out.row 0 rfl
              simp only [List.getElem_toArray, List.getElem_cons_zero] at hd0
              have hown := HO.out.bl.s.alloc (.cells #[.int .i64 k] 3)
              rw [startsL_len] at hown
              have hlt1 := row_lt HO.out.row
              clear HN HY HY2
              go_wp2_with (at_builtin; refine wpList_append_kept _ rfl _ _ 24 rfl (gb + 1) 3 i0 (.int .i64 0) 1 8 Tryd.underlying24 hii hz0 hz1 hz2 rfl (by decide) (.slice a1 k c1) k (ints (startsL ld k)) rfl hown ⟨wr.heap.size, 0, none⟩ 1 1 [.int .i64 k] rfl rfl (cell_one_new _ _ _) (by simp [Value.oneCell']) (by unfold maxLen; omega) (by omega) (by rw [World.size_alloc]; omega) ?_)
              intro v1' w9 ho hkk hg
              obtain ⟨hr9, hob9⟩ := HO.out.app1 (by rw [startsL_len]; simpa [ints] using ho) hkk hg
              have hsx := startsL_next ld k
              rw [HTX.out] at hsx
              rw [hsx] at hob9
              clear hsx
              obtain ⟨a9, c9, rfl, _⟩ := own_slice ho
              have HO9 := Lib.hid hob9
              have e0 := row_cell hr9 0 rfl
              have f0 := row_free hr9 0
              clear ho hkk hg hr9 hob9 hown hd0
              go_wp2
              go_roundw
              case rel => exact ⟨k + 1, by omega, by go_num, by rw [HTX.out], Lib.hid ⟨_, HO9.out⟩⟩
              case measure => simp [intOf]; omega
            | false =>
              by_cases h16 : k - s = 16
              · have HTX : Hid (stB ld (k + 1) = k) := Lib.hid (HT.out.trans (HY2.out h16))
                have hq : ((k : Int) - s == 16) = true := by simp; omega
                clear h16
                obtain ⟨a1, c1, rfl, _⟩ := own_slice HO.out.bl.s
                rw [startsL_len] at HO
                have hd0 := row_cell HO.out.row 0 rfl
                simp only [List.getElem_toArray, List.getElem_cons_zero] at hd0
                have hown := HO.out.bl.s.alloc (.cells #[.int .i64 k] 3)
                rw [startsL_len] at hown
                have hlt1 := row_lt HO.out.row
                clear HN HY HY2
                go_wp2_with (at_builtin; refine wpList_append_kept _ rfl _ _ 24 rfl (gb + 1) 3 i0 (.int .i64 0) 1 8 Tryd.underlying24 hii hz0 hz1 hz2 rfl (by decide) (.slice a1 k c1) k (ints (startsL ld k)) rfl hown ⟨wr.heap.size, 0, none⟩ 1 1 [.int .i64 k] rfl rfl (cell_one_new _ _ _) (by simp [Value.oneCell']) (by unfold maxLen; omega) (by omega) (by rw [World.size_alloc]; omega) ?_)
                intro v1' w9 ho hkk hg
                obtain ⟨hr9, hob9⟩ := HO.out.app1 (by rw [startsL_len]; simpa [ints] using ho) hkk hg
                have hsx := startsL_next ld k
                rw [HTX.out] at hsx
                rw [hsx] at hob9
                clear hsx
                obtain ⟨a9, c9, rfl, _⟩ := own_slice ho
                have HO9 := Lib.hid hob9
                have e0 := row_cell hr9 0 rfl
                have f0 := row_free hr9 0
                clear ho hkk hg hr9 hob9 hown hd0
                go_wp2
                go_roundw
                case rel => exact ⟨k + 1, by omega, by go_num, by rw [HTX.out], Lib.hid ⟨_, HO9.out⟩⟩
                case measure => simp [intOf]; omega
              · have HTX : Hid (stB ld (k + 1) = s) := Lib.hid (HT.out.trans (HN.out rfl h16))
                have hq : ((k : Int) - s == 16) = false := by rw [beq_eq_false_iff_ne]; omega
                clear h16
                obtain ⟨a1, c1, rfl, _⟩ := own_slice HO.out.bl.s
                rw [startsL_len] at HO
                have hd0 := row_cell HO.out.row 0 rfl
                simp only [List.getElem_toArray, List.getElem_cons_zero] at hd0
                have hown := HO.out.bl.s.alloc (.cells #[.int .i64 s] 3)
                rw [startsL_len] at hown
                have hlt1 := row_lt HO.out.row
                clear HN HY HY2
                go_wp2_with (at_builtin; refine wpList_append_kept _ rfl _ _ 24 rfl (gb + 1) 3 i0 (.int .i64 0) 1 8 Tryd.underlying24 hii hz0 hz1 hz2 rfl (by decide) (.slice a1 k c1) k (ints (startsL ld k)) rfl hown ⟨wr.heap.size, 0, none⟩ 1 1 [.int .i64 s] rfl rfl (cell_one_new _ _ _) (by simp [Value.oneCell']) (by unfold maxLen; omega) (by omega) (by rw [World.size_alloc]; omega) ?_)
                intro v1' w9 ho hkk hg
                obtain ⟨hr9, hob9⟩ := HO.out.app1 (by rw [startsL_len]; simpa [ints] using ho) hkk hg
                have hsx := startsL_next ld k
                rw [HTX.out] at hsx
                rw [hsx] at hob9
                clear hsx
                obtain ⟨a9, c9, rfl, _⟩ := own_slice ho
                have HO9 := Lib.hid hob9
                have e0 := row_cell hr9 0 rfl
                have f0 := row_free hr9 0
                clear ho hkk hg hr9 hob9 hown hd0
                go_wp2
                go_roundw
                case rel => exact ⟨k + 1, by omega, by go_num, by rw [HTX.out], Lib.hid ⟨_, HO9.out⟩⟩
                case measure => simp [intOf]; omega
          · obtain rfl : k = l.length := by omega
            obtain ⟨a1, c1, rfl, _⟩ := own_slice HO.out.bl.s
            rw [startsL_len] at HO
            generalize hst : stB ld l.length = sN at *
            clear hst hlt hk
            go_wp2
            go_loopw [14] (fun i wr => ∃ k : Nat, k ≤ l.length ∧ i = .int .i64 k ∧ Hid (∃ v2, Ob w6 gb (startsL ld l.length) ((List.range k).map fun p => (leftF ld l.length p : Int)) (.slice a1 l.length c1) v2 wr)) (fun i _ => l.length - (intOf i).toNat)
            case atStart => exact ⟨0, by omega, rfl, Lib.hid ⟨_, HO.out⟩⟩
            case round =>
              obtain ⟨k, hk, rfl, HOk⟩ := hrel
              clear HO
              obtain ⟨v2, hob⟩ := HOk.out
              have HO := Lib.hid hob
              clear hob HOk
              have hll : ((List.range k).map fun p => (leftF ld l.length p : Int)).length = k := by simp
              obtain ⟨a2, c2, rfl, _⟩ := own_slice HO.out.bl.l
              rw [hll] at HO
              generalize hLf : ((List.range k).map fun p => (leftF ld l.length p : Int)) = Lf at *
              have HLf := Lib.hid (And.intro hLf hll)
              clear hLf hll
              by_cases hlt : k < l.length
              · obtain ⟨res, hres⟩ : ∃ res, leftF ld l.length k = res := ⟨_, rfl⟩
                have HRES := Lib.hid hres
                go_wp2
                go_loopw [15] (fun i wr => ∃ m f : Nat, 1 ≤ m ∧ k + m ≤ l.length ∧ i = .int .i64 m ∧ f + m = l.length + 1 ∧ Hid (leftG ld l.length k f m = res) ∧ Hid (Ob w6 gb (startsL ld l.length) Lf (.slice a1 l.length c1) (.slice a2 k c2) wr)) (fun i _ => l.length + 1 - (intOf i).toNat)
                case atStart => exact ⟨1, l.length, by omega, by omega, rfl, rfl, HRES, HO⟩
                case round =>
                  obtain ⟨m, f, hm1, hm2, rfl, hfm, HG, HO⟩ := hrel
                  have hd0 := row_cell HO.out.row 0 rfl
                  have hd1 := row_cell HO.out.row 1 rfl
                  simp only [List.getElem_toArray, List.getElem_cons_zero, List.getElem_cons_succ] at hd0 hd1
                  obtain ⟨f', rfl⟩ : ∃ f', f = f' + 1 := ⟨f - 1, by omega⟩
                  have hg := HG.out
                  rw [leftG] at hg
                  obtain ⟨g1, c1', e1, _, _, hck, _⟩ := HO.out.bl.s.at_ (k := k) (by rw [startsL_len]; exact hlt)
                  simp only [Value.slice.injEq] at e1
                  obtain ⟨rfl, -, -⟩ := e1
                  rw [startsL_at hlt] at hck
                  have HFM := Lib.hid hfm
                  clear hfm
                  by_cases hin : k + m < l.length
                  · obtain ⟨g1', c1', e1, _, _, hcm, _⟩ := HO.out.bl.s.at_ (k := k + m) (by rw [startsL_len]; exact hin)
                    simp only [Value.slice.injEq, Option.some.injEq, Addr.mk.injEq, and_true] at e1
                    obtain ⟨rfl, -⟩ := e1
                    rw [startsL_at hin] at hcm
                    have i1 : (0 : Int) ≤ (k : Int) + m := by omega
                    have i2 : ((k : Int) + m).toNat = k + m := by omega
                    have i3 : (k : Int) + m < l.length := by omega
                    have i4 : (k : Int) < l.length := by omega
                    by_cases heq : startF ld (k + m) = startF ld k
                    · rw [if_pos ⟨hin, heq⟩] at hg
                      have HG2 := Lib.hid hg
                      have hq : ((startF ld (k + m) : Int) == (startF ld k : Int)) = true := by simp [heq]
                      generalize startF ld (k + m) = y1 at *
                      generalize startF ld k = y2 at *
                      have i5 : decide ((k : Int) + m < (l.length : Int)) = true := decide_eq_true i3
                      have i6 : IntKind.i64.wrap ((k : Int) + m) = (k : Int) + m := IntWalk.i64_in _ (by omega)
                      clear hg heq
                      go_wp2_with fail
                      go_quiet (fail)
                      clear i6
                      have HO2 := Lib.hid (HO.out.drewN nq)
                      go_wp2
                      go_roundw
                      case rel => exact ⟨m + 1, f', by omega, by omega, by go_num, by have := HFM.out; omega, HG2, HO2⟩
                      case measure => simp [intOf]; omega
                    · rw [if_neg (fun e => heq e.2)] at hg
                      have hq : ((startF ld (k + m) : Int) == (startF ld k : Int)) = false := by rw [beq_eq_false_iff_ne]; omega
                      generalize startF ld (k + m) = y1 at *
                      generalize startF ld k = y2 at *
                      have i5 : decide ((k : Int) + m < (l.length : Int)) = true := decide_eq_true i3
                      have i6 : IntKind.i64.wrap ((k : Int) + m) = (k : Int) + m := IntWalk.i64_in _ (by omega)
                      have hres2 : m = res := hg
                      have HM2 := Lib.hid hres2
                      clear hg hres2 heq
                      go_wp2_with fail
                      go_quiet (fail)
                      clear i6
                      have HO2 := Lib.hid (HO.out.drewN nq)
                      have hown := HO2.out.bl.l.alloc (.cells #[.int .i64 m] 3)
                      rw [HLf.out.2] at hown
                      have hlt1 : gb < wr.heap.size := row_lt HO.out.row
                      have hlt2 : gb < (wr.drewN nq).heap.size := hlt1
                      go_wp2_with (at_builtin; refine wpList_append_kept _ rfl _ _ 24 rfl (gb + 1) 3 i0 (.int .i64 0) 1 8 Tryd.underlying24 hii hz0 hz1 hz2 rfl (by decide) (.slice a2 k c2) k (ints Lf) rfl hown ⟨wr.heap.size, 0, none⟩ 1 1 [.int .i64 m] rfl rfl (cell_one_new _ _ _) (by simp [Value.oneCell']) (by unfold maxLen; omega) (by omega) (by rw [World.size_alloc]; omega) ?_)
                      intro v2' w9 ho hkk hg
                      obtain ⟨hr9, hob9⟩ := HO2.out.app2 (by rw [HLf.out.2]; simpa [ints] using ho) hkk hg
                      obtain ⟨a9, c9, rfl, _⟩ := own_slice ho
                      rw [← HLf.out.1, HM2.out, ← HRES.out, lefts_next] at hob9
                      have HO9 := Lib.hid hob9
                      have e0 := row_cell hr9 1 rfl
                      have f0 := row_free hr9 1
                      clear ho hkk hg hr9 hob9 hown
                      go_wp2
                      go_roundw
                      case rel => exact ⟨k + 1, by omega, by go_num, Lib.hid ⟨_, HO9.out⟩⟩
                      case measure => simp [intOf]; omega
                  · rw [if_neg (fun e => hin e.1)] at hg
                    have i5 : decide ((k : Int) + m < (l.length : Int)) = false := decide_eq_false (by omega)
                    have i6 : IntKind.i64.wrap ((k : Int) + m) = (k : Int) + m := IntWalk.i64_in _ (by omega)
                    have hres2 : m = res := hg
                    have HM2 := Lib.hid hres2
                    clear hg hres2 
                    go_wp2_with fail
                    go_quiet (fail)
                    clear i6
                    have HO2 := Lib.hid (HO.out.drewN nq)
                    have hown := HO2.out.bl.l.alloc (.cells #[.int .i64 m] 3)
                    rw [HLf.out.2] at hown
                    have hlt1 : gb < wr.heap.size := row_lt HO.out.row
                    have hlt2 : gb < (wr.drewN nq).heap.size := hlt1
                    go_wp2_with (at_builtin; refine wpList_append_kept _ rfl _ _ 24 rfl (gb + 1) 3 i0 (.int .i64 0) 1 8 Tryd.underlying24 hii hz0 hz1 hz2 rfl (by decide) (.slice a2 k c2) k (ints Lf) rfl hown ⟨wr.heap.size, 0, none⟩ 1 1 [.int .i64 m] rfl rfl (cell_one_new _ _ _) (by simp [Value.oneCell']) (by unfold maxLen; omega) (by omega) (by rw [World.size_alloc]; omega) ?_)
                    intro v2' w9 ho hkk hg
                    obtain ⟨hr9, hob9⟩ := HO2.out.app2 (by rw [HLf.out.2]; simpa [ints] using ho) hkk hg
                    obtain ⟨a9, c9, rfl, _⟩ := own_slice ho
                    rw [← HLf.out.1, HM2.out, ← HRES.out, lefts_next] at hob9
                    have HO9 := Lib.hid hob9
                    have e0 := row_cell hr9 1 rfl
                    have f0 := row_free hr9 1
                    clear ho hkk hg hr9 hob9 hown
                    go_wp2
                    go_roundw
                    case rel => exact ⟨k + 1, by omega, by go_num, Lib.hid ⟨_, HO9.out⟩⟩
                    case measure => simp [intOf]; omega
              · obtain rfl : k = l.length := by omega
                have hd0 := row_cell HO.out.row 0 rfl
                have hd1 := row_cell HO.out.row 1 rfl
                simp only [List.getElem_toArray, List.getElem_cons_zero, List.getElem_cons_succ] at hd0 hd1
                have HR9 : Hid (wr.heap[w.heap.size + 1]? = some (.cells #[.slice none 0 0, .slice none 0 0] 33 (0, 0))) := Lib.hid ((HO.out.bel.block _ hG).trans HR6.out)
                have z5 : ∃ x0 x1, wr.cell? ⟨w.heap.size + 1, 0, none⟩ = some x0 ∧ wr.cell? ⟨w.heap.size + 1, 1, none⟩ = some x1 ∧ wr.frozen? ⟨w.heap.size + 1, 0, none⟩ = false ∧ wr.frozen? ⟨w.heap.size + 1, 1, none⟩ = false := ⟨_, _, row_cell HR9.out 0 rfl, row_cell HR9.out 1 rfl, row_free HR9.out 0, row_free HR9.out 1⟩
                obtain ⟨z0, z1, s0, s1, g0, g1⟩ := z5
                have hne : gb ≠ w.heap.size + 1 := by omega
                clear hlt hk
                go_wp2
                have hrr := row_setCell (row_setCell HR9.out 0 (.slice a1 l.length c1)) 1 (.slice a2 l.length c2)
                simp only [List.setIfInBounds_toArray, List.set_cons_zero, List.set_cons_succ] at hrr
                refine bodyPost_ret (ref12_results (w.heap.size + 1) _ hrr rfl rfl) rfl ⟨_, _, rfl, ?_, ?_⟩
                · exact ((((HB6.out.trans (HO.out.bel.mono (by omega)))).setCell (p := ⟨w.heap.size + 1, 0, none⟩) (by simp) _).setCell (p := ⟨w.heap.size + 1, 1, none⟩) (by simp) _)
                · rw [HF.out]
                  show Bl _ _ _ _ (startsL ld l.length) (leftsL ld l.length)
                  have hbl := HO.out.bl
                  rw [← HLf.out.1] at hbl
                  have hk2 := hbl.kept (S := fun b => b ≠ w.heap.size + 1) (((Keeps.refl _ wr).setCell (a := ⟨w.heap.size + 1, 0, none⟩) (by simp) (.slice a1 l.length c1)).setCell (a := ⟨w.heap.size + 1, 1, none⟩) (by simp) (.slice a2 l.length c2)) fun g hg => by omega
                  exact ⟨own_base hk2.s (by omega), own_base hk2.l (by omega), hk2.d⟩
      · rw [decide_eq_false h2]
        have HF : Hid (blkP (opsOf l) te tl = ([], [])) := Lib.hid (HBP.out.trans (if_pos (.inr h2)))
        clear h1 h2
        go_wp2
        refine bodyPost_ret (ref12_results (w.heap.size + 1) #[.slice none 0 0, .slice none 0 0] (of_none HR5.out) rfl rfl) rfl ⟨_, _, rfl, ?_, by rw [HF.out]; exact Bl.none _ _⟩
        exact (HB5.out.setCell (p := ⟨w.heap.size + 1, 0, none⟩) (by simp) _).setCell (p := ⟨w.heap.size + 1, 1, none⟩) (by simp) _
    · rw [decide_eq_false h1]
      have HF : Hid (blkP (opsOf l) te tl = ([], [])) := Lib.hid (HBP.out.trans (if_pos (.inl h1)))
      have HR4 : Hid ((w3.drewN n4).heap[w.heap.size + 1]? = some (.cells #[.slice none 0 0, .slice none 0 0] 33 (0, 0))) := HR3
      have HB4 := Lib.hid (below_next HB3.out (drewN_below w3 n4))
      clear h1
      go_wp2
      refine bodyPost_ret (ref12_results (w.heap.size + 1) #[.slice none 0 0, .slice none 0 0] (of_none HR4.out) rfl rfl) rfl ⟨_, _, rfl, ?_, by rw [HF.out]; exact Bl.none _ _⟩
      exact (HB4.out.setCell (p := ⟨w.heap.size + 1, 0, none⟩) (by simp) _).setCell (p := ⟨w.heap.size + 1, 1, none⟩) (by simp) _
  · have HF : Hid (blkP (opsOf l) te tl = ([], [])) := Lib.hid (blkP_no (.inl (by rw [HER.out]; exact he)))
    have hen : (er != 0) = true := by simp [he]
    go_wp2
    refine bodyPost_ret (ref12_results (w.heap.size + 1) #[.slice none 0 0, .slice none 0 0] (of_none HR3.out) rfl rfl) rfl ⟨_, _, rfl, ?_, by rw [HF.out]; exact Bl.none _ _⟩
    exact (HB3.out.setCell (p := ⟨w.heap.size + 1, 0, none⟩) (by simp) _).setCell (p := ⟨w.heap.size + 1, 1, none⟩) (by simp) _
end Go.Proofs.YtiaoonlhgjfdjaaDoor
