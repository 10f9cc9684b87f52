/- flagonlaw09.works. -/
import Derived.Test.YtiaoonlhgjfdjaaNextC
import Derived.Test.YtiaoonlhgjfdjaaSizeC
import Derived.Test.YtiaoonlhgjfdjaaEqs
namespace Go.Proofs.Ytiaoonlhgjfdjaa
open Go Go.RowKit

theorem three_at {P : Nat → Option Value → Prop} {x y z : Value} (h0 : P 0 (some x)) (h1 : P 1 (some y)) (h2 : P 2 (some z)) : ∀ (i : Nat) (_ : i < 3), P i [x, y, z][i]? := by
  intro i h
  match i, h with
  | 0, _ => exact h0
  | 1, _ => exact h1
  | 2, _ => exact h2
theorem cd_cells {w : World} {g : Nat} {c : Array Value} {T : Nat} {fr : Nat × Nat} (l : List InsD) (n : Nat) (h : w.heap[g]? = some (.cells c T fr)) (hn : l.length ≤ n) (hl : l.length ≤ 1000000)
    (hc : ∀ j (h : j < l.length), c[j * 3]? = some (.int .u8 l[j].op) ∧ c[j * 3 + 1]? = some (.int .i64 l[j].a) ∧ c[j * 3 + 2]? = some (.slice none 0 0) ∧ l[j].l = []) :
    Cd w (.slice (some ⟨g, 0, none⟩) l.length n) l := by
  refine ⟨_, _, rfl, hn, by omega, fun j hj => ?_⟩
  obtain ⟨k0, k1, k2, k3⟩ := hc j hj
  exact ⟨g, 0, [.int .u8 l[j].op, .int .i64 l[j].a, .slice none 0 0], rfl, row_lt h, rfl, three_at (P := fun i u => w.cell? ⟨g, 0 + j * 3 + i, none⟩ = u) (row_cell h _ (by rw [Nat.zero_add]; exact k0)) (row_cell h _ (by rw [Nat.zero_add]; exact k1)) (row_cell h _ (by rw [Nat.zero_add]; exact k2)), _, rfl, by rw [k3]; exact RdI.nil _ _ _⟩
def codeL : List InsD := [⟨4, 0, []⟩, ⟨5, 0, []⟩, ⟨6, 0, []⟩, ⟨6, 0, []⟩]
def codeC : Array Value := #[.int .u8 4, .int .i64 0, .slice none 0 0, .int .u8 5, .int .i64 0, .slice none 0 0, .int .u8 6, .int .i64 0, .slice none 0 0, .int .u8 6, .int .i64 0, .slice none 0 0]
theorem codeL_cd {w : World} {g : Nat} {T : Nat} {fr : Nat × Nat} (h : w.heap[g]? = some (.cells codeC T fr)) : Cd w (.slice (some ⟨g, 0, none⟩) 4 4) codeL ∧ Cd w (.slice (some ⟨g, 0, none⟩) 3 3) (codeL.take 3) := by
  refine ⟨cd_cells codeL 4 h (by decide) (by decide) fun j hj => ?_, cd_cells (codeL.take 3) 3 h (by decide) (by decide) fun j hj => ?_⟩
  · match j, hj with
    | 0, _ => exact ⟨rfl, rfl, rfl, rfl⟩
    | 1, _ => exact ⟨rfl, rfl, rfl, rfl⟩
    | 2, _ => exact ⟨rfl, rfl, rfl, rfl⟩
    | 3, _ => exact ⟨rfl, rfl, rfl, rfl⟩
  · match j, hj with
    | 0, _ => exact ⟨rfl, rfl, rfl, rfl⟩
    | 1, _ => exact ⟨rfl, rfl, rfl, rfl⟩
    | 2, _ => exact ⟨rfl, rfl, rfl, rfl⟩
theorem codeL_map : mapP (opsOf codeL) = ([2, 2, -1, -1], [1, -1, -1, -1], [-1, 0, 0, -1], 0, 0) := by decide +kernel
theorem codeL_map3 : mapP (opsOf (codeL.take 3)) = ([], [], [], 38, 3) := by decide +kernel
theorem codeL_next : nextsP (opsOf codeL) 0 (codeL.getD (0 : Int).toNat insZ).a (codeL.getD (0 : Int).toNat insZ).l = [1, 2] := by decide +kernel
theorem codeL_labels : labelsP (opsOf codeL) 1 = [0, -1] := by decide +kernel
theorem codeL_len : ∀ j (h : j < codeL.length), codeL[j].l.length ≤ 1048576 := by
  intro j h
  match j, h with
  | 0, _ => exact Nat.zero_le _
  | 1, _ => exact Nat.zero_le _
  | 2, _ => exact Nat.zero_le _
  | 3, _ => exact Nat.zero_le _
theorem rd_two {w : World} (x y : Int) : RdI .i64 (· < (w.alloc (.cells #[.int .i64 x, .int .i64 y] 3)).heap.size) (w.alloc (.cells #[.int .i64 x, .int .i64 y] 3)) (.slice (some ⟨w.heap.size, 0, none⟩) 2 2) [x, y] :=
  (rdI_block (k := .i64) (l := [x, y]) (heap_alloc_new w (.cells #[.int .i64 x, .int .i64 y] 3)) (by simp) 2 (by simp)).any
theorem eqIntsT (w : World) (S1 S2) (v1 v2 : Value) (l : List Int) (h1 : RdI .i64 S1 w v1 l) (h2 : RdI .i64 S2 w v2 l) :
    Calls Try.prog 16 #[v1, v2] w fun e w' => e = .returned (.bool true) ∧ ∃ n, w' = w.drewN n := by
  refine (eqInts w S1 S2 v1 v2 l l h1 h2).mono ?_
  rintro e w' ⟨rfl, h⟩
  exact ⟨by simp, h⟩
set_option maxRecDepth 100000 in
set_option maxHeartbeats 6400000 in
theorem law_works09 (w : World) : Calls Try.prog 6 #[] w fun e w' => e = .returned (.bool true) ∧ Below w.heap.size w w' := by
  have hb1 := below_alloc w (.cells codeC 31)
  have hr1 := heap_alloc_new w (.cells codeC 31)
  obtain ⟨hc4, hc3⟩ := codeL_cd hr1
  have HC4 := Lib.hid hc4; have HC3 := Lib.hid hc3; have HB1 := Lib.hid hb1
  have HM := Lib.hid (control_Map _ _ codeL hc4 (by decide))
  unfold codeC at HM hb1 hr1 HC4 HC3 HB1
  clear hb1 hr1 hc4 hc3
  go_enter Try.func6, Try.ntmps6
  go_wp2_with fail
  refine HM.out.mono ?_
  rintro e w2 ⟨v1, v2, v3, rfl, hA⟩
  have hr := hA.rows
  have HB2 := Lib.hid (below_next HB1.out hA.bel)
  have HC42 := Lib.hid (Cd.bel HC4.out hA.bel)
  have HC32 := Lib.hid (Cd.bel HC3.out hA.bel)
  rw [codeL_map] at hr ⊢
  obtain ⟨g1, c1, rfl, _, _, x1, _⟩ := hr.r1.at_ (k := 1) (by decide)
  obtain ⟨g2, c2, rfl, _, _, x2, _⟩ := hr.r2.at_ (k := 0) (by decide)
  obtain ⟨g3, c3, rfl, _, _, x3, _⟩ := hr.r3.at_ (k := 2) (by decide)
  have X := Lib.hid (And.intro x1 (And.intro x2 x3))
  have HM3 := Lib.hid (control_Map w2 _ (codeL.take 3) HC32.out (by decide))
  clear hA HM HB1 HC4 HC3 HC32 x1 x2 x3 hr
  go_wp2_with fail
  refine HM3.out.mono ?_
  rintro e w3 ⟨u1, u2, u3, rfl, hA3⟩
  rw [codeL_map3]
  have HB3 := Lib.hid (below_next HB2.out hA3.bel)
  have HC43 := Lib.hid (Cd.bel HC42.out hA3.bel)
  have x1 : w3.cell? ⟨g1, 1, none⟩ = some (.int .i64 2) := cell_below hA3.bel X.out.1
  have x2 : w3.cell? ⟨g2, 0, none⟩ = some (.int .i64 1) := cell_below hA3.bel X.out.2.1
  have x3 : w3.cell? ⟨g3, 2, none⟩ = some (.int .i64 0) := cell_below hA3.bel X.out.2.2
  have hn := control_Next w3 _ codeL 0 HC43.out (by decide) codeL_len
  rw [codeL_next] at hn
  have HN := Lib.hid hn
  clear hn hA3 HM3 HB2 HC42 X
  go_wp2_with fail
  refine HN.out.mono ?_
  rintro e w4 ⟨v4, rfl, hb4, ho4⟩
  obtain ⟨a4, c4, rfl, _, _⟩ := ho4.slice
  have hb5 := below_alloc w4 (.cells #[.int .i64 1, .int .i64 2] 3)
  have HE := Lib.hid (eqIntsT _ _ _ _ _ [1, 2] ((ho4.rdI (by decide)).any.bel hb5) (rd_two (w := w4) 1 2))
  have HC45 := Lib.hid (Cd.bel (Cd.bel HC43.out hb4) hb5)
  have HB5 := Lib.hid (below_next HB3.out (below_next hb4 hb5))
  clear hb4 ho4 hb5 HN HB3 HC43 x1 x2 x3
  go_wp2_with fail
  refine HE.out.mono ?_
  rintro e w5 ⟨rfl, n5, hw5⟩
  have hb6 := drewN_below (w4.alloc (.cells #[.int .i64 1, .int .i64 2] 3)) n5
  rw [← hw5] at hb6
  have hlb := control_Labels w5 _ codeL 1 (Cd.bel HC45.out hb6) (by decide)
  rw [codeL_labels] at hlb
  have HL := Lib.hid hlb
  have HB6 := Lib.hid (below_next HB5.out hb6)
  clear hlb hb6 hw5 HE HC45 HB5
  go_wp2_with fail
  refine HL.out.mono ?_
  rintro e w7 ⟨v7, rfl, hb7, ho7⟩
  obtain ⟨a7, c7, rfl, _⟩ := own_slice ho7
  have hb8 := below_alloc w7 (.cells #[.int .i64 0, .int .i64 (-1)] 3)
  have HE := Lib.hid (eqIntsT _ _ _ _ _ [0, -1] ((ho7.rd (by decide)).any.bel hb8) (rd_two (w := w7) 0 (-1)))
  have HB8 := Lib.hid (below_next HB6.out (below_next hb7 hb8))
  clear hb7 ho7 hb8 HL HB6
  go_wp2_with fail
  refine HE.out.mono ?_
  rintro e w9 ⟨rfl, n9, rfl⟩
  go_wp2
  go_ret
  exact ⟨rfl, below_next HB8.out (drewN_below _ _)⟩
end Go.Proofs.Ytiaoonlhgjfdjaa
