/- Marks that are new memory: the lists of pages of a bag. -/
import Derived.Test.YthlkckpadjjbdaaDoorMBagG
import Derived.Test.YthlkckpadjjbdaaDoorMText
namespace Go.Proofs.YthlkckpadjjbdaaDoor
open Go Go.RowKit
namespace BagPages
def kd (M : Nat → Nat → Value) : Kd := ⟨31, 24, 1, 15, fun k j => [M k j]⟩
theorem kdok (M : Nat → Nat → Value) : (kd M).Ok := ⟨Nat.one_pos, fun _ _ => rfl⟩
def upd (M : Nat → Nat → Value) (k j : Nat) (x : Value) : Nat → Nat → Value := fun a b => if a = k ∧ b = j then x else M a b
theorem upd_at (M : Nat → Nat → Value) (k j : Nat) (x : Value) : upd M k j x k j = x := if_pos ⟨rfl, rfl⟩
theorem marks_upd {M : Nat → Nat → Value} {k j a : Nat} {x : Value} : ∀ {n : Nat}, (a ≠ k ∨ n ≤ j) → P.marks (kd (upd M k j x)) a n = P.marks (kd M) a n
  | 0, _ => rfl
  | n + 1, h => by
    rw [P.marks, P.marks, marks_upd (by omega)]
    show _ ++ [upd M k j x a n] = _ ++ [M a n]
    rw [upd, if_neg (by omega)]
section
variable {M M' : Nat → Nat → Value} {B gb n i c : Nat} {R0 R R' : Nat → Nat} {w0 w w' : World} {hv v l l' o m : Value} {vs os ms : List Value} {L : Nat → Nat}
theorem in1_upd (h : P.In1 (kd M) B R w0 gb hv vs L w n i v) (x : Value) : P.In1 (kd (upd M n i x)) B R w0 gb hv vs L w n i v := by
  refine ⟨h.went, ⟨h.fr.head, h.fr.rgb, h.fr.list⟩, h.at_, ?_, fun k v a b => ?_, fun k v a b => (h.todo k v a b).imp fun _ h => ⟨h.own, h.role⟩⟩
  · obtain ⟨xs, hr⟩ := h.cur
    exact ⟨xs, by rw [marks_upd (.inr (Nat.le_refl _))]; exact ⟨hr.own, hr.role⟩⟩
  · rw [marks_upd (.inl (by omega))]
    have := h.done k v a b
    exact ⟨this.own, this.role⟩
theorem dn_upd {k Lk : Nat} {vo vm x : Value} (h : P.Dn (kd M) R w k Lk v vo vm) (hk : k ≠ n) : P.Dn (kd (upd M n i x)) R w k Lk v vo vm :=
  ⟨by rw [marks_upd (.inl hk)]; exact h.mine, by rw [marks_upd (.inl hk)]; exact h.fst, by rw [marks_upd (.inl hk)]; exact h.all⟩
theorem in2_upd (h : P.In2 (kd M) B R0 w0 gb hv vs L R w n v i c l o m os ms) (x : Value) : P.In2 (kd (upd M n i x)) B R0 w0 gb hv vs L R w n v i c l o m os ms := by
  refine ⟨h.went, ⟨h.fr.head, h.fr.rgb, h.fr.list⟩, ⟨h.one.own, h.one.role⟩, ⟨h.more.own, h.more.role⟩, h.los, h.lms, ?_, ⟨h.mine.1, ?_, h.mine.2.2⟩, ?_, fun k v a b => ?_, fun k v a b => ?_⟩
  · rw [marks_upd (.inr (Nat.le_refl _))]; exact ⟨h.cur.own, h.cur.role⟩
  · rw [marks_upd (.inr h.mine.2.2)]; exact h.mine.2.1
  · refine h.fst.imp id fun ⟨h1, h2, y, h3, h4⟩ => ⟨h1, h2, y, h3, ?_⟩
    rw [marks_upd (.inr h2)]; exact h4
  · obtain ⟨vo, vm, h1, h2, h3⟩ := h.done k v a b
    exact ⟨vo, vm, h1, h2, dn_upd h3 (by omega)⟩
  · rw [marks_upd (.inl (by omega))]
    have := h.todo k v a b
    exact ⟨this.own, this.role⟩
/-- The marks of the first c k places of each list k lie, of blocks that no list is of. -/
def Txts (R : Nat → Nat) (w : World) (M : Nat → Nat → Value) (c : Nat → Nat) : Prop :=
  ∀ k j, j < c k → ∃ gk cap, M k j = .slice (some ⟨gk, 0, none⟩) (txtB k j).size cap ∧ R gk = 0 ∧ TxtAt w gk (txtB k j)
theorem Txts.turned {q : Nat} {c : Nat → Nat} (h : Txts R w M c) (ht : Turned q R w R' w') (hq : q ≠ 0) : Txts R' w' M c := fun k j hj => by
  obtain ⟨gk, cap, h1, h2, h3⟩ := h k j hj
  exact ⟨gk, cap, h1, (ht.same gk h3.lt).trans h2, h3.keeps ht.keeps (by show R gk ≠ q; rw [h2]; exact fun e => hq e.symm)⟩
theorem Txts.le {c c' : Nat → Nat} (h : Txts R w M c) (hc : ∀ k, c' k ≤ c k) : Txts R w M c' := fun k j hj => h k j (Nat.lt_of_lt_of_le hj (hc k))
theorem Txts.add {c : Nat → Nat} (h : Txts R w M c) (k j gk cap : Nat) (hj : c k ≤ j) (hr : R gk = 0) (ht : TxtAt w gk (txtB k j)) (c' : Nat → Nat) (hc : ∀ a b, b < c' a → (a = k ∧ b = j) ∨ b < c a) :
    Txts R w (upd M k j (.slice (some ⟨gk, 0, none⟩) (txtB k j).size cap)) c' := fun a b hb => by
  by_cases e : a = k ∧ b = j
  · obtain ⟨rfl, rfl⟩ := e
    exact ⟨gk, cap, upd_at _ _ _ _, hr, ht⟩
  · rw [upd, if_neg e]
    exact h a b ((hc a b hb).resolve_left e)
def cA (L : Nat → Nat) (k j : Nat) : Nat → Nat := fun a => if a < k then L a else if a = k then j else 0
def cB (L : Nat → Nat) (N k j : Nat) : Nat → Nat := fun a => if a < k then L a + 70 else if a = k then j else if a < N then L a else 0
def cC (L : Nat → Nat) (N k : Nat) : Nat → Nat := fun a => if a < k then L a + 70 else if a < N then L a else 0
theorem cA_next {L : Nat → Nat} {k Lk : Nat} (h : L k = Lk) (a : Nat) : cA L (k + 1) 0 a ≤ cA L k Lk a := by
  subst h; unfold cA
  by_cases h1 : a < k
  · rw [if_pos (by omega), if_pos h1]; exact Nat.le_refl _
  · by_cases h2 : a = k
    · subst h2; rw [if_pos (by omega), if_neg h1, if_pos rfl]; exact Nat.le_refl _
    · rw [if_neg (by omega)]; split <;> omega
theorem cA_end {L : Nat → Nat} {N : Nat} (a : Nat) : cC L N 0 a ≤ cA L N 0 a := by
  unfold cA cC
  rw [if_neg (by omega)]
  by_cases h1 : a < N
  · rw [if_pos h1, if_pos h1]; exact Nat.le_refl _
  · rw [if_neg h1]; exact Nat.zero_le _
theorem cB_start {L : Nat → Nat} {N k Lk : Nat} (h : Lk = L k) (hk : k < N) (a : Nat) : cB L N k Lk a ≤ cC L N k a := by
  subst h; unfold cB cC
  by_cases h1 : a < k
  · rw [if_pos h1, if_pos h1]; exact Nat.le_refl _
  · rw [if_neg h1, if_neg h1]
    by_cases h2 : a = k
    · subst h2; rw [if_pos rfl, if_pos hk]; exact Nat.le_refl _
    · rw [if_neg h2]; exact Nat.le_refl _
theorem cB_end {L : Nat → Nat} {N k Lk : Nat} (h : Lk = L k) (a : Nat) : cC L N (k + 1) a ≤ cB L N k (Lk + 70) a := by
  subst h; unfold cB cC
  by_cases h1 : a < k
  · rw [if_pos (by omega), if_pos h1]; exact Nat.le_refl _
  · by_cases h2 : a = k
    · subst h2; rw [if_pos (by omega), if_neg h1, if_pos rfl]; exact Nat.le_refl _
    · rw [if_neg (by omega), if_neg h1, if_neg h2]; exact Nat.le_refl _
theorem tp_keeps {S : Nat → Prop} (h : Tp w) (hk : Keeps S w w') (hS : S 0) : Tp w' := by
  unfold Tp Lib.TabIs World.var? at *
  obtain ⟨g, hg, h1⟩ := Option.bind_eq_some_iff.1 h
  refine Option.bind_eq_some_iff.2 ⟨g, hg, ?_⟩
  obtain rfl : g = 0 := Option.some.inj (hg.symm.trans (by kernel_rfl))
  split at h1
  · rename_i cs T fr hr
    rw [hk.block _ (row_lt hr) hS, hr]
    exact h1
  · simp at h1
theorem at0 {S : Nat → Prop} {a : Option Addr} {k j m' : Nat} (h : P.Rd0 S w (.slice a n c) m' (P.marks (kd M) k m')) (hj : j < m') : ∃ b, a = some ⟨b, 0, none⟩ ∧ w.cell? ⟨b, j, none⟩ = some (M k j) := by
  obtain ⟨b, hb, h1⟩ := h.at (kdok M) hj
  have := h1 0 (M k j) rfl
  exact ⟨b, hb, by simpa [kd] using this⟩
/-- A place is written. -/
theorem setPg (h : P.In1 (kd M) B R w0 gb hv vs L w n i v) (hT : Txts R w M (cA L n i)) (hi : i < L n) (hnew : ∀ b, w0.heap.size ≤ b → R b = 0) :
    ∃ g cap, v = .slice (some ⟨g, 0, none⟩) (L n) cap ∧ ∀ w5, Below w.heap.size w w5 → (∃ u, (Lib.bytesWorld w5 5 (txtB n i)).cell? ⟨g, i, none⟩ = some u) ∧ (Lib.bytesWorld w5 5 (txtB n i)).frozen? ⟨g, i, none⟩ = false ∧
      ∀ cap', ∃ M', P.In1 (kd M') B R w0 gb hv vs L ((Lib.bytesWorld w5 5 (txtB n i)).setCell ⟨g, i, none⟩ (.slice (some ⟨w5.heap.size, 0, none⟩) (txtB n i).size cap')) n (i + 1) v ∧ Txts R ((Lib.bytesWorld w5 5 (txtB n i)).setCell ⟨g, i, none⟩ (.slice (some ⟨w5.heap.size, 0, none⟩) (txtB n i).size cap')) M' (cA L n (i + 1)) := by
  obtain ⟨g, cap, e, _, _⟩ := h.set (kdok M) hi
  refine ⟨g, cap, e, fun w5 hb5 => ?_⟩
  have hb6 : Below w.heap.size w (Lib.bytesWorld w5 5 (txtB n i)) := below_next hb5 (txt_below w5 _)
  have st : Still R w R (Lib.bytesWorld w5 5 (txtB n i)) := fun _ => ⟨Keeps.all _ hb6, fun _ _ => rfl⟩
  have hat := txt_at w5 (txtB n i)
  have hlt := hat.lt
  generalize hW : Lib.bytesWorld w5 5 (txtB n i) = w6 at *
  have key : ∀ cap', let x := Value.slice (some ⟨w5.heap.size, 0, none⟩) (txtB n i).size cap'; (∃ u, w6.cell? ⟨g, i, none⟩ = some u) ∧ w6.frozen? ⟨g, i, none⟩ = false ∧ P.In1 (kd (upd M n i x)) B R w0 gb hv vs L (w6.setCell ⟨g, i, none⟩ x) n (i + 1) v ∧ R g = n + 3 := fun cap' => by
    have h6 := (in1_upd h (.slice (some ⟨w5.heap.size, 0, none⟩) (txtB n i).size cap')).still st
    have hrole : R g = n + 3 := by
      obtain ⟨xs, hr⟩ := h6.cur
      exact hr.role g (by rw [e]; rfl)
    obtain ⟨g', cap2, e2, h1, h2⟩ := h6.set (kdok _) hi
    rw [e] at e2
    simp only [Value.slice.injEq, Option.some.injEq, Addr.mk.injEq, and_true, true_and] at e2
    obtain ⟨rfl, rfl⟩ := e2
    have := h1 0 Nat.one_pos
    simp only [kd, Nat.mul_one, Nat.add_zero, setAll, upd_at] at this h2
    exact ⟨this.1, this.2, h2, hrole⟩
  refine ⟨(key 0).1, (key 0).2.1, fun cap' => ⟨_, (key cap').2.2.1, ?_⟩⟩
  have hr0 : R w5.heap.size = 0 := hnew _ (Nat.le_trans h.went.keeps.size hb5.size)
  have t1 := (hT.turned (st 1) (by decide)).add n i w5.heap.size cap' (by simp [cA]) hr0 hat (cA L n (i + 1)) (fun a b hb => by
    unfold cA at *
    split at hb
    · right; rw [if_pos (by assumption)]; exact hb
    · split at hb
      · rename_i h1 h2; subst h2
        by_cases e : b = i
        · exact .inl ⟨rfl, e⟩
        · right; rw [if_neg h1, if_pos rfl]; omega
      · omega)
  exact t1.turned (q := n + 3) (R' := R) ⟨(Keeps.refl _ _).setCell (a := ⟨g, i, none⟩) (by intro hs; exact fun hs2 => hs2 (key 0).2.2.2) _, fun _ _ => rfl⟩ (by omega)
/-- A place more is made ready: its mark lies, and the cell that is to be appended. -/
theorem appPg {N : Nat} (h : P.In2 (kd M) B R0 w0 gb hv vs L R w n v i c l o m os ms) (hT : Txts R w M (cB L N n i)) (w5 : World) (hb5 : Below w.heap.size w w5) (cap : Nat) :
    ∃ M' R', M' n i = .slice (some ⟨w5.heap.size, 0, none⟩) (txtB n i).size cap ∧ P.In2 (kd M') B R0 w0 gb hv vs L R' ((Lib.bytesWorld w5 5 (txtB n i)).alloc (.cells #[.slice (some ⟨w5.heap.size, 0, none⟩) (txtB n i).size cap] 31)) n v i c l o m os ms ∧
      Txts R' ((Lib.bytesWorld w5 5 (txtB n i)).alloc (.cells #[.slice (some ⟨w5.heap.size, 0, none⟩) (txtB n i).size cap] 31)) M' (cB L N n (i + 1)) := by
  have hb6 : Below w.heap.size w (Lib.bytesWorld w5 5 (txtB n i)) := below_next hb5 (txt_below w5 _)
  have hat := txt_at w5 (txtB n i)
  generalize Lib.bytesWorld w5 5 (txtB n i) = w6 at *
  have hba := below_alloc w6 (.cells #[.slice (some ⟨w5.heap.size, 0, none⟩) (txtB n i).size cap] 31)
  have hb7 := below_next hb6 hba
  have hat7 := hat.keeps (Keeps.all (fun _ => True) hba) trivial
  generalize w6.alloc (.cells #[.slice (some ⟨w5.heap.size, 0, none⟩) (txtB n i).size cap] 31) = w7 at *
  have st := Still.below R hb7
  refine ⟨upd M n i _, ext R w.heap.size 0, upd_at _ _ _ _, (in2_upd h _).still st, ?_⟩
  refine (hT.turned (st 1) (by decide)).add n i w5.heap.size cap ?_ (ext_new hb5.size) hat7 _ (fun a b hb => ?_)
  · simp [cB]
  · unfold cB at *
    split at hb
    · right; rw [if_pos (by assumption)]; exact hb
    · split at hb
      · rename_i h1 h2; subst h2
        by_cases e : b = i
        · exact .inl ⟨rfl, e⟩
        · right; rw [if_neg h1, if_pos rfl]; omega
      · rename_i h1 h2
        right; rw [if_neg h1, if_neg h2]; exact hb
end
theorem keepP {wB w : World} {p1 p2 : Addr} {v1 v2 : Value} (H : Hid (wB.cell? p1 = some v1 ∧ wB.cell? p2 = some v2)) (hb : Hid (Below wB.heap.size wB w)) :
    w.cell? p1 = some v1 ∧ w.cell? p2 = some v2 ∧ Hid (Below wB.heap.size wB w) := ⟨cell_below hb.out H.out.1, cell_below hb.out H.out.2, hb⟩
end BagPages
end Go.Proofs.YthlkckpadjjbdaaDoor
