/- Reading tables. -/
import Derived.Test.YtiaoonlhgjfdjaaDoorOpenC
import Derived.Test.YtiaoonlhgjfdjaaDoorTable2
namespace Go.Proofs.YtiaoonlhgjfdjaaDoor
open Go Go.RowKit Go.Deep

theorem Tryd.kTxt : Tryd.prog.cellsOf 9 = 1 := by kernel_rfl
theorem Tryd.kLTxt : Tryd.prog.cellsOf 23 = 1 := by kernel_rfl
theorem Tryd.kbTxt : Tryd.prog.bytesOf 9 = 16 := by kernel_rfl
theorem Tryd.kTab : Tryd.prog.cellsOf 26 = 5 := by kernel_rfl
section
variable {H : Type} {enc : TypeId × Value → H} {W : World} {P : Program}
/-- How long a slice is that lies within the reach. -/
theorem opens_len {t e : TypeId} (ht : P.underlying t = some (.slice e)) : Opens enc P W t (fun _ cs (_ : Unit) => ∃ a n c, cs = [.slice a n c] ∧ n * P.bytesOf e ≤ reachBytes) := by
  intro fuel cs x h hw
  rcases open_slice ht h with ⟨rfl, _⟩ | ⟨a, len, cap, m, k, D, Pl, rfl, _, hlc, _, hm, rfl, hx⟩
  · exact ⟨(), _, _, _, rfl, by rw [Nat.zero_mul]; exact Nat.zero_le _⟩
  · simp only [if_true] at hm
    subst hm
    simp only [DataW.weights, ht] at hw
    refine ⟨(), _, _, _, rfl, ?_⟩
    have h1 := List.all_eq_true.1 hw ((((List.range len).map D).length + ((List.range (m - len)).map fun j => D (len + j)).length) * P.bytesOf e) (List.mem_cons_self ..)
    simp only [List.length_map, List.length_range, decide_eq_true_eq] at h1
    exact Nat.le_trans (Nat.mul_le_mul_right _ (by omega)) h1
theorem Opens.both {t : TypeId} {α β : Type} {R : World → List Value → α → Prop} {R' : World → List Value → β → Prop} (h : Opens enc P W t R) (h' : Opens enc P W t R') : Opens enc P W t (fun w cs (x : α × β) => R w cs x.1 ∧ R' w cs x.2) := fun fuel cs x hx hw => by
  obtain ⟨a, ha⟩ := h fuel cs x hx hw
  obtain ⟨b, hb⟩ := h' fuel cs x hx hw
  exact ⟨(a, b), ha, hb⟩
theorem RdV.of_RdL {S : Nat → Prop} {w : World} {v : Value} {xs : List ByteArray} (h : RdL 1 RStr S w v xs) : RdV S w v (texts xs) := by
  obtain ⟨a, cap, e, h1, h2, h3⟩ := h
  refine ⟨a, cap, by simpa using e, by simpa using h1, by simpa using h2, fun j hj => ?_⟩
  obtain ⟨b, off, cs, ha, hb, hl, hc, hr, _⟩ := h3 j (by simpa using hj)
  refine ⟨b, off, ha, hb, ?_⟩
  have := hc 0 (by omega)
  rw [hr] at this
  simpa using this
theorem opens_texts : Opens enc Tryd.prog W 23 (fun w cs (xs : List ByteArray) => ∃ v, cs = [v] ∧ RdV (· < W.heap.size) w v (texts xs) ∧ xs.length ≤ 8796093022144) :=
  ((opens_slice Tryd.underlying23 Tryd.kTxt (by omega) (by rw [Tryd.kbTxt]; omega) (opens_string Tryd.underlying9)).both (opens_len Tryd.underlying23)).mono fun cs ⟨xs, _⟩ ⟨⟨v, e, h⟩, a, n, c, e', hn⟩ => by
    refine ⟨xs, v, e, RdV.of_RdL h, ?_⟩
    obtain ⟨a', c', e2, _⟩ := h
    rw [e, e2] at e'
    simp only [List.cons.injEq, Value.slice.injEq, and_true] at e'
    rw [Tryd.kbTxt] at hn
    unfold reachBytes at hn
    omega
theorem opens_intsB : Opens enc Tryd.prog W 24 (fun w cs (xs : List Int) => ∃ v, cs = [v] ∧ RdI .i64 (· < W.heap.size) w v xs ∧ xs.length ≤ 17592186044352) :=
  (opens_intl.both (opens_len Tryd.underlying24)).mono fun cs ⟨xs, _⟩ ⟨⟨v, e, h, _⟩, a, n, c, e', hn⟩ => by
    refine ⟨xs, v, e, h, ?_⟩
    obtain ⟨a', c', e2, _⟩ := h
    rw [e, e2] at e'
    simp only [List.cons.injEq, Value.slice.injEq, and_true] at e'
    rw [Tryd.kbInt] at hn
    unfold reachBytes at hn
    omega
theorem len5 {l : List Value} (h : l.length = 5) : ∃ a b c d e, l = [a, b, c, d, e] := by
  match l, h with
  | [a, b, c, d, e], _ => exact ⟨a, b, c, d, e, rfl⟩
theorem opens_table : Opens enc Tryd.prog W 26 (fun w cs (t : TabD) => ∃ v0 v1 v2 v3, cs = [v0, v1, v2, v3, .int .i64 t.hi] ∧ RTab (· < W.heap.size) w v0 v1 v2 v3 t ∧ t.Ok) := by
  intro fuel cs x h hw
  obtain ⟨hl, hf⟩ := opens_struct Tryd.underlying26 h hw
  rw [Tryd.kTab] at hl
  obtain ⟨a, b, c, d, e, rfl⟩ := len5 hl
  have f0 := hf 0 23 0 1 rfl Tryd.kLTxt opens_texts
  have f1 := hf 1 24 1 1 rfl Tryd.kLInt opens_intsB
  have f2 := hf 2 24 2 1 rfl Tryd.kLInt opens_intsB
  have f3 := hf 3 24 3 1 rfl Tryd.kLInt opens_intsB
  have f4 := hf 4 3 4 1 rfl Tryd.kInt (opens_int (k := .i64) Tryd.underlying3)
  obtain ⟨l0, v0, e0, r0, b0⟩ := f0
  obtain ⟨l1, v1, e1, r1, b1⟩ := f1
  obtain ⟨l2, v2, e2, r2, b2⟩ := f2
  obtain ⟨l3, v3, e3, r3, b3⟩ := f3
  obtain ⟨n4, e4, _⟩ := f4
  simp at e0 e1 e2 e3 e4
  subst e0 e1 e2 e3 e4
  exact ⟨⟨l0, l1, l2, l3, n4⟩, _, _, _, _, rfl, ⟨r0, r1, r2, r3⟩, ⟨b0, b1, b2, b3⟩⟩
end
end Go.Proofs.YtiaoonlhgjfdjaaDoor
