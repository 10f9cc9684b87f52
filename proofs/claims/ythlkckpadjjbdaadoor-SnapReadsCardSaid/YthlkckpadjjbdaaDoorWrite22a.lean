/- flagonref22.Write. -/
import Derived.Test.YthlkckpadjjbdaaDoorMay22
import Derived.Test.YthlkckpadjjbdaaDoorMKept
namespace Go.Proofs.YthlkckpadjjbdaaDoor
open Go Go.RowKit

theorem Rw.nil (w : World) : Rw w w (.slice none 0 0) [] := ⟨World.ownsRow_nil _ _ _ _, Below.refl _ _⟩
theorem noughts_page {l : List Int} (h : l.length = 4096) : (l.all fun x => decide (x = 0)) = decide (l = zpage) := by
  by_cases e : l = zpage
  · rw [decide_eq_true e, List.all_eq_true]
    intro x hx
    rw [e] at hx
    simp [(List.mem_replicate.1 hx).2]
  · rw [decide_eq_false e]
    cases hc : l.all fun x => decide (x = 0) with
    | false => rfl
    | true =>
      refine absurd ?_ e
      rw [List.all_eq_true] at hc
      exact List.eq_replicate_iff.2 ⟨h, fun x hx => by simpa using hc x hx⟩
theorem ref22_numberI (w0 w : World) (v : Value) (pre : List Int) (h : Rw w0 w v pre) (hl : pre.length ≤ 1099511627776) (n : Int) (h0 : 0 ≤ n) (hn : n ≤ 18446744073709551615) :
    Calls Tryd.prog 29 #[v, .int .u64 n] w fun e w' => ∃ v', e = .returned v' ∧ Rw w0 w' v' (pre ++ uv n.toNat) ∧ Way w v w' v' := by
  obtain ⟨m, rfl⟩ := Int.eq_ofNat_of_zero_le h0
  exact ref22_number w0 w v pre h hl m (by omega)
theorem u64_in (n : Int) (h0 : 0 ≤ n) (hn : n ≤ 18446744073709551615) : IntKind.u64.wrap n = n ∧ n % 18446744073709551616 = n := ⟨IntWalk.u64_in _ ⟨h0, hn⟩, by omega⟩
theorem encVals_le {l : List Int} (h : U64s l) (hl : l.length ≤ 256) : (encVals l).length ≤ 2570 := by
  have := flat_len10 h
  have := uv_len10 (n := l.length) (by omega)
  simp only [encVals, List.length_append]; omega
theorem uv_le10 (n : Int) (h : n ≤ 18446744073709551615) : (uv n.toNat).length ≤ 10 := uv_len10 (by omega)
/-- The pages' bytes, up to place k. -/
def pgs (l : List (List Int)) (k : Nat) : List Int := (nz l k).flatMap fun i => uv i ++ l.getD i []
theorem pgs_zero {l : List (List Int)} {k : Nat} (hk : k < l.length) (h : l[k] = zpage) : nz l (k + 1) = nz l k := by
  have e : l.getD k [] = zpage := by rw [List.getD_eq_getElem?_getD, List.getElem?_eq_getElem hk]; exact h
  rw [nz_succ, if_neg (by simpa using e), List.append_nil]
theorem pgs_more {l : List (List Int)} {k : Nat} (hk : k < l.length) (h : ¬ l[k] = zpage) : nz l (k + 1) = nz l k ++ [k] ∧ pgs l (k + 1) = pgs l k ++ uv k ++ l[k] := by
  have e : l.getD k [] = l[k] := by rw [List.getD_eq_getElem?_getD, List.getElem?_eq_getElem hk]; rfl
  have e2 : nz l (k + 1) = nz l k ++ [k] := by rw [nz_succ, if_pos (by rw [e]; simpa using h)]
  refine ⟨e2, ?_⟩
  unfold pgs
  rw [e2, List.flatMap_append]
  simp only [List.flatMap_cons, List.flatMap_nil, List.append_nil, e, List.append_assoc]
theorem pgs_len {l : List (List Int)} (h : ∀ x ∈ l, x.length = 4096) : ∀ k, k ≤ l.length → k ≤ 64 → (pgs l k).length ≤ 4106 * k := by
  intro k
  induction k with
  | zero => intro _ _; simp [pgs, nz]
  | succ k ih =>
    intro hk h64
    have := ih (by omega) (by omega)
    by_cases hz : l[k] = zpage
    · unfold pgs at *; rw [pgs_zero (by omega) hz]; omega
    · rw [(pgs_more (by omega) hz).2]
      have h1 := uv_len10 (n := k) (by omega)
      have h2 := h _ (List.getElem_mem (show k < l.length by omega))
      simp only [List.length_append]; omega
theorem frames_len {l : List FrameD} (wf : ∀ f ∈ l, WfFrame f) (ok : l.all okFrame = true) : (l.flatMap encFrame).length ≤ 5160 * l.length := by
  induction l with
  | nil => simp
  | cons f l ih =>
    rw [List.all_cons, Bool.and_eq_true] at ok
    have := ih (fun g hg => wf g (by simp [hg])) ok.2
    have hw := wf f (by simp)
    have h1 := uv_le10 f.fn (by have := hw.fn; unfold I64 at this; omega)
    have h2 := uv_le10 f.pc (by have := hw.pc; unfold I64 at this; omega)
    have ho := ok.1
    simp only [okFrame, Bool.and_eq_true, decide_eq_true_eq] at ho
    have h3 := encVals_le hw.loc (by omega)
    have h4 := encVals_le hw.stk (by omega)
    simp only [List.flatMap_cons, List.length_append, List.length_cons, encFrame] at *; omega
/-- The head, the numbers and lists ahead of the pages. -/
def hd1 (s : StateD) : List Int := [70, 83, 78, 80, 1] ++ [s.ends] ++ [s.trap] ++ uv s.used.toNat ++ uv s.replies.toNat ++ encVals s.results ++ encVals s.globals
structure Fits (s : StateD) : Prop where
  ends : 1 ≤ s.ends ∧ s.ends ≤ 3
  trap : 0 ≤ s.trap ∧ s.trap ≤ 6
  used : 0 ≤ s.used ∧ s.used ≤ 4611686018427387904
  replies : 0 ≤ s.replies ∧ s.replies ≤ 9223372036854775807
  results : s.results.length ≤ 8
  globals : s.globals.length ≤ 64
  pages : s.pages.length ≤ 64
  page : ∀ x ∈ s.pages, x.length = 4096
  frames : s.frames.length ≤ 64
  frame : s.frames.all okFrame = true
theorem fits_of {s : StateD} (h : okState s = true) : Fits s := by
  simp only [okState, okEnds, okHead, okPages, okn, Bool.and_eq_true, decide_eq_true_eq] at h
  obtain ⟨⟨h1, ⟨⟨⟨⟨h2, h3⟩, h4⟩, h5⟩, h6, h7⟩, h8⟩, h9⟩ := h
  exact ⟨by omega, by omega, by omega, by omega, h4, h5, h6, h7, h8, h9⟩
theorem frame_fits {f : FrameD} (h : okFrame f = true) : 0 ≤ f.fn ∧ f.fn ≤ 127 ∧ 0 ≤ f.pc ∧ f.pc ≤ 2047 ∧ f.loc.length ≤ 64 ∧ f.stk.length ≤ 256 := by
  simp only [okFrame, okn, Bool.and_eq_true, decide_eq_true_eq] at h
  omega
theorem hd1_len {s : StateD} (wf : WfState s) (ft : Fits s) : (hd1 s).length ≤ 6000 := by
  have h1 := uv_le10 s.used (by have := ft.used; omega)
  have h2 := uv_le10 s.replies (by have := ft.replies; omega)
  have h3 := encVals_le wf.results (by have := ft.results; omega)
  have h4 := encVals_le wf.globals (by have := ft.globals; omega)
  simp only [hd1, List.length_append, List.length_cons, List.length_nil]; omega
theorem enc_all (s : StateD) : hd1 s ++ uv s.pages.length ++ uv (nz s.pages s.pages.length).length ++ pgs s.pages s.pages.length ++ uv s.frames.length ++ s.frames.flatMap encFrame = encState s := by
  simp only [encState, encHead, encPages, hd1, pgs, List.append_assoc, List.cons_append, List.nil_append]
end Go.Proofs.YthlkckpadjjbdaaDoor
