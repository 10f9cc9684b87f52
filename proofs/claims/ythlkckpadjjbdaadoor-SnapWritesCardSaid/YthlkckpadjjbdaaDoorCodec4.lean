/- The plain law of snap's bytes: what the laws lean on. -/
import Derived.Test.YthlkckpadjjbdaaDoorCodec3
namespace Go.Proofs.YthlkckpadjjbdaaDoor
open Go Go.RowKit

theorem bytes_append {a b : List Int} (ha : Bytes a) (hb : Bytes b) : Bytes (a ++ b) := by
  intro x hx
  rcases List.mem_append.1 hx with h | h
  · exact ha x h
  · exact hb x h
theorem bytes_flatMap {α : Type} {f : α → List Int} {l : List α} (h : ∀ y ∈ l, Bytes (f y)) : Bytes (l.flatMap f) := by
  intro x hx
  obtain ⟨y, hy, hxy⟩ := List.mem_flatMap.1 hx
  exact h y hy x hxy
theorem bytes_uv {n : Nat} (h : n ≤ 18446744073709551615) : Bytes (uv n) :=
  uv_byte 10 n (by have : (128 : Nat) ^ 10 = 1180591620717411303424 := by decide
                   omega)
theorem bytes_one {x : Int} (h : 0 ≤ x ∧ x ≤ 255) : Bytes [x] := by intro y hy; obtain rfl := List.mem_singleton.1 hy; exact h
theorem len_flatMap {α : Type} {f : α → List Int} (m : Nat) : ∀ {l : List α}, (∀ y ∈ l, (f y).length ≤ m) → (l.flatMap f).length ≤ l.length * m
  | [], _ => by simp
  | a :: l, h => by
    have h1 := len_flatMap m (l := l) fun y hy => h y (List.mem_cons_of_mem _ hy)
    have h2 := h a (List.mem_cons_self ..)
    rw [List.flatMap_cons, List.length_append, List.length_cons, Nat.succ_mul]
    omega
theorem toNat_le {x : Int} {m : Nat} (h : 0 ≤ x ∧ x ≤ m) : x.toNat ≤ m := by omega
theorem encVals_bytes {l : List Int} (h : U64s l) (hl : l.length ≤ 1000000) : Bytes (encVals l) :=
  bytes_append (bytes_uv (by omega)) (bytes_flatMap fun y hy => bytes_uv (by have := h y hy; omega))
theorem encVals_len {l : List Int} (h : U64s l) {m : Nat} (hl : l.length ≤ m) (hm : m ≤ 1000000) : (encVals l).length ≤ 10 + m * 10 := by
  have h1 := uv_len10 (n := l.length) (by omega)
  have h2 := len_flatMap (f := fun x : Int => uv x.toNat) 10 (l := l) fun y hy => uv_len10 (by have := h y hy; omega)
  rw [encVals, List.length_append]
  have : l.length * 10 ≤ m * 10 := Nat.mul_le_mul_right _ hl
  omega
theorem encPages_bytes {pages : List (List Int)} (h : pages.length ≤ 64) (hb : ∀ y ∈ pages, Bytes y) : Bytes (encPages pages) := by
  have hn := nz_len pages pages.length
  refine bytes_append (bytes_uv (by omega)) (bytes_append (bytes_uv (by omega)) (bytes_flatMap fun i hi => bytes_append (bytes_uv ?_) ?_))
  · have := nz_lt hi; omega
  · have hl := nz_lt hi
    have : pages.getD i [] ∈ pages := by rw [List.getD_eq_getElem?_getD, List.getElem?_eq_getElem hl]; exact List.getElem_mem hl
    exact hb _ this
theorem encPages_len {pages : List (List Int)} (h : pages.length ≤ 64) (hb : ∀ y ∈ pages, y.length = 4096) : (encPages pages).length ≤ 262804 := by
  have hn := nz_len pages pages.length
  have h1 := uv_len10 (n := pages.length) (by omega)
  have h2 := uv_len10 (n := (nz pages pages.length).length) (by omega)
  have h3 := len_flatMap (f := fun i => uv i ++ pages.getD i []) 4106 (l := nz pages pages.length) fun i hi => by
    have hl := nz_lt hi
    have h4 := uv_len10 (n := i) (by omega)
    have : pages.getD i [] ∈ pages := by rw [List.getD_eq_getElem?_getD, List.getElem?_eq_getElem hl]; exact List.getElem_mem hl
    have := hb _ this
    simp only [List.length_append]
    omega
  rw [encPages, List.length_append, List.length_append]
  omega
theorem okFrame_parts {f : FrameD} (h : okFrame f = true) : (0 ≤ f.fn ∧ f.fn ≤ 127) ∧ (0 ≤ f.pc ∧ f.pc ≤ 2047) ∧ f.loc.length ≤ 64 ∧ f.stk.length ≤ 256 := by
  simp only [okFrame, okn_iff, Bool.and_eq_true, decide_eq_true_eq] at h
  obtain ⟨⟨⟨h1, h2⟩, h3⟩, h4⟩ := h
  exact ⟨by omega, by omega, h3, h4⟩
theorem encFrame_bytes {f : FrameD} (h : okFrame f = true) (hw : WfFrame f) : Bytes (encFrame f) := by
  obtain ⟨h1, h2, h3, h4⟩ := okFrame_parts h
  exact bytes_append (bytes_append (bytes_append (bytes_uv (by omega)) (bytes_uv (by omega))) (encVals_bytes hw.loc (by omega))) (encVals_bytes hw.stk (by omega))
theorem encFrame_len {f : FrameD} (h : okFrame f = true) (hw : WfFrame f) : (encFrame f).length ≤ 3240 := by
  obtain ⟨h1, h2, h3, h4⟩ := okFrame_parts h
  have k1 := uv_len10 (n := f.fn.toNat) (by omega)
  have k2 := uv_len10 (n := f.pc.toNat) (by omega)
  have k3 := encVals_len hw.loc h3 (by omega)
  have k4 := encVals_len hw.stk h4 (by omega)
  simp only [encFrame, List.length_append]
  omega
theorem encState_bytes {s : StateD} (h : okState s = true) (hw : WfState s) : Bytes (encState s) := by
  obtain ⟨h1, h2, h3, h4, h5, h6, h7, h8⟩ := okState_parts h
  rw [magic_enc]
  refine bytes_append (by intro x hx; simp [magic5] at hx; omega) (bytes_append (bytes_one (by omega)) (bytes_append (bytes_one (by omega)) (bytes_append (bytes_uv (by omega)) (bytes_append (bytes_uv (by omega)) (bytes_append (encVals_bytes hw.results (by omega))
    (bytes_append (encVals_bytes hw.globals (by omega)) (bytes_append (encPages_bytes h6.1 hw.pages) (bytes_append (bytes_uv (by omega)) (bytes_flatMap fun f hf => encFrame_bytes (h8 f hf) (hw.frames f hf))))))))))
theorem encState_len {s : StateD} (h : okState s = true) (hw : WfState s) : 0 < (encState s).length ∧ (encState s).length ≤ 524288 := by
  obtain ⟨h1, h2, h3, h4, h5, h6, h7, h8⟩ := okState_parts h
  have k1 := uv_len10 (n := s.used.toNat) (by omega)
  have k2 := uv_len10 (n := s.replies.toNat) (by omega)
  have k3 := encVals_len hw.results h4 (by omega)
  have k4 := encVals_len hw.globals h5 (by omega)
  have k5 := encPages_len h6.1 h6.2
  have k6 := uv_len10 (n := s.frames.length) (by omega)
  have k7 := len_flatMap (f := encFrame) 3240 fun f hf => encFrame_len (h8 f hf) (hw.frames f hf)
  rw [magic_enc]
  simp only [List.length_append, magic5, List.length_cons, List.length_nil]
  omega
/-- What is written is read as itself. -/
theorem read_back {s : StateD} (h : okState s = true) (hw : WfState s) : rread (encState s) = (s, 0, 0) := by
  have := rread_fwd (b := encState s) (rest := []) h hw (by simp) (encState_len h hw).2
  simpa using this
/-- What lacks its last byte is refused. -/
theorem read_cut {s : StateD} (h : okState s = true) (hw : WfState s) : (rread ((encState s).take ((encState s).length - 1))).2.1 ≠ 0 := by
  intro h0
  obtain ⟨hl0, hl⟩ := encState_len h hw
  obtain ⟨x1, x2, x3⟩ := rread_inv (fun y hy => encState_bytes h hw y (List.mem_of_mem_take hy)) h0
  generalize hx : (rread ((encState s).take ((encState s).length - 1))).1 = x at *
  have e : encState s = encState x ++ (encState s).drop ((encState s).length - 1) := by rw [x3, List.take_append_drop]
  have hr : (encState s).drop ((encState s).length - 1) ≠ [] := by
    intro c
    have := congrArg List.length c
    simp only [List.length_drop, List.length_nil] at this
    omega
  have k := rread_fwd x1 x2 e hl
  rw [if_neg hr, read_back h hw] at k
  simp at k
end Go.Proofs.YthlkckpadjjbdaaDoor
