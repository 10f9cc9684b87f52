/- wire.put, wire.Uvar: a number written behind a list that the call owns. wire.ReadUvar: a number read. Numbers read: where, what, and back: plain. -/
import Derived.Test.YtfhkjahjenpbgaaDoorMLib
namespace Go.Proofs.YtfhkjahjenpbgaaDoor
open Go Go.RowKit

theorem Tryd.infoU8 : (Tryd.prog.info? 5).map (fun i => (i.zero, i.size, i.bytes)) = some (some (.int .u8 0), 1, 1) := by kernel_rfl

/-- 'wire.put': bytes behind an owned list. -/
theorem wire_put (w : World) (base : Nat) (v : Value) (n : Nat) (xs : List Value) (hown : w.ownsRow base 5 1 v n xs) (hbase : base ≤ w.heap.size)
    (a : Addr) (m c : Nat) (news : List Value) (hl : news.length = m) (hnews : ∀ j u, news[j]? = some u → w.cell? (a.add j) = some u) (h1 : ∀ u ∈ news, u.oneCell' = true)
    (hb : n + m ≤ 140737488355328) :
    Calls Tryd.prog 71 #[v, .slice (some a) m c] w fun e w' => ∃ v', e = .returned v' ∧ w'.ownsRow base 5 1 v' (n + m) (xs ++ news) ∧ w.grownBy w' v.ownBlock ∧ (v' = .slice none 0 0 ↔ v = .slice none 0 0 ∧ m = 0) := by
  obtain ⟨i0, hi, hz0, hz1, hz2⟩ := info_parts Tryd.infoU8
  go_enter Tryd.func71, Tryd.ntmps71
  go_wp2_with (at_builtin; refine wpList_append_own _ rfl _ _ 41 rfl base 5 i0 (.int .u8 0) 1 1 Tryd.underlying41 hi hz0 hz1 hz2 rfl (by decide) _ _ _ rfl hown a m c news rfl (by simpa using hl) hnews h1 ?c3 ?c4 ?c5 ?_)
  case c3 => unfold maxLen; omega
  case c4 => omega
  case c5 => exact hbase
  intro v' w1 hown' hgrow hnil
  go_wp2
  go_ret
  exact ⟨v', rfl, hown', hgrow, hnil⟩

/-- A number's bytes, seven bits each, the lowest first. -/
def uv (n : Nat) : List Int := if n < 128 then [(n : Int)] else ((n % 128 + 128 : Nat) : Int) :: uv (n / 128)
termination_by n
decreasing_by omega
theorem uv_lo {n : Nat} (h : n < 128) : uv n = [(n : Int)] := by rw [uv]; simp [h]
theorem uv_hi {n : Nat} (h : ¬ n < 128) : uv n = ((n % 128 + 128 : Nat) : Int) :: uv (n / 128) := by rw [uv]; simp [h]
theorem uv_pos (n : Nat) : 0 < (uv n).length := by rw [uv]; split <;> simp
theorem uv_le (k : Nat) : ∀ n, n < 128 ^ k → (uv n).length ≤ max k 1 := by
  induction k with
  | zero =>
    intro n hn
    obtain rfl : n = 0 := by simpa using hn
    simp [uv]
  | succ k ih =>
    intro n hn
    by_cases h : n < 128
    · rw [uv_lo h]; simp only [List.length_cons, List.length_nil]; omega
    · rw [uv_hi h]
      have := ih (n / 128) (by rw [Nat.pow_succ] at hn; omega)
      simp only [List.length_cons]
      have hk : 0 < k := by
        rcases Nat.eq_zero_or_pos k with rfl | h0
        · simp at hn; omega
        · exact h0
      omega
theorem uv_len10 {n : Nat} (h : n ≤ 18446744073709551615) : (uv n).length ≤ 10 := by
  have := uv_le 10 n (by have : (128 : Nat) ^ 10 = 1180591620717411303424 := by decide
                         omega)
  omega
theorem uv_byte : ∀ (k n : Nat), n < 128 ^ k → ∀ x ∈ uv n, 0 ≤ x ∧ x ≤ 255 := by
  intro k
  induction k with
  | zero => intro n hn; obtain rfl : n = 0 := by simpa using hn
            simp [uv]
  | succ k ih =>
    intro n hn x hx
    by_cases h : n < 128
    · rw [uv_lo h] at hx; simp at hx; omega
    · rw [uv_hi h] at hx
      rcases List.mem_cons.1 hx with rfl | hx
      · omega
      · exact ih (n / 128) (by rw [Nat.pow_succ] at hn; omega) x hx

theorem or_u8 (m : Nat) : bits BinOp.or IntKind.u8 ((m : Int) % 256) 128 = ((m % 128 + 128 : Nat) : Int) := by
  have h : ∀ x : Fin 256, bits BinOp.or IntKind.u8 ((x.val : Nat) : Int) 128 = ((x.val % 128 + 128 : Nat) : Int) := by decide +kernel
  have := h ⟨m % 256, by omega⟩
  simp only at this
  rw [show (m : Int) % 256 = ((m % 256 : Nat) : Int) by omega, this]; omega

set_option maxRecDepth 100000 in
set_option maxHeartbeats 400000 in
/-- 'wire.Uvar': a number's bytes, in new memory. -/
theorem wire_Uvar (w : World) (n : Nat) (hn : n ≤ 18446744073709551615) :
    Calls Tryd.prog 60 #[.int .u64 n] w fun e w' => ∃ v', e = .returned v' ∧ w'.ownsRow w.heap.size 5 1 v' (uv n).length ((uv n).map (Value.int .u8)) ∧ Below w.heap.size w w' := by
  have hl10 := uv_len10 hn
  go_enter Tryd.func60, Tryd.ntmps60
  go_wp2
  go_loopw [0, 3] (fun v l wr => ∃ (m : Nat) (xs : List Int), v = .int .u64 m ∧ m ≤ 18446744073709551615 ∧ Hid (xs ++ uv m = uv n) ∧ wr.ownsRow w.heap.size 5 1 l xs.length (xs.map (Value.int .u8)) ∧ Below w.heap.size w wr)
    (fun v _ _ => (intOf v).toNat)
  case atStart => exact ⟨n, [], rfl, hn, rfl, World.ownsRow_nil _ _ _ _, Below.refl _ _⟩
  case round =>
    obtain ⟨m, xs, rfl, hm, HX, hown, hbel⟩ := hrel
    have hlen : xs.length ≤ 10 := by have := congrArg List.length HX.out; simp at this; omega
    have hsz := hbel.size
    by_cases h128 : m < 128
    · go_wp2_with (go_at_call 71; refine (wire_put _ w.heap.size u3 xs.length (xs.map (Value.int .u8)) (hown.alloc _) (by simp; omega) ⟨wr.heap.size, 0, none⟩ 1 1 [.int .u8 m] rfl (cell_one_new _ _ _) (by simp [Value.oneCell']) (by omega)).mono ?_; rintro e w' ⟨v', rfl, hown', hgrow', _⟩)
      go_ret
      have e : uv n = xs ++ [(m : Int)] := by rw [← HX.out, uv_lo h128]
      refine ⟨v', rfl, ?_, (hbel.alloc hsz _).grown hgrow' (by simp; omega) fun k hk => (hown.lt k hk).1⟩
      rw [e]; simpa using hown'
    · have hor := or_u8 m
      go_wp2_with (go_at_call 71; refine (wire_put _ w.heap.size u3 xs.length (xs.map (Value.int .u8)) (hown.alloc _) (by simp; omega) ⟨wr.heap.size, 0, none⟩ 1 1 [.int .u8 ((m % 128 + 128 : Nat) : Int)] rfl (cell_one_new _ _ _) (by simp [Value.oneCell']) (by omega)).mono ?_; rintro e w' ⟨v', rfl, hown', hgrow', _⟩; clear hor)
      go_roundw
      case rel =>
        refine ⟨m / 128, xs ++ [((m % 128 + 128 : Nat) : Int)], by go_num, by omega, ?_, by simpa using hown', (hbel.alloc hsz _).grown hgrow' (by simp; omega) fun k hk => (hown.lt k hk).1⟩
        have := HX.out; rw [uv_hi h128] at this; show _ = _; simpa using this
      case measure => simp [intOf]; omega
end Go.Proofs.YtfhkjahjenpbgaaDoor
namespace Go.Proofs.YtfhkjahjenpbgaaDoor
open Go Go.RowKit

/-- The reading of a number at p, i bytes read with the sum v. -/
def ruvGo (b : List Int) (p : Nat) : Nat → Nat → Nat → Nat × Nat × Int
  | 0, _, _ => (0, 0, 11)
  | f + 1, i, v =>
    if b.length ≤ p + i then (0, 0, 10)
    else if i = 9 ∧ 1 < b.getD (p + i) 0 then (0, 0, 11)
    else if b.getD (p + i) 0 < 128 then
      (if b.getD (p + i) 0 = 0 ∧ 0 < i then (0, 0, 12) else (v + (b.getD (p + i) 0).toNat % 128 * 128 ^ i, p + i + 1, 0))
    else ruvGo b p f (i + 1) (v + (b.getD (p + i) 0).toNat % 128 * 128 ^ i)
/-- 'wire.ReadUvar' at p. -/
def ruv (b : List Int) (p : Nat) : Nat × Nat × Int := ruvGo b p 10 0 0

section
variable {b : List Int} {p k t : Nat}
theorem ruvGo_end (hk : k < 10) (h : ¬ p + k < b.length) : ruvGo b p (10 - k) k t = (0, 0, 10) := by
  rw [show 10 - k = (10 - (k + 1)) + 1 by omega, ruvGo, if_pos (by omega)]
theorem ruvGo_wide (_hk : k < 10) (h : p + k < b.length) (h9 : k = 9 ∧ 1 < b[p + k]) : ruvGo b p (10 - k) k t = (0, 0, 11) := by
  rw [show 10 - k = (10 - (k + 1)) + 1 by omega, ruvGo, if_neg (by omega), if_pos (by simpa [h] using h9)]
theorem ruvGo_loose (hk : k < 10) (h : p + k < b.length) (h9 : ¬ (k = 9 ∧ 1 < b[p + k])) (h0 : b[p + k] = 0) (hp : 0 < k) : ruvGo b p (10 - k) k t = (0, 0, 12) := by
  rw [show 10 - k = (10 - (k + 1)) + 1 by omega, ruvGo, if_neg (by omega), if_neg (by simpa [h] using h9), if_pos (by simp [h, h0]), if_pos (by simp [h, h0, hp])]
theorem ruvGo_last (hk : k < 10) (h : p + k < b.length) (h9 : ¬ (k = 9 ∧ 1 < b[p + k])) (h1 : b[p + k] < 128) (h0 : ¬ (b[p + k] = 0 ∧ 0 < k)) :
    ruvGo b p (10 - k) k t = (t + b[p + k].toNat % 128 * 128 ^ k, p + k + 1, 0) := by
  rw [show 10 - k = (10 - (k + 1)) + 1 by omega, ruvGo, if_neg (by omega), if_neg (by simpa [h] using h9), if_pos (by simpa [h] using h1), if_neg (by simpa [h] using h0)]
  simp [h]
theorem ruvGo_next (hk : k < 10) (h : p + k < b.length) (h9 : ¬ (k = 9 ∧ 1 < b[p + k])) (h1 : ¬ b[p + k] < 128) :
    ruvGo b p (10 - k) k t = ruvGo b p (10 - (k + 1)) (k + 1) (t + b[p + k].toNat % 128 * 128 ^ k) := by
  rw [show 10 - k = (10 - (k + 1)) + 1 by omega, ruvGo, if_neg (by omega), if_neg (by simpa [h] using h9), if_neg (by simpa [h] using h1)]
  simp [h]
end

theorem pow_128 (k : Nat) : (128 : Nat) ^ k = 2 ^ (7 * k) := by rw [show (128 : Nat) = 2 ^ 7 by rfl, ← Nat.pow_mul]
theorem mul_fits (m k : Nat) (hk : k < 10) (hm : m < 128) (h9 : k = 9 → m ≤ 1) : m * 2 ^ (7 * k) < 18446744073709551616 := by
  rcases (show k = 0 ∨ k = 1 ∨ k = 2 ∨ k = 3 ∨ k = 4 ∨ k = 5 ∨ k = 6 ∨ k = 7 ∨ k = 8 ∨ k = 9 by omega) with rfl | rfl | rfl | rfl | rfl | rfl | rfl | rfl | rfl | rfl <;>
    simp only [Nat.reduceMul, Nat.reducePow] <;> omega
theorem or_step (k t : Nat) (c : Int) (hc : 0 ≤ c ∧ c ≤ 255) (hk : k < 10) (h9 : ¬ (k = 9 ∧ 1 < c)) (ht : t < 128 ^ k) :
    bits .or .u64 (t : Int) (IntKind.u64.wrap (IntKind.u64.wrap (bits .and .u8 c 127) * 2 ^ (7 * k))) = ((t + c.toNat % 128 * 128 ^ k : Nat) : Int) := by
  obtain ⟨m, rfl⟩ := Int.eq_ofNat_of_zero_le hc.1
  have hf := mul_fits (m % 128) k hk (by omega) (fun e => by omega)
  have hf0 : t < 18446744073709551616 := by
    have : 1 * 2 ^ (7 * k) < 18446744073709551616 := mul_fits 1 k hk (by omega) (fun _ => by omega)
    rw [pow_128] at ht; omega
  rw [show bits .and .u8 (m : Int) 127 = (m : Int) % 128 from bits_mask .u8 8 (by decide) wraps_u8 7 (by decide) m (by omega) (by omega), IntWalk.u64_in _ (show (0 : Int) ≤ (m : Int) % 128 ∧ (m : Int) % 128 ≤ 18446744073709551615 by omega)]
  have e : ((m : Int) % 128) * 2 ^ (7 * k) = ((m % 128 * 2 ^ (7 * k) : Nat) : Int) := by push_cast; rfl
  rw [e, IntWalk.u64_in _ ⟨by omega, by omega⟩, bits_or_u64_nat _ _ hf0 hf, Int.toNat_natCast, pow_128, Nat.add_comm, Nat.or_comm, Nat.mul_comm]
  rw [pow_128] at ht
  rw [Nat.two_pow_add_eq_or_of_lt ht]
theorem step_lt {t k : Nat} (m : Nat) (ht : t < 128 ^ k) : t + m % 128 * 128 ^ k < 128 ^ (k + 1) := by
  have : m % 128 * 128 ^ k ≤ 127 * 128 ^ k := Nat.mul_le_mul_right _ (by omega)
  rw [Nat.pow_succ]; omega

theorem ret_ruv {b : List Int} {p : Nat} {x y : Nat} {z : Int} (h : ruv b p = (x, y, z)) :
    Ending.returned (.tuple #[.int .u64 x, .int .i64 y, .int .i64 z]) = Ending.returned (.tuple #[.int .u64 (ruv b p).1, .int .i64 (ruv b p).2.1, .int .i64 (ruv b p).2.2]) := by rw [h]

end Go.Proofs.YtfhkjahjenpbgaaDoor
namespace Go.Proofs.YtfhkjahjenpbgaaDoor
open Go Go.RowKit

/-- Bytes. -/
def Bytes (l : List Int) : Prop := ∀ x ∈ l, 0 ≤ x ∧ x ≤ 255

theorem ruvGo_le (b : List Int) (p : Nat) : ∀ (f i v : Nat), (ruvGo b p f i v).2.2 = 0 → (ruvGo b p f i v).2.1 ≤ b.length ∧ p < (ruvGo b p f i v).2.1 := by
  intro f
  induction f with
  | zero => intro i v h; simp [ruvGo] at h
  | succ f ih =>
    intro i v h
    rw [ruvGo] at h ⊢
    split at h
    · simp at h
    · rename_i h1
      rw [if_neg h1]
      split at h
      · simp at h
      · rename_i h2
        rw [if_neg h2]
        split at h
        · rename_i h3
          rw [if_pos h3]
          split at h
          · simp at h
          · rename_i h4
            rw [if_neg h4]
            simp only
            omega
        · rename_i h3
          rw [if_neg h3]
          exact ih _ _ h
theorem ruv_le {b : List Int} {p : Nat} (h : (ruv b p).2.2 = 0) : (ruv b p).2.1 ≤ b.length := (ruvGo_le b p 10 0 0 h).1
theorem ruvGo_u64 (b : List Int) (p : Nat) : ∀ (f i v : Nat), f = 10 - i → v < 128 ^ i → (ruvGo b p f i v).1 ≤ 18446744073709551615 := by
  intro f
  induction f with
  | zero => intro i v _ _; simp [ruvGo]
  | succ f ih =>
    intro i v hf hv
    rw [ruvGo]
    split
    · simp
    · split
      · simp
      · rename_i h2
        have hs := step_lt (b.getD (p + i) 0).toNat hv
        split
        · split
          · simp
          · simp only
            have hm := mul_fits ((b.getD (p + i) 0).toNat % 128) i (by omega) (by omega) (fun e => by omega)
            rw [← pow_128] at hm
            by_cases h9 : i = 9
            · have : (128 : Nat) ^ 9 = 9223372036854775808 := by decide
              rw [h9] at hv hm ⊢
              have h3 : (b.getD (p + 9) 0).toNat % 128 ≤ 1 := by rw [h9] at h2; omega
              have h4 : (b.getD (p + 9) 0).toNat % 128 * 128 ^ 9 ≤ 1 * 128 ^ 9 := Nat.mul_le_mul_right _ h3
              omega
            · have h5 : (128 : Nat) ^ (i + 1) ≤ 128 ^ 9 := Nat.pow_le_pow_right (by omega) (by omega)
              have : (128 : Nat) ^ 9 = 9223372036854775808 := by decide
              omega
        · exact ih _ _ (by omega) hs
theorem ruv_u64 (b : List Int) (p : Nat) : (ruv b p).1 ≤ 18446744073709551615 := ruvGo_u64 b p 10 0 0 rfl (by simp)
theorem drop_at {b : List Int} {p : Nat} (h : p < b.length) : b.drop p = b.getD p 0 :: b.drop (p + 1) := by
  rw [List.drop_eq_getElem_cons h]
  congr 1
  simp [h]
theorem drop_more {b x rest : List Int} {p : Nat} (h : b.drop p = x ++ rest) : b.drop (p + x.length) = rest := by
  rw [← List.drop_drop, h, List.drop_left]
theorem drop_head {b rest : List Int} {p : Nat} {x : Int} (h : b.drop p = x :: rest) : p < b.length ∧ b.getD p 0 = x ∧ b.drop (p + 1) = rest := by
  have hl : p < b.length := by
    rcases Nat.lt_or_ge p b.length with h1 | h1
    · exact h1
    · rw [List.drop_eq_nil_of_le h1] at h; simp at h
  rw [drop_at hl] at h
  simp only [List.cons.injEq] at h
  exact ⟨hl, h.1, h.2⟩

/-- A number's bytes, read. -/
theorem ruvGo_uv (b : List Int) (p : Nat) (rest : List Int) : ∀ (f k t m : Nat), f + k = 10 → b.drop (p + k) = uv m ++ rest → (0 < k → 0 < m) → m * 128 ^ k < 18446744073709551616 →
    ruvGo b p f k t = (t + m * 128 ^ k, p + k + (uv m).length, 0) := by
  intro f
  induction f with
  | zero =>
    intro k t m hk hd h0 hm
    obtain rfl : k = 10 := by omega
    have := h0 (by omega)
    have e : (128 : Nat) ^ 10 = 1180591620717411303424 := by rfl
    rw [e] at hm
    omega
  | succ f ih =>
    intro k t m hk hd h0 hm
    have h9 : k = 9 → m ≤ 1 := by
      rintro rfl
      have e : (128 : Nat) ^ 9 = 9223372036854775808 := by rfl
      rw [e] at hm
      omega
    rw [ruvGo]
    by_cases h : m < 128
    · rw [uv_lo h] at hd ⊢
      obtain ⟨hl, hg, hr⟩ := drop_head hd
      rw [if_neg (by omega), hg, if_neg (by rintro ⟨a, c⟩; have := h9 a; omega), if_pos (by omega), if_neg (by rintro ⟨a, c⟩; have := h0 c; omega)]
      have e : ((m : Int).toNat % 128) = m := by rw [Int.toNat_natCast]; exact Nat.mod_eq_of_lt h
      rw [e]; rfl
    · rw [uv_hi h] at hd ⊢
      obtain ⟨hl, hg, hr⟩ := drop_head hd
      rw [if_neg (by omega), hg, if_neg (by rintro ⟨a, c⟩; have := h9 a; omega), if_neg (by omega)]
      have hx : m / 128 * 128 ^ (k + 1) + m % 128 * 128 ^ k = m * 128 ^ k := by
        have e1 : m / 128 * 128 ^ (k + 1) = (m / 128 * 128) * 128 ^ k := by rw [Nat.pow_succ, Nat.mul_comm (128 ^ k) 128, Nat.mul_assoc]
        rw [e1, ← Nat.add_mul]
        congr 1
        omega
      rw [ih (k + 1) _ (m / 128) (by omega) (by rw [show p + (k + 1) = p + k + 1 by omega]; exact hr) (fun _ => by omega) (by omega)]
      have e : ((((m % 128 + 128 : Nat) : Int)).toNat % 128) = m % 128 := by rw [Int.toNat_natCast]; omega
      rw [e]
      simp only [Prod.mk.injEq, List.length_cons, and_true]
      exact ⟨by omega, by omega⟩
/-- Bytes that are read as a number are the number's. -/
theorem ruvGo_inv (b : List Int) (hb : Bytes b) (p : Nat) : ∀ (f k t n q : Nat), f + k = 10 → ruvGo b p f k t = (n, q, 0) →
    ∃ m, b.drop (p + k) = uv m ++ b.drop q ∧ q = p + k + (uv m).length ∧ n = t + m * 128 ^ k ∧ (0 < k → 0 < m) := by
  intro f
  induction f with
  | zero => intro k t n q hk h; rw [ruvGo] at h; simp at h
  | succ f ih =>
    intro k t n q hk h
    rw [ruvGo] at h
    split at h
    · simp at h
    · rename_i hl
      have hl : p + k < b.length := by omega
      split at h
      · simp at h
      · rename_i h9
        have hd := drop_at hl
        have hc : 0 ≤ b.getD (p + k) 0 ∧ b.getD (p + k) 0 ≤ 255 := hb _ (by rw [List.getD_eq_getElem?_getD, List.getElem?_eq_getElem hl]; exact List.getElem_mem hl)
        generalize b.getD (p + k) 0 = c at *
        split at h
        · rename_i h1
          split at h
          · simp at h
          · rename_i h0
            simp only [Prod.mk.injEq, and_true] at h
            obtain ⟨rfl, rfl⟩ := h
            have hm : c.toNat < 128 := by omega
            refine ⟨c.toNat, ?_, ?_, ?_, fun hk => by omega⟩
            · rw [hd, uv_lo hm, Int.toNat_of_nonneg hc.1]; rfl
            · rw [uv_lo hm]; rfl
            · rw [Nat.mod_eq_of_lt hm]
        · rename_i h1
          obtain ⟨m, e1, e2, e3, e4⟩ := ih (k + 1) _ n q (by omega) h
          have hm := e4 (by omega)
          have hcm : c.toNat % 128 + 128 = c.toNat := by omega
          refine ⟨m * 128 + c.toNat % 128, ?_, ?_, ?_, fun _ => by omega⟩
          · rw [hd, uv_hi (by omega), show (m * 128 + c.toNat % 128) % 128 + 128 = c.toNat by omega, show (m * 128 + c.toNat % 128) / 128 = m by omega, Int.toNat_of_nonneg hc.1,
              List.cons_append, ← e1]
            rfl
          · rw [uv_hi (by omega), show (m * 128 + c.toNat % 128) / 128 = m by omega, List.length_cons, e2]; omega
          · rw [e3, Nat.add_mul, Nat.pow_succ, Nat.mul_assoc m, Nat.mul_comm 128 (128 ^ k)]; omega
theorem ruv_uv {b rest : List Int} {p n : Nat} (h : b.drop p = uv n ++ rest) (hn : n ≤ 18446744073709551615) : ruv b p = (n, p + (uv n).length, 0) := by
  rw [ruv, ruvGo_uv b p rest 10 0 0 n (by omega) (by simpa using h) (by omega) (by simp; omega)]
  simp
theorem ruv_inv {b : List Int} (hb : Bytes b) {p n q : Nat} (h : ruv b p = (n, q, 0)) : b.drop p = uv n ++ b.drop q ∧ q = p + (uv n).length := by
  obtain ⟨m, e1, e2, e3, _⟩ := ruvGo_inv b hb p 10 0 0 n q (by omega) h
  obtain rfl : n = m := by simpa using e3
  exact ⟨by simpa using e1, by simpa using e2⟩

end Go.Proofs.YtfhkjahjenpbgaaDoor
