/- wire.put, wire.Uvar: a number written behind a list that the call owns. -/
import Derived.Test.YthlkckpadjjbdaaDoorLib
namespace Go.Proofs.YthlkckpadjjbdaaDoor
open Go Go.RowKit

theorem Tryd.infoU8 : (Tryd.prog.info? 5).map (fun i => (i.zero, i.size, i.bytes)) = some (some (.int .u8 0), 1, 1) := by kernel_rfl

/-- 'wire.put': bytes behind an owned list. -/
theorem wire_put (w : World) (base : Nat) (v : Value) (n : Nat) (xs : List Value) (hown : w.ownsRow base 5 1 v n xs) (hbase : base ≤ w.heap.size)
    (a : Addr) (m c : Nat) (news : List Value) (hl : news.length = m) (hnews : ∀ j u, news[j]? = some u → w.cell? (a.add j) = some u) (h1 : ∀ u ∈ news, u.oneCell' = true)
    (hb : n + m ≤ 140737488355328) :
    Calls Tryd.prog 79 #[v, .slice (some a) m c] w fun e w' => ∃ v', e = .returned v' ∧ w'.ownsRow base 5 1 v' (n + m) (xs ++ news) ∧ w.grownBy w' v.ownBlock ∧ (v' = .slice none 0 0 ↔ v = .slice none 0 0 ∧ m = 0) := by
  obtain ⟨i0, hi, hz0, hz1, hz2⟩ := info_parts Tryd.infoU8
  go_enter Tryd.func79, Tryd.ntmps79
  go_wp2_with (at_builtin; refine wpList_append_own _ rfl _ _ 31 rfl base 5 i0 (.int .u8 0) 1 1 Tryd.underlying31 hi hz0 hz1 hz2 rfl (by decide) _ _ _ rfl hown a m c news rfl (by simpa using hl) hnews h1 ?c3 ?c4 ?c5 ?_)
  case c3 => unfold maxLen; omega
  case c4 => omega
  case c5 => exact hbase
  intro v' w1 hown' hgrow hnil
  go_wp2
  go_ret
  exact ⟨v', rfl, hown', hgrow, hnil⟩

/-- A number's bytes, seven bits each, the lowest first. -/
def uv (n : Nat) : List Int := if n < 128 then [(n : Int)] else ((n % 128 + 128 : Nat) : Int) :: uv (n / 128)
termination_by n
decreasing_by omega
theorem uv_lo {n : Nat} (h : n < 128) : uv n = [(n : Int)] := by rw [uv]; simp [h]
theorem uv_hi {n : Nat} (h : ¬ n < 128) : uv n = ((n % 128 + 128 : Nat) : Int) :: uv (n / 128) := by rw [uv]; simp [h]
theorem uv_pos (n : Nat) : 0 < (uv n).length := by rw [uv]; split <;> simp
theorem uv_le (k : Nat) : ∀ n, n < 128 ^ k → (uv n).length ≤ max k 1 := by
  induction k with
  | zero =>
    intro n hn
    obtain rfl : n = 0 := by simpa using hn
    simp [uv]
  | succ k ih =>
    intro n hn
    by_cases h : n < 128
    · rw [uv_lo h]; simp only [List.length_cons, List.length_nil]; omega
    · rw [uv_hi h]
      have := ih (n / 128) (by rw [Nat.pow_succ] at hn; omega)
      simp only [List.length_cons]
      have hk : 0 < k := by
        rcases Nat.eq_zero_or_pos k with rfl | h0
        · simp at hn; omega
        · exact h0
      omega
theorem uv_len10 {n : Nat} (h : n ≤ 18446744073709551615) : (uv n).length ≤ 10 := by
  have := uv_le 10 n (by have : (128 : Nat) ^ 10 = 1180591620717411303424 := by decide
                         omega)
  omega
theorem uv_byte : ∀ (k n : Nat), n < 128 ^ k → ∀ x ∈ uv n, 0 ≤ x ∧ x ≤ 255 := by
  intro k
  induction k with
  | zero => intro n hn; obtain rfl : n = 0 := by simpa using hn
            simp [uv]
  | succ k ih =>
    intro n hn x hx
    by_cases h : n < 128
    · rw [uv_lo h] at hx; simp at hx; omega
    · rw [uv_hi h] at hx
      rcases List.mem_cons.1 hx with rfl | hx
      · omega
      · exact ih (n / 128) (by rw [Nat.pow_succ] at hn; omega) x hx

theorem or_u8 (m : Nat) : bits BinOp.or IntKind.u8 ((m : Int) % 256) 128 = ((m % 128 + 128 : Nat) : Int) := by
  have h : ∀ x : Fin 256, bits BinOp.or IntKind.u8 ((x.val : Nat) : Int) 128 = ((x.val % 128 + 128 : Nat) : Int) := by decide +kernel
  have := h ⟨m % 256, by omega⟩
  simp only at this
  rw [show (m : Int) % 256 = ((m % 256 : Nat) : Int) by omega, this]; omega

set_option maxRecDepth 100000 in
set_option maxHeartbeats 400000 in
/-- 'wire.Uvar': a number's bytes, in new memory. -/
theorem wire_Uvar (w : World) (n : Nat) (hn : n ≤ 18446744073709551615) :
    Calls Tryd.prog 71 #[.int .u64 n] w fun e w' => ∃ v', e = .returned v' ∧ w'.ownsRow w.heap.size 5 1 v' (uv n).length ((uv n).map (Value.int .u8)) ∧ Below w.heap.size w w' := by
  have hl10 := uv_len10 hn
  go_enter Tryd.func71, Tryd.ntmps71
  go_wp2
  go_loopw [0, 3] (fun v l wr => ∃ (m : Nat) (xs : List Int), v = .int .u64 m ∧ m ≤ 18446744073709551615 ∧ Hid (xs ++ uv m = uv n) ∧ wr.ownsRow w.heap.size 5 1 l xs.length (xs.map (Value.int .u8)) ∧ Below w.heap.size w wr)
    (fun v _ _ => (intOf v).toNat)
  case atStart => exact ⟨n, [], rfl, hn, rfl, World.ownsRow_nil _ _ _ _, Below.refl _ _⟩
  case round =>
    obtain ⟨m, xs, rfl, hm, HX, hown, hbel⟩ := hrel
    have hlen : xs.length ≤ 10 := by have := congrArg List.length HX.out; simp at this; omega
    have hsz := hbel.size
    by_cases h128 : m < 128
    · go_wp2_with (go_at_call 79; refine (wire_put _ w.heap.size u3 xs.length (xs.map (Value.int .u8)) (hown.alloc _) (by simp; omega) ⟨wr.heap.size, 0, none⟩ 1 1 [.int .u8 m] rfl (cell_one_new _ _ _) (by simp [Value.oneCell']) (by omega)).mono ?_; rintro e w' ⟨v', rfl, hown', hgrow', _⟩)
      go_ret
      have e : uv n = xs ++ [(m : Int)] := by rw [← HX.out, uv_lo h128]
      refine ⟨v', rfl, ?_, (hbel.alloc hsz _).grown hgrow' (by simp; omega) fun k hk => (hown.lt k hk).1⟩
      rw [e]; simpa using hown'
    · have hor := or_u8 m
      go_wp2_with (go_at_call 79; refine (wire_put _ w.heap.size u3 xs.length (xs.map (Value.int .u8)) (hown.alloc _) (by simp; omega) ⟨wr.heap.size, 0, none⟩ 1 1 [.int .u8 ((m % 128 + 128 : Nat) : Int)] rfl (cell_one_new _ _ _) (by simp [Value.oneCell']) (by omega)).mono ?_; rintro e w' ⟨v', rfl, hown', hgrow', _⟩; clear hor)
      go_roundw
      case rel =>
        refine ⟨m / 128, xs ++ [((m % 128 + 128 : Nat) : Int)], by go_num, by omega, ?_, by simpa using hown', (hbel.alloc hsz _).grown hgrow' (by simp; omega) fun k hk => (hown.lt k hk).1⟩
        have := HX.out; rw [uv_hi h128] at this; show _ = _; simpa using this
      case measure => simp [intOf]; omega
end Go.Proofs.YthlkckpadjjbdaaDoor
