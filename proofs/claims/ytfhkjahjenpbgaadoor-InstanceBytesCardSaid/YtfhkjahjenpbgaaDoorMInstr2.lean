/- instr.bounds, within, Check; wire.Svar, ReadSvar. Numbers of two widths, plain. instr.Check; wire.Svar, ReadSvar. -/
import Derived.Test.YtfhkjahjenpbgaaDoorIns
import Derived.Test.YtfhkjahjenpbgaaDoorMOps4
import Derived.Test.YtfhkjahjenpbgaaDoorMLib
import Derived.Laws.DeepNot64
namespace Go.Proofs.YtfhkjahjenpbgaaDoor
open Go Go.RowKit

theorem word_const : ∀ op : Fin 256, takesP op.val = 8 → (op.val = 24 ↔ wordP op.val = [119, 46, 99, 111, 110, 115, 116]) := by decide +kernel
/-- An opcode's row, opened. -/
def irow (op : Nat) : Array Value := #[.int .u8 op, .string ⟨(wordP op).toArray⟩, .int .i8 (takesP op), .string ⟨(progRow op).pops.toArray⟩, .string ⟨(progRow op).pushes.toArray⟩, .bool (progRow op).plain]
theorem irow_eq (op : Nat) (h : isOp op = true) : (rowVal op).toArray = irow op := by
  rw [rowVal, if_pos h]; rfl
theorem rets2i {a b c d : Int} {k j : IntKind} (h : a = c) (e : b = d) : Ending.returned (.tuple #[.int k a, .int j b]) = .returned (.tuple #[.int k c, .int j d]) := by rw [h, e]

set_option maxRecDepth 100000 in
set_option maxHeartbeats 1600000 in
theorem instr_bounds (w : World) (op : Nat) (ho : op < 256) :
    Calls Tryd.prog 78 #[.agg (irow op)] w fun e w' => e = .returned (.tuple #[.int .i64 (boundsI op).1, .int .i64 (boundsI op).2]) ∧ Below w.heap.size w w' := by
  have hw := word_const ⟨op, ho⟩
  simp only at hw
  have HX : Hid (boundsI op = if takesP op = 1 ∨ takesP op = 2 ∨ takesP op = 4 ∨ takesP op = 5 ∨ takesP op = 6 ∨ takesP op = 7 then (0, 2147483647)
    else if takesP op = 9 then (0, 4294967295) else if takesP op = 8 then (if op = 24 then (-2147483648, 2147483647) else (-9223372036854775808, 9223372036854775807)) else (0, 0)) := Lib.hid rfl
  unfold irow
  generalize (progRow op).pops = pp at *
  generalize (progRow op).pushes = pu at *
  generalize (progRow op).plain = pl at *
  generalize wordP op = wd at *
  generalize takesP op = t at *
  by_cases h8 : t = 8
  · subst h8
    by_cases h24 : op = 24
    · have := (hw rfl).1 h24
      subst this
      have HY := HX.out; rw [if_neg (by omega), if_neg (by omega), if_pos rfl, if_pos h24] at HY
      clear HX hw
      go_enter Tryd.func78, Tryd.ntmps78
      go_wp2
      go_ret2
      exact ⟨rets2i (by rw [HY]) (by rw [HY]), below_alloc _ _⟩
    · have e3 : (wd == [119, 46, 99, 111, 110, 115, 116]) = false := by rw [beq_eq_false_iff_ne]; intro c; exact h24 ((hw rfl).2 c)
      have HY := HX.out; rw [if_neg (by omega), if_neg (by omega), if_pos rfl, if_neg h24] at HY
      clear HX hw
      go_enter Tryd.func78, Tryd.ntmps78
      go_wp2
      go_ret2
      exact ⟨rets2i (by rw [HY]) (by rw [HY]), below_alloc _ _⟩
  · have h8' : (t == 8) = false := by rw [beq_eq_false_iff_ne]; exact h8
    clear hw
    go_enter Tryd.func78, Tryd.ntmps78
    go_wp2
    all_goals go_ret2
    all_goals
      have HY := HX.out
      (try simp only [beq_iff_eq, beq_eq_false_iff_ne, ne_eq] at *)
      first
        | (rw [if_pos (by omega)] at HY; exact ⟨rets2i (by rw [HY]) (by rw [HY]), below_alloc _ _⟩)
        | (rw [if_neg (by omega), if_pos (by omega)] at HY; exact ⟨rets2i (by rw [HY]) (by rw [HY]), below_alloc _ _⟩)
        | (rw [if_neg (by omega), if_neg (by omega), if_neg (by omega)] at HY; exact ⟨rets2i (by rw [HY]) (by rw [HY]), below_alloc _ _⟩)

set_option maxRecDepth 100000 in
set_option maxHeartbeats 1600000 in
theorem instr_within (w : World) (op : Nat) (ho : op < 256) (n : Int) :
    Calls Tryd.prog 72 #[.agg (irow op), .int .i64 n] w fun e w' => e = .returned (.bool (inI op n)) ∧ Below w.heap.size w w' := by
  have H := fun w' : World => instr_bounds w' op ho
  have HH := Lib.hid H; clear H
  have HX : Hid (inI op n = decide ((boundsI op).1 ≤ n ∧ n ≤ (boundsI op).2)) := Lib.hid rfl
  generalize (boundsI op).1 = lo at *
  generalize (boundsI op).2 = hi at *
  have hsz : (irow op).size = 6 := rfl
  unfold irow at *
  generalize (progRow op).pops = pp at *
  generalize (progRow op).pushes = pu at *
  generalize (progRow op).plain = pl at *
  generalize wordP op = wd at *
  generalize takesP op = t at *
  go_enter Tryd.func72, Tryd.ntmps72
  have hb0 := below_alloc w (.cells #[.int .u8 op, .string ⟨wd.toArray⟩, .int .i8 t, .string ⟨pp.toArray⟩, .string ⟨pu.toArray⟩, .bool pl] 132)
  go_wp2_with fail
  refine (HH.out _).mono ?_
  rintro e w1 ⟨rfl, hb1⟩
  go_wp2
  all_goals
    go_ret
    exact ⟨ret_bool (by rw [HX.out]; simp; try omega), below_next hb0 hb1⟩
end Go.Proofs.YtfhkjahjenpbgaaDoor
namespace Go.Proofs.YtfhkjahjenpbgaaDoor
open Go Go.RowKit

/-- A number of n bits with its sign; and back. -/
def sg (n x : Nat) : Int := if x < 2 ^ (n - 1) then (x : Int) else (x : Int) - 2 ^ n
def un (n : Nat) (z : Int) : Nat := (z % (2 : Int) ^ n).toNat
/-- How many of the lowest n bits are 1. -/
def popN : Nat → Nat → Nat
  | 0, _ => 0
  | n + 1, x => x % 2 + popN n (x / 2)
def tr (b : Bool) : Nat := if b then 1 else 0
/-- To the left around; n bits. -/
def rotlN (n a k : Nat) : Nat := a % 2 ^ (n - k) * 2 ^ k + a / 2 ^ (n - k)
/-- Quotients and what is left: k: 13 to 16. -/
def divN (n k a b : Nat) : Nat × Int :=
  if b = 0 then (0, 3)
  else if k = 14 then (a / b, 0)
  else if k = 16 then (a % b, 0)
  else if a = 2 ^ (n - 1) ∧ b = 2 ^ n - 1 then (0, if k = 15 then 0 else 4)
  else if k = 15 then (un n ((sg n a).tmod (sg n b)), 0)
  else (un n ((sg n a).tdiv (sg n b)), 0)
/-- The instruction at the place k, of n bits; lz, tz: the answers of clz and ctz. -/
def numN (n k a b : Nat) (lz tz : Nat) : Nat × Int :=
  match k with
  | 0 => (tr (a = 0), 0)
  | 1 => (tr (a = b), 0)
  | 2 => (tr (a ≠ b), 0)
  | 3 => (tr (sg n a < sg n b), 0)
  | 4 => (tr (a < b), 0)
  | 5 => (tr (sg n a ≤ sg n b), 0)
  | 6 => (tr (a ≤ b), 0)
  | 7 => (lz, 0)
  | 8 => (tz, 0)
  | 9 => (popN n a, 0)
  | 10 => ((a + b) % 2 ^ n, 0)
  | 11 => ((a + (2 ^ n - b)) % 2 ^ n, 0)
  | 12 => (a * b % 2 ^ n, 0)
  | 13 => divN n 13 a b
  | 14 => divN n 14 a b
  | 15 => divN n 15 a b
  | 16 => divN n 16 a b
  | 17 => (a &&& b, 0)
  | 18 => (a ||| b, 0)
  | 19 => (a ^^^ b, 0)
  | 20 => (a * 2 ^ (b % n) % 2 ^ n, 0)
  | 21 => (un n (sg n a / 2 ^ (b % n)), 0)
  | 22 => (a / 2 ^ (b % n), 0)
  | 23 => (rotlN n a (b % n), 0)
  | _ => (rotlN n a ((n - b % n) % n), 0)

theorem popN_split (m : Nat) : ∀ (n x : Nat), popN (n + m) x = popN n x + popN m (x / 2 ^ n)
  | 0, x => by simp [popN]
  | n + 1, x => by
    rw [Nat.add_right_comm, popN, popN, popN_split m n, Nat.add_assoc, Nat.pow_succ, Nat.mul_comm (2 ^ n) 2, Nat.div_div_eq_div_mul]
theorem popN_mod (n : Nat) : ∀ (m x : Nat), m ≤ n → popN m (x % 2 ^ n) = popN m x := by
  intro m
  induction m generalizing n with
  | zero => intro x _; rfl
  | succ m ih =>
    intro x h
    match n, h with
    | n + 1, h =>
      rw [popN, popN]
      have e1 : x % 2 ^ (n + 1) % 2 = x % 2 := Nat.mod_mod_of_dvd _ ⟨2 ^ n, by rw [Nat.pow_succ, Nat.mul_comm]⟩
      have e2 : x % 2 ^ (n + 1) / 2 = x / 2 % 2 ^ n := by rw [Nat.pow_succ, Nat.mul_comm, Nat.mod_mul_right_div_self]
      rw [e1, e2, ih n (x / 2) (by omega)]
theorem popN_mul (k : Nat) : ∀ (m x : Nat), popN (k + m) (x * 2 ^ k) = popN m x := by
  intro m x
  have h0 : ∀ j, j ≤ k → popN j (x * 2 ^ k) = 0 := by
    intro j
    induction j with
    | zero => intro _; rfl
    | succ j ih =>
      intro h
      rw [popN_split 1 j, ih (by omega)]
      have e : x * 2 ^ k / 2 ^ j = x * 2 ^ (k - j) := by
        rw [show (2 : Nat) ^ k = 2 ^ (k - j) * 2 ^ j by rw [← Nat.pow_add]; congr 1; omega, ← Nat.mul_assoc, Nat.mul_div_cancel _ (Nat.two_pow_pos j)]
      have e2 : x * 2 ^ (k - j) % 2 = 0 := by
        rw [show k - j = (k - j - 1) + 1 by omega, Nat.pow_succ, ← Nat.mul_assoc]; exact Nat.mul_mod_left _ _
      rw [e]; simp [popN, e2]
  rw [popN_split m k, h0 k (Nat.le_refl k), Nat.zero_add, Nat.mul_div_cancel _ (Nat.two_pow_pos k)]
theorem popN_le (n : Nat) : ∀ x, popN n x ≤ n := by
  induction n with
  | zero => intro x; exact Nat.le_refl 0
  | succ n ih => intro x; rw [popN]; have := ih (x / 2); omega
/-- Turned around, as many bits are 1. -/
theorem popN_rotl {n a k : Nat} (hk : k ≤ n) (ha : a < 2 ^ n) : popN n (rotlN n a k) = popN n a := by
  have hm : 2 ^ n = 2 ^ (n - k) * 2 ^ k := by rw [← Nat.pow_add]; congr 1; omega
  have hlt : a / 2 ^ (n - k) < 2 ^ k := Nat.div_lt_of_lt_mul (by rw [← hm]; exact ha)
  have e1 : popN n (rotlN n a k) = popN k (rotlN n a k) + popN (n - k) (rotlN n a k / 2 ^ k) := by
    rw [← popN_split (n - k) k]; congr 1; omega
  have e2 : rotlN n a k / 2 ^ k = a % 2 ^ (n - k) := by
    rw [rotlN, Nat.add_comm, Nat.add_mul_div_right _ _ (Nat.two_pow_pos k), Nat.div_eq_of_lt hlt, Nat.zero_add]
  have e3 : popN k (rotlN n a k) = popN k (a / 2 ^ (n - k)) := by
    rw [← popN_mod k k (rotlN n a k) (Nat.le_refl k), rotlN, Nat.add_comm, Nat.add_mul_mod_self_right, Nat.mod_eq_of_lt hlt]
  have e4 : popN n a = popN (n - k) a + popN k (a / 2 ^ (n - k)) := by
    rw [← popN_split k (n - k)]; congr 1; omega
  rw [e1, e2, e3, e4, popN_mod (n - k) (n - k) a (Nat.le_refl _)]
  omega
theorem not_eq {n x : Nat} (h : x < 2 ^ n) : x ^^^ (2 ^ n - 1) = 2 ^ n - 1 - x := by
  have h1 : (BitVec.ofNat n x ^^^ BitVec.allOnes n).toNat = x ^^^ (2 ^ n - 1) := by
    rw [BitVec.toNat_xor, BitVec.toNat_ofNat, BitVec.toNat_allOnes, Nat.mod_eq_of_lt h]
  rw [← h1, BitVec.xor_allOnes, BitVec.toNat_not, BitVec.toNat_ofNat, Nat.mod_eq_of_lt h]
theorem popN_not : ∀ (n x : Nat), x < 2 ^ n → popN n x + popN n (2 ^ n - 1 - x) = n
  | 0, _, _ => rfl
  | n + 1, x, h => by
    have hp := Nat.two_pow_pos n
    have h2 : 2 ^ (n + 1) = 2 * 2 ^ n := by rw [Nat.pow_succ, Nat.mul_comm]
    have ih := popN_not n (x / 2) (by omega)
    have e1 : (2 ^ (n + 1) - 1 - x) / 2 = 2 ^ n - 1 - x / 2 := by omega
    have e2 : (2 ^ (n + 1) - 1 - x) % 2 = 1 - x % 2 := by omega
    rw [popN, popN, e1, e2]
    omega
theorem popN_ones (n : Nat) : popN n (2 ^ n - 1) = n := by
  have h := popN_not n 0 (Nat.two_pow_pos n)
  have h0 : ∀ n, popN n 0 = 0 := by
    intro n
    induction n with
    | zero => rfl
    | succ n ih => rw [popN, Nat.zero_div, ih]
  rw [h0, Nat.sub_zero] at h
  omega
theorem rotlN_lt {n a k : Nat} (hk : k ≤ n) (ha : a < 2 ^ n) : rotlN n a k < 2 ^ n := by
  have hm : 2 ^ n = 2 ^ (n - k) * 2 ^ k := by rw [← Nat.pow_add]; congr 1; omega
  have h1 : a / 2 ^ (n - k) < 2 ^ k := Nat.div_lt_of_lt_mul (by rw [← hm]; exact ha)
  have h2 : a % 2 ^ (n - k) < 2 ^ (n - k) := Nat.mod_lt _ (Nat.two_pow_pos _)
  have h3 : (a % 2 ^ (n - k) + 1) * 2 ^ k ≤ 2 ^ (n - k) * 2 ^ k := Nat.mul_le_mul_right _ h2
  rw [Nat.succ_mul] at h3
  rw [rotlN, hm]
  omega
/-- To the left around and back. -/
theorem rotl_back {n a k : Nat} (_hn : 0 < n) (hk : k < n) (ha : a < 2 ^ n) : rotlN n (rotlN n a k) ((n - k) % n) = a := by
  rcases Nat.eq_zero_or_pos k with rfl | h0
  · have e : rotlN n a 0 = a := by simp [rotlN, Nat.mod_eq_of_lt ha, Nat.div_eq_of_lt ha]
    have e2 : (n - 0) % n = 0 := by simp
    rw [e2, e, e]
  · have hm : 2 ^ n = 2 ^ (n - k) * 2 ^ k := by rw [← Nat.pow_add]; congr 1; omega
    have hlt : a / 2 ^ (n - k) < 2 ^ k := Nat.div_lt_of_lt_mul (by rw [← hm]; exact ha)
    have e1 : (n - k) % n = n - k := Nat.mod_eq_of_lt (by omega)
    have e2 : rotlN n a k / 2 ^ k = a % 2 ^ (n - k) := by
      rw [rotlN, Nat.add_comm, Nat.add_mul_div_right _ _ (Nat.two_pow_pos k), Nat.div_eq_of_lt hlt, Nat.zero_add]
    have e3 : rotlN n a k % 2 ^ k = a / 2 ^ (n - k) := by
      rw [rotlN, Nat.add_comm, Nat.add_mul_mod_self_right, Nat.mod_eq_of_lt hlt]
    rw [e1]
    conv => lhs; rw [rotlN]
    rw [show n - (n - k) = k by omega, e2, e3]
    have := Nat.div_add_mod a (2 ^ (n - k))
    rw [Nat.mul_comm] at this
    exact this
/-- Bits of one number beside those of another. -/
theorem or_add {x y k : Nat} (h : y < 2 ^ k) : x * 2 ^ k ||| y = x * 2 ^ k + y := by
  rw [Nat.mul_comm]; exact (Nat.two_pow_add_eq_or_of_lt h x).symm
theorem sg_lt {n x : Nat} (hn : 0 < n) (h : x < 2 ^ n) : -(2 : Int) ^ (n - 1) ≤ sg n x ∧ sg n x < 2 ^ (n - 1) := by
  have e : (2 : Int) ^ n = 2 * 2 ^ (n - 1) := by
    rw [show n = (n - 1) + 1 by omega, Int.pow_succ, show n - 1 + 1 - 1 = n - 1 by omega, Int.mul_comm]
  have h1 : ((2 ^ (n - 1) : Nat) : Int) = 2 ^ (n - 1) := by simp
  have h2 : ((2 ^ n : Nat) : Int) = 2 ^ n := by simp
  unfold sg
  split <;> omega
theorem sg_mod {n x : Nat} : ∃ c : Int, sg n x = x + c * 2 ^ n := by
  unfold sg
  split
  · exact ⟨0, by simp⟩
  · exact ⟨-1, by omega⟩
theorem un_sg {n x : Nat} (h : x < 2 ^ n) : un n (sg n x) = x := by
  obtain ⟨c, e⟩ := sg_mod (n := n) (x := x)
  rw [un, e, Int.add_mul_emod_self_right]
  have h2 : ((2 ^ n : Nat) : Int) = 2 ^ n := by simp
  rw [Int.emod_eq_of_lt (by omega) (by omega)]
  rfl
theorem un_lt (n : Nat) (z : Int) : un n z < 2 ^ n := by
  have h2 : ((2 ^ n : Nat) : Int) = 2 ^ n := by simp
  have h3 : (0 : Int) < 2 ^ n := by have := Nat.two_pow_pos n; omega
  have h4 := Int.emod_nonneg z (by omega : (2 : Int) ^ n ≠ 0)
  have h5 := Int.emod_lt_of_pos z h3
  unfold un
  omega
theorem un_mod (n : Nat) (z : Int) : ∃ c : Int, (un n z : Int) = z + c * 2 ^ n := by
  have h2 : ((2 ^ n : Nat) : Int) = 2 ^ n := by simp
  have h3 : (0 : Int) < 2 ^ n := by have := Nat.two_pow_pos n; omega
  have h4 := Int.emod_nonneg z (by omega : (2 : Int) ^ n ≠ 0)
  refine ⟨-(z / 2 ^ n), ?_⟩
  have h5 := Int.emod_add_mul_ediv z (2 ^ n)
  unfold un
  rw [Int.toNat_of_nonneg h4, Int.neg_mul, Int.mul_comm (z / 2 ^ n)]
  omega
attribute [irreducible] popN
end Go.Proofs.YtfhkjahjenpbgaaDoor
namespace Go.Proofs.YtfhkjahjenpbgaaDoor
open Go Go.RowKit

theorem i64_xor_comm (a b : Int) : bits .xor .i64 a b = bits .xor .i64 b a := by
  show IntKind.i64.wrap ((BitVec.ofInt 64 a ^^^ BitVec.ofInt 64 b).toNat : Int) = IntKind.i64.wrap ((BitVec.ofInt 64 b ^^^ BitVec.ofInt 64 a).toNat : Int)
  rw [BitVec.xor_comm]
theorem i64_xor_zero (a : Nat) (ha : a < 9223372036854775808) : bits .xor .i64 (a : Int) 0 = a := by
  show IntKind.i64.wrap ((BitVec.ofInt 64 (a : Int) ^^^ BitVec.ofInt 64 0).toNat : Int) = _
  have h1 : BitVec.ofInt 64 0 = 0#64 := by decide
  rw [h1, BitVec.xor_zero, ofInt_u64 a (by omega)]
  simp [IntKind.wrap, IntKind.bits, IntKind.signed]
  omega
theorem u64_xor_ones (z : Nat) (hz : z < 18446744073709551616) : bits .xor .u64 (z : Int) 18446744073709551615 = ((18446744073709551615 - z : Nat) : Int) := by
  rw [show (18446744073709551615 : Int) = ((18446744073709551615 : Nat) : Int) from rfl, bits_xor_u64_nat _ _ hz (by decide)]
  have := not_eq (n := 64) (x := z) hz
  rw [show (2 : Nat) ^ 64 - 1 = 18446744073709551615 from rfl] at this
  rw [this]
theorem u64_xor_zero (z : Nat) (hz : z < 18446744073709551616) : bits .xor .u64 (z : Int) 0 = (z : Int) := by
  rw [show (0 : Int) = ((0 : Nat) : Int) from rfl, bits_xor_u64_nat _ _ hz (by decide), Nat.xor_zero]

set_option maxRecDepth 100000 in
set_option maxHeartbeats 800000 in
/-- 'wire.Svar': a number's bytes with its sign, in new memory. -/
theorem wire_Svar (w : World) (a : Int) (ha : i64P a) :
    Calls Tryd.prog 42 #[.int .i64 a] w fun e w' => ∃ v', e = .returned v' ∧ w'.ownsRow w.heap.size 5 1 v' (uv (zig a)).length ((uv (zig a)).map (Value.int .u8)) ∧ Below w.heap.size w w' := by
  have hz := zig_le ha
  have ha' : -9223372036854775808 ≤ a ∧ a ≤ 9223372036854775807 := ha
  have H := Lib.hid (wire_Uvar w (zig a) hz)
  by_cases h0 : 0 ≤ a
  · have e1 : IntKind.u64.wrap a = a := IntWalk.u64_in _ ⟨by omega, by omega⟩
    have e2 : IntKind.u64.wrap (a * 2) = (zig a : Int) := by rw [IntWalk.u64_in _ ⟨by omega, by omega⟩]; unfold zig; rw [if_pos h0]; omega
    have e3 : a / 9223372036854775808 = 0 := by omega
    have e4 := u64_xor_zero (zig a) (by omega)
    clear hz ha ha'
    generalize zig a = z at *
    go_enter Tryd.func42, Tryd.ntmps42
    go_wp2_with fail
    refine H.out.mono ?_
    rintro e w' ⟨v', rfl, hown, hb⟩
    go_wp2
    go_ret
    exact ⟨v', rfl, hown, hb⟩
  · obtain ⟨y, hy⟩ : ∃ y : Nat, (y : Int) = a * 2 + 18446744073709551616 := ⟨(a * 2 + 18446744073709551616).toNat, by omega⟩
    have e1 : IntKind.u64.wrap a = a + 18446744073709551616 := by rw [IntKind.wrap_u64]; omega
    have e2 : IntKind.u64.wrap ((a + 18446744073709551616) * 2) = (y : Int) := by rw [IntKind.wrap_u64]; omega
    have e3 : a / 9223372036854775808 = -1 := by omega
    have e5 : IntKind.u64.wrap (-1) = 18446744073709551615 := by decide
    have e4 := u64_xor_ones y (by omega)
    have e6 : 18446744073709551615 - y = zig a := by unfold zig; rw [if_neg h0]; omega
    rw [e6] at e4
    clear hz ha ha' hy e6
    generalize zig a = z at *
    go_enter Tryd.func42, Tryd.ntmps42
    go_wp2_with fail
    refine H.out.mono ?_
    rintro e w' ⟨v', rfl, hown, hb⟩
    go_wp2
    go_ret
    exact ⟨v', rfl, hown, hb⟩

theorem rets3i {a b c a' b' c' : Int} {k j i : IntKind} (h : a = a') (e : b = b') (f : c = c') : Ending.returned (.tuple #[.int k a, .int j b, .int i c]) = .returned (.tuple #[.int k a', .int j b', .int i c']) := by rw [h, e, f]

theorem all_drop {l : List Int} {k : Nat} (h : k < l.length) : (l.drop k).all smallI = (smallI l[k] && (l.drop (k + 1)).all smallI) := by
  rw [List.drop_eq_getElem_cons h, List.all_cons]

set_option maxRecDepth 100000 in
set_option maxHeartbeats 3200000 in
/-- 'instr.Check'. -/
theorem instr_Check (w : World) (S) (x : InsD) (vl : Value) (wf : WfIns x) (hr : RdI .i64 S w vl x.l) (ht : Tb w) :
    Calls Tryd.prog 61 #[.agg #[.int .u8 x.op, .int .i64 x.a, vl]] w fun e w' => e = .returned (.int .i64 (checkI x)) ∧ Below w.heap.size w w' := by
  obtain ⟨op, a, l⟩ := x
  have ho := wf.op
  have HW := Lib.hid wf.l
  obtain ⟨va, vc, rfl, hlc⟩ := hr.lenc
  have hlm : l.length ≤ 140737488355328 := by obtain ⟨_, _, _, _, h, _⟩ := hr; exact h
  have HT := Lib.hid ht; have HL := Lib.hid hr
  clear wf hr ht
  simp only at *
  have HC : Hid (checkI ⟨op, a, l⟩ = if isOp op = false then 21 else if inI op a = false then 17 else if takesP op ≠ 3 then (if 0 < l.length then 17 else 0) else if l.length < 1 ∨ 16 < l.length then 17 else if l.all smallI then 0 else 17) := Lib.hid rfl
  have hb0 := below_alloc w (.cells #[.int .u8 op, .int .i64 a, .slice va l.length vc] 68)
  have hr0 := heap_alloc_new w (.cells #[.int .u8 op, .int .i64 a, .slice va l.length vc] 68)
  go_enter Tryd.func61, Tryd.ntmps61
  go_wp2_with fail
  generalize w.alloc (.cells #[.int .u8 op, .int .i64 a, .slice va l.length vc] 68) = w0 at *
  have HB0 := Lib.hid hb0; have HR0 := Lib.hid hr0
  have HT0 : Hid (Tb w0) := Lib.hid (HT.out.bel hb0)
  have HL0 : Hid (RdI .i64 (· < w0.heap.size) w0 (.slice va l.length vc) l) := Lib.hid (HL.out.any.bel hb0)
  clear hb0 hr0 HL HT
  refine (ops_Of _ op ho HT0.out).mono ?_
  rintro e w1 ⟨rfl, hb1⟩
  cases hop : isOp op with
  | false =>
    obtain ⟨rx, rs, rt, rp, rq, rb, hrv⟩ := rowVal_open op
    rw [hrv]; clear hrv
    have HX : Hid (checkI ⟨op, a, l⟩ = 21) := by have := HC.out; rw [if_pos hop] at this; exact this
    go_wp2
    go_ret
    have h2 := below_next HB0.out hb1
    exact ⟨ret_int HX.out.symm, h2.alloc h2.size _⟩
  | true =>
    rw [irow_eq op hop]
    have HX : Hid (checkI ⟨op, a, l⟩ = if inI op a = false then 17 else if takesP op ≠ 3 then (if 0 < l.length then 17 else 0) else if l.length < 1 ∨ 16 < l.length then 17 else if l.all smallI then 0 else 17) := by have := HC.out; rw [if_neg (by simp [hop])] at this; exact this
    have HW2 := fun w' : World => instr_within w' op ho a
    have HH := Lib.hid HW2
    clear HW2 HC hop
    have HR1 : Hid (w1.heap[w.heap.size]? = some (.cells #[.int .u8 op, .int .i64 a, .slice va l.length vc] 68 (0, 0))) := Lib.hid ((hb1.block _ (row_lt HR0.out)).trans HR0.out)
    have HL1 := Lib.hid (HL0.out.bel hb1)
    have HB1 := Lib.hid (below_next HB0.out hb1)
    clear hb1 HR0 HB0 HL0
    unfold irow at *
    generalize (progRow op).pops = pp at *
    generalize (progRow op).pushes = pu at *
    generalize (progRow op).plain = pl at *
    generalize wordP op = wd at *
    generalize takesP op = t at *
    generalize inI op a = ok at *
    have HB2 := Lib.hid (below_alloc w1 (.cells #[.int .u8 op, .string ⟨wd.toArray⟩, .int .i8 t, .string ⟨pp.toArray⟩, .string ⟨pu.toArray⟩, .bool pl] 132))
    have hR2 := (HB2.out.block _ (row_lt HR1.out)).trans HR1.out
    have b0 := row_cell hR2 0 rfl; have b1 := row_cell hR2 1 rfl; have b2 := row_cell hR2 2 rfl
    simp only [List.getElem_toArray, List.getElem_cons_zero, List.getElem_cons_succ] at b0 b1 b2
    go_wp2_with fail
    refine (HH.out _).mono ?_
    rintro e w3 ⟨rfl, hb3⟩
    have hR3 := (hb3.block _ (row_lt hR2)).trans hR2
    have hQ3 := (hb3.block _ (row_lt (heap_alloc_new w1 _))).trans (heap_alloc_new w1 (.cells #[.int .u8 op, .string ⟨wd.toArray⟩, .int .i8 t, .string ⟨pp.toArray⟩, .string ⟨pu.toArray⟩, .bool pl] 132))
    have HB3 := Lib.hid (below_next (below_next HB1.out HB2.out) hb3)
    have HL3 := Lib.hid ((HL1.out.bel HB2.out).bel hb3)
    clear b0 b1 b2
    have b2 := row_cell hR3 2 rfl; have q2 := row_cell hQ3 2 rfl
    simp only [List.getElem_toArray, List.getElem_cons_zero, List.getElem_cons_succ] at b2 q2
    clear hR2 hR3 hQ3 hb3 HL1 HB1 HB2 HR1 HH
    generalize w1.heap.size = g1 at *
    cases ok with
    | false =>
      have HY : Hid (checkI ⟨op, a, l⟩ = 17) := HX.out
      go_wp2
      go_ret
      exact ⟨ret_int HY.out.symm, HB3.out⟩
    | true =>
      have HY : Hid (checkI ⟨op, a, l⟩ = if t ≠ 3 then (if 0 < l.length then 17 else 0) else if l.length < 1 ∨ 16 < l.length then 17 else if l.all smallI then 0 else 17) := HX.out
      clear HX
      by_cases h3 : t = 3
      · subst h3
        by_cases hlen : l.length < 1 ∨ 16 < l.length
        · have HZ : Hid (checkI ⟨op, a, l⟩ = 17) := by have := HY.out; rw [if_neg (by simp), if_pos hlen] at this; exact this
          clear HY
          rcases hlen with h1 | h1
          all_goals go_wp2
          all_goals go_ret
          all_goals exact ⟨ret_int HZ.out.symm, HB3.out⟩
        · have HZ : Hid (checkI ⟨op, a, l⟩ = if l.all smallI then 0 else 17) := by have := HY.out; rw [if_neg (by simp), if_neg hlen] at this; exact this
          clear HY
          have l1 : ¬ l.length < 1 := by omega
          have l2 : ¬ 16 < l.length := by omega
          clear hlen
          go_wp2
          go_loop [40] (fun i => ∃ k : Nat, k ≤ l.length ∧ i = .int .i64 k ∧ Hid (l.all smallI = (l.drop k).all smallI)) (fun i => l.length - (intOf i).toNat)
          case atStart => exact ⟨0, by omega, rfl, Lib.hid rfl⟩
          case round =>
            obtain ⟨k, hk, rfl, HK⟩ := hrel
            by_cases hlt : k < l.length
            · obtain ⟨va', vc', e, _, _, hcell⟩ := HL3.out
              simp only [Value.slice.injEq] at e
              obtain ⟨rfl, _, rfl⟩ := e
              obtain ⟨bb, off, rfl, _, hc⟩ := hcell k hlt
              have HK2 := Lib.hid (HK.out.trans (all_drop hlt))
              have hs : Hid (smallI l[k] = decide (0 ≤ l[k] ∧ l[k] ≤ 2147483647)) := Lib.hid rfl
              clear hcell HK
              generalize l[k] = n at *
              by_cases hn : 0 ≤ n ∧ n ≤ 2147483647
              · have HN : Hid (l.all smallI = (l.drop (k + 1)).all smallI) := by have := HK2.out; rw [hs.out, decide_eq_true hn, Bool.true_and] at this; exact this
                clear HK2 hs
                obtain ⟨n1, n2⟩ := hn
                go_wp2
                go_round
                case rel => exact ⟨k + 1, by omega, by go_num, HN⟩
                case measure => simp [intOf]; omega
              · have HN : Hid (l.all smallI = false) := by have := HK2.out; rw [hs.out, decide_eq_false hn, Bool.false_and] at this; exact this
                have HE : Hid (checkI ⟨op, a, l⟩ = 17) := by have := HZ.out; rw [HN.out] at this; exact this
                clear HK2 hs HN HZ
                go_wp2
                all_goals first | (exfalso; omega) | skip
                all_goals go_ret
                all_goals exact ⟨ret_int HE.out.symm, HB3.out⟩
            · have HN : Hid (l.all smallI = true) := by have := HK.out; rw [List.drop_of_length_le (by omega)] at this; exact this
              have HE : Hid (checkI ⟨op, a, l⟩ = 0) := by have := HZ.out; rw [HN.out] at this; exact this
              go_wp2
              go_ret
              exact ⟨ret_int HE.out.symm, HB3.out⟩
      · have h3' : (t != 3) = true := by rw [bne_iff_ne]; exact h3
        by_cases h0 : 0 < l.length
        · have HZ : Hid (checkI ⟨op, a, l⟩ = 17) := by have := HY.out; rw [if_pos h3, if_pos h0] at this; exact this
          clear HY
          go_wp2
          go_ret
          exact ⟨ret_int HZ.out.symm, HB3.out⟩
        · have HZ : Hid (checkI ⟨op, a, l⟩ = 0) := by have := HY.out; rw [if_pos h3, if_neg h0] at this; exact this
          clear HY
          go_wp2
          go_ret
          exact ⟨ret_int HZ.out.symm, HB3.out⟩
end Go.Proofs.YtfhkjahjenpbgaaDoor
