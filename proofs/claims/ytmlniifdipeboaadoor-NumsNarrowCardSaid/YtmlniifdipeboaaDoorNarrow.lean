/- flagonlaw07.NumsNarrow, walked. -/
import Derived.Test.YtmlniifdipeboaaDoorAgree
namespace Go.Proofs.YtmlniifdipeboaaDoor
open Go Go.RowKit

/-- The places of the law's list. -/
def narrowK : List Nat := [10, 11, 12, 17, 18, 19]
theorem narrow_place {a b x y k : Nat} (hb : b < 18446744073709551616) (hx : x = a % 4294967296) (hy : y = b % 4294967296) (hk : k ∈ narrowK) :
    (numN 64 k a b 0 0).1 % 4294967296 = (numN 32 k x y 0 0).1 := by
  subst hx hy
  have hk' : k = 10 ∨ k = 11 ∨ k = 12 ∨ k = 17 ∨ k = 18 ∨ k = 19 := by simpa [narrowK] using hk
  rcases hk' with rfl | rfl | rfl | rfl | rfl | rfl
  · show (a + b) % 18446744073709551616 % 4294967296 = (a % 4294967296 + b % 4294967296) % 4294967296
    omega
  · show (a + (18446744073709551616 - b)) % 18446744073709551616 % 4294967296 = (a % 4294967296 + (4294967296 - b % 4294967296)) % 4294967296
    omega
  · show a * b % 18446744073709551616 % 4294967296 = a % 4294967296 * (b % 4294967296) % 4294967296
    rw [Nat.mod_mod_of_dvd _ (by decide), Nat.mul_mod]
  · exact Nat.and_mod_two_pow (n := 32)
  · exact Nat.or_mod_two_pow (n := 32)
  · exact Nat.xor_mod_two_pow (n := 32)
theorem narrow_shl {a x k : Nat} (hx : x = a % 4294967296) (hk : k < 32) : (numN 64 20 a k 0 0).1 % 4294967296 = (numN 32 20 x k 0 0).1 := by
  subst hx
  show a * 2 ^ (k % 64) % 18446744073709551616 % 4294967296 = a % 4294967296 * 2 ^ (k % 32) % 4294967296
  rw [Nat.mod_mod_of_dvd _ (by decide), Nat.mod_eq_of_lt (show k < 64 by omega), Nat.mod_eq_of_lt hk, Nat.mod_mul_mod]
theorem sg_ext {m : Nat} (h : m < 4294967296) : sg 64 (un 64 (sg 32 m)) = sg 32 m := by
  rw [ext32 h]; unfold sg; split <;> split <;> omega
theorem narrow_lts {x y s t : Nat} (hx : x < 4294967296) (hy : y < 4294967296) (hs : s = un 64 (sg 32 x)) (ht : t = un 64 (sg 32 y)) : (numN 64 3 s t 0 0).1 = (numN 32 3 x y 0 0).1 := by
  show tr (decide (sg 64 s < sg 64 t)) = tr (decide (sg 32 x < sg 32 y))
  rw [hs, ht, sg_ext hx, sg_ext hy]
theorem narrow_pop {x : Nat} (hx : x < 4294967296) : (numN 64 9 x 0 0 0).1 = (numN 32 9 x 0 0 0).1 := pop_narrow hx
theorem narrow_ltu (x y : Nat) : (numN 64 4 x y 0 0).1 = (numN 32 4 x y 0 0).1 := by simp only [numN]
theorem Wd.drewN {w0 w : World} (h : Wd w0 w) (n : Nat) : Wd w0 (w.drewN n) := h.step (drewN_below w n)
theorem keepN {w1 w' : World} {A : Addr} {v : Value} (hc : w1.cell? A = some v) (h : Wd w1 w') : w'.cell? A = some v ∧ Wd w1 w' := ⟨cell_below h.bel hc, h⟩

set_option maxRecDepth 100000 in
set_option maxHeartbeats 12800000 in
theorem law_narrow (w : World) (a b : Nat) (ha : a < 18446744073709551616) (hb : b < 18446744073709551616) (ht : Tb w) :
    Calls Tryd.prog 12 #[.int .u64 a, .int .u64 b] w fun e w' => e = .returned (.bool true) ∧ Below w.heap.size w w' := by
  obtain ⟨x, hx⟩ : ∃ x, x = a % 4294967296 := ⟨_, rfl⟩
  obtain ⟨y, hy⟩ : ∃ y, y = b % 4294967296 := ⟨_, rfl⟩
  obtain ⟨k, hk⟩ : ∃ k, k = b % 32 := ⟨_, rfl⟩
  obtain ⟨s, hs⟩ : ∃ s, s = un 64 (sg 32 x) := ⟨_, rfl⟩
  obtain ⟨t, ht'⟩ : ∃ t, t = un 64 (sg 32 y) := ⟨_, rfl⟩
  have lx : x < 4294967296 := by omega
  have ly : y < 4294967296 := by omega
  have lk : k < 32 := by omega
  have ls : s < 18446744073709551616 := by rw [hs]; exact un_lt 64 _
  have lt : t < 18446744073709551616 := by rw [ht']; exact un_lt 64 _
  have X1 : val 112 a 0 = x := by rw [t112, hx]
  have X2 : val 112 b 0 = y := by rw [t112, hy]
  obtain ⟨P0, lP0, A0, B0, C0⟩ : ∃ P, P < 18446744073709551616 ∧ val 90 a b = P ∧ val 112 P 0 = (numN 32 10 x y 0 0).1 ∧ val 58 x y = (numN 32 10 x y 0 0).1 := by
    refine ⟨_, val_lt ha hb, rfl, ?_, val32 (k := 10) (by omega) lx ly⟩
    rw [t112, show val 90 a b = (numN 64 10 a b 0 0).1 from val64 (k := 10) (by omega)]
    exact narrow_place hb hx hy (by decide)
  generalize (numN 32 10 x y 0 0).1 = Q0 at *
  obtain ⟨P1, lP1, A1, B1, C1⟩ : ∃ P, P < 18446744073709551616 ∧ val 91 a b = P ∧ val 112 P 0 = (numN 32 11 x y 0 0).1 ∧ val 59 x y = (numN 32 11 x y 0 0).1 := by
    refine ⟨_, val_lt ha hb, rfl, ?_, val32 (k := 11) (by omega) lx ly⟩
    rw [t112, show val 91 a b = (numN 64 11 a b 0 0).1 from val64 (k := 11) (by omega)]
    exact narrow_place hb hx hy (by decide)
  generalize (numN 32 11 x y 0 0).1 = Q1 at *
  obtain ⟨P2, lP2, A2, B2, C2⟩ : ∃ P, P < 18446744073709551616 ∧ val 92 a b = P ∧ val 112 P 0 = (numN 32 12 x y 0 0).1 ∧ val 60 x y = (numN 32 12 x y 0 0).1 := by
    refine ⟨_, val_lt ha hb, rfl, ?_, val32 (k := 12) (by omega) lx ly⟩
    rw [t112, show val 92 a b = (numN 64 12 a b 0 0).1 from val64 (k := 12) (by omega)]
    exact narrow_place hb hx hy (by decide)
  generalize (numN 32 12 x y 0 0).1 = Q2 at *
  obtain ⟨P3, lP3, A3, B3, C3⟩ : ∃ P, P < 18446744073709551616 ∧ val 97 a b = P ∧ val 112 P 0 = (numN 32 17 x y 0 0).1 ∧ val 65 x y = (numN 32 17 x y 0 0).1 := by
    refine ⟨_, val_lt ha hb, rfl, ?_, val32 (k := 17) (by omega) lx ly⟩
    rw [t112, show val 97 a b = (numN 64 17 a b 0 0).1 from val64 (k := 17) (by omega)]
    exact narrow_place hb hx hy (by decide)
  generalize (numN 32 17 x y 0 0).1 = Q3 at *
  obtain ⟨P4, lP4, A4, B4, C4⟩ : ∃ P, P < 18446744073709551616 ∧ val 98 a b = P ∧ val 112 P 0 = (numN 32 18 x y 0 0).1 ∧ val 66 x y = (numN 32 18 x y 0 0).1 := by
    refine ⟨_, val_lt ha hb, rfl, ?_, val32 (k := 18) (by omega) lx ly⟩
    rw [t112, show val 98 a b = (numN 64 18 a b 0 0).1 from val64 (k := 18) (by omega)]
    exact narrow_place hb hx hy (by decide)
  generalize (numN 32 18 x y 0 0).1 = Q4 at *
  obtain ⟨P5, lP5, A5, B5, C5⟩ : ∃ P, P < 18446744073709551616 ∧ val 99 a b = P ∧ val 112 P 0 = (numN 32 19 x y 0 0).1 ∧ val 67 x y = (numN 32 19 x y 0 0).1 := by
    refine ⟨_, val_lt ha hb, rfl, ?_, val32 (k := 19) (by omega) lx ly⟩
    rw [t112, show val 99 a b = (numN 64 19 a b 0 0).1 from val64 (k := 19) (by omega)]
    exact narrow_place hb hx hy (by decide)
  generalize (numN 32 19 x y 0 0).1 = Q5 at *
  obtain ⟨P6, lP6, A6, B6, C6⟩ : ∃ P, P < 18446744073709551616 ∧ val 100 a k = P ∧ val 112 P 0 = (numN 32 20 x k 0 0).1 ∧ val 68 x k = (numN 32 20 x k 0 0).1 := by
    refine ⟨_, val_lt ha (by omega), rfl, ?_, val32 (k := 20) (by omega) lx (by omega)⟩
    rw [t112, show val 100 a k = (numN 64 20 a k 0 0).1 from val64 (k := 20) (by omega)]
    exact narrow_shl hx lk
  generalize (numN 32 20 x k 0 0).1 = Q6 at *
  have D1 : val 113 x 0 = s := by rw [t113, Nat.mod_eq_of_lt lx, hs]
  have D2 : val 113 y 0 = t := by rw [t113, Nat.mod_eq_of_lt ly, ht']
  have D3 : val 83 s t = (numN 32 3 x y 0 0).1 := by rw [show val 83 s t = (numN 64 3 s t 0 0).1 from val64 (k := 3) (by omega)]; exact narrow_lts lx ly hs ht'
  have D4 : val 51 x y = (numN 32 3 x y 0 0).1 := val32 (k := 3) (by omega) lx ly
  generalize (numN 32 3 x y 0 0).1 = Q7 at *
  have F1 : val 114 x 0 = x := by rw [t114, Nat.mod_eq_of_lt lx]
  have F2 : val 114 y 0 = y := by rw [t114, Nat.mod_eq_of_lt ly]
  have F3 : val 84 x y = (numN 32 4 x y 0 0).1 := (val64 (k := 4) (by omega)).trans (narrow_ltu x y)
  have F4 : val 52 x y = (numN 32 4 x y 0 0).1 := val32 (k := 4) (by omega) lx ly
  generalize (numN 32 4 x y 0 0).1 = Q8 at *
  have G1 : val 89 x 0 = (numN 32 9 x 0 0 0).1 := by rw [show val 89 x 0 = (numN 64 9 x 0 0 0).1 from val64 (k := 9) (by omega)]; exact narrow_pop lx
  have G2 : val 57 x 0 = (numN 32 9 x 0 0 0).1 := val32 (k := 9) (by omega) lx (by decide)
  generalize (numN 32 9 x 0 0 0).1 = Q9 at *
  have R1 : (b : Int) % 32 = (k : Int) := by omega
  clear hx hy hk hs ht'
  have hs := Wd.refl ht
  clear ht
  go_enter Tryd.func12, Tryd.ntmps12
  go_wp2_with (first
    | (go_at_call 56; refine (law_value w _ _ _ _ _ rfl (by decide) (by first | assumption | omega | decide) (by first | assumption | omega | decide) (by assumption)).mono ?_; rintro e w' ⟨rfl, hs'⟩))
  have hr := heap_alloc_new w' (.cells #[.int .u8 10, .int .u8 11, .int .u8 12, .int .u8 17, .int .u8 18, .int .u8 19] 5)
  have hw := hs'.step (below_alloc w' (.cells #[.int .u8 10, .int .u8 11, .int .u8 12, .int .u8 17, .int .u8 18, .int .u8 19] 5))
  generalize w'.alloc (.cells #[.int .u8 10, .int .u8 11, .int .u8 12, .int .u8 17, .int .u8 18, .int .u8 19] 5) = w1 at *
  generalize w'.heap.size = g at *
  have HK : Hid (∀ k : Nat, k < 6 → ∃ K c d P Q : Nat, w1.cell? ⟨g, k, none⟩ = some (.int .u8 K) ∧ IntKind.u8.wrap (80 + (K : Int)) = (c : Int) ∧ IntKind.u8.wrap (48 + (K : Int)) = (d : Int) ∧ nice c = true ∧ nice d = true ∧ P < 18446744073709551616 ∧ val c a b = P ∧ val 112 P 0 = Q ∧ val d x y = Q) := by
    intro k hk
    rcases (show k = 0 ∨ k = 1 ∨ k = 2 ∨ k = 3 ∨ k = 4 ∨ k = 5 by omega) with rfl | rfl | rfl | rfl | rfl | rfl
    · exact ⟨10, 90, 58, P0, Q0, row_cell hr 0 rfl, by decide, by decide, by decide, by decide, lP0, A0, B0, C0⟩
    · exact ⟨11, 91, 59, P1, Q1, row_cell hr 1 rfl, by decide, by decide, by decide, by decide, lP1, A1, B1, C1⟩
    · exact ⟨12, 92, 60, P2, Q2, row_cell hr 2 rfl, by decide, by decide, by decide, by decide, lP2, A2, B2, C2⟩
    · exact ⟨17, 97, 65, P3, Q3, row_cell hr 3 rfl, by decide, by decide, by decide, by decide, lP3, A3, B3, C3⟩
    · exact ⟨18, 98, 66, P4, Q4, row_cell hr 4 rfl, by decide, by decide, by decide, by decide, lP4, A4, B4, C4⟩
    · exact ⟨19, 99, 67, P5, Q5, row_cell hr 5 rfl, by decide, by decide, by decide, by decide, lP5, A5, B5, C5⟩
  clear lP0 A0 B0 C0 lP1 A1 B1 C1 lP2 A2 B2 C2 lP3 A3 B3 C3 lP4 A4 B4 C4 lP5 A5 B5 C5
  have HW := Lib.hid hw
  have hs1 := Wd.refl hw.tb
  clear hr hw hs'
  go_loopw [8] (fun i wr => ∃ k : Nat, k ≤ 6 ∧ i = .int .i64 k ∧ Wd w1 wr) (fun i _ => 6 - (intOf i).toNat)
  case atStart => exact ⟨0, by omega, rfl, hs1⟩
  case round =>
    obtain ⟨k, hk, rfl, hsr⟩ := hrel
    clear hs1
    by_cases hlt : k < 6
    · obtain ⟨K, c, d, P, Q, hc, U1, U2, N1, N2, lP, A, B, C⟩ := HK.out k hlt
      have HC := Lib.hid hc
      clear hc lP6 A6 B6 C6 D1 D2 D3 D4 F1 F2 F3 F4 G1 G2 R1
      go_wp2
      go_region_held3 (fun w' => w'.cell? ⟨g, k, none⟩ = some (.int .u8 K) ∧ Wd w1 w')
        ((refine keepN HC.out ?_; first | assumption | exact Wd.drewN (by assumption) _ | exact Wd.drewN (by assumption) 1))
        (first | (go_at_call 56; refine (law_value w1 _ _ _ _ _ rfl (by first | assumption | decide) (by first | assumption | omega | decide) (by first | assumption | omega | decide) (by first | assumption | exact Wd.drewN (by assumption) _ | exact Wd.drewN (by assumption) 1)).mono ?_; rintro e w' ⟨rfl, hs'⟩))
      go_wp2
      go_roundw
      case rel => exact ⟨k + 1, by omega, by go_num, by assumption⟩
      case measure => simp [intOf]; omega
    · clear HK
      have hk6 : k = 6 := by omega
      subst hk6
      go_wp2_with (first | (go_at_call 56; refine (law_value w1 _ _ _ _ _ rfl (by first | assumption | decide) (by first | assumption | omega | decide) (by first | assumption | omega | decide) (by assumption)).mono ?_; rintro e w' ⟨rfl, hs'⟩) | (go_at_call 53; refine (law_works07 w1 _ (by assumption)).mono ?_; rintro e w' ⟨rfl, hz'⟩))
      go_ret
      exact ⟨rfl, below_next HW.out.bel (Wd.bel (by assumption))⟩
end Go.Proofs.YtmlniifdipeboaaDoor
