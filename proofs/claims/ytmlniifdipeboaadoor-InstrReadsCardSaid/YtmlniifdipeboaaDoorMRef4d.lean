/- flagonref01.ReadUvar, ReadSvar; flagonref04.labels, Decode. -/
import Derived.Test.YtmlniifdipeboaaDoorRef1
import Derived.Test.YtmlniifdipeboaaDoorInstr2
import Derived.Test.YtmlniifdipeboaaDoorWide
import Derived.Test.YtmlniifdipeboaaDoorRef4a
import Derived.Test.YtmlniifdipeboaaDoorDec0
namespace Go.Proofs.YtmlniifdipeboaaDoor
open Go Go.RowKit

set_option maxRecDepth 100000 in
set_option maxHeartbeats 1600000 in
theorem ref_ReadUvar (w : World) (S) (v : Value) (b : List Int) (hb : ∀ x ∈ b, 0 ≤ x ∧ x ≤ 255) (h : RdI .u8 S w v b) (p : Nat) (hp : p ≤ b.length) :
    Calls Tryd.prog 127 #[v, .int .i64 p] w fun e w' => e = .returned (.tuple #[.int .u64 (ruv b p).1, .int .i64 (ruv b p).2.1, .int .i64 (ruv b p).2.2]) ∧ w' = w := by
  obtain ⟨a, cap, rfl, hc, hm, r⟩ := h
  have H := Lib.hid r; clear r
  have HB := Lib.hid hb; clear hb
  have hp0 : decide ((p : Int) < 0) = false := by rw [decide_eq_false_iff_not]; omega
  go_enter Tryd.func127, Tryd.ntmps127
  go_wp2
  go_loopw [7, 8, 9] (fun s u i wr => ∃ (k t : Nat), k ≤ 9 ∧ p + k ≤ b.length ∧ i = .int .i64 k ∧ s = .int .u64 t ∧ u = .int .u64 ((128 ^ k : Nat) : Int) ∧ Hid (t < 128 ^ k) ∧ Hid (ruv b p = ruvGo b p (10 - k) k t) ∧ wr = w) (fun _ _ i _ => 10 - (intOf i).toNat)
  case atStart => exact ⟨0, 0, by omega, hp, rfl, rfl, rfl, by simp [Hid], rfl, rfl⟩
  case round =>
    obtain ⟨k, t, hk, hpk, rfl, rfl, rfl, HT, HR, rfl⟩ := hrel
    by_cases hlt : p + k < b.length
    · obtain ⟨bb, off, rfl, _, hcell⟩ := H.out (p + k) hlt
      have hx := HB.out b[p + k] (List.getElem_mem _)
      by_cases hbad : k = 9 ∧ 1 < b[p + k]
      · have E := Lib.hid (HR.out.trans (ruvGo_wide (by omega) hlt hbad))
        obtain ⟨rfl, h1⟩ := hbad
        generalize b[p + 9] = c at *
        go_wp2
        go_ret3
        exact ⟨ret_ruv E.out, rfl⟩
      · obtain ⟨m, hm⟩ := Int.eq_ofNat_of_zero_le hx.1
        have L := Lib.hid fun h0 hp => HR.out.trans (ruvGo_loose (by omega) hlt hbad h0 hp)
        have E := Lib.hid fun h1 h0 => HR.out.trans (ruvGo_last (by omega) hlt hbad h1 h0)
        have N := Lib.hid fun h1 => HR.out.trans (ruvGo_next (by omega) hlt hbad h1)
        have NT := Lib.hid (step_lt m HT.out)
        have hf := mul_fits (m % 128) k (by omega) (by omega) (fun e => by omega)
        have hf1 := mul_fits 1 k (by omega) (by omega) (fun _ => by omega)
        have htq := HT.out
        rw [← pow_128] at hf hf1
        have hk9 : k = 9 → m ≤ 1 := fun e => by omega
        have hkk : k = 9 ∨ (((k : Int) == 9) = false ∧ k < 9) := by simp; omega
        have hun : k < 9 → IntKind.u64.wrap (((128 ^ k : Nat) : Int) * 128) = ((128 ^ (k + 1) : Nat) : Int) := fun h => by
          have := mul_fits 1 (k + 1) (by omega) (by omega) (fun _ => by omega)
          rw [← pow_128] at this
          rw [Nat.pow_succ] at this ⊢
          rw [IntKind.wrap_u64]; omega
        rw [hm] at hcell hx
        have hb9 : ¬ (k = 9 ∧ 1 < (m : Int)) := by rw [hm] at hbad; exact hbad
        simp only [hm, Int.toNat_natCast] at L E N
        by_cases hz : m = 0 ∧ k = 0
        · obtain ⟨rfl, rfl⟩ := hz
          obtain rfl : t = 0 := by have := HT.out; simp at this; omega
          have F := E.out (by omega) (by omega)
          have F2 : Hid (ruv b p = (0, p + 1, 0)) := Lib.hid (by simpa using F)
          clear F L E N NT HT HR hf hf1 htq hk9 hkk hun hm hbad hb9 hx
          rw [Nat.add_zero] at hcell
          have hlt2 : p < b.length := by omega
          have hne : ((p : Int) == (b.length : Int)) = false := by rw [beq_eq_false_iff_ne]; omega
          go_wp2
          go_ret3
          exact ⟨ret_ruv F2.out, rfl⟩
        have e1 : (m : Int) % 128 = ((m % 128 : Nat) : Int) := by omega
        have hq : (0 : Nat) < 128 ^ k := Nat.pow_pos (by decide)
        have hsum : t + m % 128 * 128 ^ k < 18446744073709551616 := by
          by_cases h9 : k = 9
          · subst h9
            have := hk9 rfl
            have h2 : m % 128 ≤ 1 := by omega
            have h3 : m % 128 * 128 ^ 9 ≤ 1 * 128 ^ 9 := Nat.mul_le_mul_right _ h2
            have h4 : (128 : Nat) ^ 9 = 9223372036854775808 := by decide
            omega
          · have h8 : 128 ^ (k + 1) ≤ 128 ^ 9 := Nat.pow_le_pow_right (by decide) (by omega)
            have h4 : (128 : Nat) ^ 9 = 9223372036854775808 := by decide
            have := NT.out
            omega
        have e2 : IntKind.u64.wrap (((m % 128 : Nat) : Int) * ((128 ^ k : Nat) : Int)) = ((m % 128 * 128 ^ k : Nat) : Int) := by rw [← Int.natCast_mul]; exact IntWalk.u64_in _ ⟨by omega, by omega⟩
        have e3 : IntKind.u64.wrap ((t : Int) + ((m % 128 * 128 ^ k : Nat) : Int)) = ((t + m % 128 * 128 ^ k : Nat) : Int) := by rw [← Int.natCast_add]; exact IntWalk.u64_in _ ⟨by omega, by omega⟩
        have e4 : IntKind.u64.wrap (m : Int) = (m : Int) := IntWalk.u64_in _ ⟨by omega, by omega⟩
        have hle : p + k ≤ 140737488355328 := by omega
        generalize t + m % 128 * 128 ^ k = t' at *
        generalize m % 128 * 128 ^ k = s at *
        have HQ1 : Hid (k < 9 → IntKind.u64.wrap (((128 ^ k : Nat) : Int) * 128) = ((128 ^ (k + 1) : Nat) : Int)) := Lib.hid hun
        clear hm hbad hf hf1 htq hun hq hsum
        generalize hrr : m % 128 = r at *
        clear hrr
        by_cases h128 : m < 128
        · by_cases h0 : m = 0 ∧ 0 < k
          · have F := Lib.hid (L.out (by omega) h0.2)
            obtain ⟨rfl, hk0⟩ := h0
            rcases hkk with rfl | ⟨h9, h9'⟩
            all_goals go_wp2
            all_goals go_ret3
            all_goals exact ⟨ret_ruv F.out, rfl⟩
          · have F := Lib.hid (E.out (by omega) (by omega))
            clear L E N
            generalize 128 ^ k = q at *
            have h0 : ¬ m = 0 := by omega
            have hm0 : ((m : Int) == 0) = false := by rw [beq_eq_false_iff_ne]; omega
            rcases hkk with rfl | ⟨h9, h9'⟩
            all_goals go_wp2
            all_goals go_ret3
            all_goals exact ⟨ret_ruv F.out, rfl⟩
        · have F := Lib.hid (N.out (by omega))
          have h9' : k < 9 := by omega
          have h9 : ((k : Int) == 9) = false := by rw [beq_eq_false_iff_ne]; omega
          have e5 := HQ1.out h9'
          have h128' : decide ((m : Int) < 128) = false := by rw [decide_eq_false_iff_not]; omega
          clear L E N hkk
          generalize hqq : 128 ^ (k + 1) = q' at *
          generalize 128 ^ k = q at *
          go_wp2
          go_roundw
          case rel => exact ⟨k + 1, t', by omega, by omega, by go_num, rfl, by rw [hqq], by rw [hqq]; exact NT, F, by trivial⟩
          case measure => simp [intOf]; omega
    · have E := Lib.hid (HR.out.trans (ruvGo_end (by omega) hlt))
      obtain rfl : k = b.length - p := by omega
      have hle : (p : Int) + ((b.length - p : Nat) : Int) = (b.length : Int) := by omega
      generalize b.length - p = k at *
      generalize 128 ^ k = q at *
      go_wp2
      go_ret3
      exact ⟨ret_ruv E.out, rfl⟩
set_option maxRecDepth 100000 in
set_option maxHeartbeats 800000 in
theorem ref_ReadSvar (w : World) (S) (v : Value) (b : List Int) (hb : ∀ x ∈ b, 0 ≤ x ∧ x ≤ 255) (h : RdI .u8 S w v b) (p : Nat) (hp : p ≤ b.length) :
    Calls Tryd.prog 126 #[v, .int .i64 p] w fun e w' => e = .returned (.tuple #[.int .i64 (zag (ruv b p).1), .int .i64 (ruv b p).2.1, .int .i64 (ruv b p).2.2]) ∧ w' = w := by
  obtain ⟨va, vc, rfl, _⟩ := h.lenc
  have H := Lib.hid (ref_ReadUvar w S _ b hb h p hp)
  have hu := ruv_u64 b p
  clear h hb
  generalize (ruv b p).1 = u at *
  generalize (ruv b p).2.1 = n at *
  generalize (ruv b p).2.2 = z at *
  have HZ : Hid (zag u = if u % 2 = 0 then ((u / 2 : Nat) : Int) else -((u / 2 : Nat) : Int) - 1) := Lib.hid rfl
  rcases Nat.mod_two_eq_zero_or_one u with h2 | h2
  all_goals
    have e1 : (u : Int) % 2 = ((u % 2 : Nat) : Int) := by omega
    rw [h2] at e1
    go_enter Tryd.func126, Tryd.ntmps126
    go_wp2_with fail
    refine H.out.mono ?_
    rintro e w1 ⟨rfl, rfl⟩
    go_wp2
    go_ret3
    refine ⟨?_, rfl⟩
    rw [HZ.out, h2]
    simp only [Nat.reduceEqDiff, if_true, if_false]
    exact rets3i (by first | rfl | omega | (unfold wrap64; omega) | simp) rfl rfl
end Go.Proofs.YtmlniifdipeboaaDoor

namespace Go.Proofs.YtmlniifdipeboaaDoor
open Go Go.RowKit

theorem rnumI_err {b : List Int} {r : IR} {lo hi : Nat} (h : r.e ≠ 0) : rnumI b r lo hi = (0, r) := by rw [rnumI, if_pos h]
theorem rlistI_err {b : List Int} {r : IR} (h : r.e ≠ 0) : ∀ n, (rlistI b n r).2 = r
  | 0 => rfl
  | n + 1 => by show (rlistI b n (rnumI b r 0 2147483647).2).2 = r; rw [rnumI_err h]; exact rlistI_err h n
theorem rlistI_step {b : List Int} (n : Nat) (r : IR) : rlistI b (n + 1) r = (((rnumI b r 0 2147483647).1 : Int) :: (rlistI b n (rnumI b r 0 2147483647).2).1, (rlistI b n (rnumI b r 0 2147483647).2).2) := rfl
theorem rnum_bad {b : List Int} {q lo hi : Nat} {z : Int} (h : (ruv b q).2.2 = z) (hz : z ≠ 0) : rnumI b ⟨q, 0⟩ lo hi = (0, ⟨q, z⟩) := by
  unfold rnumI; rw [if_neg (by simp), if_pos (by rw [h]; exact hz), h]
theorem rnum_out {b : List Int} {q lo hi x : Nat} (h : (ruv b q).2.2 = 0) (hx : (ruv b q).1 = x) (ho : x < lo ∨ hi < x) : rnumI b ⟨q, 0⟩ lo hi = (0, ⟨q, 17⟩) := by
  unfold rnumI; rw [if_neg (by simp), if_neg (by rw [h]; simp), if_pos (by rw [hx]; exact ho)]
theorem rnum_ok {b : List Int} {q lo hi x y : Nat} (h : (ruv b q).2.2 = 0) (hx : (ruv b q).1 = x) (hy : (ruv b q).2.1 = y) (ho : ¬ (x < lo ∨ hi < x)) : rnumI b ⟨q, 0⟩ lo hi = (x, ⟨y, 0⟩) := by
  unfold rnumI; rw [if_neg (by simp), if_neg (by rw [h]; simp), if_neg (by rw [hx]; exact ho), hx, hy]
theorem lab_err {b xs : List Int} {n q : Nat} {e : Int} {R : List Int × IR} (hn : rnumI b ⟨q, 0⟩ 0 2147483647 = (0, ⟨q, e⟩)) (he : e ≠ 0) (h : R = (xs ++ (rlistI b (n + 1) ⟨q, 0⟩).1, (rlistI b (n + 1) ⟨q, 0⟩).2)) : R.2.e = e := by
  rw [h, rlistI_step, hn]
  exact congrArg IR.e (rlistI_err (r := ⟨q, e⟩) he n)
theorem lab_next {b xs : List Int} {n q x y : Nat} {R : List Int × IR} (hn : rnumI b ⟨q, 0⟩ 0 2147483647 = (x, ⟨y, 0⟩)) (h : R = (xs ++ (rlistI b (n + 1) ⟨q, 0⟩).1, (rlistI b (n + 1) ⟨q, 0⟩).2)) : R = ((xs ++ [(x : Int)]) ++ (rlistI b n ⟨y, 0⟩).1, (rlistI b n ⟨y, 0⟩).2) := by
  rw [h, rlistI_step, hn, List.append_assoc]; rfl
/-- What labels reads at p. -/
def labI (b : List Int) (p : Nat) : List Int × IR := rlistI b (rnumI b ⟨p, 0⟩ 1 16).1 (rnumI b ⟨p, 0⟩ 1 16).2
set_option maxRecDepth 100000 in
set_option maxHeartbeats 3200000 in
theorem ref4_labels (w : World) (v : Value) (b : List Int) (hb : ∀ x ∈ b, 0 ≤ x ∧ x ≤ 255) (h : RdI .u8 (· < w.heap.size) w v b) (p : Nat) (hp : p ≤ b.length) :
    Calls Tryd.prog 125 #[v, .int .i64 p] w fun e w' => ∃ (v' : Value) (n : Nat), e = .returned (.tuple #[v', .int .i64 n, .int .i64 (labI b p).2.e]) ∧ Below w.heap.size w w' ∧
      ((labI b p).2.e = 0 → n = (labI b p).2.at_ ∧ w'.ownsRow w.heap.size 3 1 v' (labI b p).1.length ((labI b p).1.map (Value.int .i64))) ∧ ((labI b p).2.e ≠ 0 → v' = .slice none 0 0 ∧ n = 0) := by
  obtain ⟨i0, hi, hz0, hz1, hz2⟩ := info_parts Tryd.infoIntB
  have HB := Lib.hid hb; clear hb
  have HD := Lib.hid h
  obtain ⟨va, vc, rfl, _⟩ := h.lenc
  have HR := Lib.hid (ref_ReadUvar w _ _ b HB.out h p hp)
  have hle := ruv_le (b := b) (p := p)
  have hu64 := ruv_u64 b p
  have hlen : b.length ≤ 140737488355328 := by obtain ⟨_, _, _, _, h, _⟩ := h; exact h
  have HLab : Hid (labI b p = rlistI b (rnumI b ⟨p, 0⟩ 1 16).1 (rnumI b ⟨p, 0⟩ 1 16).2) := Lib.hid rfl
  obtain ⟨u, hu⟩ : ∃ u, (ruv b p).1 = u := ⟨_, rfl⟩
  obtain ⟨q0, hq0⟩ : ∃ u, (ruv b p).2.1 = u := ⟨_, rfl⟩
  obtain ⟨z, hz⟩ : ∃ u, (ruv b p).2.2 = u := ⟨_, rfl⟩
  rw [hu, hq0, hz] at HR
  rw [hq0, hz] at hle
  rw [hu] at hu64
  have HUQ := Lib.hid (And.intro hu (And.intro hq0 hz))
  clear hu hq0 hz h
  by_cases hz0' : ¬ z = 0
  · have HX : Hid (labI b p = ([], ⟨p, z⟩)) := Lib.hid (by rw [HLab.out, rnum_bad HUQ.out.2.2 hz0']; rfl)
    have hz1' : (z != 0) = true := by rw [bne_iff_ne]; exact hz0'
    clear HUQ HLab hle
    rw [HX.out]
    go_enter Tryd.func125, Tryd.ntmps125
    go_wp2_with fail
    refine HR.out.mono ?_
    rintro e w1 ⟨rfl, hw1⟩
    obtain rfl : w = w1 := hw1.symm
    go_wp2
    go_ret3
    exact ⟨_, 0, rfl, Below.refl _ _, fun h => absurd h hz0', fun _ => ⟨rfl, rfl⟩⟩
  obtain rfl : z = 0 := Decidable.not_not.1 hz0'
  clear hz0'
  have hq := hle rfl
  by_cases hr : u < 1 ∨ 16 < u
  · have HX : Hid (labI b p = ([], ⟨p, 17⟩)) := Lib.hid (by rw [HLab.out, rnum_out HUQ.out.2.2 HUQ.out.1 hr]; rfl)
    clear HUQ HLab hle
    rw [HX.out]
    rcases hr with hr | hr
    all_goals
      go_enter Tryd.func125, Tryd.ntmps125
      go_wp2_with fail
      refine HR.out.mono ?_
      rintro e w1 ⟨rfl, hw1⟩
      obtain rfl : w = w1 := hw1.symm
      go_wp2
      go_ret3
      first | exact ⟨_, 0, rfl, Below.refl _ _, rfl, rfl⟩ | exact ⟨_, 0, rfl, Below.refl _ _, fun h => absurd h (by decide), fun _ => ⟨rfl, rfl⟩⟩
  · have HX : Hid (labI b p = rlistI b u ⟨q0, 0⟩) := Lib.hid (by rw [HLab.out, rnum_ok HUQ.out.2.2 HUQ.out.1 HUQ.out.2.1 hr])
    have h1 : ¬ u < 1 := by omega
    have h2 : ¬ 16 < u := by omega
    clear HUQ HLab hle hr
    go_enter Tryd.func125, Tryd.ntmps125
    go_wp2_with fail
    refine HR.out.mono ?_
    rintro e w1 ⟨rfl, hw1⟩
    obtain rfl : w = w1 := hw1.symm
    clear hw1
    go_wp2
    go_loopw [8, 10, 11] (fun nx l i wr => ∃ (k q : Nat) (xs : List Int), k ≤ u ∧ i = .int .u64 k ∧ nx = .int .i64 q ∧ xs.length = k ∧ q ≤ b.length ∧ Hid (wr.ownsRow w.heap.size 3 1 l xs.length (xs.map (Value.int .i64))) ∧ Hid (Below w.heap.size w wr) ∧ Hid (rlistI b u ⟨q0, 0⟩ = (xs ++ (rlistI b (u - k) ⟨q, 0⟩).1, (rlistI b (u - k) ⟨q, 0⟩).2))) (fun _ _ i _ => u - (intOf i).toNat)
    case atStart => exact ⟨0, q0, [], by omega, rfl, rfl, rfl, hq, Lib.hid (World.ownsRow_nil _ _ _ _), Lib.hid (Below.refl _ _), Lib.hid (by simp)⟩
    case round =>
      obtain ⟨k, q, xs, hk, rfl, rfl, hxl, hql, HO, HBl, HK⟩ := hrel
      by_cases hlt : k < u
      · have HRd := Lib.hid (ref_ReadUvar wr _ _ b HB.out (HD.out.keeps (Keeps.all _ HBl.out)) q hql)
        have hle := ruv_le (b := b) (p := q)
        have hu64 := ruv_u64 b q
        have hks := HK.out
        rw [show u - k = (u - (k + 1)) + 1 by omega] at hks
        have HS := Lib.hid hks
        clear hks
        obtain ⟨x, hx⟩ : ∃ u, (ruv b q).1 = u := ⟨_, rfl⟩
        obtain ⟨y, hy⟩ : ∃ u, (ruv b q).2.1 = u := ⟨_, rfl⟩
        obtain ⟨z, hz⟩ : ∃ u, (ruv b q).2.2 = u := ⟨_, rfl⟩
        rw [hx, hy, hz] at HRd
        rw [hy, hz] at hle
        rw [hx] at hu64
        have HXYZ := Lib.hid (And.intro hx (And.intro hy hz))
        clear hx hy hz HK
        by_cases hz0' : ¬ z = 0
        · have HE : Hid ((rlistI b u ⟨q0, 0⟩).2.e = z) := Lib.hid (lab_err (rnum_bad HXYZ.out.2.2 hz0') hz0' HS.out)
          have hz1' : (z != 0) = true := by rw [bne_iff_ne]; exact hz0'
          clear HXYZ HS hle
          go_wp2_with fail
          refine HRd.out.mono ?_
          rintro e w2 ⟨rfl, rfl⟩
          go_wp2
          go_ret3
          rw [HX.out, HE.out]
          exact ⟨_, 0, rfl, HBl.out, fun h => absurd h hz0', fun _ => ⟨rfl, rfl⟩⟩
        obtain rfl : z = 0 := Decidable.not_not.1 hz0'
        clear hz0'
        have hyl := hle rfl
        by_cases hbig : 2147483647 < x
        · have HE : Hid ((rlistI b u ⟨q0, 0⟩).2.e = 17) := Lib.hid (lab_err (rnum_out HXYZ.out.2.2 HXYZ.out.1 (.inr hbig)) (by decide) HS.out)
          clear HXYZ HS hle
          go_wp2_with fail
          refine HRd.out.mono ?_
          rintro e w2 ⟨rfl, rfl⟩
          go_wp2
          go_ret3
          rw [HX.out, HE.out]
          first | exact ⟨_, 0, rfl, HBl.out, rfl, rfl⟩ | exact ⟨_, 0, rfl, HBl.out, fun h => absurd h (by decide), fun _ => ⟨rfl, rfl⟩⟩
        · have HN := Lib.hid (lab_next (rnum_ok HXYZ.out.2.2 HXYZ.out.1 HXYZ.out.2.1 (by omega)) HS.out)
          have hw64' : IntKind.i64.wrap (x : Int) = (x : Int) := IntWalk.i64_in _ ⟨by omega, by omega⟩
          clear HXYZ HS hle
          go_wp2_with fail
          refine HRd.out.mono ?_
          rintro e w2 ⟨rfl, hw2⟩
          obtain rfl : wr = w2 := hw2.symm
          have hsz := HBl.out.size
          go_wp2_with (at_builtin; refine wpList_append_own _ rfl _ _ 39 rfl w.heap.size 3 i0 (.int .i64 0) 1 8 Tryd.underlying39 hi hz0 hz1 hz2 rfl (by decide) _ xs.length (xs.map (Value.int .i64)) rfl (HO.out.alloc _) ⟨wr.heap.size, 0, none⟩ 1 1 [.int .i64 x] rfl rfl (cell_one_new _ _ _) (by simp [Value.oneCell']) (by unfold maxLen; omega) (by omega) (by rw [World.size_alloc]; omega) ?_)
          intro v' w3 hown' hgrow' _
          have HO3 := Lib.hid hown'
          have HB3 := Lib.hid ((HBl.out.alloc hsz (.cells #[.int .i64 (x : Int)] 3)).grown hgrow' (by rw [World.size_alloc]; omega) fun j hj => (HO.out.lt j hj).1)
          clear hown' hgrow'
          go_wp2
          go_roundw
          case rel => exact ⟨k + 1, y, xs ++ [(x : Int)], by omega, by go_num, rfl, by simp; omega, hyl, Lib.hid (by simpa [hxl] using HO3.out), HB3, HN⟩
          case measure => simp [intOf]; omega
      · have HF : Hid (rlistI b u ⟨q0, 0⟩ = (xs, ⟨q, 0⟩)) := Lib.hid (by have := HK.out; rw [show u - k = 0 by omega] at this; simpa [rlistI] using this)
        go_wp2
        go_ret3
        rw [HX.out, HF.out]
        exact ⟨_, q, rfl, HBl.out, fun _ => ⟨rfl, HO.out⟩, fun h => absurd rfl h⟩
end Go.Proofs.YtmlniifdipeboaaDoor

namespace Go.Proofs.YtmlniifdipeboaaDoor
open Go Go.RowKit

/-- What the document's Decode answers. -/
structure DecR (w : World) (b : List Int) (p : Int) (e : Ending) (w' : World) : Prop where
  out : ∃ vl, e = .returned (.tuple #[.agg #[.int .u8 (decI b p).1.op, .int .i64 (decI b p).1.a, vl], .int .i64 (decI b p).2.1, .int .i64 (decI b p).2.2]) ∧ RdI .i64 (fun x => w.heap.size ≤ x) w' vl (decI b p).1.l
  bel : Below w.heap.size w w'
theorem dec_badR {w w' : World} {b : List Int} {p : Int} {z : Int} (h : decI b p = (insZ, 0, z)) (hb : Below w.heap.size w w') : DecR w b p (.returned (.tuple #[.agg #[.int .u8 0, .int .i64 0, .slice none 0 0], .int .i64 0, .int .i64 z])) w' :=
  ⟨by rw [h]; exact ⟨_, rfl, RdI.nil _ _ _⟩, hb⟩
theorem dec_goodR {w w' : World} {b : List Int} {p : Int} {D : InsD} {q : Nat} {vl : Value} (h : decI b p = (D, q, 0)) (hr : RdI .i64 (fun x => w.heap.size ≤ x) w' vl D.l) (hb : Below w.heap.size w w') : DecR w b p (.returned (.tuple #[.agg #[.int .u8 D.op, .int .i64 D.a, vl], .int .i64 q, .int .i64 0])) w' :=
  ⟨by rw [h]; exact ⟨_, rfl, hr⟩, hb⟩
theorem dec4_results {a : Act} {w : World} (g : Nat) (cs : Array Value) (u5 u6 : Value) (hrow : w.heap[g]? = some (.cells cs 81 (0, 0))) (hsz : cs.size = 3) (h4 : a.tmps.getD 4 undef = .pointer (some ⟨g, 0, none⟩)) (h5 : a.tmps.getD 5 undef = u5) (h6 : a.tmps.getD 6 undef = u6) :
    (results Tryd.f66 a.tmps).run Tryd.prog w = .ok (.tuple #[.agg cs, u5, u6]) w := by
  have hl := run_loadVar_row (P := Tryd.prog) w g 81 81 cs (0, 0) _ hrow Tryd.underlying81 rfl (by rw [hsz]; kernel_rfl)
  have h4' : a.tmps[4]?.getD undef = .pointer (some ⟨g, 0, none⟩) := by simpa using h4
  have h5' : a.tmps[5]?.getD undef = u5 := by simpa using h5
  have h6' : a.tmps[6]?.getD undef = u6 := by simpa using h6
  simp [results, Tryd.results66, asAddr, h4', h5', h6', hl]
theorem labI_len (b : List Int) (p : Nat) : (labI b p).1.length ≤ 16 := by rw [labI, rlistI_len]; exact rnumI_le _ _ _ _
/-- How it stands behind the switch: the result's block R, the instruction's X. -/
structure Dd (w : World) (R X : Nat) (v : Value) (b : List Int) (wx : World) (D : InsD) (vl : Value) : Prop where
  bel : Below w.heap.size w wx
  res : wx.heap[R]? = some (.cells #[.int .u8 0, .int .i64 0, .slice none 0 0] 81 (0, 0))
  box : wx.heap[X]? = some (.cells #[.int .u8 D.op, .int .i64 D.a, vl] 81 (0, 0))
  rb : RdI .u8 (· < w.heap.size) wx v b
  rd : RdI .i64 (fun x => w.heap.size ≤ x ∧ x ≠ R ∧ x ≠ X) wx vl D.l
  lo : R = w.heap.size ∧ X = w.heap.size + 1
section
variable {w wx wy : World} {R X : Nat} {v vl : Value} {b : List Int} {D : InsD}
theorem Dd.on (h : Dd w R X v b wx D vl) (hb : Below wx.heap.size wx wy) : Dd w R X v b wy D vl :=
  ⟨below_next h.bel hb, (hb.block _ (row_lt h.res)).trans h.res, (hb.block _ (row_lt h.box)).trans h.box, h.rb.keeps (Keeps.all _ hb), h.rd.keeps (Keeps.all _ hb), h.lo⟩
theorem Dd.cells (h : Dd w R X v b wx D vl) : wx.cell? ⟨X, 0, none⟩ = some (.int .u8 D.op) ∧ wx.cell? ⟨X, 1, none⟩ = some (.int .i64 D.a) ∧ wx.cell? ⟨X, 2, none⟩ = some vl ∧ wx.frozen? ⟨X, 0, none⟩ = false ∧ wx.frozen? ⟨X, 1, none⟩ = false ∧ wx.frozen? ⟨X, 2, none⟩ = false ∧
    wx.cell? ⟨R, 0, none⟩ = some (.int .u8 0) ∧ wx.cell? ⟨R, 1, none⟩ = some (.int .i64 0) ∧ wx.cell? ⟨R, 2, none⟩ = some (.slice none 0 0) ∧ wx.frozen? ⟨R, 0, none⟩ = false ∧ wx.frozen? ⟨R, 1, none⟩ = false ∧ wx.frozen? ⟨R, 2, none⟩ = false :=
  ⟨row_cell h.box 0 rfl, row_cell h.box 1 rfl, row_cell h.box 2 rfl, row_free h.box 0, row_free h.box 1, row_free h.box 2, row_cell h.res 0 rfl, row_cell h.res 1 rfl, row_cell h.res 2 rfl, row_free h.res 0, row_free h.res 1, row_free h.res 2⟩
theorem Dd.setA (h : Dd w R X v b wx D vl) (n : Int) : Dd w R X v b (wx.setCell ⟨X, 1, none⟩ (.int .i64 n)) ⟨D.op, n, D.l⟩ vl := by
  have hne : R ≠ X := by have := h.lo; omega
  have hk : Keeps (fun x => x ≠ X) wx (wx.setCell ⟨X, 1, none⟩ (.int .i64 n)) := (Keeps.refl _ wx).setCell (a := ⟨X, 1, none⟩) (by simp) _
  exact ⟨h.bel.setCell (p := ⟨X, 1, none⟩) (by have := h.lo; simp only; omega) _, (hk.block R (row_lt h.res) hne).trans h.res, by simpa using row_setCell h.box 1 (.int .i64 n), (h.rb.keeps (hk.mono fun b _ hb => by have := h.lo; omega)), h.rd.keeps (hk.mono fun b _ hb => hb.2.2), h.lo⟩
theorem Dd.setL (h : Dd w R X v b wx D vl) {v' : Value} {l : List Int} (hr : RdI .i64 (fun x => w.heap.size ≤ x ∧ x ≠ R ∧ x ≠ X) wx v' l) : Dd w R X v b (wx.setCell ⟨X, 2, none⟩ v') ⟨D.op, D.a, l⟩ v' := by
  have hne : R ≠ X := by have := h.lo; omega
  have hk : Keeps (fun x => x ≠ X) wx (wx.setCell ⟨X, 2, none⟩ v') := (Keeps.refl _ wx).setCell (a := ⟨X, 2, none⟩) (by simp) _
  exact ⟨h.bel.setCell (p := ⟨X, 2, none⟩) (by have := h.lo; simp only; omega) _, (hk.block R (row_lt h.res) hne).trans h.res, by simpa using row_setCell h.box 2 v', (h.rb.keeps (hk.mono fun b _ hb => by have := h.lo; omega)), hr.keeps (hk.mono fun b _ hb => hb.2.2), h.lo⟩
theorem Dd.done (h : Dd w R X v b wx D vl) (v0 v1 v2 : Value) : RdI .i64 (fun x => w.heap.size ≤ x) (((wx.setCell ⟨R, 0, none⟩ v0).setCell ⟨R, 1, none⟩ v1).setCell ⟨R, 2, none⟩ v2) vl D.l ∧ Below w.heap.size w (((wx.setCell ⟨R, 0, none⟩ v0).setCell ⟨R, 1, none⟩ v1).setCell ⟨R, 2, none⟩ v2) := by
  have hR := h.lo.1
  refine ⟨(h.rd.keeps ((set3_keeps wx R v0 v1 v2).mono fun b _ hb => hb.2.1)).mono fun b _ hb => hb.1, ((h.bel.setCell (p := ⟨R, 0, none⟩) ?_ _).setCell (p := ⟨R, 1, none⟩) ?_ _).setCell (p := ⟨R, 2, none⟩) ?_ _⟩ <;> (simp only; omega)
end
set_option maxRecDepth 100000 in
set_option maxHeartbeats 1600000 in
theorem rdec_neg (w : World) (va : Option Addr) (vc : Nat) (b : List Int) (p : Int) (h : p < 0) :
    Calls Tryd.prog 66 #[.slice va b.length vc, .int .i64 p] w (DecR w b p) := by
  have HV : Hid (decI b p = (insZ, 0, 1)) := by show _ = _; rw [decI, if_pos (.inl h)]
  have hb1 := below_alloc w (.cells #[.int .u8 0, .int .i64 0, .slice none 0 0] 81)
  have hr1 := heap_alloc_new w (.cells #[.int .u8 0, .int .i64 0, .slice none 0 0] 81)
  have g0 := row_cell hr1 0 rfl; have g1 := row_cell hr1 1 rfl; have g2 := row_cell hr1 2 rfl
  have f0 := row_free hr1 0; have f1 := row_free hr1 1; have f2 := row_free hr1 2
  simp only [List.getElem_toArray, List.getElem_cons_zero, List.getElem_cons_succ] at g0 g1 g2
  have HR1 := Lib.hid hr1; have HB1 := Lib.hid hb1
  clear hb1 hr1
  go_enter Tryd.func66, Tryd.ntmps66
  go_wp2
  refine bodyPost_ret (dec4_results w.heap.size #[.int .u8 0, .int .i64 0, .slice none 0 0] (.int .i64 0) (.int .i64 1) HR1.out rfl rfl rfl rfl) rfl ?_
  exact dec_badR HV.out HB1.out
set_option maxRecDepth 100000 in
set_option maxHeartbeats 1600000 in
theorem rdec_far (w : World) (va : Option Addr) (vc : Nat) (b : List Int) (p : Int) (h1 : ¬ p < 0) (h2 : (b.length : Int) < p) :
    Calls Tryd.prog 66 #[.slice va b.length vc, .int .i64 p] w (DecR w b p) := by
  have HV : Hid (decI b p = (insZ, 0, 1)) := by show _ = _; rw [decI, if_pos (.inr h2)]
  have hb1 := below_alloc w (.cells #[.int .u8 0, .int .i64 0, .slice none 0 0] 81)
  have hr1 := heap_alloc_new w (.cells #[.int .u8 0, .int .i64 0, .slice none 0 0] 81)
  have g0 := row_cell hr1 0 rfl; have g1 := row_cell hr1 1 rfl; have g2 := row_cell hr1 2 rfl
  have f0 := row_free hr1 0; have f1 := row_free hr1 1; have f2 := row_free hr1 2
  simp only [List.getElem_toArray, List.getElem_cons_zero, List.getElem_cons_succ] at g0 g1 g2
  have HR1 := Lib.hid hr1; have HB1 := Lib.hid hb1
  clear hb1 hr1
  go_enter Tryd.func66, Tryd.ntmps66
  go_wp2
  refine bodyPost_ret (dec4_results w.heap.size #[.int .u8 0, .int .i64 0, .slice none 0 0] (.int .i64 0) (.int .i64 1) HR1.out rfl rfl rfl rfl) rfl ?_
  exact dec_badR HV.out HB1.out
set_option maxRecDepth 100000 in
set_option maxHeartbeats 1600000 in
theorem rdec_end (w : World) (va : Option Addr) (vc : Nat) (b : List Int) (p : Int) (h1 : ¬ p < 0) (h2 : p = b.length) :
    Calls Tryd.prog 66 #[.slice va b.length vc, .int .i64 p] w (DecR w b p) := by
  have HV : Hid (decI b p = (insZ, 0, 10)) := by show _ = _; rw [decI, if_neg (by omega), if_pos h2]
  have hb1 := below_alloc w (.cells #[.int .u8 0, .int .i64 0, .slice none 0 0] 81)
  have hr1 := heap_alloc_new w (.cells #[.int .u8 0, .int .i64 0, .slice none 0 0] 81)
  have g0 := row_cell hr1 0 rfl; have g1 := row_cell hr1 1 rfl; have g2 := row_cell hr1 2 rfl
  have f0 := row_free hr1 0; have f1 := row_free hr1 1; have f2 := row_free hr1 2
  simp only [List.getElem_toArray, List.getElem_cons_zero, List.getElem_cons_succ] at g0 g1 g2
  have HR1 := Lib.hid hr1; have HB1 := Lib.hid hb1
  clear hb1 hr1
  subst h2
  go_enter Tryd.func66, Tryd.ntmps66
  go_wp2
  refine bodyPost_ret (dec4_results w.heap.size #[.int .u8 0, .int .i64 0, .slice none 0 0] (.int .i64 0) (.int .i64 10) HR1.out rfl rfl rfl rfl) rfl ?_
  exact dec_badR HV.out HB1.out
set_option maxRecDepth 100000 in
set_option maxHeartbeats 3200000 in
theorem rdec_no (w : World) (v : Value) (b : List Int) (p op : Nat) (hb : ∀ x ∈ b, 0 ≤ x ∧ x ≤ 255) (h : RdI .u8 (· < w.heap.size) w v b) (hop : b[p]? = some (op : Int)) (ho : op < 256) (ho1 : isOp op = false) :
    Calls Tryd.prog 66 #[v, .int .i64 p] w (DecR w b p) := by
  have hp : p < b.length := (List.getElem?_eq_some_iff.1 hop).1
  have hpop : b[p] = (op : Int) := (List.getElem?_eq_some_iff.1 hop).2
  have hlen : b.length ≤ 140737488355328 := by obtain ⟨_, _, _, _, h, _⟩ := h; exact h
  have HV : Hid (decI b p = (insZ, 0, 21)) := by
    show _ = _
    have hg : b.getD p 0 = (op : Int) := by rw [List.getD_eq_getElem?_getD, hop]; rfl
    rw [decI, if_neg (by omega), if_neg (by omega), Int.toNat_natCast, hg, Int.toNat_natCast, if_pos ho1]
  have HH := Lib.hid h; have HBy := Lib.hid hb
  obtain ⟨va, vc, rfl, hlc⟩ := h.lenc
  obtain ⟨va', vc', e, _, _, hcell⟩ := h
  simp only [Value.slice.injEq] at e
  obtain ⟨rfl, _, rfl⟩ := e
  obtain ⟨bb, off, rfl, _, hc⟩ := hcell p hp
  rw [hpop] at hc
  clear hcell hpop hop hb
  have hb1 := below_alloc w (.cells #[.int .u8 0, .int .i64 0, .slice none 0 0] 81)
  have hr1 := heap_alloc_new w (.cells #[.int .u8 0, .int .i64 0, .slice none 0 0] 81)
  have hc1 := cell_below hb1 hc
  go_enter Tryd.func66, Tryd.ntmps66
  go_wp2_with fail
  have hsz1 : (w.alloc (.cells #[.int .u8 0, .int .i64 0, .slice none 0 0] 81)).heap.size = w.heap.size + 1 := World.size_alloc _ _
  generalize w.alloc (.cells #[.int .u8 0, .int .i64 0, .slice none 0 0] 81) = w1 at *
  have hb2 := below_alloc w1 (.cells #[.int .u8 op, .int .i64 0, .slice none 0 0] 81)
  have hr2 := heap_alloc_new w1 (.cells #[.int .u8 op, .int .i64 0, .slice none 0 0] 81)
  rw [hsz1] at hr2
  generalize w1.alloc (.cells #[.int .u8 op, .int .i64 0, .slice none 0 0] 81) = w2 at *
  have HD2 : Hid (Dd w w.heap.size (w.heap.size + 1) (.slice (some ⟨bb, off, none⟩) b.length vc) b w2 ⟨op, 0, []⟩ (.slice none 0 0)) :=
    Lib.hid ⟨below_next hb1 hb2, (hb2.block _ (row_lt hr1)).trans hr1, hr2, (HH.out.keeps (Keeps.all _ hb1)).keeps (Keeps.all _ hb2), RdI.nil _ _ _, rfl, rfl⟩
  clear hb1 hr1 hc1 hb2 hr2 hsz1 hc
  refine (ref_Takes _ op ho).mono ?_
  rintro e w3 ⟨rfl, hb3⟩
  rw [if_neg (by simp [ho1])]
  have HD := Lib.hid (HD2.out.on hb3)
  clear hb3 HD2
  obtain ⟨x0, x1, x2, k0, k1, k2, g0, g1, g2, f0, f1, f2⟩ := HD.out.cells
  go_wp2
  refine bodyPost_ret (dec4_results w.heap.size #[.int .u8 0, .int .i64 0, .slice none 0 0] (.int .i64 0) (.int .i64 21) (set3_row HD.out.res _ _ _) rfl rfl rfl rfl) rfl ?_
  exact dec_badR HV.out (HD.out.done _ _ _).2
set_option maxRecDepth 100000 in
set_option maxHeartbeats 3200000 in
theorem rdec_t0 (w : World) (v : Value) (b : List Int) (p op : Nat) (hb : ∀ x ∈ b, 0 ≤ x ∧ x ≤ 255) (h : RdI .u8 (· < w.heap.size) w v b) (hop : b[p]? = some (op : Int)) (ho : op < 256) (ho1 : isOp op = true) (ht : takesP op = 0) :
    Calls Tryd.prog 66 #[v, .int .i64 p] w (DecR w b p) := by
  have hp : p < b.length := (List.getElem?_eq_some_iff.1 hop).1
  have hpop : b[p] = (op : Int) := (List.getElem?_eq_some_iff.1 hop).2
  have hlen : b.length ≤ 140737488355328 := by obtain ⟨_, _, _, _, h, _⟩ := h; exact h
  have HV : Hid (decI b p = (⟨op, 0, []⟩, p + 1, 0)) := by
    show _ = _
    rw [dec_at hop ho1]; simp [rbodyI, ht, isU]
  have HH := Lib.hid h; have HBy := Lib.hid hb
  obtain ⟨va, vc, rfl, hlc⟩ := h.lenc
  obtain ⟨va', vc', e, _, _, hcell⟩ := h
  simp only [Value.slice.injEq] at e
  obtain ⟨rfl, _, rfl⟩ := e
  obtain ⟨bb, off, rfl, _, hc⟩ := hcell p hp
  rw [hpop] at hc
  clear hcell hpop hop hb
  have hb1 := below_alloc w (.cells #[.int .u8 0, .int .i64 0, .slice none 0 0] 81)
  have hr1 := heap_alloc_new w (.cells #[.int .u8 0, .int .i64 0, .slice none 0 0] 81)
  have hc1 := cell_below hb1 hc
  go_enter Tryd.func66, Tryd.ntmps66
  go_wp2_with fail
  have hsz1 : (w.alloc (.cells #[.int .u8 0, .int .i64 0, .slice none 0 0] 81)).heap.size = w.heap.size + 1 := World.size_alloc _ _
  generalize w.alloc (.cells #[.int .u8 0, .int .i64 0, .slice none 0 0] 81) = w1 at *
  have hb2 := below_alloc w1 (.cells #[.int .u8 op, .int .i64 0, .slice none 0 0] 81)
  have hr2 := heap_alloc_new w1 (.cells #[.int .u8 op, .int .i64 0, .slice none 0 0] 81)
  rw [hsz1] at hr2
  generalize w1.alloc (.cells #[.int .u8 op, .int .i64 0, .slice none 0 0] 81) = w2 at *
  have HD2 : Hid (Dd w w.heap.size (w.heap.size + 1) (.slice (some ⟨bb, off, none⟩) b.length vc) b w2 ⟨op, 0, []⟩ (.slice none 0 0)) :=
    Lib.hid ⟨below_next hb1 hb2, (hb2.block _ (row_lt hr1)).trans hr1, hr2, (HH.out.keeps (Keeps.all _ hb1)).keeps (Keeps.all _ hb2), RdI.nil _ _ _, rfl, rfl⟩
  clear hb1 hr1 hc1 hb2 hr2 hsz1 hc
  refine (ref_Takes _ op ho).mono ?_
  rintro e w3 ⟨rfl, hb3⟩
  rw [if_pos ho1, ht]
  have HD := Lib.hid (HD2.out.on hb3)
  clear hb3 HD2
  obtain ⟨x0, x1, x2, k0, k1, k2, g0, g1, g2, f0, f1, f2⟩ := HD.out.cells
  go_wp2
  refine bodyPost_ret (dec4_results w.heap.size #[.int .u8 op, .int .i64 0, .slice none 0 0] (.int .i64 ((p : Int) + 1)) (.int .i64 0) (set3_row HD.out.res _ _ _) rfl rfl rfl rfl) rfl ?_
  exact dec_goodR HV.out (HD.out.done _ _ _).1 (HD.out.done _ _ _).2
set_option maxRecDepth 100000 in
set_option maxHeartbeats 3200000 in
theorem rdec_t8z (w : World) (v : Value) (b : List Int) (p op : Nat) (hb : ∀ x ∈ b, 0 ≤ x ∧ x ≤ 255) (h : RdI .u8 (· < w.heap.size) w v b) (hop : b[p]? = some (op : Int)) (ho : op < 256) (ho1 : isOp op = true) (ht : takesP op = 8) (z : Int) (hz : (ruv b (p + 1)).2.2 = z) (hz0 : ¬ z = 0) :
    Calls Tryd.prog 66 #[v, .int .i64 p] w (DecR w b p) := by
  have hp : p < b.length := (List.getElem?_eq_some_iff.1 hop).1
  have hpop : b[p] = (op : Int) := (List.getElem?_eq_some_iff.1 hop).2
  have hlen : b.length ≤ 140737488355328 := by obtain ⟨_, _, _, _, h, _⟩ := h; exact h
  have HV : Hid (decI b p = (insZ, 0, z)) := by
    show _ = _
    rw [dec_at hop ho1]; simp [rbodyI, ht, rsigI, hz, hz0]
  have hz1 : (z != 0) = true := by rw [bne_iff_ne]; exact hz0
  obtain ⟨n, hn⟩ : ∃ n, zag (ruv b (p + 1)).1 = n := ⟨_, rfl⟩
  obtain ⟨q, hq⟩ : ∃ q, (ruv b (p + 1)).2.1 = q := ⟨_, rfl⟩
  have HRd := Lib.hid (fun (w' : World) (S : Nat → Prop) (v' : Value) (hr : RdI .u8 S w' v' b) => ref_ReadSvar w' S v' b hb hr (p + 1) (by omega))
  rw [hn, hq, hz, show ((p + 1 : Nat) : Int) = (p : Int) + 1 by omega] at HRd
  clear hn hq hz hz0
  have HH := Lib.hid h; have HBy := Lib.hid hb
  obtain ⟨va, vc, rfl, hlc⟩ := h.lenc
  obtain ⟨va', vc', e, _, _, hcell⟩ := h
  simp only [Value.slice.injEq] at e
  obtain ⟨rfl, _, rfl⟩ := e
  obtain ⟨bb, off, rfl, _, hc⟩ := hcell p hp
  rw [hpop] at hc
  clear hcell hpop hop hb
  have hb1 := below_alloc w (.cells #[.int .u8 0, .int .i64 0, .slice none 0 0] 81)
  have hr1 := heap_alloc_new w (.cells #[.int .u8 0, .int .i64 0, .slice none 0 0] 81)
  have hc1 := cell_below hb1 hc
  go_enter Tryd.func66, Tryd.ntmps66
  go_wp2_with fail
  have hsz1 : (w.alloc (.cells #[.int .u8 0, .int .i64 0, .slice none 0 0] 81)).heap.size = w.heap.size + 1 := World.size_alloc _ _
  generalize w.alloc (.cells #[.int .u8 0, .int .i64 0, .slice none 0 0] 81) = w1 at *
  have hb2 := below_alloc w1 (.cells #[.int .u8 op, .int .i64 0, .slice none 0 0] 81)
  have hr2 := heap_alloc_new w1 (.cells #[.int .u8 op, .int .i64 0, .slice none 0 0] 81)
  rw [hsz1] at hr2
  generalize w1.alloc (.cells #[.int .u8 op, .int .i64 0, .slice none 0 0] 81) = w2 at *
  have HD2 : Hid (Dd w w.heap.size (w.heap.size + 1) (.slice (some ⟨bb, off, none⟩) b.length vc) b w2 ⟨op, 0, []⟩ (.slice none 0 0)) :=
    Lib.hid ⟨below_next hb1 hb2, (hb2.block _ (row_lt hr1)).trans hr1, hr2, (HH.out.keeps (Keeps.all _ hb1)).keeps (Keeps.all _ hb2), RdI.nil _ _ _, rfl, rfl⟩
  clear hb1 hr1 hc1 hb2 hr2 hsz1 hc
  refine (ref_Takes _ op ho).mono ?_
  rintro e w3 ⟨rfl, hb3⟩
  rw [if_pos ho1, ht]
  have HD := Lib.hid (HD2.out.on hb3)
  clear hb3 HD2
  obtain ⟨x0, x1, x2, k0, k1, k2, g0, g1, g2, f0, f1, f2⟩ := HD.out.cells
  have hp1 : wrap64 ((p : Int) + 1) = (p : Int) + 1 := by unfold wrap64; omega
  go_wp2_with fail
  clear hp1
  refine (HRd.out _ _ _ HD.out.rb).mono ?_
  rintro e w4 ⟨rfl, hw4⟩
  obtain rfl : w3 = w4 := hw4.symm
  go_wp2
  refine bodyPost_ret (dec4_results w.heap.size #[.int .u8 0, .int .i64 0, .slice none 0 0] (.int .i64 0) (.int .i64 z) (set3_row HD.out.res _ _ _) rfl rfl rfl rfl) rfl ?_
  exact dec_badR HV.out (HD.out.done _ _ _).2
set_option maxRecDepth 100000 in
set_option maxHeartbeats 3200000 in
theorem rdec_t8x (w : World) (v : Value) (b : List Int) (p op : Nat) (hb : ∀ x ∈ b, 0 ≤ x ∧ x ≤ 255) (h : RdI .u8 (· < w.heap.size) w v b) (hop : b[p]? = some (op : Int)) (ho : op < 256) (ho1 : isOp op = true) (ht : takesP op = 8) (hz : (ruv b (p + 1)).2.2 = 0) (hin : inI op (zag (ruv b (p + 1)).1) = false) :
    Calls Tryd.prog 66 #[v, .int .i64 p] w (DecR w b p) := by
  have hp : p < b.length := (List.getElem?_eq_some_iff.1 hop).1
  have hpop : b[p] = (op : Int) := (List.getElem?_eq_some_iff.1 hop).2
  have hlen : b.length ≤ 140737488355328 := by obtain ⟨_, _, _, _, h, _⟩ := h; exact h
  obtain ⟨n, hn⟩ : ∃ n, zag (ruv b (p + 1)).1 = n := ⟨_, rfl⟩
  obtain ⟨q, hq⟩ : ∃ q, (ruv b (p + 1)).2.1 = q := ⟨_, rfl⟩
  have HRd := Lib.hid (fun (w' : World) (S : Nat → Prop) (v' : Value) (hr : RdI .u8 S w' v' b) => ref_ReadSvar w' S v' b hb hr (p + 1) (by omega))
  rw [hn, hq, hz, show ((p + 1 : Nat) : Int) = (p : Int) + 1 by omega] at HRd
  have hin' : inI op n = false := by rw [← hn]; exact hin
  have HV : Hid (decI b p = (insZ, 0, 17)) := by
    show _ = _
    rw [dec_at hop ho1]; simp [rbodyI, ht, rsigI, hz, hn, hin']
  have HC : Hid (checkI ⟨op, n, []⟩ = 17) := by
    show _ = _
    rw [checkI, if_neg (by simp [ho1])]; simp [hin']
  have HWf : Hid (WfIns ⟨op, n, []⟩) := Lib.hid ⟨ho, by rw [← hn]; exact zag_i64 (ruv_u64 b (p + 1)), fun _ h => by cases h⟩
  clear hn hq hz hin hin'
  have HH := Lib.hid h; have HBy := Lib.hid hb
  obtain ⟨va, vc, rfl, hlc⟩ := h.lenc
  obtain ⟨va', vc', e, _, _, hcell⟩ := h
  simp only [Value.slice.injEq] at e
  obtain ⟨rfl, _, rfl⟩ := e
  obtain ⟨bb, off, rfl, _, hc⟩ := hcell p hp
  rw [hpop] at hc
  clear hcell hpop hop hb
  have hb1 := below_alloc w (.cells #[.int .u8 0, .int .i64 0, .slice none 0 0] 81)
  have hr1 := heap_alloc_new w (.cells #[.int .u8 0, .int .i64 0, .slice none 0 0] 81)
  have hc1 := cell_below hb1 hc
  go_enter Tryd.func66, Tryd.ntmps66
  go_wp2_with fail
  have hsz1 : (w.alloc (.cells #[.int .u8 0, .int .i64 0, .slice none 0 0] 81)).heap.size = w.heap.size + 1 := World.size_alloc _ _
  generalize w.alloc (.cells #[.int .u8 0, .int .i64 0, .slice none 0 0] 81) = w1 at *
  have hb2 := below_alloc w1 (.cells #[.int .u8 op, .int .i64 0, .slice none 0 0] 81)
  have hr2 := heap_alloc_new w1 (.cells #[.int .u8 op, .int .i64 0, .slice none 0 0] 81)
  rw [hsz1] at hr2
  generalize w1.alloc (.cells #[.int .u8 op, .int .i64 0, .slice none 0 0] 81) = w2 at *
  have HD2 : Hid (Dd w w.heap.size (w.heap.size + 1) (.slice (some ⟨bb, off, none⟩) b.length vc) b w2 ⟨op, 0, []⟩ (.slice none 0 0)) :=
    Lib.hid ⟨below_next hb1 hb2, (hb2.block _ (row_lt hr1)).trans hr1, hr2, (HH.out.keeps (Keeps.all _ hb1)).keeps (Keeps.all _ hb2), RdI.nil _ _ _, rfl, rfl⟩
  clear hb1 hr1 hc1 hb2 hr2 hsz1 hc
  refine (ref_Takes _ op ho).mono ?_
  rintro e w3 ⟨rfl, hb3⟩
  rw [if_pos ho1, ht]
  have HD := Lib.hid (HD2.out.on hb3)
  clear hb3 HD2
  obtain ⟨x0, x1, x2, k0, k1, k2, g0, g1, g2, f0, f1, f2⟩ := HD.out.cells
  have hp1 : wrap64 ((p : Int) + 1) = (p : Int) + 1 := by unfold wrap64; omega
  go_wp2_with fail
  clear hp1
  refine (HRd.out _ _ _ HD.out.rb).mono ?_
  rintro e w4 ⟨rfl, hw4⟩
  obtain rfl : w3 = w4 := hw4.symm
  have HA := Lib.hid (HD.out.setA n)
  go_wp2_with fail
  refine (ref4_Check _ (fun _ => False) ⟨op, n, []⟩ (.slice none 0 0) HWf.out (RdI.nil _ _ _)).mono ?_
  rintro e w5 ⟨he, hb5⟩
  rw [HC.out] at he
  subst he
  have HD5 := Lib.hid (HA.out.on hb5)
  clear hb5 x0 x1 x2 k0 k1 k2 g0 g1 g2 f0 f1 f2
  obtain ⟨x0, x1, x2, k0, k1, k2, g0, g1, g2, f0, f1, f2⟩ := HD5.out.cells
  go_wp2
  refine bodyPost_ret (dec4_results w.heap.size #[.int .u8 0, .int .i64 0, .slice none 0 0] (.int .i64 0) (.int .i64 17) (set3_row HD5.out.res _ _ _) rfl rfl rfl rfl) rfl ?_
  exact dec_badR HV.out (HD5.out.done _ _ _).2
set_option maxRecDepth 100000 in
set_option maxHeartbeats 3200000 in
theorem rdec_t8k (w : World) (v : Value) (b : List Int) (p op : Nat) (hb : ∀ x ∈ b, 0 ≤ x ∧ x ≤ 255) (h : RdI .u8 (· < w.heap.size) w v b) (hop : b[p]? = some (op : Int)) (ho : op < 256) (ho1 : isOp op = true) (ht : takesP op = 8) (hz : (ruv b (p + 1)).2.2 = 0) (hin : inI op (zag (ruv b (p + 1)).1) = true) :
    Calls Tryd.prog 66 #[v, .int .i64 p] w (DecR w b p) := by
  have hp : p < b.length := (List.getElem?_eq_some_iff.1 hop).1
  have hpop : b[p] = (op : Int) := (List.getElem?_eq_some_iff.1 hop).2
  have hlen : b.length ≤ 140737488355328 := by obtain ⟨_, _, _, _, h, _⟩ := h; exact h
  obtain ⟨n, hn⟩ : ∃ n, zag (ruv b (p + 1)).1 = n := ⟨_, rfl⟩
  obtain ⟨q, hq⟩ : ∃ q, (ruv b (p + 1)).2.1 = q := ⟨_, rfl⟩
  have HRd := Lib.hid (fun (w' : World) (S : Nat → Prop) (v' : Value) (hr : RdI .u8 S w' v' b) => ref_ReadSvar w' S v' b hb hr (p + 1) (by omega))
  rw [hn, hq, hz, show ((p + 1 : Nat) : Int) = (p : Int) + 1 by omega] at HRd
  have hin' : inI op n = true := by rw [← hn]; exact hin
  have HV : Hid (decI b p = (⟨op, n, []⟩, q, 0)) := by
    show _ = _
    rw [dec_at hop ho1]; simp [rbodyI, ht, rsigI, hz, hn, hq, hin']
  have HC : Hid (checkI ⟨op, n, []⟩ = 0) := by
    show _ = _
    rw [checkI, if_neg (by simp [ho1])]; simp [ht, hin']
  have HWf : Hid (WfIns ⟨op, n, []⟩) := Lib.hid ⟨ho, by rw [← hn]; exact zag_i64 (ruv_u64 b (p + 1)), fun _ h => by cases h⟩
  clear hn hq hz hin hin'
  have HH := Lib.hid h; have HBy := Lib.hid hb
  obtain ⟨va, vc, rfl, hlc⟩ := h.lenc
  obtain ⟨va', vc', e, _, _, hcell⟩ := h
  simp only [Value.slice.injEq] at e
  obtain ⟨rfl, _, rfl⟩ := e
  obtain ⟨bb, off, rfl, _, hc⟩ := hcell p hp
  rw [hpop] at hc
  clear hcell hpop hop hb
  have hb1 := below_alloc w (.cells #[.int .u8 0, .int .i64 0, .slice none 0 0] 81)
  have hr1 := heap_alloc_new w (.cells #[.int .u8 0, .int .i64 0, .slice none 0 0] 81)
  have hc1 := cell_below hb1 hc
  go_enter Tryd.func66, Tryd.ntmps66
  go_wp2_with fail
  have hsz1 : (w.alloc (.cells #[.int .u8 0, .int .i64 0, .slice none 0 0] 81)).heap.size = w.heap.size + 1 := World.size_alloc _ _
  generalize w.alloc (.cells #[.int .u8 0, .int .i64 0, .slice none 0 0] 81) = w1 at *
  have hb2 := below_alloc w1 (.cells #[.int .u8 op, .int .i64 0, .slice none 0 0] 81)
  have hr2 := heap_alloc_new w1 (.cells #[.int .u8 op, .int .i64 0, .slice none 0 0] 81)
  rw [hsz1] at hr2
  generalize w1.alloc (.cells #[.int .u8 op, .int .i64 0, .slice none 0 0] 81) = w2 at *
  have HD2 : Hid (Dd w w.heap.size (w.heap.size + 1) (.slice (some ⟨bb, off, none⟩) b.length vc) b w2 ⟨op, 0, []⟩ (.slice none 0 0)) :=
    Lib.hid ⟨below_next hb1 hb2, (hb2.block _ (row_lt hr1)).trans hr1, hr2, (HH.out.keeps (Keeps.all _ hb1)).keeps (Keeps.all _ hb2), RdI.nil _ _ _, rfl, rfl⟩
  clear hb1 hr1 hc1 hb2 hr2 hsz1 hc
  refine (ref_Takes _ op ho).mono ?_
  rintro e w3 ⟨rfl, hb3⟩
  rw [if_pos ho1, ht]
  have HD := Lib.hid (HD2.out.on hb3)
  clear hb3 HD2
  obtain ⟨x0, x1, x2, k0, k1, k2, g0, g1, g2, f0, f1, f2⟩ := HD.out.cells
  have hp1 : wrap64 ((p : Int) + 1) = (p : Int) + 1 := by unfold wrap64; omega
  go_wp2_with fail
  clear hp1
  refine (HRd.out _ _ _ HD.out.rb).mono ?_
  rintro e w4 ⟨rfl, hw4⟩
  obtain rfl : w3 = w4 := hw4.symm
  have HA := Lib.hid (HD.out.setA n)
  go_wp2_with fail
  refine (ref4_Check _ (fun _ => False) ⟨op, n, []⟩ (.slice none 0 0) HWf.out (RdI.nil _ _ _)).mono ?_
  rintro e w5 ⟨he, hb5⟩
  rw [HC.out] at he
  subst he
  have HD5 := Lib.hid (HA.out.on hb5)
  clear hb5 x0 x1 x2 k0 k1 k2 g0 g1 g2 f0 f1 f2
  obtain ⟨x0, x1, x2, k0, k1, k2, g0, g1, g2, f0, f1, f2⟩ := HD5.out.cells
  go_wp2
  refine bodyPost_ret (dec4_results w.heap.size #[.int .u8 op, .int .i64 n, .slice none 0 0] (.int .i64 q) (.int .i64 0) (set3_row HD5.out.res _ _ _) rfl rfl rfl rfl) rfl ?_
  exact dec_goodR HV.out (HD5.out.done _ _ _).1 (HD5.out.done _ _ _).2
set_option maxRecDepth 100000 in
set_option maxHeartbeats 3200000 in
theorem rdec_uz (w : World) (v : Value) (b : List Int) (p op : Nat) (hb : ∀ x ∈ b, 0 ≤ x ∧ x ≤ 255) (h : RdI .u8 (· < w.heap.size) w v b) (hop : b[p]? = some (op : Int)) (ho : op < 256) (ho1 : isOp op = true) (hU : isU (takesP op) = true) (z : Int) (hz : (ruv b (p + 1)).2.2 = z) (hz0 : ¬ z = 0) :
    Calls Tryd.prog 66 #[v, .int .i64 p] w (DecR w b p) := by
  have hp : p < b.length := (List.getElem?_eq_some_iff.1 hop).1
  have hpop : b[p] = (op : Int) := (List.getElem?_eq_some_iff.1 hop).2
  have hlen : b.length ≤ 140737488355328 := by obtain ⟨_, _, _, _, h, _⟩ := h; exact h
  obtain ⟨u, hu⟩ : ∃ n, (ruv b (p + 1)).1 = n := ⟨_, rfl⟩
  obtain ⟨q, hq⟩ : ∃ q, (ruv b (p + 1)).2.1 = q := ⟨_, rfl⟩
  have HRd := Lib.hid (fun (w' : World) (S : Nat → Prop) (v' : Value) (hr : RdI .u8 S w' v' b) => ref_ReadUvar w' S v' b hb hr (p + 1) (by omega))
  rw [hu, hq, hz, show ((p + 1 : Nat) : Int) = (p : Int) + 1 by omega] at HRd
  have hnt := isU_not hU
  have HV : Hid (decI b p = (insZ, 0, z)) := by
    show _ = _
    rw [dec_at hop ho1]
    have hrb : rbodyI b (p + 1) op = (⟨op, ((rnumI b ⟨p + 1, 0⟩ 0 (boundsI op).2.toNat).1 : Int), []⟩, (rnumI b ⟨p + 1, 0⟩ 0 (boundsI op).2.toNat).2) := by rw [rbodyI, if_neg hnt.1, if_neg hnt.2.1, if_pos hU]
    rw [hrb]
    rw [rnum_bad hz hz0]; simp [hz0]
  have hz1 : (z != 0) = true := by rw [bne_iff_ne]; exact hz0
  have t1 : (takesP op == -1) = false := by rw [beq_eq_false_iff_ne]; intro c; have := takes_nonneg ⟨op, ho⟩; simp only at this; omega
  have t2 : (takesP op == 0) = false := by rw [beq_eq_false_iff_ne]; exact hnt.2.2
  have t3 : (takesP op == 3) = false := by rw [beq_eq_false_iff_ne]; exact hnt.1
  have t4 : (takesP op == 8) = false := by rw [beq_eq_false_iff_ne]; exact hnt.2.1
  clear hu hq hz hz0 hU hnt
  have HH := Lib.hid h; have HBy := Lib.hid hb
  obtain ⟨va, vc, rfl, hlc⟩ := h.lenc
  obtain ⟨va', vc', e, _, _, hcell⟩ := h
  simp only [Value.slice.injEq] at e
  obtain ⟨rfl, _, rfl⟩ := e
  obtain ⟨bb, off, rfl, _, hc⟩ := hcell p hp
  rw [hpop] at hc
  clear hcell hpop hop hb
  have hb1 := below_alloc w (.cells #[.int .u8 0, .int .i64 0, .slice none 0 0] 81)
  have hr1 := heap_alloc_new w (.cells #[.int .u8 0, .int .i64 0, .slice none 0 0] 81)
  have hc1 := cell_below hb1 hc
  go_enter Tryd.func66, Tryd.ntmps66
  go_wp2_with fail
  have hsz1 : (w.alloc (.cells #[.int .u8 0, .int .i64 0, .slice none 0 0] 81)).heap.size = w.heap.size + 1 := World.size_alloc _ _
  generalize w.alloc (.cells #[.int .u8 0, .int .i64 0, .slice none 0 0] 81) = w1 at *
  have hb2 := below_alloc w1 (.cells #[.int .u8 op, .int .i64 0, .slice none 0 0] 81)
  have hr2 := heap_alloc_new w1 (.cells #[.int .u8 op, .int .i64 0, .slice none 0 0] 81)
  rw [hsz1] at hr2
  generalize w1.alloc (.cells #[.int .u8 op, .int .i64 0, .slice none 0 0] 81) = w2 at *
  have HD2 : Hid (Dd w w.heap.size (w.heap.size + 1) (.slice (some ⟨bb, off, none⟩) b.length vc) b w2 ⟨op, 0, []⟩ (.slice none 0 0)) :=
    Lib.hid ⟨below_next hb1 hb2, (hb2.block _ (row_lt hr1)).trans hr1, hr2, (HH.out.keeps (Keeps.all _ hb1)).keeps (Keeps.all _ hb2), RdI.nil _ _ _, rfl, rfl⟩
  clear hb1 hr1 hc1 hb2 hr2 hsz1 hc
  refine (ref_Takes _ op ho).mono ?_
  rintro e w3 ⟨rfl, hb3⟩
  rw [if_pos ho1]
  have HD := Lib.hid (HD2.out.on hb3)
  clear hb3 HD2
  obtain ⟨x0, x1, x2, k0, k1, k2, g0, g1, g2, f0, f1, f2⟩ := HD.out.cells
  have hp1 : wrap64 ((p : Int) + 1) = (p : Int) + 1 := by unfold wrap64; omega
  go_wp2_with fail
  clear hp1
  refine (HRd.out _ _ _ HD.out.rb).mono ?_
  rintro e w4 ⟨rfl, hw4⟩
  obtain rfl : w3 = w4 := hw4.symm
  go_wp2
  refine bodyPost_ret (dec4_results w.heap.size #[.int .u8 0, .int .i64 0, .slice none 0 0] (.int .i64 0) (.int .i64 z) (set3_row HD.out.res _ _ _) rfl rfl rfl rfl) rfl ?_
  exact dec_badR HV.out (HD.out.done _ _ _).2
set_option maxRecDepth 100000 in
set_option maxHeartbeats 3200000 in
theorem rdec_ub (w : World) (v : Value) (b : List Int) (p op : Nat) (hb : ∀ x ∈ b, 0 ≤ x ∧ x ≤ 255) (h : RdI .u8 (· < w.heap.size) w v b) (hop : b[p]? = some (op : Int)) (ho : op < 256) (ho1 : isOp op = true) (hU : isU (takesP op) = true) (hz : (ruv b (p + 1)).2.2 = 0) (hbig : 4294967296 < (ruv b (p + 1)).1) :
    Calls Tryd.prog 66 #[v, .int .i64 p] w (DecR w b p) := by
  have hp : p < b.length := (List.getElem?_eq_some_iff.1 hop).1
  have hpop : b[p] = (op : Int) := (List.getElem?_eq_some_iff.1 hop).2
  have hlen : b.length ≤ 140737488355328 := by obtain ⟨_, _, _, _, h, _⟩ := h; exact h
  obtain ⟨u, hu⟩ : ∃ n, (ruv b (p + 1)).1 = n := ⟨_, rfl⟩
  obtain ⟨q, hq⟩ : ∃ q, (ruv b (p + 1)).2.1 = q := ⟨_, rfl⟩
  have HRd := Lib.hid (fun (w' : World) (S : Nat → Prop) (v' : Value) (hr : RdI .u8 S w' v' b) => ref_ReadUvar w' S v' b hb hr (p + 1) (by omega))
  rw [hu, hq, hz, show ((p + 1 : Nat) : Int) = (p : Int) + 1 by omega] at HRd
  have hnt := isU_not hU
  have hbd := (bounds_u hU).2.2
  have HV : Hid (decI b p = (insZ, 0, 17)) := by
    show _ = _
    rw [dec_at hop ho1]
    have hrb : rbodyI b (p + 1) op = (⟨op, ((rnumI b ⟨p + 1, 0⟩ 0 (boundsI op).2.toNat).1 : Int), []⟩, (rnumI b ⟨p + 1, 0⟩ 0 (boundsI op).2.toNat).2) := by rw [rbodyI, if_neg hnt.1, if_neg hnt.2.1, if_pos hU]
    rw [hrb]
    rw [rnum_out hz rfl (.inr (by omega))]; simp
  rw [hu] at hbig
  have t1 : (takesP op == -1) = false := by rw [beq_eq_false_iff_ne]; intro c; have := takes_nonneg ⟨op, ho⟩; simp only at this; omega
  have t2 : (takesP op == 0) = false := by rw [beq_eq_false_iff_ne]; exact hnt.2.2
  have t3 : (takesP op == 3) = false := by rw [beq_eq_false_iff_ne]; exact hnt.1
  have t4 : (takesP op == 8) = false := by rw [beq_eq_false_iff_ne]; exact hnt.2.1
  clear hu hq hz hU hnt hbd
  have HH := Lib.hid h; have HBy := Lib.hid hb
  obtain ⟨va, vc, rfl, hlc⟩ := h.lenc
  obtain ⟨va', vc', e, _, _, hcell⟩ := h
  simp only [Value.slice.injEq] at e
  obtain ⟨rfl, _, rfl⟩ := e
  obtain ⟨bb, off, rfl, _, hc⟩ := hcell p hp
  rw [hpop] at hc
  clear hcell hpop hop hb
  have hb1 := below_alloc w (.cells #[.int .u8 0, .int .i64 0, .slice none 0 0] 81)
  have hr1 := heap_alloc_new w (.cells #[.int .u8 0, .int .i64 0, .slice none 0 0] 81)
  have hc1 := cell_below hb1 hc
  go_enter Tryd.func66, Tryd.ntmps66
  go_wp2_with fail
  have hsz1 : (w.alloc (.cells #[.int .u8 0, .int .i64 0, .slice none 0 0] 81)).heap.size = w.heap.size + 1 := World.size_alloc _ _
  generalize w.alloc (.cells #[.int .u8 0, .int .i64 0, .slice none 0 0] 81) = w1 at *
  have hb2 := below_alloc w1 (.cells #[.int .u8 op, .int .i64 0, .slice none 0 0] 81)
  have hr2 := heap_alloc_new w1 (.cells #[.int .u8 op, .int .i64 0, .slice none 0 0] 81)
  rw [hsz1] at hr2
  generalize w1.alloc (.cells #[.int .u8 op, .int .i64 0, .slice none 0 0] 81) = w2 at *
  have HD2 : Hid (Dd w w.heap.size (w.heap.size + 1) (.slice (some ⟨bb, off, none⟩) b.length vc) b w2 ⟨op, 0, []⟩ (.slice none 0 0)) :=
    Lib.hid ⟨below_next hb1 hb2, (hb2.block _ (row_lt hr1)).trans hr1, hr2, (HH.out.keeps (Keeps.all _ hb1)).keeps (Keeps.all _ hb2), RdI.nil _ _ _, rfl, rfl⟩
  clear hb1 hr1 hc1 hb2 hr2 hsz1 hc
  refine (ref_Takes _ op ho).mono ?_
  rintro e w3 ⟨rfl, hb3⟩
  rw [if_pos ho1]
  have HD := Lib.hid (HD2.out.on hb3)
  clear hb3 HD2
  obtain ⟨x0, x1, x2, k0, k1, k2, g0, g1, g2, f0, f1, f2⟩ := HD.out.cells
  have hp1 : wrap64 ((p : Int) + 1) = (p : Int) + 1 := by unfold wrap64; omega
  go_wp2_with fail
  clear hp1
  refine (HRd.out _ _ _ HD.out.rb).mono ?_
  rintro e w4 ⟨rfl, hw4⟩
  obtain rfl : w3 = w4 := hw4.symm
  go_wp2
  refine bodyPost_ret (dec4_results w.heap.size #[.int .u8 0, .int .i64 0, .slice none 0 0] (.int .i64 0) (.int .i64 17) (set3_row HD.out.res _ _ _) rfl rfl rfl rfl) rfl ?_
  exact dec_badR HV.out (HD.out.done _ _ _).2
set_option maxRecDepth 100000 in
set_option maxHeartbeats 3200000 in
theorem rdec_ux (w : World) (v : Value) (b : List Int) (p op : Nat) (hb : ∀ x ∈ b, 0 ≤ x ∧ x ≤ 255) (h : RdI .u8 (· < w.heap.size) w v b) (hop : b[p]? = some (op : Int)) (ho : op < 256) (ho1 : isOp op = true) (hU : isU (takesP op) = true) (hz : (ruv b (p + 1)).2.2 = 0) (hsm : ¬ 4294967296 < (ruv b (p + 1)).1) (hin : (boundsI op).2.toNat < (ruv b (p + 1)).1) :
    Calls Tryd.prog 66 #[v, .int .i64 p] w (DecR w b p) := by
  have hp : p < b.length := (List.getElem?_eq_some_iff.1 hop).1
  have hpop : b[p] = (op : Int) := (List.getElem?_eq_some_iff.1 hop).2
  have hlen : b.length ≤ 140737488355328 := by obtain ⟨_, _, _, _, h, _⟩ := h; exact h
  obtain ⟨u, hu⟩ : ∃ n, (ruv b (p + 1)).1 = n := ⟨_, rfl⟩
  obtain ⟨q, hq⟩ : ∃ q, (ruv b (p + 1)).2.1 = q := ⟨_, rfl⟩
  have HRd := Lib.hid (fun (w' : World) (S : Nat → Prop) (v' : Value) (hr : RdI .u8 S w' v' b) => ref_ReadUvar w' S v' b hb hr (p + 1) (by omega))
  rw [hu, hq, hz, show ((p + 1 : Nat) : Int) = (p : Int) + 1 by omega] at HRd
  have hnt := isU_not hU
  obtain ⟨hb1, hb2, hb3⟩ := bounds_u hU
  have HV : Hid (decI b p = (insZ, 0, 17)) := by
    show _ = _
    rw [dec_at hop ho1]
    have hrb : rbodyI b (p + 1) op = (⟨op, ((rnumI b ⟨p + 1, 0⟩ 0 (boundsI op).2.toNat).1 : Int), []⟩, (rnumI b ⟨p + 1, 0⟩ 0 (boundsI op).2.toNat).2) := by rw [rbodyI, if_neg hnt.1, if_neg hnt.2.1, if_pos hU]
    rw [hrb]
    rw [rnum_out hz rfl (.inr hin)]; simp
  rw [hu] at hin hsm
  have hin' : inI op (u : Int) = false := by rw [inI]; simp only [decide_eq_false_iff_not]; omega
  have ht : takesP op ≠ 3 := hnt.1
  have HC : Hid (checkI ⟨op, (u : Int), []⟩ = 17) := by
    show _ = _
    rw [checkI, if_neg (by simp [ho1])]; simp [hin']
  have HWf : Hid (WfIns ⟨op, (u : Int), []⟩) := Lib.hid ⟨ho, by show i64P (u : Int); unfold i64P; omega, fun _ h => by cases h⟩
  have hwi : IntKind.i64.wrap (u : Int) = (u : Int) := IntWalk.i64_in _ ⟨by omega, by omega⟩
  clear ht hin hin' hb1 hb2 hb3
  have t1 : (takesP op == -1) = false := by rw [beq_eq_false_iff_ne]; intro c; have := takes_nonneg ⟨op, ho⟩; simp only at this; omega
  have t2 : (takesP op == 0) = false := by rw [beq_eq_false_iff_ne]; exact hnt.2.2
  have t3 : (takesP op == 3) = false := by rw [beq_eq_false_iff_ne]; exact hnt.1
  have t4 : (takesP op == 8) = false := by rw [beq_eq_false_iff_ne]; exact hnt.2.1
  clear hu hq hz hU hnt
  have HH := Lib.hid h; have HBy := Lib.hid hb
  obtain ⟨va, vc, rfl, hlc⟩ := h.lenc
  obtain ⟨va', vc', e, _, _, hcell⟩ := h
  simp only [Value.slice.injEq] at e
  obtain ⟨rfl, _, rfl⟩ := e
  obtain ⟨bb, off, rfl, _, hc⟩ := hcell p hp
  rw [hpop] at hc
  clear hcell hpop hop hb
  have hb1 := below_alloc w (.cells #[.int .u8 0, .int .i64 0, .slice none 0 0] 81)
  have hr1 := heap_alloc_new w (.cells #[.int .u8 0, .int .i64 0, .slice none 0 0] 81)
  have hc1 := cell_below hb1 hc
  go_enter Tryd.func66, Tryd.ntmps66
  go_wp2_with fail
  have hsz1 : (w.alloc (.cells #[.int .u8 0, .int .i64 0, .slice none 0 0] 81)).heap.size = w.heap.size + 1 := World.size_alloc _ _
  generalize w.alloc (.cells #[.int .u8 0, .int .i64 0, .slice none 0 0] 81) = w1 at *
  have hb2 := below_alloc w1 (.cells #[.int .u8 op, .int .i64 0, .slice none 0 0] 81)
  have hr2 := heap_alloc_new w1 (.cells #[.int .u8 op, .int .i64 0, .slice none 0 0] 81)
  rw [hsz1] at hr2
  generalize w1.alloc (.cells #[.int .u8 op, .int .i64 0, .slice none 0 0] 81) = w2 at *
  have HD2 : Hid (Dd w w.heap.size (w.heap.size + 1) (.slice (some ⟨bb, off, none⟩) b.length vc) b w2 ⟨op, 0, []⟩ (.slice none 0 0)) :=
    Lib.hid ⟨below_next hb1 hb2, (hb2.block _ (row_lt hr1)).trans hr1, hr2, (HH.out.keeps (Keeps.all _ hb1)).keeps (Keeps.all _ hb2), RdI.nil _ _ _, rfl, rfl⟩
  clear hb1 hr1 hc1 hb2 hr2 hsz1 hc
  refine (ref_Takes _ op ho).mono ?_
  rintro e w3 ⟨rfl, hb3⟩
  rw [if_pos ho1]
  have HD := Lib.hid (HD2.out.on hb3)
  clear hb3 HD2
  obtain ⟨x0, x1, x2, k0, k1, k2, g0, g1, g2, f0, f1, f2⟩ := HD.out.cells
  have hp1 : wrap64 ((p : Int) + 1) = (p : Int) + 1 := by unfold wrap64; omega
  go_wp2_with fail
  clear hp1
  refine (HRd.out _ _ _ HD.out.rb).mono ?_
  rintro e w4 ⟨rfl, hw4⟩
  obtain rfl : w3 = w4 := hw4.symm
  have HA := Lib.hid (HD.out.setA (u : Int))
  go_wp2_with fail
  refine (ref4_Check _ (fun _ => False) ⟨op, (u : Int), []⟩ (.slice none 0 0) HWf.out (RdI.nil _ _ _)).mono ?_
  rintro e w5 ⟨he, hb5⟩
  rw [HC.out] at he
  subst he
  have HD5 := Lib.hid (HA.out.on hb5)
  clear hb5 x0 x1 x2 k0 k1 k2 g0 g1 g2 f0 f1 f2
  obtain ⟨x0, x1, x2, k0, k1, k2, g0, g1, g2, f0, f1, f2⟩ := HD5.out.cells
  go_wp2
  refine bodyPost_ret (dec4_results w.heap.size #[.int .u8 0, .int .i64 0, .slice none 0 0] (.int .i64 0) (.int .i64 17) (set3_row HD5.out.res _ _ _) rfl rfl rfl rfl) rfl ?_
  exact dec_badR HV.out (HD5.out.done _ _ _).2
set_option maxRecDepth 100000 in
set_option maxHeartbeats 3200000 in
theorem rdec_uk (w : World) (v : Value) (b : List Int) (p op : Nat) (hb : ∀ x ∈ b, 0 ≤ x ∧ x ≤ 255) (h : RdI .u8 (· < w.heap.size) w v b) (hop : b[p]? = some (op : Int)) (ho : op < 256) (ho1 : isOp op = true) (hU : isU (takesP op) = true) (hz : (ruv b (p + 1)).2.2 = 0) (hsm : ¬ 4294967296 < (ruv b (p + 1)).1) (hin : ¬ (boundsI op).2.toNat < (ruv b (p + 1)).1) :
    Calls Tryd.prog 66 #[v, .int .i64 p] w (DecR w b p) := by
  have hp : p < b.length := (List.getElem?_eq_some_iff.1 hop).1
  have hpop : b[p] = (op : Int) := (List.getElem?_eq_some_iff.1 hop).2
  have hlen : b.length ≤ 140737488355328 := by obtain ⟨_, _, _, _, h, _⟩ := h; exact h
  obtain ⟨u, hu⟩ : ∃ n, (ruv b (p + 1)).1 = n := ⟨_, rfl⟩
  obtain ⟨q, hq⟩ : ∃ q, (ruv b (p + 1)).2.1 = q := ⟨_, rfl⟩
  have HRd := Lib.hid (fun (w' : World) (S : Nat → Prop) (v' : Value) (hr : RdI .u8 S w' v' b) => ref_ReadUvar w' S v' b hb hr (p + 1) (by omega))
  rw [hu, hq, hz, show ((p + 1 : Nat) : Int) = (p : Int) + 1 by omega] at HRd
  have hnt := isU_not hU
  obtain ⟨hb1, hb2, hb3⟩ := bounds_u hU
  have HV : Hid (decI b p = (⟨op, u, []⟩, q, 0)) := by
    show _ = _
    rw [dec_at hop ho1]
    have hrb : rbodyI b (p + 1) op = (⟨op, ((rnumI b ⟨p + 1, 0⟩ 0 (boundsI op).2.toNat).1 : Int), []⟩, (rnumI b ⟨p + 1, 0⟩ 0 (boundsI op).2.toNat).2) := by rw [rbodyI, if_neg hnt.1, if_neg hnt.2.1, if_pos hU]
    rw [hrb]
    rw [rnum_ok hz hu hq (by omega)]; simp
  rw [hu] at hin hsm
  have hin' : inI op (u : Int) = true := by rw [inI]; simp only [decide_eq_true_eq]; omega
  have ht : takesP op ≠ 3 := hnt.1
  have HC : Hid (checkI ⟨op, (u : Int), []⟩ = 0) := by
    show _ = _
    rw [checkI, if_neg (by simp [ho1])]; simp [ht, hin']
  have HWf : Hid (WfIns ⟨op, (u : Int), []⟩) := Lib.hid ⟨ho, by show i64P (u : Int); unfold i64P; omega, fun _ h => by cases h⟩
  have hwi : IntKind.i64.wrap (u : Int) = (u : Int) := IntWalk.i64_in _ ⟨by omega, by omega⟩
  clear ht hin hin' hb1 hb2 hb3
  have t1 : (takesP op == -1) = false := by rw [beq_eq_false_iff_ne]; intro c; have := takes_nonneg ⟨op, ho⟩; simp only at this; omega
  have t2 : (takesP op == 0) = false := by rw [beq_eq_false_iff_ne]; exact hnt.2.2
  have t3 : (takesP op == 3) = false := by rw [beq_eq_false_iff_ne]; exact hnt.1
  have t4 : (takesP op == 8) = false := by rw [beq_eq_false_iff_ne]; exact hnt.2.1
  clear hu hq hz hU hnt
  have HH := Lib.hid h; have HBy := Lib.hid hb
  obtain ⟨va, vc, rfl, hlc⟩ := h.lenc
  obtain ⟨va', vc', e, _, _, hcell⟩ := h
  simp only [Value.slice.injEq] at e
  obtain ⟨rfl, _, rfl⟩ := e
  obtain ⟨bb, off, rfl, _, hc⟩ := hcell p hp
  rw [hpop] at hc
  clear hcell hpop hop hb
  have hb1 := below_alloc w (.cells #[.int .u8 0, .int .i64 0, .slice none 0 0] 81)
  have hr1 := heap_alloc_new w (.cells #[.int .u8 0, .int .i64 0, .slice none 0 0] 81)
  have hc1 := cell_below hb1 hc
  go_enter Tryd.func66, Tryd.ntmps66
  go_wp2_with fail
  have hsz1 : (w.alloc (.cells #[.int .u8 0, .int .i64 0, .slice none 0 0] 81)).heap.size = w.heap.size + 1 := World.size_alloc _ _
  generalize w.alloc (.cells #[.int .u8 0, .int .i64 0, .slice none 0 0] 81) = w1 at *
  have hb2 := below_alloc w1 (.cells #[.int .u8 op, .int .i64 0, .slice none 0 0] 81)
  have hr2 := heap_alloc_new w1 (.cells #[.int .u8 op, .int .i64 0, .slice none 0 0] 81)
  rw [hsz1] at hr2
  generalize w1.alloc (.cells #[.int .u8 op, .int .i64 0, .slice none 0 0] 81) = w2 at *
  have HD2 : Hid (Dd w w.heap.size (w.heap.size + 1) (.slice (some ⟨bb, off, none⟩) b.length vc) b w2 ⟨op, 0, []⟩ (.slice none 0 0)) :=
    Lib.hid ⟨below_next hb1 hb2, (hb2.block _ (row_lt hr1)).trans hr1, hr2, (HH.out.keeps (Keeps.all _ hb1)).keeps (Keeps.all _ hb2), RdI.nil _ _ _, rfl, rfl⟩
  clear hb1 hr1 hc1 hb2 hr2 hsz1 hc
  refine (ref_Takes _ op ho).mono ?_
  rintro e w3 ⟨rfl, hb3⟩
  rw [if_pos ho1]
  have HD := Lib.hid (HD2.out.on hb3)
  clear hb3 HD2
  obtain ⟨x0, x1, x2, k0, k1, k2, g0, g1, g2, f0, f1, f2⟩ := HD.out.cells
  have hp1 : wrap64 ((p : Int) + 1) = (p : Int) + 1 := by unfold wrap64; omega
  go_wp2_with fail
  clear hp1
  refine (HRd.out _ _ _ HD.out.rb).mono ?_
  rintro e w4 ⟨rfl, hw4⟩
  obtain rfl : w3 = w4 := hw4.symm
  have HA := Lib.hid (HD.out.setA (u : Int))
  go_wp2_with fail
  refine (ref4_Check _ (fun _ => False) ⟨op, (u : Int), []⟩ (.slice none 0 0) HWf.out (RdI.nil _ _ _)).mono ?_
  rintro e w5 ⟨he, hb5⟩
  rw [HC.out] at he
  subst he
  have HD5 := Lib.hid (HA.out.on hb5)
  clear hb5 x0 x1 x2 k0 k1 k2 g0 g1 g2 f0 f1 f2
  obtain ⟨x0, x1, x2, k0, k1, k2, g0, g1, g2, f0, f1, f2⟩ := HD5.out.cells
  go_wp2
  refine bodyPost_ret (dec4_results w.heap.size #[.int .u8 op, .int .i64 (u : Int), .slice none 0 0] (.int .i64 q) (.int .i64 0) (set3_row HD5.out.res _ _ _) rfl rfl rfl rfl) rfl ?_
  exact dec_goodR HV.out (HD5.out.done _ _ _).1 (HD5.out.done _ _ _).2
set_option maxRecDepth 100000 in
set_option maxHeartbeats 3200000 in
theorem rdec_t3z (w : World) (v : Value) (b : List Int) (p op : Nat) (hb : ∀ x ∈ b, 0 ≤ x ∧ x ≤ 255) (h : RdI .u8 (· < w.heap.size) w v b) (hop : b[p]? = some (op : Int)) (ho : op < 256) (ho1 : isOp op = true) (ht : takesP op = 3) (z : Int) (hz : (labI b (p + 1)).2.e = z) (hz0 : ¬ z = 0) :
    Calls Tryd.prog 66 #[v, .int .i64 p] w (DecR w b p) := by
  have hp : p < b.length := (List.getElem?_eq_some_iff.1 hop).1
  have hpop : b[p] = (op : Int) := (List.getElem?_eq_some_iff.1 hop).2
  have hlen : b.length ≤ 140737488355328 := by obtain ⟨_, _, _, _, h, _⟩ := h; exact h
  have HRd := Lib.hid (fun (w' : World) (v' : Value) (hr : RdI .u8 (· < w'.heap.size) w' v' b) => ref4_labels w' v' b hb hr (p + 1) (by omega))
  have hrb : rbodyI b (p + 1) op = (⟨op, 0, (labI b (p + 1)).1⟩, (labI b (p + 1)).2) := by rw [rbodyI, if_pos ht]; rfl
  rw [hz, show ((p + 1 : Nat) : Int) = (p : Int) + 1 by omega] at HRd
  have HV : Hid (decI b p = (insZ, 0, z)) := by
    show _ = _
    rw [dec_at hop ho1, hrb]; simp [hz, hz0]
  have hz1 : (z != 0) = true := by rw [bne_iff_ne]; exact hz0
  have HZ0 := Lib.hid hz0
  clear hz hrb hz0
  have HH := Lib.hid h; have HBy := Lib.hid hb
  obtain ⟨va, vc, rfl, hlc⟩ := h.lenc
  obtain ⟨va', vc', e, _, _, hcell⟩ := h
  simp only [Value.slice.injEq] at e
  obtain ⟨rfl, _, rfl⟩ := e
  obtain ⟨bb, off, rfl, _, hc⟩ := hcell p hp
  rw [hpop] at hc
  clear hcell hpop hop hb
  have hb1 := below_alloc w (.cells #[.int .u8 0, .int .i64 0, .slice none 0 0] 81)
  have hr1 := heap_alloc_new w (.cells #[.int .u8 0, .int .i64 0, .slice none 0 0] 81)
  have hc1 := cell_below hb1 hc
  go_enter Tryd.func66, Tryd.ntmps66
  go_wp2_with fail
  have hsz1 : (w.alloc (.cells #[.int .u8 0, .int .i64 0, .slice none 0 0] 81)).heap.size = w.heap.size + 1 := World.size_alloc _ _
  generalize w.alloc (.cells #[.int .u8 0, .int .i64 0, .slice none 0 0] 81) = w1 at *
  have hb2 := below_alloc w1 (.cells #[.int .u8 op, .int .i64 0, .slice none 0 0] 81)
  have hr2 := heap_alloc_new w1 (.cells #[.int .u8 op, .int .i64 0, .slice none 0 0] 81)
  rw [hsz1] at hr2
  generalize w1.alloc (.cells #[.int .u8 op, .int .i64 0, .slice none 0 0] 81) = w2 at *
  have HD2 : Hid (Dd w w.heap.size (w.heap.size + 1) (.slice (some ⟨bb, off, none⟩) b.length vc) b w2 ⟨op, 0, []⟩ (.slice none 0 0)) :=
    Lib.hid ⟨below_next hb1 hb2, (hb2.block _ (row_lt hr1)).trans hr1, hr2, (HH.out.keeps (Keeps.all _ hb1)).keeps (Keeps.all _ hb2), RdI.nil _ _ _, rfl, rfl⟩
  clear hb1 hr1 hc1 hb2 hr2 hsz1 hc
  refine (ref_Takes _ op ho).mono ?_
  rintro e w3 ⟨rfl, hb3⟩
  rw [if_pos ho1, ht]
  have HD := Lib.hid (HD2.out.on hb3)
  clear hb3 HD2
  obtain ⟨x0, x1, x2, k0, k1, k2, g0, g1, g2, f0, f1, f2⟩ := HD.out.cells
  have hp1 : wrap64 ((p : Int) + 1) = (p : Int) + 1 := by unfold wrap64; omega
  go_wp2_with fail
  clear hp1 x0 x1 x2 k0 k1 k2 g0 g1 g2 f0 f1 f2
  refine (HRd.out _ _ HD.out.rb.any).mono ?_
  rintro e w4 ⟨vl, n, rfl, hb4, hok, hbad⟩
  obtain ⟨rfl, rfl⟩ := hbad HZ0.out
  have HD5 := Lib.hid (HD.out.on hb4)
  clear hb4 hok hbad
  obtain ⟨x0, x1, x2, k0, k1, k2, g0, g1, g2, f0, f1, f2⟩ := HD5.out.cells
  go_wp2
  refine bodyPost_ret (dec4_results w.heap.size #[.int .u8 0, .int .i64 0, .slice none 0 0] (.int .i64 0) (.int .i64 z) (set3_row HD5.out.res _ _ _) rfl rfl rfl rfl) rfl ?_
  exact dec_badR HV.out (HD5.out.done _ _ _).2
set_option maxRecDepth 100000 in
set_option maxHeartbeats 3200000 in
theorem rdec_t3k (w : World) (v : Value) (b : List Int) (p op : Nat) (hb : ∀ x ∈ b, 0 ≤ x ∧ x ≤ 255) (h : RdI .u8 (· < w.heap.size) w v b) (hop : b[p]? = some (op : Int)) (ho : op < 256) (ho1 : isOp op = true) (ht : takesP op = 3) (hz : (labI b (p + 1)).2.e = 0) :
    Calls Tryd.prog 66 #[v, .int .i64 p] w (DecR w b p) := by
  have hp : p < b.length := (List.getElem?_eq_some_iff.1 hop).1
  have hpop : b[p] = (op : Int) := (List.getElem?_eq_some_iff.1 hop).2
  have hlen : b.length ≤ 140737488355328 := by obtain ⟨_, _, _, _, h, _⟩ := h; exact h
  have HRd := Lib.hid (fun (w' : World) (v' : Value) (hr : RdI .u8 (· < w'.heap.size) w' v' b) => ref4_labels w' v' b hb hr (p + 1) (by omega))
  have hrb : rbodyI b (p + 1) op = (⟨op, 0, (labI b (p + 1)).1⟩, (labI b (p + 1)).2) := by rw [rbodyI, if_pos ht]; rfl
  obtain ⟨L, hL⟩ : ∃ L, (labI b (p + 1)).1 = L := ⟨_, rfl⟩
  obtain ⟨q, hq⟩ : ∃ L, (labI b (p + 1)).2.at_ = L := ⟨_, rfl⟩
  have HV : Hid (decI b p = (⟨op, 0, L⟩, q, 0)) := by
    show _ = _
    rw [dec_at hop ho1, hrb]; simp [hz, hL, hq]
  have hLl : L.length ≤ 140737488355328 := by rw [← hL]; have := labI_len b (p + 1); omega
  rw [hz, hL, hq, show ((p + 1 : Nat) : Int) = (p : Int) + 1 by omega] at HRd
  clear hz hrb hL hq
  have HH := Lib.hid h; have HBy := Lib.hid hb
  obtain ⟨va, vc, rfl, hlc⟩ := h.lenc
  obtain ⟨va', vc', e, _, _, hcell⟩ := h
  simp only [Value.slice.injEq] at e
  obtain ⟨rfl, _, rfl⟩ := e
  obtain ⟨bb, off, rfl, _, hc⟩ := hcell p hp
  rw [hpop] at hc
  clear hcell hpop hop hb
  have hb1 := below_alloc w (.cells #[.int .u8 0, .int .i64 0, .slice none 0 0] 81)
  have hr1 := heap_alloc_new w (.cells #[.int .u8 0, .int .i64 0, .slice none 0 0] 81)
  have hc1 := cell_below hb1 hc
  go_enter Tryd.func66, Tryd.ntmps66
  go_wp2_with fail
  have hsz1 : (w.alloc (.cells #[.int .u8 0, .int .i64 0, .slice none 0 0] 81)).heap.size = w.heap.size + 1 := World.size_alloc _ _
  generalize w.alloc (.cells #[.int .u8 0, .int .i64 0, .slice none 0 0] 81) = w1 at *
  have hb2 := below_alloc w1 (.cells #[.int .u8 op, .int .i64 0, .slice none 0 0] 81)
  have hr2 := heap_alloc_new w1 (.cells #[.int .u8 op, .int .i64 0, .slice none 0 0] 81)
  rw [hsz1] at hr2
  generalize w1.alloc (.cells #[.int .u8 op, .int .i64 0, .slice none 0 0] 81) = w2 at *
  have HD2 : Hid (Dd w w.heap.size (w.heap.size + 1) (.slice (some ⟨bb, off, none⟩) b.length vc) b w2 ⟨op, 0, []⟩ (.slice none 0 0)) :=
    Lib.hid ⟨below_next hb1 hb2, (hb2.block _ (row_lt hr1)).trans hr1, hr2, (HH.out.keeps (Keeps.all _ hb1)).keeps (Keeps.all _ hb2), RdI.nil _ _ _, rfl, rfl⟩
  clear hb1 hr1 hc1 hb2 hr2 hsz1 hc
  refine (ref_Takes _ op ho).mono ?_
  rintro e w3 ⟨rfl, hb3⟩
  rw [if_pos ho1, ht]
  have HD := Lib.hid (HD2.out.on hb3)
  clear hb3 HD2
  obtain ⟨x0, x1, x2, k0, k1, k2, g0, g1, g2, f0, f1, f2⟩ := HD.out.cells
  have hp1 : wrap64 ((p : Int) + 1) = (p : Int) + 1 := by unfold wrap64; omega
  go_wp2_with fail
  clear hp1 x0 x1 x2 k0 k1 k2 g0 g1 g2 f0 f1 f2
  refine (HRd.out _ _ HD.out.rb.any).mono ?_
  rintro e w4 ⟨vl, n, rfl, hb4, hok, hbad⟩
  obtain ⟨rfl, hown⟩ := hok (by trivial)
  have hlo := HD.out.lo
  have hsz3 := HD.out.bel.size
  have hX := row_lt HD.out.box
  have hrd : RdI .i64 (fun x => w.heap.size ≤ x ∧ x ≠ w.heap.size ∧ x ≠ w.heap.size + 1) w4 vl L := (RdI.of_own hown hLl).mono fun x _ hx => by have := (hown.lt x hx).1; omega
  have HD4 := Lib.hid (HD.out.on hb4)
  have HD5 := Lib.hid (HD4.out.setL hrd)
  obtain ⟨al, cl, rfl, _⟩ := own_slice hown
  clear hb4 hok hbad hown hlo hsz3 hX hrd
  obtain ⟨x0, x1, x2, k0, k1, k2, g0, g1, g2, f0, f1, f2⟩ := HD4.out.cells
  go_wp2
  refine bodyPost_ret (dec4_results w.heap.size #[.int .u8 op, .int .i64 0, .slice al L.length cl] (.int .i64 n) (.int .i64 0) (set3_row HD5.out.res _ _ _) rfl rfl rfl rfl) rfl ?_
  exact dec_goodR HV.out (HD5.out.done _ _ _).1 (HD5.out.done _ _ _).2
theorem ref4_Decode (w : World) (v : Value) (b : List Int) (p : Int) (hb : Bytes b) (h : RdI .u8 (· < w.heap.size) w v b) :
    Calls Tryd.prog 66 #[v, .int .i64 p] w (DecR w b p) := by
  by_cases h1 : p < 0
  · obtain ⟨va, vc, rfl, _⟩ := h.lenc; exact rdec_neg w va vc b p h1
  by_cases h2 : (b.length : Int) < p
  · obtain ⟨va, vc, rfl, _⟩ := h.lenc; exact rdec_far w va vc b p h1 h2
  by_cases h3 : p = b.length
  · obtain ⟨va, vc, rfl, _⟩ := h.lenc; exact rdec_end w va vc b p h1 h3
  obtain ⟨n, rfl⟩ := Int.eq_ofNat_of_zero_le (show 0 ≤ p by omega)
  have hn : n < b.length := by omega
  have hx := hb b[n] (List.getElem_mem _)
  obtain ⟨op, hop⟩ := Int.eq_ofNat_of_zero_le hx.1
  have hop' : b[n]? = some (op : Int) := by rw [List.getElem?_eq_getElem hn, hop]
  have ho : op < 256 := by omega
  cases ho1 : isOp op with
  | false => exact rdec_no w v b n op hb h hop' ho ho1
  | true =>
    have hcs := takes_cases ⟨op, ho⟩
    simp only at hcs
    rcases hcs with h3 | h8 | hU | h0
    · by_cases hz : (labI b (n + 1)).2.e = 0
      · exact rdec_t3k w v b n op hb h hop' ho ho1 h3 hz
      · exact rdec_t3z w v b n op hb h hop' ho ho1 h3 _ rfl hz
    · by_cases hz : (ruv b (n + 1)).2.2 = 0
      · cases hin : inI op (zag (ruv b (n + 1)).1) with
        | false => exact rdec_t8x w v b n op hb h hop' ho ho1 h8 hz hin
        | true => exact rdec_t8k w v b n op hb h hop' ho ho1 h8 hz hin
      · exact rdec_t8z w v b n op hb h hop' ho ho1 h8 _ rfl hz
    · by_cases hz : (ruv b (n + 1)).2.2 = 0
      · by_cases hbig : 4294967296 < (ruv b (n + 1)).1
        · exact rdec_ub w v b n op hb h hop' ho ho1 hU hz hbig
        · by_cases hin : (boundsI op).2.toNat < (ruv b (n + 1)).1
          · exact rdec_ux w v b n op hb h hop' ho ho1 hU hz hbig hin
          · exact rdec_uk w v b n op hb h hop' ho ho1 hU hz hbig hin
      · exact rdec_uz w v b n op hb h hop' ho ho1 hU _ rfl hz
    · exact rdec_t0 w v b n op hb h hop' ho ho1 h0
end Go.Proofs.YtmlniifdipeboaaDoor

