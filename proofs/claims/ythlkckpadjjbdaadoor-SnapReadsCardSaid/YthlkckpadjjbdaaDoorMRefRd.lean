/- flagonref01: ReadUvar. flagonref22's Reader: no, number, octet, values. -/
import Derived.Test.YthlkckpadjjbdaaDoorMUvar
import Derived.Test.YthlkckpadjjbdaaDoorReader
namespace Go.Proofs.YthlkckpadjjbdaaDoor
open Go Go.RowKit

set_option maxRecDepth 100000 in
set_option maxHeartbeats 1600000 in
theorem ref_ReadUvar (w : World) (S) (v : Value) (b : List Int) (hb : ∀ x ∈ b, 0 ≤ x ∧ x ≤ 255) (h : RdI .u8 S w v b) (p : Nat) (hp : p ≤ b.length) :
    Calls Tryd.prog 76 #[v, .int .i64 p] w fun e w' => e = .returned (.tuple #[.int .u64 (ruv b p).1, .int .i64 (ruv b p).2.1, .int .i64 (ruv b p).2.2]) ∧ w' = w := by
  obtain ⟨a, cap, rfl, hc, hm, r⟩ := h
  have H := Lib.hid r; clear r
  have HB := Lib.hid hb; clear hb
  have hp0 : decide ((p : Int) < 0) = false := by rw [decide_eq_false_iff_not]; omega
  go_enter Tryd.func76, Tryd.ntmps76
  go_wp2
  go_loopw [7, 8, 9] (fun s u i wr => ∃ (k t : Nat), k ≤ 9 ∧ p + k ≤ b.length ∧ i = .int .i64 k ∧ s = .int .u64 t ∧ u = .int .u64 ((128 ^ k : Nat) : Int) ∧ Hid (t < 128 ^ k) ∧ Hid (ruv b p = ruvGo b p (10 - k) k t) ∧ wr = w) (fun _ _ i _ => 10 - (intOf i).toNat)
  case atStart => exact ⟨0, 0, by omega, hp, rfl, rfl, rfl, by simp [Hid], rfl, rfl⟩
  case round =>
    obtain ⟨k, t, hk, hpk, rfl, rfl, rfl, HT, HR, rfl⟩ := hrel
    by_cases hlt : p + k < b.length
    · obtain ⟨bb, off, rfl, _, hcell⟩ := H.out (p + k) hlt
      have hx := HB.out b[p + k] (List.getElem_mem _)
      by_cases hbad : k = 9 ∧ 1 < b[p + k]
      · have E := Lib.hid (HR.out.trans (ruvGo_wide (by omega) hlt hbad))
        obtain ⟨rfl, h1⟩ := hbad
        generalize b[p + 9] = c at *
        go_wp2
        go_ret3
        exact ⟨ret_ruv E.out, rfl⟩
      · obtain ⟨m, hm⟩ := Int.eq_ofNat_of_zero_le hx.1
        have L := Lib.hid fun h0 hp => HR.out.trans (ruvGo_loose (by omega) hlt hbad h0 hp)
        have E := Lib.hid fun h1 h0 => HR.out.trans (ruvGo_last (by omega) hlt hbad h1 h0)
        have N := Lib.hid fun h1 => HR.out.trans (ruvGo_next (by omega) hlt hbad h1)
        have NT := Lib.hid (step_lt m HT.out)
        have hf := mul_fits (m % 128) k (by omega) (by omega) (fun e => by omega)
        have hf1 := mul_fits 1 k (by omega) (by omega) (fun _ => by omega)
        have htq := HT.out
        rw [← pow_128] at hf hf1
        have hk9 : k = 9 → m ≤ 1 := fun e => by omega
        have hkk : k = 9 ∨ (((k : Int) == 9) = false ∧ k < 9) := by simp; omega
        have hun : k < 9 → IntKind.u64.wrap (((128 ^ k : Nat) : Int) * 128) = ((128 ^ (k + 1) : Nat) : Int) := fun h => by
          have := mul_fits 1 (k + 1) (by omega) (by omega) (fun _ => by omega)
          rw [← pow_128] at this
          rw [Nat.pow_succ] at this ⊢
          rw [IntKind.wrap_u64]; omega
        rw [hm] at hcell hx
        have hb9 : ¬ (k = 9 ∧ 1 < (m : Int)) := by rw [hm] at hbad; exact hbad
        simp only [hm, Int.toNat_natCast] at L E N
        by_cases hz : m = 0 ∧ k = 0
        · obtain ⟨rfl, rfl⟩ := hz
          obtain rfl : t = 0 := by have := HT.out; simp at this; omega
          have F := E.out (by omega) (by omega)
          have F2 : Hid (ruv b p = (0, p + 1, 0)) := Lib.hid (by simpa using F)
          clear F L E N NT HT HR hf hf1 htq hk9 hkk hun hm hbad hb9 hx
          rw [Nat.add_zero] at hcell
          have hlt2 : p < b.length := by omega
          have hne : ((p : Int) == (b.length : Int)) = false := by rw [beq_eq_false_iff_ne]; omega
          go_wp2
          go_ret3
          exact ⟨ret_ruv F2.out, rfl⟩
        have e1 : (m : Int) % 128 = ((m % 128 : Nat) : Int) := by omega
        have hq : (0 : Nat) < 128 ^ k := Nat.pow_pos (by decide)
        have hsum : t + m % 128 * 128 ^ k < 18446744073709551616 := by
          by_cases h9 : k = 9
          · subst h9
            have := hk9 rfl
            have h2 : m % 128 ≤ 1 := by omega
            have h3 : m % 128 * 128 ^ 9 ≤ 1 * 128 ^ 9 := Nat.mul_le_mul_right _ h2
            have h4 : (128 : Nat) ^ 9 = 9223372036854775808 := by decide
            omega
          · have h8 : 128 ^ (k + 1) ≤ 128 ^ 9 := Nat.pow_le_pow_right (by decide) (by omega)
            have h4 : (128 : Nat) ^ 9 = 9223372036854775808 := by decide
            have := NT.out
            omega
        have e2 : IntKind.u64.wrap (((m % 128 : Nat) : Int) * ((128 ^ k : Nat) : Int)) = ((m % 128 * 128 ^ k : Nat) : Int) := by rw [← Int.natCast_mul]; exact IntWalk.u64_in _ ⟨by omega, by omega⟩
        have e3 : IntKind.u64.wrap ((t : Int) + ((m % 128 * 128 ^ k : Nat) : Int)) = ((t + m % 128 * 128 ^ k : Nat) : Int) := by rw [← Int.natCast_add]; exact IntWalk.u64_in _ ⟨by omega, by omega⟩
        have e4 : IntKind.u64.wrap (m : Int) = (m : Int) := IntWalk.u64_in _ ⟨by omega, by omega⟩
        have hle : p + k ≤ 140737488355328 := by omega
        generalize t + m % 128 * 128 ^ k = t' at *
        generalize m % 128 * 128 ^ k = s at *
        have HQ1 : Hid (k < 9 → IntKind.u64.wrap (((128 ^ k : Nat) : Int) * 128) = ((128 ^ (k + 1) : Nat) : Int)) := Lib.hid hun
        clear hm hbad hf hf1 htq hun hq hsum
        generalize hrr : m % 128 = r at *
        clear hrr
        by_cases h128 : m < 128
        · by_cases h0 : m = 0 ∧ 0 < k
          · have F := Lib.hid (L.out (by omega) h0.2)
            obtain ⟨rfl, hk0⟩ := h0
            rcases hkk with rfl | ⟨h9, h9'⟩
            all_goals go_wp2
            all_goals go_ret3
            all_goals exact ⟨ret_ruv F.out, rfl⟩
          · have F := Lib.hid (E.out (by omega) (by omega))
            clear L E N
            generalize 128 ^ k = q at *
            have h0 : ¬ m = 0 := by omega
            have hm0 : ((m : Int) == 0) = false := by rw [beq_eq_false_iff_ne]; omega
            rcases hkk with rfl | ⟨h9, h9'⟩
            all_goals go_wp2
            all_goals go_ret3
            all_goals exact ⟨ret_ruv F.out, rfl⟩
        · have F := Lib.hid (N.out (by omega))
          have h9' : k < 9 := by omega
          have h9 : ((k : Int) == 9) = false := by rw [beq_eq_false_iff_ne]; omega
          have e5 := HQ1.out h9'
          have h128' : decide ((m : Int) < 128) = false := by rw [decide_eq_false_iff_not]; omega
          clear L E N hkk
          generalize hqq : 128 ^ (k + 1) = q' at *
          generalize 128 ^ k = q at *
          go_wp2
          go_roundw
          case rel => exact ⟨k + 1, t', by omega, by omega, by go_num, rfl, by rw [hqq], by rw [hqq]; exact NT, F, by trivial⟩
          case measure => simp [intOf]; omega
    · have E := Lib.hid (HR.out.trans (ruvGo_end (by omega) hlt))
      obtain rfl : k = b.length - p := by omega
      have hle : (p : Int) + ((b.length - p : Nat) : Int) = (b.length : Int) := by omega
      generalize b.length - p = k at *
      generalize 128 ^ k = q at *
      go_wp2
      go_ret3
      exact ⟨ret_ruv E.out, rfl⟩
end Go.Proofs.YthlkckpadjjbdaaDoor
namespace Go.Proofs.YthlkckpadjjbdaaDoor
open Go Go.RowKit
namespace R22

/-- The reader at block p. -/
structure Rr (S : Nat → Prop) (w : World) (p : Nat) (v : Value) (b : List Int) (r : RS) : Prop where
  row : w.heap[p]? = some (.cells #[v, .int .i64 r.at_, .int .i64 r.e, .int .i64 r.bad] 94 (0, 0))
  rd : RdI .u8 S w v b
  sep : ∀ x, S x → x ≠ p
  le : r.at_ ≤ b.length
theorem Rr.keeps {S T : Nat → Prop} {w w' : World} {p : Nat} {v : Value} {b : List Int} {r : RS} (h : Rr S w p v b r) (hk : Keeps T w w') (hp : T p) (hS : ∀ x, S x → T x) : Rr S w' p v b r :=
  ⟨(hk.block p (row_lt h.row) hp).trans h.row, h.rd.keeps (hk.mono fun x _ hx => hS x hx), h.sep, h.le⟩
theorem Rr.set {S : Nat → Prop} {w w' : World} {p : Nat} {v : Value} {b : List Int} {r : RS} (r' : RS) (h : Rr S w p v b r) (hk : Keeps (fun x => x ≠ p) w w')
    (hrow : w'.heap[p]? = some (.cells #[v, .int .i64 r'.at_, .int .i64 r'.e, .int .i64 r'.bad] 94 (0, 0))) (hl : r'.at_ ≤ b.length) : Rr S w' p v b r' :=
  ⟨hrow, h.rd.keeps (hk.mono fun x _ hx => h.sep x hx), h.sep, hl⟩

set_option maxRecDepth 100000 in
set_option maxHeartbeats 1600000 in
theorem rd_no (S) (w : World) (p : Nat) (v : Value) (b : List Int) (r : RS) (h : Rr S w p v b r) (e : Int) (k : Nat) (K : Int) (hK : (k : Int) = K) :
    Calls Tryd.prog 64 #[.pointer (some ⟨p, 0, none⟩), .int .i64 e, .int .i64 K] w fun en w' => en = .returned (.tuple #[]) ∧ Rr S w' p v b (r.no e k) ∧ Keeps (fun x => x ≠ p) w w' := by
  subst hK
  have c2 := row_cell h.row 2 rfl
  have f2 := row_free h.row 2
  have c3 := row_cell h.row 3 rfl
  have f3 := row_free h.row 3
  have H := Lib.hid h; clear h
  by_cases h0 : r.e = 0
  · have hb : (r.e == 0) = true := by simp [h0]
    have hk : Keeps (fun x => x ≠ p) w ((w.setCell ⟨p, 2, none⟩ (.int .i64 e)).setCell ⟨p, 3, none⟩ (.int .i64 k)) :=
      ((Keeps.refl _ w).setCell (a := ⟨p, 2, none⟩) (by simp) _).setCell (a := ⟨p, 3, none⟩) (by simp) _
    have fin := H.out.set (r.no e k) hk (by rw [RS.no, if_pos h0]; simpa using row_setCell (row_setCell H.out.row 2 (.int .i64 e)) 3 (.int .i64 k)) (by rw [RS.no, if_pos h0]; exact H.out.le)
    have HF := Lib.hid fin; have HK := Lib.hid hk; clear fin hk h0
    go_enter Tryd.func64, Tryd.ntmps64
    go_wp2
    all_goals exact bodyPost_end (results_none rfl _ _ _) rfl ⟨rfl, HF.out, HK.out⟩
  · have hb : (r.e == 0) = false := by simp [h0]
    have HF : Hid (Rr S w p v b (r.no e k)) := by show Rr _ _ _ _ _ _; rw [RS.no, if_neg h0]; exact H.out
    clear h0
    go_enter Tryd.func64, Tryd.ntmps64
    go_wp2
    all_goals exact bodyPost_end (results_none rfl _ _ _) rfl ⟨rfl, HF.out, Keeps.refl _ _⟩

theorem ref_ReadUvarQ (w : World) (S) (v : Value) (b : List Int) (hb : ∀ x ∈ b, 0 ≤ x ∧ x ≤ 255) (h : RdI .u8 S w v b) (p : Nat) (hp : p ≤ b.length) (x y : Nat) (z : Int) (hr : ruv b p = (x, y, z)) :
    Calls Tryd.prog 76 #[v, .int .i64 p] w fun e w' => e = .returned (.tuple #[.int .u64 x, .int .i64 y, .int .i64 z]) ∧ w' = w := by
  refine (ref_ReadUvar w S v b hb h p hp).mono ?_
  rintro e w' ⟨rfl, rfl⟩
  rw [hr]; exact ⟨rfl, rfl⟩

set_option maxRecDepth 100000 in
set_option maxHeartbeats 1600000 in
theorem rd_number (S) (w : World) (p : Nat) (v : Value) (b : List Int) (r : RS) (h : Rr S w p v b r) (hb : ∀ x ∈ b, 0 ≤ x ∧ x ≤ 255) (most : Nat) (M : Int) (hM : (most : Int) = M) (great : Int) (hg : great ≠ 0) :
    Calls Tryd.prog 61 #[.pointer (some ⟨p, 0, none⟩), .int .u64 M, .int .i64 great] w fun en w' => en = .returned (.int .u64 ((rnum b r most great).1 : Nat)) ∧ Rr S w' p v b (rnum b r most great).2 ∧ Keeps (fun x => x ≠ p) w w' := by
  subst hM
  have c0 := row_cell h.row 0 rfl
  have c1 := row_cell h.row 1 rfl
  have c2 := row_cell h.row 2 rfl
  have f1 := row_free h.row 1
  have H := Lib.hid h; have HB := Lib.hid hb; clear h hb
  by_cases h0 : r.e = 0
  · have hn : (r.e != 0) = false := by simp [h0]
    have HN : Hid (r.e = 0) := h0
    clear h0
    obtain ⟨x, y, z, hxyz⟩ : ∃ x y z, ruv b r.at_ = (x, y, z) := ⟨_, _, _, rfl⟩
    have hx64 : x ≤ 18446744073709551615 := by have := ruv_u64 b r.at_; rw [hxyz] at this; exact this
    have HXYZ := Lib.hid hxyz; clear hxyz
    by_cases hz : z = 0
    · subst hz
      have hy : y ≤ b.length := by have := ruv_le (b := b) (p := r.at_) (by rw [HXYZ.out]); rw [HXYZ.out] at this; exact this
      by_cases hm : most < x
      · have E : Hid (rnum b r most great = (0, r.no great r.at_)) := by show _ = _; rw [rnum, if_neg (by simp [HN.out]), HXYZ.out, if_neg (by simp), if_pos hm]
        have hgz : (great != 0) = true := by simp [hg]
        clear hg
        go_enter Tryd.func61, Tryd.ntmps61
        go_wp2
        go_quiet ((go_at_call 76; exact Calls.quiet_of_same (ref_ReadUvarQ _ S v b HB.out (H.out.rd.drewN _) r.at_ H.out.le x y 0 HXYZ.out)))
        go_wp2_with (go_at_call 64; refine (rd_no S _ p v b r (H.out.keeps (Keeps.of_drewN (S := fun _ => True) _) trivial fun _ _ => trivial) great r.at_ r.at_ rfl).mono ?_; rintro e w1 ⟨rfl, hr1, hk1⟩)
        go_ret
        rw [E.out]
        exact ⟨rfl, hr1, (Keeps.of_drewN _).trans hk1⟩
      · have E : Hid (rnum b r most great = (x, { r with at_ := y })) := by show _ = _; rw [rnum, if_neg (by simp [HN.out]), HXYZ.out, if_neg (by simp), if_neg hm]
        have hk : ∀ n, Hid (Keeps (fun x => x ≠ p) w ((w.drewN n).setCell ⟨p, 1, none⟩ (.int .i64 y))) := fun n =>
          (Keeps.of_drewN n).setCell (a := ⟨p, 1, none⟩) (by simp) _
        have fin : ∀ n, Hid (Rr S ((w.drewN n).setCell ⟨p, 1, none⟩ (.int .i64 y)) p v b { r with at_ := y }) := fun n => H.out.set { r with at_ := y } (hk n).out (by simpa using row_setCell (w := w.drewN n) H.out.row 1 (.int .i64 y)) hy
        have HK := Lib.hid hk; have HF := Lib.hid fin; clear hk fin
        go_enter Tryd.func61, Tryd.ntmps61
        go_wp2
        go_quiet ((go_at_call 76; exact Calls.quiet_of_same (ref_ReadUvarQ _ S v b HB.out (H.out.rd.drewN _) r.at_ H.out.le x y 0 HXYZ.out)))
        go_wp2
        go_ret
        rw [E.out]
        exact ⟨rfl, (HF.out _).out, (HK.out _).out⟩
    · have E : Hid (rnum b r most great = (0, r.no z r.at_)) := by show _ = _; rw [rnum, if_neg (by simp [HN.out]), HXYZ.out, if_pos (by simpa using hz)]
      have hz1 : (z == 0) = false := by simp [hz]
      have hz2 : (z != 0) = true := by simp [hz]
      clear hz
      go_enter Tryd.func61, Tryd.ntmps61
      go_wp2
      go_quiet ((go_at_call 76; exact Calls.quiet_of_same (ref_ReadUvarQ _ S v b HB.out (H.out.rd.drewN _) r.at_ H.out.le x y z HXYZ.out)))
      go_wp2_with (go_at_call 64; refine (rd_no S _ p v b r (H.out.keeps (Keeps.of_drewN (S := fun _ => True) _) trivial fun _ _ => trivial) z r.at_ r.at_ rfl).mono ?_; rintro e w1 ⟨rfl, hr1, hk1⟩)
      go_ret
      rw [E.out]
      exact ⟨rfl, hr1, (Keeps.of_drewN _).trans hk1⟩
  · have hn : (r.e != 0) = true := by simp [h0]
    have E : Hid (rnum b r most great = (0, r)) := by show _ = _; rw [rnum, if_pos h0]
    clear h0
    go_enter Tryd.func61, Tryd.ntmps61
    go_wp2
    go_ret
    rw [E.out]
    exact ⟨rfl, H.out, Keeps.refl _ _⟩

/-- A byte from least to most: where it is not, the reader stays. -/
def qoct (b : List Int) (r : RS) (least most : Int) : Int × RS :=
  if r.e ≠ 0 then (0, r)
  else if b.length ≤ r.at_ then (0, r.no 10 r.at_)
  else if b.getD r.at_ 0 < least ∨ most < b.getD r.at_ 0 then (0, r.no 17 r.at_)
  else (IntKind.i8.wrap (b.getD r.at_ 0), { r with at_ := r.at_ + 1 })
set_option maxRecDepth 100000 in
set_option maxHeartbeats 1600000 in
theorem rd_octet (S) (w : World) (p : Nat) (v : Value) (b : List Int) (r : RS) (h : Rr S w p v b r) (hb : ∀ x ∈ b, 0 ≤ x ∧ x ≤ 255) (least most : Int) :
    Calls Tryd.prog 60 #[.pointer (some ⟨p, 0, none⟩), .int .u8 least, .int .u8 most] w fun en w' => en = .returned (.int .i8 (qoct b r least most).1) ∧ Rr S w' p v b (qoct b r least most).2 ∧ Keeps (fun x => x ≠ p) w w' := by
  obtain ⟨a, cap, rfl, hc, hm, hcells⟩ := h.rd
  have HC := Lib.hid hcells; clear hcells
  have c0 := row_cell h.row 0 rfl
  have c1 := row_cell h.row 1 rfl
  have c2 := row_cell h.row 2 rfl
  have f1 := row_free h.row 1
  have H := Lib.hid h; have HB := Lib.hid hb; clear h hb
  have hle := H.out.le
  by_cases h0 : r.e = 0
  · have hn : (r.e != 0) = false := by simp [h0]
    have hn2 : (r.e == 0) = true := by simp [h0]
    have HN : Hid (r.e = 0) := h0
    clear h0
    by_cases hlt : r.at_ < b.length
    · obtain ⟨bb, off, rfl, hS, hcell⟩ := HC.out r.at_ hlt
      have hx := HB.out b[r.at_] (List.getElem_mem _)
      have HG : Hid (b.getD r.at_ 0 = b[r.at_]) := by show _ = _; simp [hlt]
      have i0 : (0 : Int) ≤ (r.at_ : Int) := by omega
      have i1 : (r.at_ : Int) < (b.length : Int) := by omega
      have i2 : decide ((b.length : Int) ≤ (r.at_ : Int)) = false := by rw [decide_eq_false_iff_not]; omega
      generalize b[r.at_] = c at *
      have fin : ∀ (w1 : World) (r1 : RS), Rr S w1 p (.slice (some ⟨bb, off, none⟩) b.length cap) b r1 → Keeps (fun x => x ≠ p) w w1 → r1.at_ = r.at_ →
          Rr S (w1.setCell ⟨p, 1, none⟩ (.int .i64 ((r.at_ : Int) + 1))) p (.slice (some ⟨bb, off, none⟩) b.length cap) b { r1 with at_ := r.at_ + 1 } ∧ Keeps (fun x => x ≠ p) w (w1.setCell ⟨p, 1, none⟩ (.int .i64 ((r.at_ : Int) + 1))) := by
        intro w1 r1 h1 k1 _
        have hk : Keeps (fun x => x ≠ p) w1 (w1.setCell ⟨p, 1, none⟩ (.int .i64 ((r.at_ : Int) + 1))) := (Keeps.refl _ w1).setCell (a := ⟨p, 1, none⟩) (by simp) _
        exact ⟨h1.set { r1 with at_ := r.at_ + 1 } hk (by simpa using row_setCell h1.row 1 (.int .i64 ((r.at_ : Int) + 1))) (by show r.at_ + 1 ≤ _; omega), k1.trans hk⟩
      have HF := Lib.hid fin; clear fin
      by_cases hr : c < least ∨ most < c
      · have E : Hid (qoct b r least most = (0, r.no 17 r.at_)) := by
          show _ = _
          rw [qoct, if_neg (by simp [HN.out]), if_neg (by omega), HG.out, if_pos hr]
        go_enter Tryd.func60, Tryd.ntmps60
        go_wp2
        go_quiet (fail)
        go_wp2
        go_quiet (fail)
        go_wp2_with fail
        all_goals ((with_reducible refine (rd_no S _ p _ b r (H.out.keeps (Keeps.of_drewN (S := fun _ => True) _) trivial fun _ _ => trivial) 17 r.at_ r.at_ rfl).mono ?_); rintro e w1 ⟨rfl, hr1, hk1⟩)
        all_goals go_wp2
        all_goals go_ret
        all_goals rw [E.out]
        all_goals exact ⟨rfl, hr1, (Keeps.of_drewN _).trans hk1⟩
      · have E : Hid (qoct b r least most = (IntKind.i8.wrap c, { r with at_ := r.at_ + 1 })) := by
          show _ = _
          rw [qoct, if_neg (by simp [HN.out]), if_neg (by omega), HG.out, if_neg hr]
        have hr1 : least ≤ c := by omega
        have hr2 : c ≤ most := by omega
        clear hr
        go_enter Tryd.func60, Tryd.ntmps60
        go_wp2
        go_quiet (fail)
        go_wp2
        go_quiet (fail)
        go_wp2
        go_ret
        rw [E.out]
        exact ⟨rfl, HF.out _ r (H.out.keeps (Keeps.of_drewN (S := fun _ => True) _) trivial fun _ _ => trivial) (Keeps.of_drewN _) rfl⟩
    · have E : Hid (qoct b r least most = (0, r.no 10 r.at_)) := by show _ = _; rw [qoct, if_neg (by simp [HN.out]), if_pos (by omega)]
      have hge : b.length ≤ r.at_ := by omega
      have hne : (r.no 10 r.at_).e = 10 := by unfold RS.no; rw [if_pos HN.out]
      have HNE := Lib.hid hne; clear hne
      go_enter Tryd.func60, Tryd.ntmps60
      go_wp2
      go_quiet (fail)
      go_wp2_with fail
      (with_reducible refine (rd_no S _ p _ b r (H.out.keeps (Keeps.of_drewN (S := fun _ => True) _) trivial fun _ _ => trivial) 10 r.at_ r.at_ rfl).mono ?_)
      rintro e w1 ⟨rfl, hr1, hk1⟩
      have d2 := row_cell hr1.row 2 rfl
      simp only [List.getElem_toArray, List.getElem_cons_zero, List.getElem_cons_succ] at d2
      rw [HNE.out] at d2
      go_wp2
      go_ret
      rw [E.out]
      exact ⟨rfl, hr1, (Keeps.of_drewN _).trans hk1⟩
  · have hn : (r.e != 0) = true := by simp [h0]
    have hn2 : (r.e == 0) = false := by simp [h0]
    have E : Hid (qoct b r least most = (0, r)) := by show _ = _; rw [qoct, if_pos h0]
    clear h0
    go_enter Tryd.func60, Tryd.ntmps60
    go_wp2
    go_quiet (fail)
    go_wp2
    go_ret
    rw [E.out]
    exact ⟨rfl, H.out.keeps (Keeps.of_drewN (S := fun _ => True) _) trivial fun _ _ => trivial, Keeps.of_drewN _⟩

/-- n numbers more, behind acc, as long as no error is told. -/
def qvalsGo (b : List Int) : Nat → RS → List Int → List Int × RS
  | 0, r, acc => (acc, r)
  | n + 1, r, acc =>
    if r.e ≠ 0 then (acc, r)
    else qvalsGo b n (rnum b r 18446744073709551615 17).2 (acc ++ [((rnum b r 18446744073709551615 17).1 : Int)])
/-- A list of at most so many numbers. -/
def qvals (b : List Int) (r : RS) (most : Nat) : List Int × RS := qvalsGo b (rnum b r most 20).1 (rnum b r most 20).2 []
theorem rvals_step {S : Nat → Prop} {w w2 w3 : World} {p g cap x : Nat} {v l : Value} {b xs : List Int} {r3 : RS} {T o : Nat} (hr : Rr S w2 p v b r3) (hk : Keeps (fun y => y ≠ p) w w2) (hS : ∀ y, S y → y < w.heap.size)
    (ho : w2.ownsRow w.heap.size T 1 l xs.length (xs.map (Value.int .u64))) (hp : ∀ y, l.ownBlock = some y → y ≠ p)
    (hown3 : w3.ownsRow w.heap.size T 1 (.slice (some ⟨g, 0, none⟩) (xs.length + 1) cap) (xs.length + 1) (xs.map (Value.int .u64) ++ [.int .u64 x]))
    (hgrow3 : (w2.alloc (.cells #[.int .u64 x] o)).grownBy w3 l.ownBlock) (hat : l.ownBlock = some g ∨ g = (w2.alloc (.cells #[.int .u64 x] o)).heap.size) (hpw : p < w.heap.size) :
    Rr S w3 p v b r3 ∧ Keeps (fun y => y ≠ p) w w3 ∧
      Hid (w3.ownsRow w.heap.size T 1 (.slice (some ⟨g, 0, none⟩) (xs.length + 1) cap) (xs ++ [(x : Int)]).length ((xs ++ [(x : Int)]).map (Value.int .u64))) ∧ Hid (∀ y, (Value.slice (some ⟨g, 0, none⟩) (xs.length + 1) cap).ownBlock = some y → y ≠ p) := by
  have hsz := hk.size
  have hlb : ∀ y, l.ownBlock = some y → w.heap.size ≤ y := fun y hy => (ho.lt y hy).1
  have k3 : Keeps (fun y => l.ownBlock ≠ some y) w2 w3 := ((Keeps.refl _ w2).alloc _).grown hgrow3 fun k hk _ h => h hk
  refine ⟨hr.keeps k3 (fun e => hp p e rfl) (fun y hy e => ?_), hk.trans' k3 fun y hy hyp => ⟨hyp, fun e => ?_⟩, ?_, ?_⟩
  · have := hS y hy; have := hlb y e; omega
  · have := hlb y e; omega
  · simpa [Hid] using hown3
  · intro y hy
    simp only [Value.ownBlock, Option.some.injEq] at hy
    subst hy
    rcases hat with h | h
    · exact hp _ h
    · rw [World.size_alloc] at h; omega

set_option maxRecDepth 100000 in
set_option maxHeartbeats 1600000 in
theorem rd_values (S) (w : World) (p : Nat) (v : Value) (b : List Int) (r : RS) (h : Rr S w p v b r) (hb : ∀ x ∈ b, 0 ≤ x ∧ x ≤ 255) (hS : ∀ x, S x → x < w.heap.size) (most : Nat) (M : Int) (hM : (most : Int) = M) (hmost : most ≤ 1000000) :
    Calls Tryd.prog 62 #[.pointer (some ⟨p, 0, none⟩), .int .u64 M] w fun en w' => ∃ v', en = .returned v' ∧ w'.ownsRow w.heap.size 63 1 v' (qvals b r most).1.length ((qvals b r most).1.map (Value.int .u64)) ∧
      Rr S w' p v b (qvals b r most).2 ∧ Keeps (fun x => x ≠ p) w w' := by
  subst hM
  obtain ⟨i0, hi, hz0, hz1, hz2⟩ := info_parts Tryd.infoU64
  have H := Lib.hid h; have HB := Lib.hid hb; clear h hb
  have hnle := rnum_le b r most 20
  have HRV : Hid (qvals b r most = qvalsGo b (rnum b r most 20).1 (rnum b r most 20).2 []) := rfl
  have hpw := row_lt H.out.row
  go_enter Tryd.func62, Tryd.ntmps62
  go_wp2_with fail
  (with_reducible refine (rd_number S _ p v b r H.out HB.out most most rfl 20 (by omega)).mono ?_)
  rintro e w1 ⟨rfl, hr1, hk1⟩
  generalize (rnum b r most 20).1 = n at *
  generalize (rnum b r most 20).2 = r1 at *
  have HR1 := Lib.hid hr1; have HK1 := Lib.hid hk1; clear hr1 hk1
  have hsz1 := HK1.out.size
  go_wp2
  go_loopw [5, 7] (fun l i wr => ∃ (k : Nat) (xs : List Int) (r2 : RS), k ≤ n ∧ i = .int .u64 k ∧ xs.length = k ∧ Hid (wr.ownsRow w.heap.size 63 1 l xs.length (xs.map (Value.int .u64))) ∧ Hid (∀ y, l.ownBlock = some y → y ≠ p) ∧ Hid (Rr S wr p v b r2) ∧ Hid (Keeps (fun x => x ≠ p) w wr) ∧
    Hid (qvals b r most = qvalsGo b (n - k) r2 xs)) (fun _ i _ => n - (intOf i).toNat)
  case atStart => exact ⟨0, [], r1, by omega, rfl, rfl, World.ownsRow_nil _ _ _ _, (show ∀ y, _ from fun y hy => by simp [Value.ownBlock] at hy), HR1, HK1, HRV⟩
  case round =>
    obtain ⟨k, xs, r2, hk, rfl, hxk, HO, HNP, HR, HK, HE⟩ := hrel
    have d2 := row_cell HR.out.row 2 rfl
    by_cases hlt : k < n
    · by_cases he2 : r2.e = 0
      · have hn2 : (r2.e == 0) = true := by simp [he2]
        have HSTEP : Hid (qvals b r most = qvalsGo b (n - (k + 1)) (rnum b r2 18446744073709551615 17).2 (xs ++ [((rnum b r2 18446744073709551615 17).1 : Int)])) := by
          show _ = _
          rw [HE.out, show n - k = (n - (k + 1)) + 1 by omega, qvalsGo, if_neg (by simp [he2])]
        clear he2
        have hrl := rnum_u64 b r2 18446744073709551615 17
        have hszr := HK.out.size
        have hxl : xs.length ≤ 1000000 := by omega
        have HXK := Lib.hid hxk
        clear hxk
        go_wp2_with fail
        (with_reducible refine (rd_number S _ p v b r2 HR.out HB.out 18446744073709551615 18446744073709551615 (by omega) 17 (by omega)).mono ?_)
        rintro e w2 ⟨rfl, hr2, hk2⟩
        have HO2 := Lib.hid (own_keeps HO.out hk2 HNP.out)
        have HR2 := Lib.hid hr2; have HK2 := Lib.hid (HK.out.trans hk2)
        have hsz2 := HK2.out.size
        clear hr2 hk2 HO
        generalize (rnum b r2 18446744073709551615 17).1 = x at *
        generalize (rnum b r2 18446744073709551615 17).2 = r3 at *
        go_wp2_with (at_builtin; refine wpList_append_lies _ rfl _ _ 23 rfl w.heap.size 63 i0 (.int .u64 0) 1 8 Tryd.underlying23 hi hz0 hz1 hz2 rfl (by decide) _ _ _ rfl (HO2.out.alloc _) ⟨w2.heap.size, 0, none⟩ 1 1 [.int .u64 x] rfl rfl (cell_one_new _ _ _) (by simp [Value.oneCell']) (by omega) (by unfold maxLen; omega) (by omega) (by rw [World.size_alloc]; omega) _ rfl ?_; intro g cap w3 hown3 hgrow3 hat hlt3; have P := Lib.hid (rvals_step HR2.out HK2.out hS HO2.out HNP.out hown3 hgrow3 hat hpw); clear hown3 hgrow3 hat)
        go_roundw
        case rel => exact ⟨k + 1, xs ++ [(x : Int)], r3, by omega, by go_num, by rw [List.length_append, HXK.out]; rfl, P.out.2.2.1, P.out.2.2.2, P.out.1, P.out.2.1, HSTEP⟩
        case measure => simp [intOf]; omega
      · have hn2 : (r2.e == 0) = false := by simp [he2]
        have E : Hid (qvals b r most = (xs, r2)) := by show _ = _; rw [HE.out, show n - k = (n - (k + 1)) + 1 by omega, qvalsGo, if_pos he2]
        clear he2
        go_wp2
        go_ret
        rw [E.out]
        exact ⟨_, rfl, HO.out, HR.out, HK.out⟩
    · obtain rfl : k = n := by omega
      have E : Hid (qvals b r most = (xs, r2)) := by show _ = _; rw [HE.out, Nat.sub_self, qvalsGo]
      have hlt' : decide ((k : Int) < (k : Int)) = false := by simp
      go_wp2
      go_ret
      rw [E.out]
      exact ⟨_, rfl, HO.out, HR.out, HK.out⟩
end R22
end Go.Proofs.YthlkckpadjjbdaaDoor
