/- flagonref22: number, values, noughts. -/
import Derived.Test.YthlkckpadjjbdaaDoorRef1U
import Derived.Test.YthlkckpadjjbdaaDoorWrite
import Derived.Test.YthlkckpadjjbdaaDoorMKept
namespace Go.Proofs.YthlkckpadjjbdaaDoor
open Go Go.RowKit

/-- A list that is written: all of it is new since w0. -/
structure Rw (w0 w : World) (v : Value) (pre : List Int) : Prop where
  own : w.ownsRow w0.heap.size 5 1 v pre.length (pre.map (Value.int .u8))
  bel : Below w0.heap.size w0 w
theorem Rw.on {w0 w w' : World} {v : Value} {pre : List Int} (h : Rw w0 w v pre) (hb : Below w.heap.size w w') : Rw w0 w' v pre :=
  ⟨own_below h.own hb, below_next h.bel hb⟩
theorem Rw.grow {w0 w w' : World} {v v' : Value} {pre ys : List Int} (h : Rw w0 w v pre) (hg : w.grownBy w' v.ownBlock)
    (ho : w'.ownsRow w0.heap.size 5 1 v' (pre.length + ys.length) (pre.map (Value.int .u8) ++ ys.map (Value.int .u8))) : Rw w0 w' v' (pre ++ ys) :=
  ⟨by simpa using ho, h.bel.grown hg h.bel.size fun k hk => (h.own.lt k hk).1⟩
theorem Rw.rd {w0 w : World} {v : Value} {l pre : List Int} {S : Nat → Prop} {u : Value} {k : IntKind} (h : Rw w0 w v pre) (hr : RdI k S w0 u l) : RdI k (fun _ => True) w u l :=
  (hr.keeps (Keeps.all _ h.bel)).mono fun _ _ _ => trivial
theorem Rw.as {w0 w : World} {v : Value} {pre pre' : List Int} (h : Rw w0 w v pre) (e : pre = pre') : Rw w0 w v pre' := e ▸ h

/-- A writer's way: all blocks but its own stand; its own block stays, or is a new one. -/
structure Way (w : World) (v : Value) (w' : World) (v' : Value) : Prop where
  keep : Keeps (fun b => v.ownBlock ≠ some b) w w'
  at_ : ∀ b, v'.ownBlock = some b → v.ownBlock = some b ∨ w.heap.size ≤ b
theorem Way.refl (w : World) (v : Value) : Way w v w v := ⟨Keeps.refl _ _, fun _ h => .inl h⟩
theorem Way.trans {w w1 w2 : World} {v v1 v2 : Value} (h : Way w v w1 v1) (k : Way w1 v1 w2 v2) : Way w v w2 v2 :=
  ⟨h.keep.trans' k.keep fun b hb hs => ⟨hs, fun e => (h.at_ b e).elim hs fun h => by omega⟩, fun b e => (k.at_ b e).elim (fun e => h.at_ b e) fun hb => .inr (Nat.le_trans h.keep.size hb)⟩

set_option maxRecDepth 100000 in
set_option maxHeartbeats 800000 in
theorem ref22_number (w0 w : World) (v : Value) (pre : List Int) (h : Rw w0 w v pre) (hl : pre.length ≤ 1099511627776) (n : Nat) (hn : n ≤ 18446744073709551615) :
    Calls Tryd.prog 29 #[v, .int .u64 n] w fun e w' => ∃ v', e = .returned v' ∧ Rw w0 w' v' (pre ++ uv n) ∧ Way w v w' v' := by
  obtain ⟨i0, hi, hz0, hz1, hz2⟩ := info_parts Tryd.infoU8
  have H := Lib.hid h; clear h
  have hu10 := uv_len10 hn
  go_enter Tryd.func29, Tryd.ntmps29
  go_wp2_with fail
  refine (ref_Uvar _ n hn).mono ?_
  rintro e w5 ⟨v5, rfl, hown5, hb5⟩
  have H5 := Lib.hid (H.out.on hb5)
  have HB5 := Lib.hid hb5
  obtain ⟨g5, cap5, rfl, _, _⟩ := hown5.form (uv_pos _)
  clear hb5 H
  go_wp2_with (at_builtin; refine wpList_append_kept _ rfl _ _ 31 rfl w0.heap.size 5 i0 (.int .u8 0) 1 1 Tryd.underlying31 hi hz0 hz1 hz2 rfl (by decide) _ _ _ rfl H5.out.own ⟨g5, 0, none⟩ (uv n).length cap5 ((uv n).map (Value.int .u8)) rfl (by simp) (hown5.cells rfl) (by intro u hu; simp at hu; obtain ⟨x, _, rfl⟩ := hu; rfl) (by unfold maxLen; simp; omega) (by simp; omega) H5.out.bel.size ?_)
  intro v6 w6 hown6 hkept6 hat6
  have hgrow6 := hkept6.grown
  have H6 := Lib.hid (H5.out.grow (ys := uv n) hgrow6 hown6)
  have HWY : Hid (Way w v w6 v6) := Lib.hid ⟨(Keeps.all _ HB5.out).grown hgrow6 fun k hk _ hs => hs hk, fun b e => (hat6 b e).imp id fun h => Nat.le_trans HB5.out.size h⟩
  clear hkept6 hat6 HB5
  clear hown5 hown6 hgrow6 H5
  go_wp2
  go_ret
  exact ⟨v6, rfl, H6.out, HWY.out⟩

theorem encVals_take {l : List Int} {k : Nat} (h : k < l.length) (pre : List Int) : pre ++ uv l.length ++ ((l.take k).flatMap fun x => uv x.toNat) ++ uv (l[k]).toNat = pre ++ uv l.length ++ ((l.take (k + 1)).flatMap fun x => uv x.toNat) := by
  rw [flatMap_take_succ _ _ _ h]; simp only [List.append_assoc]
theorem flat_len10 {l : List Int} (h : U64s l) : (l.flatMap fun x => uv x.toNat).length ≤ 10 * l.length := by
  induction l with
  | nil => simp
  | cons x l ih =>
    have := ih fun y hy => h y (by simp [hy])
    have := uv_len10 (n := x.toNat) (by have := h x (by simp); omega)
    simp only [List.flatMap_cons, List.length_append, List.length_cons]; omega
theorem U64s.take {l : List Int} (h : U64s l) (k : Nat) : U64s (l.take k) := fun x hx => h x (List.mem_of_mem_take hx)
set_option maxRecDepth 100000 in
set_option maxHeartbeats 800000 in
theorem ref22_values (w0 w : World) (v : Value) (pre : List Int) (h : Rw w0 w v pre) (S) (lv : Value) (l : List Int) (hr : RdI .u64 S w0 lv l) (hw : U64s l) (hl : pre.length + 10 * l.length ≤ 1099511627000) :
    Calls Tryd.prog 30 #[v, lv] w fun e w' => ∃ v', e = .returned v' ∧ Rw w0 w' v' (pre ++ encVals l) ∧ Way w v w' v' := by
  have H := Lib.hid h; have HL := Lib.hid hr; have HW := Lib.hid hw
  obtain ⟨va, vc, rfl, hlc⟩ := hr.lenc
  have hu10 := uv_len10 (n := l.length) (by omega)
  have HE : Hid (pre ++ encVals l = pre ++ uv l.length ++ l.flatMap fun x => uv x.toNat) := Lib.hid (by rw [encVals, List.append_assoc])
  rw [HE.out]
  clear h hr hw HE
  have e1 : IntKind.u64.wrap (l.length : Int) = (l.length : Int) := IntWalk.u64_in _ ⟨by omega, by omega⟩
  have e2 : (l.length : Int) % 18446744073709551616 = (l.length : Int) := by omega
  go_enter Tryd.func30, Tryd.ntmps30
  go_wp2_with fail
  refine (ref22_number w0 w v pre H.out (by omega) l.length (by omega)).mono ?_
  rintro e w1 ⟨v1, rfl, h1, y1⟩
  have H1 := Lib.hid h1; have Y1 := Lib.hid y1
  clear h1 y1 H e1 e2
  go_wp2
  go_loopw [0, 5] (fun vb i wr => ∃ k : Nat, k ≤ l.length ∧ i = .int .i64 k ∧ Hid (Rw w0 wr vb (pre ++ uv l.length ++ ((l.take k).flatMap fun x => uv x.toNat))) ∧ Hid (Way w v wr vb)) (fun _ i _ => l.length - (intOf i).toNat)
  case atStart => exact ⟨0, by omega, rfl, Lib.hid (by simpa using H1.out), Y1⟩
  case round =>
    obtain ⟨k, hk, rfl, HR, HY⟩ := hrel
    clear H1 Y1
    by_cases hlt : k < l.length
    · obtain ⟨va', vc', e, _, _, hce⟩ := HR.out.rd HL.out
      simp only [Value.slice.injEq] at e
      obtain ⟨rfl, -, rfl⟩ := e
      obtain ⟨bb, off, rfl, _, hcl⟩ := hce k hlt
      clear hce
      have HX := Lib.hid (HW.out _ (List.getElem_mem hlt))
      have HN := Lib.hid (encVals_take hlt pre)
      have hlen : (pre ++ uv l.length ++ ((l.take k).flatMap fun x => uv x.toNat)).length ≤ 1099511627776 := by
        have := flat_len10 (HW.out.take k)
        simp only [List.length_append, List.length_take] at this ⊢; omega
      obtain ⟨x, hx⟩ : ∃ x : Nat, l[k] = (x : Int) := Int.eq_ofNat_of_zero_le HX.out.1
      rw [hx] at hcl HX HN
      clear hx
      go_wp2_with fail
      refine (ref22_number w0 wr _ _ HR.out hlen x (by have := HX.out; omega)).mono ?_
      rintro e w2 ⟨v2, rfl, h2, y2⟩
      have Y2 := Lib.hid (HY.out.trans y2)
      clear y2
      rw [show ((x : Int)).toNat = x from rfl] at HN
      have H2 := Lib.hid (h2.as HN.out)
      clear h2 hcl
      go_wp2
      go_roundw
      case rel => exact ⟨k + 1, by omega, by go_num, H2, Y2⟩
      case measure => simp [intOf]; omega
    · obtain rfl : k = l.length := by omega
      go_wp2
      go_ret
      exact ⟨_, rfl, by simpa using HR.out, HY.out⟩

set_option maxRecDepth 100000 in
set_option maxHeartbeats 800000 in
theorem ref22_noughts (w : World) (S) (v : Value) (l : List Int) (hr : RdI .u8 S w v l) :
    Calls Tryd.prog 31 #[v] w fun e w' => e = .returned (.bool (l.all fun x => decide (x = 0))) ∧ w' = w := by
  have HL := Lib.hid hr
  obtain ⟨va, vc, rfl, hlc⟩ := hr.lenc
  clear hr
  go_enter Tryd.func31, Tryd.ntmps31
  go_wp2
  go_loopw [3] (fun i wr => ∃ k : Nat, k ≤ l.length ∧ i = .int .i64 k ∧ wr = w ∧ Hid ((l.take k).all (fun x => decide (x = 0)) = true)) (fun i _ => l.length - (intOf i).toNat)
  case atStart => exact ⟨0, by omega, rfl, rfl, Lib.hid (by simp)⟩
  case round =>
    obtain ⟨k, hk, rfl, rfl, HA⟩ := hrel
    by_cases hlt : k < l.length
    · obtain ⟨va', vc', e, _, _, hce⟩ := HL.out
      simp only [Value.slice.injEq] at e
      obtain ⟨rfl, -, rfl⟩ := e
      obtain ⟨bb, off, rfl, _, hcl⟩ := hce k hlt
      clear hce
      have HM := Lib.hid (List.getElem_mem hlt)
      have HN := Lib.hid (all_take_succ (fun x : Int => decide (x = 0)) l k hlt)
      generalize l[k] = x at *
      by_cases hx : x = 0
      · subst hx
        go_wp2
        go_roundw
        case rel => exact ⟨k + 1, by omega, by go_num, by trivial, Lib.hid (by rw [HN.out, HA.out]; rfl)⟩
        case measure => simp [intOf]; omega
      · have hx' : (x != 0) = true := by rw [bne_iff_ne]; exact hx
        go_wp2
        go_ret
        exact ⟨ret_bool (by symm; rw [List.all_eq_false]; exact ⟨x, HM.out, by simpa using hx⟩), rfl⟩
    · obtain rfl : k = l.length := by omega
      have HA' : Hid (l.all (fun x => decide (x = 0)) = true) := Lib.hid (by have := HA.out; rw [List.take_length] at this; exact this)
      go_wp2
      go_ret
      exact ⟨ret_bool HA'.out.symm, rfl⟩
end Go.Proofs.YthlkckpadjjbdaaDoor
