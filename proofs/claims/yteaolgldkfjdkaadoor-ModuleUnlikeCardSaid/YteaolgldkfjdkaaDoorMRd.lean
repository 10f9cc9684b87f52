/- module's reader: number, with whatever it asks; upTo; index. wire.counted, wire.ReadText; module's reader: text, lettered, octet. module's reader: how head and body stand: the reader, the module that is read, all its lists owned. module's reader: what a global's reading answers, step by step. -/
import Derived.Test.YteaolgldkfjdkaaDoorMMod
import Derived.Test.YteaolgldkfjdkaaDoorMSmall
import Derived.Shelf.Abstract
import Derived.Shelf.Bytes.SlSmallAll
import Derived.Test.YteaolgldkfjdkaaDoorMHead0
import Derived.Test.YteaolgldkfjdkaaDoorMTwice
import Derived.Test.YteaolgldkfjdkaaDoorMInstr4
namespace Go.Proofs.YteaolgldkfjdkaaDoor
open Go Go.RowKit

/-- The reader at block p. -/
structure Rm (S : Nat → Prop) (w : World) (p mb : Nat) (bv : Value) (b : List Int) (al : Int) (at_ : Nat) : Prop where
  row : w.heap[p]? = some (.cells #[.pointer (some ⟨mb, 0, none⟩), .int .i64 al, bv, .int .i64 at_] 68 (0, 0))
  rd : RdI .u8 S w bv b
  le : at_ ≤ b.length
theorem Rm.keeps {S T : Nat → Prop} {w w' : World} {p mb : Nat} {bv : Value} {b : List Int} {al : Int} {at_ : Nat} (h : Rm S w p mb bv b al at_) (hk : Keeps T w w') (hp : T p) (hS : ∀ x, S x → T x) : Rm S w' p mb bv b al at_ :=
  ⟨(hk.block p (row_lt h.row) hp).trans h.row, h.rd.keeps (hk.mono fun x _ hx => hS x hx), h.le⟩
theorem Rm.on {S : Nat → Prop} {w w' : World} {p mb : Nat} {bv : Value} {b : List Int} {al : Int} {at_ : Nat} (h : Rm S w p mb bv b al at_) (hb : Below w.heap.size w w') : Rm S w' p mb bv b al at_ :=
  h.keeps (Keeps.all (fun _ => True) hb) trivial fun _ _ => trivial
/-- How a reading ends. -/
def RmE {α : Type} (S : Nat → Prop) (w : World) (p mb : Nat) (bv : Value) (b : List Int) (al : α → Int) (res : Except (Int × Nat) (α × Nat)) (val : α → Value) (r : Ending) (w' : World) : Prop :=
  (∃ x q, res = .ok (x, q) ∧ r = .returned (val x) ∧ Rm S w' p mb bv b (al x) q ∧ Keeps (fun b => b ≠ p) w w') ∨ (∃ e k, res = .error (e, k) ∧ r = .panicked (thrown e (k : Nat)) ∧ Keeps (fun b => b ≠ p) w w')
/-- A number that is asked. -/
def rask (ask : Nat → Int) : RdM Nat := fun b p =>
  if (ruv b p).2.2 ≠ 0 then .error ((ruv b p).2.2, p) else if ask (ruv b p).1 ≠ 0 then .error (ask (ruv b p).1, p) else .ok ((ruv b p).1, (ruv b p).2.1)
theorem rask_at (ask : Nat → Int) (b : List Int) (p : Nat) : rask ask b p = if (ruv b p).2.2 ≠ 0 then .error ((ruv b p).2.2, p) else if ask (ruv b p).1 ≠ 0 then .error (ask (ruv b p).1, p) else .ok ((ruv b p).1, (ruv b p).2.1) := rfl
theorem rask_rnum (most : Nat) {err : Int} (he : err ≠ 0) : rask (fun n => if most < n then err else 0) = rnum most err := by
  funext b p
  rw [rask_at, rnum]
  obtain ⟨x, y, z⟩ := ruv b p
  simp only
  split
  · rfl
  · by_cases h : most < x
    · simp only [if_pos h, if_pos he]
    · simp only [if_neg h, ne_eq, not_true, if_false]
theorem rask_ask (most : Nat) {err : Int} (he : err ≠ 0) (t : Nat → Int) : rask (fun n => if most < n then err else t n) = (rnum most err).ask t := by
  funext b p
  rw [rask_at, RdM.ask, rnum]
  obtain ⟨x, y, z⟩ := ruv b p
  simp only
  by_cases h0 : z ≠ 0
  · simp only [if_pos h0]
  · simp only [if_neg h0]
    by_cases h : most < x
    · simp only [if_pos h, if_pos he]
    · simp only [if_neg h]
      by_cases h2 : t x = 0
      · simp [h2]
      · simp [h2]
theorem wire_ReadUvarQ5 (w : World) (S) (v : Value) (b : List Int) (hb : Bytes b) (h : RdI .u8 S w v b) (p : Nat) (hp : p ≤ b.length) (x y : Nat) (z : Int) (hr : ruv b p = (x, y, z)) :
    Calls Tryd.prog 62 #[v, .int .i64 p] w fun e w' => e = .returned (.tuple #[.int .u64 x, .int .i64 y, .int .i64 z]) ∧ w' = w := by
  refine (wire_ReadUvar w S v b hb h p hp).mono ?_
  rintro e w' ⟨rfl, rfl⟩
  rw [hr]; exact ⟨rfl, rfl⟩
set_option maxRecDepth 100000 in
set_option maxHeartbeats 1600000 in
theorem rm_number (S) (w : World) (p mb : Nat) (bv : Value) (b : List Int) (al : Int) (at_ : Nat) (h : Rm S w p mb bv b al at_) (hb : Bytes b) (hS : ∀ x, S x → x ≠ p) (K : Nat) (hent : Hid (∀ args wx, (callFunc K args).run Tryd.prog wx = .ok (.enter K args) wx)) (caps : Array Value) (ask : Nat → Int) (al' : Nat → Int)
    (hu : ∀ n, ask n = 0 → n ≤ 9223372036854775807)
    (hf : ∀ wx, Below w.heap.size w wx → Calls Tryd.prog K (#[.int .u64 (ruv b at_).1, .int .i64 at_] ++ caps) wx fun r w' =>
      (ask (ruv b at_).1 = 0 ∧ r = .returned (.tuple #[]) ∧ Keeps (fun b => b ≠ p) wx w' ∧ w'.heap[p]? = some (.cells #[.pointer (some ⟨mb, 0, none⟩), .int .i64 (al' (ruv b at_).1), bv, .int .i64 at_] 68 (0, 0))) ∨
      (ask (ruv b at_).1 ≠ 0 ∧ r = .panicked (thrown (ask (ruv b at_).1) at_) ∧ Keeps (fun b => b ≠ p) wx w')) :
    Calls Tryd.prog 44 #[.pointer (some ⟨p, 0, none⟩), .func (.func K) #[] caps] w (RmE S w p mb bv b al' (rask ask b at_) fun n => .int .i64 n) := by
  have c2 := row_cell h.row 2 rfl
  have c3 := row_cell h.row 3 rfl
  have f3 := row_free h.row 3
  simp only [List.getElem_toArray, List.getElem_cons_zero, List.getElem_cons_succ] at c2 c3
  have H := Lib.hid h; have HB := Lib.hid hb; have HS := Lib.hid hS; have HU := Lib.hid hu
  obtain ⟨x, y, z, hxyz⟩ : ∃ x y z, ruv b at_ = (x, y, z) := ⟨_, _, _, rfl⟩
  have hx64 : x ≤ 18446744073709551615 := by have := ruv_u64 b at_; rw [hxyz] at this; exact this
  rw [hxyz] at hf
  have HXYZ := Lib.hid hxyz; have HF := Lib.hid hf
  clear hxyz hf h hb hS hu
  by_cases hz : z = 0
  · subst hz
    have hy : y ≤ b.length := by have := ruv_le (b := b) (p := at_) (by rw [HXYZ.out]); rw [HXYZ.out] at this; exact this
    go_enter Tryd.func44, Tryd.ntmps44
    go_wp2
    go_quiet ((go_at_call 62; exact Calls.quiet_of_same (wire_ReadUvarQ5 _ S bv b HB.out (H.out.rd.drewN _) at_ H.out.le x y 0 HXYZ.out)))
    have he1 := hent.out (#[.int .u64 x, .int .i64 at_] ++ caps) (w.drewN nq)
    go_wp2_with (go_at_call 20; refine (mod_ask _ _ _ _).mono ?_; rintro r w1 ⟨rfl, rfl⟩)
    clear he1
    refine (HF.out _ (drewN_below _ _)).mono ?_
    rintro r w2 (⟨e1, rfl, k1, r1⟩ | ⟨e1, rfl, k1⟩)
    rotate_left
    · exact ⟨rfl, .inr ⟨_, _, by rw [rask_at, HXYZ.out, if_neg (by simp), if_pos e1], rfl, (Keeps.of_drewN _).trans k1⟩⟩
    have hxm := HU.out x e1
    have hwr : IntKind.i64.wrap (x : Int) = x := IntWalk.i64_in _ ⟨by omega, by omega⟩
    have f4 := row_free r1 3
    have c4 := row_cell r1 3 rfl
    simp only [List.getElem_toArray, List.getElem_cons_zero, List.getElem_cons_succ] at c4
    have R1 := Lib.hid r1; have K1 := Lib.hid k1
    clear r1 k1
    go_wp2_with fail
    go_ret
    refine .inl ⟨x, y, by rw [rask_at, HXYZ.out, if_neg (by simp), if_neg (by simpa using e1)], ret_int rfl, ?_, ?_⟩
    · have hk := ((Keeps.of_drewN (S := fun b => b ≠ p) (w := w) nq).trans K1.out).setCell (a := ⟨p, 3, none⟩) (by simp) (.int .i64 y)
      exact ⟨by simpa using row_setCell R1.out 3 (.int .i64 y), H.out.rd.keeps (hk.mono fun b _ hb => HS.out b hb), hy⟩
    · exact ((Keeps.of_drewN nq).trans K1.out).setCell (a := ⟨p, 3, none⟩) (by simp) _
  · have hz1 : (z == 0) = false := by simp [hz]
    have HZ := Lib.hid hz
    clear hz
    go_enter Tryd.func44, Tryd.ntmps44
    go_wp2
    go_quiet ((go_at_call 62; exact Calls.quiet_of_same (wire_ReadUvarQ5 _ S bv b HB.out (H.out.rd.drewN _) at_ H.out.le x y z HXYZ.out)))
    go_wp2_with (go_at_call 20; refine (mod_ask _ _ _ _).mono ?_; rintro r w1 ⟨rfl, rfl⟩)
    exact ⟨rfl, .inr ⟨_, _, by rw [rask_at, HXYZ.out, if_pos (by simpa using HZ.out)], rfl, Keeps.of_drewN _⟩⟩
theorem ent_upTo : Hid (∀ args wx, (callFunc 63 args).run Tryd.prog wx = .ok (.enter 63 args) wx) := Lib.hid (Go.Proofs.enters_of Tryd.func63 (by kernel_rfl) rfl)
theorem ent_index : Hid (∀ args wx, (callFunc 64 args).run Tryd.prog wx = .ok (.enter 64 args) wx) := Lib.hid (Go.Proofs.enters_of Tryd.func64 (by kernel_rfl) rfl)
/-- The closure that upTo hands back, its boxes. -/
structure Up (w : World) (f : Value) (most e : Int) (p : Nat) : Prop where
  ex : ∃ x y, f = .func (.func 63) #[] #[.pointer (some ⟨x, 0, none⟩), .pointer (some ⟨y, 0, none⟩)] ∧ w.cell? ⟨x, 0, none⟩ = some (.int .i64 most) ∧ w.cell? ⟨y, 0, none⟩ = some (.int .i64 e)
theorem mod_upTo (w : World) (most e : Int) :
    Calls Tryd.prog 45 #[.int .i64 most, .int .i64 e] w fun r w' => ∃ f, r = .returned f ∧ Below w.heap.size w w' ∧ ∀ p, Up w' f most e p := by
  have hmf : ∀ (fn : Fn) (first cap : Array Value) (w : World), (Instr.makeFunc fn first cap).run Tryd.prog w = .ok (.func fn first cap) w := fun _ _ _ _ => rfl
  have hb := Lib.hid (below_alloc2 w (.cells #[.int .i64 most] 3) (.cells #[.int .i64 e] 33))
  have hc := Lib.hid (boxes_cell (a := #[.int .i64 most]) (b := #[.int .i64 e]) (ta := 3) (tb := 33) (Below.refl _ ((w.alloc (.cells #[.int .i64 most] 3)).alloc (.cells #[.int .i64 e] 33))))
  go_enter Tryd.func45, Tryd.ntmps45
  go_wp2
  go_ret
  exact ⟨_, rfl, hb.out, fun _ => ⟨⟨_, _, rfl, hc.out.1 0 _ rfl, hc.out.2 0 _ rfl⟩⟩⟩
section
variable {S : Nat → Prop} {w : World} {p mb : Nat} {bv : Value} {b : List Int} {al : Int} {at_ : Nat}
theorem rm_upTo (h : Rm S w p mb bv b al at_) (hb : Bytes b) (hS : ∀ x, S x → x ≠ p) (most : Nat) (M : Int) (hM : (most : Int) = M) (err : Int) (he : err ≠ 0) (hm : most ≤ 9223372036854775807) (f : Value) (hf : Up w f M err p) :
    Calls Tryd.prog 44 #[.pointer (some ⟨p, 0, none⟩), f] w (RmE S w p mb bv b (fun _ => al) (rnum most err b at_) fun n => .int .i64 n) := by
  subst hM
  obtain ⟨x, y, rfl, c1, c2⟩ := hf.ex
  rw [← rask_rnum most he]
  refine rm_number S w p mb bv b al at_ h hb hS _ ent_upTo _ _ _ (fun n hn => by split at hn; exact absurd hn he; omega) fun wx hbx => ?_
  refine (mod_upTo1 wx x y most (ruv b at_).1 err at_ (cell_below hbx c1) (cell_below hbx c2) (by omega)).mono ?_
  rintro r w' (⟨e1, rfl, rfl⟩ | ⟨e1, rfl, rfl⟩)
  · exact .inl ⟨by rw [if_neg (by omega)], rfl, Keeps.refl _ _, (hbx.block _ (row_lt h.row)).trans h.row⟩
  · exact .inr ⟨by rw [if_pos e1]; exact he, by rw [if_pos e1], Keeps.refl _ _⟩
theorem mod_index1 (w : World) (x : Nat) (below n : Nat) (at_ : Int) (hx : w.cell? ⟨x, 0, none⟩ = some (.int .i64 below)) (hb : below ≤ 9223372036854775807) :
    Calls Tryd.prog 64 #[.int .u64 n, .int .i64 at_, .pointer (some ⟨x, 0, none⟩)] w fun r w' =>
      (n < below ∧ r = .returned (.tuple #[]) ∧ w' = w) ∨ (¬ n < below ∧ r = .panicked (thrown 30 at_) ∧ w' = w) := by
  have hwr : IntKind.u64.wrap (below : Int) = below := IntWalk.u64_in _ ⟨by omega, by omega⟩
  by_cases a : n < below
  · have hd : decide ((n : Int) < below) = true := decide_eq_true (by omega)
    go_enter Tryd.func64, Tryd.ntmps64
    go_wp2_with (go_at_call 20; refine (mod_ask _ _ _ _).mono ?_; rintro r w1 ⟨rfl, rfl⟩)
    all_goals (first | exact bodyPost_end (results_none rfl _ _ _) rfl (.inl ⟨a, rfl, rfl⟩) | (exfalso; simp_all; omega))
  · have hd : decide ((n : Int) < below) = false := decide_eq_false (by omega)
    go_enter Tryd.func64, Tryd.ntmps64
    go_wp2_with (go_at_call 20; refine (mod_ask _ _ _ _).mono ?_; rintro r w1 ⟨rfl, rfl⟩)
    all_goals (first | exact ⟨rfl, .inr ⟨a, rfl, rfl⟩⟩ | (exfalso; simp_all; omega))
theorem ridx_eq (below : Nat) (b : List Int) (p : Nat) : ridx below b p = (match rask (fun n => if 18446744073709551615 < n then 30 else if n < below then 0 else 30) b p with | .error e => .error e | .ok (x, q) => .ok ((x : Int), q)) := by
  rw [rask_ask 18446744073709551615 (by decide) (fun n => if n < below then 0 else 30)]
  show RdM.map _ _ b p = _
  unfold RdM.map
  cases (rnum 18446744073709551615 30).ask (fun n => if n < below then 0 else 30) b p with
  | error e => rfl
  | ok z => rfl
set_option maxRecDepth 100000 in
set_option maxHeartbeats 800000 in
theorem rm_index (h : Rm S w p mb bv b al at_) (hb : Bytes b) (hS : ∀ x, S x → x ≠ p) (below : Nat) (hbl : below ≤ 9223372036854775807) :
    Calls Tryd.prog 47 #[.pointer (some ⟨p, 0, none⟩), .int .i64 below] w (RmE S w p mb bv b (fun _ => al) (ridx below b at_) fun n => .int .i64 n) := by
  have hmf : ∀ (fn : Fn) (first cap : Array Value) (w : World), (Instr.makeFunc fn first cap).run Tryd.prog w = .ok (.func fn first cap) w := fun _ _ _ _ => rfl
  have hb1 := below_alloc w (.cells #[.int .i64 below] 3)
  have hr1 := heap_alloc_new w (.cells #[.int .i64 below] 3)
  have H1 := Lib.hid (h.on hb1)
  have hK : Hid (Keeps (fun b => b ≠ p) w (w.alloc (.cells #[.int .i64 below] 3))) := Lib.hid (Keeps.all _ hb1)
  have HC := Lib.hid (row_cell hr1 0 rfl)
  have HB := Lib.hid hb; have HS := Lib.hid hS
  have hu := ruv_u64 b at_
  clear h hb hS hb1 hr1
  go_enter Tryd.func47, Tryd.ntmps47
  go_wp2_with fail
  generalize w.alloc (.cells #[.int .i64 below] 3) = w1 at *
  refine (rm_number S w1 p mb bv b al at_ H1.out HB.out HS.out _ ent_index _ (fun n => if 18446744073709551615 < n then 30 else if n < below then 0 else 30) (fun _ => al) (fun n hn => by split at hn; exact absurd hn (by decide); split at hn; omega; exact absurd hn (by decide)) fun wx hbx => ?_).mono ?_
  · refine (mod_index1 wx _ below (ruv b at_).1 at_ (cell_below hbx HC.out) hbl).mono ?_
    rintro r w' (⟨e1, rfl, rfl⟩ | ⟨e1, rfl, rfl⟩)
    · exact .inl ⟨by rw [if_neg (by omega), if_pos e1], rfl, Keeps.refl _ _, (hbx.block _ (row_lt H1.out.row)).trans H1.out.row⟩
    · exact .inr ⟨by rw [if_neg (by omega), if_neg e1]; decide, by rw [if_neg (by omega), if_neg e1], Keeps.refl _ _⟩
  · rintro e w2 (⟨x, q, h1, rfl, h2, h3⟩ | ⟨z, k, h1, rfl, h3⟩)
    · go_wp2_with fail
      go_ret
      exact .inl ⟨(x : Int), q, by rw [ridx_eq, h1], ret_int rfl, h2, hK.out.trans h3⟩
    · exact ⟨rfl, .inr ⟨_, _, by rw [ridx_eq, h1], rfl, hK.out.trans h3⟩⟩
end
end Go.Proofs.YteaolgldkfjdkaaDoor
namespace Go.Proofs.YteaolgldkfjdkaaDoor
open Go Go.RowKit

/-- What counted answers. -/
def cntV (res : Except (Int × Nat) (Nat × Nat)) : Value := match res with
  | .ok (n, q) => .tuple #[.int .i64 n, .int .i64 q, .int .i64 0]
  | .error (e, _) => .tuple #[.int .i64 0, .int .i64 0, .int .i64 e]
set_option maxRecDepth 100000 in
set_option maxHeartbeats 1600000 in
theorem wire_counted (w : World) (S) (v : Value) (b : List Int) (hb : Bytes b) (h : RdI .u8 S w v b) (p : Nat) (hp : p ≤ b.length) (most : Nat) (great : Int) (hm : most ≤ 9223372036854775807) :
    Calls Tryd.prog 78 #[v, .int .i64 p, .int .i64 most, .int .i64 great] w fun e w' => e = .returned (cntV (rnum most great b p)) ∧ w' = w := by
  obtain ⟨x, y, z, hxyz⟩ : ∃ x y z, ruv b p = (x, y, z) := ⟨_, _, _, rfl⟩
  have hx64 : x ≤ 18446744073709551615 := by have := ruv_u64 b p; rw [hxyz] at this; exact this
  have H := Lib.hid (wire_ReadUvarQ5 w S v b hb h p hp x y z hxyz)
  have hR : rnum most great b p = if z ≠ 0 then .error (z, p) else if most < x then .error (great, p) else .ok (x, y) := by unfold rnum; rw [hxyz]
  have hwm : IntKind.u64.wrap (most : Int) = most := IntWalk.u64_in _ ⟨by omega, by omega⟩
  clear hb h hxyz
  by_cases h1 : z = 1
  · subst h1
    have E : Hid (cntV (rnum most great b p) = .tuple #[.int .i64 0, .int .i64 0, .int .i64 1]) := Lib.hid (by rw [hR]; rfl)
    clear hR
    go_enter Tryd.func78, Tryd.ntmps78
    go_wp2_with (go_at_call 62; refine H.out.mono ?_; rintro r w1 ⟨rfl, rfl⟩)
    refine bodyPost_ret (v := .tuple #[.int .i64 0, .int .i64 0, .int .i64 1]) (by simp [results, Tryd.results78, go_sem]) rfl ⟨by rw [E.out], rfl⟩
  · have z1 : (z == 1) = false := by simpa using h1
    have hm0 : decide ((most : Int) < 0) = false := decide_eq_false (by omega)
    by_cases h0 : z = 0
    · subst h0
      by_cases hx : most < x
      · have E : Hid (cntV (rnum most great b p) = .tuple #[.int .i64 0, .int .i64 0, .int .i64 great]) := Lib.hid (by rw [hR, if_neg (by simp), if_pos hx]; rfl)
        clear hR h1
        have hd : decide ((most : Int) < x) = true := decide_eq_true (by omega)
        go_enter Tryd.func78, Tryd.ntmps78
        go_wp2_with (go_at_call 62; refine H.out.mono ?_; rintro r w1 ⟨rfl, rfl⟩)
        refine bodyPost_ret (v := .tuple #[.int .i64 0, .int .i64 0, .int .i64 great]) (by simp [results, Tryd.results78, go_sem]) rfl ⟨by rw [E.out], rfl⟩
      · have E : Hid (cntV (rnum most great b p) = .tuple #[.int .i64 x, .int .i64 y, .int .i64 0]) := Lib.hid (by rw [hR, if_neg (by simp), if_neg hx]; rfl)
        clear hR h1
        have hd : decide ((most : Int) < x) = false := decide_eq_false (by omega)
        have hwx : IntKind.i64.wrap (x : Int) = x := IntWalk.i64_in _ ⟨by omega, by omega⟩
        go_enter Tryd.func78, Tryd.ntmps78
        go_wp2_with (go_at_call 62; refine H.out.mono ?_; rintro r w1 ⟨rfl, rfl⟩)
        refine bodyPost_ret (v := .tuple #[.int .i64 x, .int .i64 y, .int .i64 0]) (by simp [results, Tryd.results78, go_sem]) rfl ⟨by rw [E.out], rfl⟩
    · have E : Hid (cntV (rnum most great b p) = .tuple #[.int .i64 0, .int .i64 0, .int .i64 z]) := Lib.hid (by rw [hR, if_pos h0]; rfl)
      have z0 : (z == 0) = false := by simpa using h0
      have z0' : (z != 0) = true := by simpa using h0
      clear hR h1
      go_enter Tryd.func78, Tryd.ntmps78
      go_wp2_with (go_at_call 62; refine H.out.mono ?_; rintro r w1 ⟨rfl, rfl⟩)
      refine bodyPost_ret (v := .tuple #[.int .i64 0, .int .i64 0, .int .i64 z]) (by simp [results, Tryd.results78, go_sem]) rfl ⟨by rw [E.out], rfl⟩
/-- What ReadText answers. -/
def txtV5 (res : Except (Int × Nat) (ByteArray × Nat)) : Value := match res with
  | .ok (s, q) => .tuple #[.string s, .int .i64 q, .int .i64 0]
  | .error (e, _) => .tuple #[.string ⟨#[]⟩, .int .i64 0, .int .i64 e]
theorem rnum_err {most : Nat} {great e : Int} {b : List Int} {p k : Nat} (hg : great ≠ 0) (h : rnum most great b p = .error (e, k)) : e ≠ 0 := by
  unfold rnum at h
  split at h
  · rename_i h1; simp only [Except.error.injEq, Prod.mk.injEq] at h; rw [← h.1]; exact h1
  · split at h
    · simp only [Except.error.injEq, Prod.mk.injEq] at h; rw [← h.1]; exact hg
    · cases h
theorem rnum_le5 {most : Nat} {great : Int} {b : List Int} {p n q : Nat} (h : rnum most great b p = .ok (n, q)) : n ≤ most ∧ q ≤ b.length := by
  unfold rnum at h
  split at h
  · cases h
  · rename_i h1
    split at h
    · cases h
    · simp only [Except.ok.injEq, Prod.mk.injEq] at h
      obtain ⟨rfl, rfl⟩ := h
      exact ⟨by omega, ruv_le (Decidable.not_not.1 h1)⟩
set_option maxRecDepth 100000 in
set_option maxHeartbeats 1600000 in
theorem wire_ReadText (w : World) (S) (v : Value) (b : List Int) (hb : Bytes b) (h : RdI .u8 S w v b) (p : Nat) (hp : p ≤ b.length) (most : Nat) (hm : most ≤ 9223372036854775807) :
    Calls Tryd.prog 67 #[v, .int .i64 p, .int .i64 most] w fun e w' => e = .returned (txtV5 (rtext most b p)) ∧ w' = w := by
  have HC := Lib.hid (wire_counted w S v b hb h p hp most 13 hm)
  cases hr : rnum most 13 b p with
  | error z =>
    obtain ⟨e, k⟩ := z
    have he := rnum_err (by decide) hr
    have E : Hid (txtV5 (rtext most b p) = .tuple #[.string ⟨#[]⟩, .int .i64 0, .int .i64 e]) := Lib.hid (by unfold rtext; rw [hr]; rfl)
    have E2 : Hid (cntV (rnum most 13 b p) = .tuple #[.int .i64 0, .int .i64 0, .int .i64 e]) := Lib.hid (by rw [hr]; rfl)
    have z0 : (e == 0) = false := by simpa using he
    have z0' : (e != 0) = true := by simpa using he
    clear hr hb h
    go_enter Tryd.func67, Tryd.ntmps67
    go_wp2_with (go_at_call 78; refine HC.out.mono ?_; rw [E2.out]; rintro r w1 ⟨rfl, rfl⟩)
    refine bodyPost_ret (v := .tuple #[.string ⟨#[]⟩, .int .i64 0, .int .i64 e]) (by simp [results, Tryd.results67, go_sem]) rfl ⟨by rw [E.out], rfl⟩
  | ok z =>
    obtain ⟨n, q⟩ := z
    obtain ⟨hn, hq⟩ := rnum_le5 hr
    have E2 : Hid (cntV (rnum most 13 b p) = .tuple #[.int .i64 n, .int .i64 q, .int .i64 0]) := Lib.hid (by rw [hr]; rfl)
    obtain ⟨a, cap, rfl, hc, hlm, h3⟩ := h
    have hct := hb
    by_cases hl : b.length - q < n
    · have E : Hid (txtV5 (rtext most b p) = .tuple #[.string ⟨#[]⟩, .int .i64 0, .int .i64 10]) := Lib.hid (by unfold rtext; rw [hr]; simp only; rw [if_pos hl]; rfl)
      have hd : decide ((b.length : Int) - q < n) = true := decide_eq_true (by omega)
      clear hr hb hct h3
      go_enter Tryd.func67, Tryd.ntmps67
      go_wp2_with (go_at_call 78; refine HC.out.mono ?_; rw [E2.out]; rintro r w1 ⟨rfl, rfl⟩)
      refine bodyPost_ret (v := .tuple #[.string ⟨#[]⟩, .int .i64 0, .int .i64 10]) (by simp [results, Tryd.results67, go_sem]) rfl ⟨by rw [E.out], rfl⟩
    · have E : Hid (txtV5 (rtext most b p) = .tuple #[.string (tx ((b.drop q).take n)), .int .i64 (q + n : Nat), .int .i64 0]) := Lib.hid (by unfold rtext; rw [hr]; simp only; rw [if_neg hl]; rfl)
      have hd : decide ((b.length : Int) - q < n) = false := decide_eq_false (by omega)
      have hqn : (q : Int) + n ≤ b.length := by omega
      by_cases hn0 : n = 0
      · subst hn0
        have hz : ∀ (a : Option Addr) (c : Nat), (convert 30 9 (.slice a 0 c)).run Tryd.prog w = .ok (.string ByteArray.empty) w := fun a c => run_convert_bytes_zero (P := Tryd.prog) w 30 5 Tryd.underlying30 Tryd.underlying5 a c 9 Tryd.underlying9
        have E3 : Hid (txtV5 (rtext most b p) = .tuple #[.string ByteArray.empty, .int .i64 q, .int .i64 0]) := Lib.hid (by rw [E.out]; rfl)
        clear hr hb hct h3
        go_enter Tryd.func67, Tryd.ntmps67
        go_wp2_with (go_at_call 78; refine HC.out.mono ?_; rw [E2.out]; rintro r w1 ⟨rfl, rfl⟩)
        all_goals exact bodyPost_ret (v := .tuple #[.string ByteArray.empty, .int .i64 q, .int .i64 0]) (by simp [results, Tryd.results67, go_sem]) rfl ⟨by rw [E3.out], rfl⟩
      · obtain ⟨bb, off, rfl, _, _⟩ := h3 q (by omega)
        have hcv := run_convert_bytes_arg (P := Tryd.prog) w 30 5 Tryd.underlying30 Tryd.underlying5 bb (off + q) n (cap - q) ((b.drop q).take n) (by rw [List.length_take, List.length_drop]; omega) (fun i hi => by
          obtain ⟨b', o', e1, _, e3⟩ := h3 (q + i) (by omega)
          simp only [Option.some.injEq, Addr.mk.injEq, and_true] at e1
          obtain ⟨rfl, rfl⟩ := e1
          rw [Nat.add_assoc, e3, List.getD_eq_getElem?_getD, List.getElem?_take, if_pos hi, List.getElem?_drop, List.getElem?_eq_getElem (by omega)]; rfl) 9 Tryd.underlying9
        have hqc : ¬ cap = q := by omega
        have E3 : Hid (txtV5 (rtext most b p) = .tuple #[.string (strOfNums ((b.drop q).take n)), .int .i64 (q + n : Nat), .int .i64 0]) := Lib.hid (by rw [E.out]; rfl)
        clear hr hb hct h3
        generalize strOfNums ((b.drop q).take n) = sx at *
        go_enter Tryd.func67, Tryd.ntmps67
        go_wp2_with (go_at_call 78; refine HC.out.mono ?_; rw [E2.out]; rintro r w1 ⟨rfl, rfl⟩)
        all_goals exact bodyPost_ret (v := .tuple #[.string sx, .int .i64 (q + n : Nat), .int .i64 0]) (by simp [results, Tryd.results67, go_sem]) rfl ⟨by rw [E3.out], rfl⟩
theorem rtext_ok {most : Nat} {b : List Int} {p q : Nat} {s : ByteArray} (h : rtext most b p = .ok (s, q)) : s.size ≤ most ∧ q ≤ b.length := by
  unfold rtext at h
  cases h1 : rnum most 13 b p with
  | error z => rw [h1] at h; cases h
  | ok z =>
    obtain ⟨n, q1⟩ := z
    have := rnum_le5 h1
    rw [h1] at h
    simp only at h
    split at h
    · cases h
    · simp only [Except.ok.injEq, Prod.mk.injEq] at h
      obtain ⟨rfl, rfl⟩ := h
      rw [tx_size, List.length_take, List.length_drop]
      omega
theorem rtext_err {most : Nat} {b : List Int} {p k : Nat} {e : Int} (h : rtext most b p = .error (e, k)) : e ≠ 0 ∧ k = p := by
  unfold rtext at h
  cases h1 : rnum most 13 b p with
  | error z =>
    obtain ⟨e', k'⟩ := z
    rw [h1] at h
    simp only [Except.error.injEq, Prod.mk.injEq] at h
    obtain ⟨rfl, rfl⟩ := h
    refine ⟨rnum_err (by decide) h1, ?_⟩
    unfold rnum at h1
    split at h1
    · simp only [Except.error.injEq, Prod.mk.injEq] at h1; exact h1.2.symm
    · split at h1
      · simp only [Except.error.injEq, Prod.mk.injEq] at h1; exact h1.2.symm
      · cases h1
  | ok z =>
    obtain ⟨n, q1⟩ := z
    rw [h1] at h
    simp only at h
    split at h
    · simp only [Except.error.injEq, Prod.mk.injEq] at h
      exact ⟨by rw [← h.1]; decide, h.2.symm⟩
    · cases h
section
variable {S : Nat → Prop} {w : World} {p mb : Nat} {bv : Value} {b : List Int} {al : Int} {at_ : Nat}
theorem Rm.setAt (h : Rm S w p mb bv b al at_) (hS : ∀ x, S x → x ≠ p) {w' : World} (hk : Keeps (fun b => b ≠ p) w w') (hr : w'.heap[p]? = some (.cells #[.pointer (some ⟨mb, 0, none⟩), .int .i64 al, bv, .int .i64 at_] 68 (0, 0))) (q : Nat) (hq : q ≤ b.length) :
    Rm S (w'.setCell ⟨p, 3, none⟩ (.int .i64 q)) p mb bv b al q ∧ Keeps (fun b => b ≠ p) w (w'.setCell ⟨p, 3, none⟩ (.int .i64 q)) := by
  have hk2 := hk.setCell (a := ⟨p, 3, none⟩) (by simp) (.int .i64 q)
  exact ⟨⟨by simpa using row_setCell hr 3 (.int .i64 q), h.rd.keeps (hk2.mono fun b _ hb => hS b hb), hq⟩, hk2⟩
set_option maxRecDepth 100000 in
set_option maxHeartbeats 1600000 in
theorem rm_text (h : Rm S w p mb bv b al at_) (hb : Bytes b) (hS : ∀ x, S x → x ≠ p) (most : Nat) (hm : most ≤ 9223372036854775807) :
    Calls Tryd.prog 53 #[.pointer (some ⟨p, 0, none⟩), .int .i64 most] w (RmE S w p mb bv b (fun _ => al) (rtext most b at_) fun s => .tuple #[.string s, .int .i64 at_]) := by
  have c2 := row_cell h.row 2 rfl
  have c3 := row_cell h.row 3 rfl
  have f3 := row_free h.row 3
  simp only [List.getElem_toArray, List.getElem_cons_zero, List.getElem_cons_succ] at c2 c3
  have H := Lib.hid h; have HB := Lib.hid hb; have HS := Lib.hid hS
  clear h hb hS
  cases hr : rtext most b at_ with
  | error z =>
    obtain ⟨e, k⟩ := z
    obtain ⟨he, hk⟩ := rtext_err hr
    subst hk
    have E : Hid (txtV5 (rtext most b k) = .tuple #[.string ⟨#[]⟩, .int .i64 0, .int .i64 e]) := Lib.hid (by rw [hr]; rfl)
    have z0 : (e == 0) = false := by simpa using he
    have HQ := Lib.hid (fun n => show Calls Tryd.prog 67 #[bv, .int .i64 k, .int .i64 most] (w.drewN n) (fun r w' => r = .returned (.tuple #[.string ⟨#[]⟩, .int .i64 0, .int .i64 e]) ∧ w' = w.drewN n) from (wire_ReadText _ S bv b HB.out (H.out.rd.drewN n) k H.out.le most hm).mono fun r w' h => by rw [E.out] at h; exact h)
    clear hr
    go_enter Tryd.func53, Tryd.ntmps53
    go_wp2
    go_quiet ((go_at_call 67; exact Calls.quiet_of_same (HQ.out _)))
    go_wp2_with (go_at_call 20; refine (mod_ask _ _ _ _).mono ?_; rintro r w1 ⟨rfl, rfl⟩)
    exact ⟨rfl, .inr ⟨_, _, rfl, rfl, Keeps.of_drewN _⟩⟩
  | ok z =>
    obtain ⟨s, q⟩ := z
    have hq := (rtext_ok hr).2
    have E : Hid (txtV5 (rtext most b at_) = .tuple #[.string s, .int .i64 q, .int .i64 0]) := Lib.hid (by rw [hr]; rfl)
    have HF := Lib.hid (fun n => H.out.setAt HS.out (Keeps.of_drewN (S := fun b => b ≠ p) (w := w) n) H.out.row q hq)
    have HQ := Lib.hid (fun n => show Calls Tryd.prog 67 #[bv, .int .i64 at_, .int .i64 most] (w.drewN n) (fun r w' => r = .returned (.tuple #[.string s, .int .i64 q, .int .i64 0]) ∧ w' = w.drewN n) from (wire_ReadText _ S bv b HB.out (H.out.rd.drewN n) at_ H.out.le most hm).mono fun r w' h => by rw [E.out] at h; exact h)
    clear hr
    go_enter Tryd.func53, Tryd.ntmps53
    go_wp2
    go_quiet ((go_at_call 67; exact Calls.quiet_of_same (HQ.out _)))
    go_wp2_with (go_at_call 20; refine (mod_ask _ _ _ _).mono ?_; rintro r w1 ⟨rfl, rfl⟩)
    exact bodyPost_ret (v := .tuple #[.string s, .int .i64 at_]) (by simp [results, Tryd.results53, go_sem]) rfl (.inl ⟨s, q, rfl, rfl, (HF.out nq).1, (HF.out nq).2⟩)
theorem rlett_at (most : Nat) (b : List Int) (p : Nat) : rlett most b p = (match rtext most b p with | .error e => .error e | .ok (s, q) => if (if lettersT s then (0 : Int) else 15) = 0 then .ok (s, q) else .error (if lettersT s then 0 else 15, p)) := by
  unfold rlett RdM.ask
  cases rtext most b p with
  | error e => rfl
  | ok z => rfl
set_option maxRecDepth 100000 in
set_option maxHeartbeats 800000 in
theorem rm_lettered (h : Rm S w p mb bv b al at_) (hb : Bytes b) (hS : ∀ x, S x → x ≠ p) (most : Nat) (hm : most ≤ 256) :
    Calls Tryd.prog 46 #[.pointer (some ⟨p, 0, none⟩), .int .i64 most] w (RmE S w p mb bv b (fun _ => al) (rlett most b at_) fun s => .string s) := by
  have H := Lib.hid h; have HB := Lib.hid hb; have HS := Lib.hid hS
  clear h hb hS
  go_enter Tryd.func46, Tryd.ntmps46
  go_wp2_with fail
  refine (rm_text H.out HB.out HS.out most (by omega)).mono ?_
  rintro e w2 (⟨s, q, h1, rfl, h2, h3⟩ | ⟨z, k, h1, rfl, h3⟩)
  rotate_left
  · exact ⟨rfl, .inr ⟨_, _, by rw [rlett_at, h1], rfl, h3⟩⟩
  have hs := (rtext_ok h1).1
  have H1 := Lib.hid h1; have H2 := Lib.hid h2; have H3 := Lib.hid h3
  clear h1 h2 h3
  have hT : errT5 most s = if lettersT s then 0 else 15 := by
    unfold errT5 letsFrom lettersT; rw [if_neg (by omega), List.drop_zero]; rfl
  go_wp2_with fail
  refine (mod_letters _ _ s most most at_ rfl hm (by omega)).mono ?_
  rintro e w3 (⟨e1, rfl, hb3⟩ | ⟨e1, rfl, hb3⟩)
  rotate_left
  · exact ⟨rfl, .inr ⟨_, _, by rw [rlett_at, H1.out]; simp only; rw [if_neg (by rw [← hT]; exact e1), ← hT], rfl, H3.out.trans (Keeps.all _ hb3)⟩⟩
  have HT := Lib.hid hT
  clear hT
  go_wp2_with fail
  go_ret
  exact .inl ⟨s, q, by rw [rlett_at, H1.out]; simp only; rw [if_pos (by rw [← HT.out]; exact e1)], rfl, H2.out.on hb3, H3.out.trans (Keeps.all _ hb3)⟩
set_option maxRecDepth 100000 in
set_option maxHeartbeats 1600000 in
theorem rm_octet (h : Rm S w p mb bv b al at_) (hb : Bytes b) (hS : ∀ x, S x → x ≠ p) (hl : b.length ≤ 1000000) :
    Calls Tryd.prog 48 #[.pointer (some ⟨p, 0, none⟩)] w (RmE S w p mb bv b (fun _ => al) (roct b at_) fun c => .int .u8 c) := by
  have c2 := row_cell h.row 2 rfl
  have c3 := row_cell h.row 3 rfl
  have f3 := row_free h.row 3
  obtain ⟨a, c, rfl, hc, hlm, h3⟩ := h.rd
  simp only [List.getElem_toArray, List.getElem_cons_zero, List.getElem_cons_succ] at c2 c3
  have H := Lib.hid h; have HB := Lib.hid hb; have HS := Lib.hid hS
  have hle := h.le
  by_cases hlt : at_ < b.length
  · obtain ⟨bb, off, rfl, hsb, hcell⟩ := h3 at_ hlt
    have hx := hb b[at_] (List.getElem_mem _)
    have E : Hid (roct b at_ = .ok (b[at_].toNat, at_ + 1)) := Lib.hid (by unfold roct; rw [if_pos hlt, List.getD_eq_getElem?_getD, List.getElem?_eq_getElem hlt]; rfl)
    have hne : bb ≠ p := hS bb hsb
    generalize b[at_] = x at *
    obtain ⟨X, rfl⟩ := Int.eq_ofNat_of_zero_le hx.1
    clear h hb hS h3
    generalize hL : b.length = L at *
    have HL := Lib.hid hL
    clear hL
    have hd : decide ((at_ : Int) < L) = true := decide_eq_true (by omega)
    go_enter Tryd.func48, Tryd.ntmps48
    go_wp2
    go_still_tail 14, (by kernel_rfl)
    go_wp2_with (go_at_call 20; refine (mod_ask _ _ _ _).mono ?_; rintro r w1 ⟨rfl, rfl⟩)
    have P : Rm S (w.setCell ⟨p, 3, none⟩ (.int .i64 ((at_ : Int) + 1))).drew p mb _ b al (at_ + 1) ∧ Keeps (fun b => b ≠ p) w (w.setCell ⟨p, 3, none⟩ (.int .i64 ((at_ : Int) + 1))).drew := H.out.setAt HS.out ((Keeps.refl (fun b => b ≠ p) w).drew) H.out.row (at_ + 1) (by rw [HL.out]; omega)
    have HP := Lib.hid P
    clear P c2 c3 f3
    generalize (w.setCell ⟨p, 3, none⟩ (.int .i64 ((at_ : Int) + 1))).drew = w5 at *
    have c2 := row_cell HP.out.1.row 2 rfl; have c3 := row_cell HP.out.1.row 3 rfl
    simp only [List.getElem_toArray, List.getElem_cons_zero, List.getElem_cons_succ] at c2 c3
    rw [show ((at_ + 1 : Nat) : Int) = (at_ : Int) + 1 from rfl] at c3
    have hcell := HP.out.2.cell hcell hne
    have hw : IntKind.i64.wrap (at_ : Int) = at_ := IntWalk.i64_in _ ⟨by omega, by omega⟩
    have h0 : (0 : Int) ≤ at_ := by omega
    have h1 : (at_ : Int) < L := by omega
    go_quiet (fail)
    clear hw
    go_wp2
    go_ret
    refine .inl ⟨X, at_ + 1, by rw [E.out]; rfl, rfl, HP.out.1.keeps (Keeps.of_drewN (S := fun _ => True) _) trivial (fun _ _ => trivial), HP.out.2.drewN _⟩
  · have E : Hid (roct b at_ = .error (10, at_)) := Lib.hid (by unfold roct; rw [if_neg hlt])
    clear h hb hS h3
    generalize hL : b.length = L at *
    have HL := Lib.hid hL
    clear hL
    have hd : decide ((at_ : Int) < L) = false := decide_eq_false (by omega)
    go_enter Tryd.func48, Tryd.ntmps48
    go_wp2
    go_still_tail 14, (by kernel_rfl)
    go_wp2_with (go_at_call 20; refine (mod_ask _ _ _ _).mono ?_; rintro r w1 ⟨rfl, rfl⟩)
    exact ⟨rfl, .inr ⟨_, _, E.out, rfl, (Keeps.refl _ w).drew⟩⟩
end
end Go.Proofs.YteaolgldkfjdkaaDoor
namespace Go.Proofs.YteaolgldkfjdkaaDoor
open Go Go.RowKit

/-- The reader at p, the module at mb, its lists, others (X). -/
structure Md (S : Nat → Prop) (B : Nat) (w : World) (p mb : Nat) (bv : Value) (b : List Int) (al : Int) (at_ : Nat) (x : Mq) (X : List Ent) : Prop where
  rm : Rm S w p mb bv b al at_
  mrow : w.heap[mb]? = some (.cells x.cells 29 (0, 0))
  fam : Fam B w (x.ents ++ X)
  lo : p < B ∧ mb < B
  hi : B ≤ w.heap.size
  sS : ∀ y, S y → y < B ∧ y ≠ p ∧ y ≠ mb
section
variable {S : Nat → Prop} {B : Nat} {w w' : World} {p mb : Nat} {bv : Value} {b : List Int} {al al' : Int} {at_ at' : Nat} {x x' : Mq} {X X' : List Ent}
theorem Md.ne (h : Md S B w p mb bv b al at_ x X) : p ≠ mb := row_ne h.rm.row h.mrow (by decide)
theorem Md.on (h : Md S B w p mb bv b al at_ x X) (hb : Below w.heap.size w w') : Md S B w' p mb bv b al at_ x X :=
  ⟨h.rm.on hb, (hb.block _ (row_lt h.mrow)).trans h.mrow, h.fam.bel hb, h.lo, Nat.le_trans h.hi hb.size, h.sS⟩
/-- The reader has read. -/
theorem Md.read (h : Md S B w p mb bv b al at_ x X) (hr : Rm S w' p mb bv b al' at') (hk : Keeps (fun b => b ≠ p) w w') : Md S B w' p mb bv b al' at' x X :=
  ⟨hr, (hk.block _ (row_lt h.mrow) (Ne.symm h.ne)).trans h.mrow, h.fam.keeps hk (fun b hb _ => by have := h.lo.1; omega), h.lo, Nat.le_trans h.hi hk.size, h.sS⟩
/-- The frame of a step. -/
abbrev Kp (B p mb : Nat) (w w' : World) : Prop := Keeps (fun b => b < B ∧ b ≠ p ∧ b ≠ mb) w w'
theorem Kp.read (hk : Keeps (fun b => b ≠ p) w w') : Kp B p mb w w' := hk.mono fun _ _ h => h.2.1
theorem Kp.on (hb : Below w.heap.size w w') : Kp B p mb w w' := Keeps.all _ hb
/-- A list of the module has grown and is stored. -/
theorem Md.grow (h : Md S B w p mb bv b al at_ x X) {wy : World} {e e' : Ent} {i : Nat} {A : List Ent} (hp : (x.ents ++ X).Perm (e :: A)) (hp' : (x'.ents ++ X').Perm (e' :: A)) (hc : x'.cells = x.cells.setIfInBounds i e'.v) (hn' : e'.c = false)
    (hg : w.grownBy wy e.v.ownBlock) (ho : wy.ownsRow B e'.t e'.sz e'.v e'.n e'.cells) (hat : ∀ g, e'.v.ownBlock = some g → e.v.ownBlock = some g ∨ w.heap.size ≤ g) :
    Md S B (wy.setCell ⟨mb, i, none⟩ e'.v) p mb bv b al at_ x' X' ∧ Kp B p mb w (wy.setCell ⟨mb, i, none⟩ e'.v) := by
  have hf := h.fam.perm hp
  have hlo := h.lo
  have hehi : ∀ g, e.v.ownBlock = some g → B ≤ g := fun g hg => (hf.lt (mem_entBs.2 ⟨e, List.mem_cons_self, hg⟩)).1
  have hk1 : Keeps (fun b => b ≠ mb ∧ e.v.ownBlock ≠ some b) w (wy.setCell ⟨mb, i, none⟩ e'.v) := ((Keeps.refl _ w).grown hg (fun k hk _ h => h.2 hk)).setCell (a := ⟨mb, i, none⟩) (fun _ h => h.1 rfl) _
  have hm1 := grown_block hg h.mrow (fun e1 => by have := hehi mb e1; omega)
  have ho' : e'.own B (wy.setCell ⟨mb, i, none⟩ e'.v) := by
    unfold Ent.own
    rw [hn']
    exact own_keeps ho ((Keeps.refl (fun b => b ≠ mb) wy).setCell (a := ⟨mb, i, none⟩) (by simp) _) fun g hg e1 => by
      have := (ho.lt g hg).1; omega
  refine ⟨⟨h.rm.keeps hk1 ⟨h.ne, fun e1 => by have := hehi p e1; omega⟩ fun y hy => ?_, ?_, ((hf.cons hk1 (fun b hb _ hne => ⟨by omega, hne⟩) ho' hat).perm hp'.symm), h.lo, Nat.le_trans h.hi hk1.size, h.sS⟩, hk1.mono fun b _ hb => ⟨hb.2.2, fun e1 => by have := hehi b e1; omega⟩⟩
  · have := h.sS y hy
    exact ⟨this.2.2, fun e1 => by have := hehi y e1; omega⟩
  · rw [hc]; exact row_setCell hm1 i e'.v
/-- The plain reading of a head. -/
def rhd : RdM (List SigD × List Int × List GlobD × Int × Int) :=
  (rmany 64 rsig).bind fun ts => (rmany 32 fun _ => ridx ts.length).bind fun _ => (rmany 64 fun _ => rglob).bind fun _ => (rint 64 17).bind fun first => (rint 64 17).ask fun n => if n < first then 17 else 0
/-- What head leaves. -/
def hdQ (x : Mq) (z : List SigD × List Int × List GlobD × Int × Int) : Prop := x.ts = z.1 ∧ x.hs = z.2.1 ∧ x.gs = z.2.2.1 ∧ x.first = z.2.2.2.1 ∧ x.most = z.2.2.2.2 ∧ x.fv = nilV ∧ x.dv = nilV ∧ x.ev = nilV ∧ x.fs = [] ∧ x.ds = [] ∧ x.es = []
/-- The ends of head. -/
def RhE (S : Nat → Prop) (B : Nat) (w : World) (p mb : Nat) (bv : Value) (b : List Int) (al : Int) (at_ : Nat) (r : Ending) (w' : World) : Prop :=
  (∃ z q, rhd b at_ = .ok (z, q) ∧ r = .returned (.tuple #[]) ∧ (∃ x, Md S B w' p mb bv b al q x [] ∧ hdQ x z) ∧ Kp B p mb w w') ∨ (∃ e k, rhd b at_ = .error (e, k) ∧ r = .panicked (thrown e (k : Nat)) ∧ Kp B p mb w w')
theorem rmany_at {α : Type} (most : Nat) (step : List α → RdM α) (b : List Int) (p : Nat) : rmany most step b p = (match rnum most 20 b p with
    | .error e => .error e
    | .ok (n, q) => RdM.rep step n [] b q) := by
  show RdM.map _ _ b p = _
  unfold RdM.map RdM.bind
  cases rnum most 20 b p with
  | error e => rfl
  | ok z =>
    obtain ⟨n, q⟩ := z
    simp only
    cases RdM.rep step n [] b q with
    | error e => rfl
    | ok y => rfl
theorem Md.cell (h : Md S B w p mb bv b al at_ x X) {g i : Nat} (v : Value) (hg : B ≤ g) (hne : g ∉ entBs (x.ents ++ X)) : Md S B (w.setCell ⟨g, i, none⟩ v) p mb bv b al at_ x X ∧ Kp B p mb w (w.setCell ⟨g, i, none⟩ v) := by
  have hlo := h.lo
  have hk := (Keeps.refl (fun b => b ≠ g) w).setCell (a := ⟨g, i, none⟩) (by simp) v
  refine ⟨⟨h.rm.keeps hk (by omega) fun y hy => by have := (h.sS y hy).1; omega, (hk.block _ (row_lt h.mrow) (by omega)).trans h.mrow, ⟨fun e he => Ent.keeps (h.fam.own e he) hk fun b hb e1 => hne (mem_entBs.2 ⟨e, he, by rw [← e1]; exact hb⟩), h.fam.nd⟩, h.lo, by rw [World.size_setCell]; exact h.hi, h.sS⟩, hk.mono fun b _ hb => by omega⟩
theorem Md.fresh (h : Md S B w p mb bv b al at_ x X) {g : Nat} (hg : w.heap.size ≤ g) : g ∉ entBs (x.ents ++ X) := fun h1 => by have := (h.fam.lt h1).2; omega
theorem Md.pc (h : Md S B w p mb bv b al at_ x X) : w.cell? ⟨p, 0, none⟩ = some (.pointer (some ⟨mb, 0, none⟩)) ∧ w.cell? ⟨p, 2, none⟩ = some bv ∧ w.cell? ⟨p, 3, none⟩ = some (.int .i64 at_) ∧ w.frozen? ⟨p, 3, none⟩ = false :=
  ⟨row_cell h.rm.row 0 rfl, row_cell h.rm.row 2 rfl, row_cell h.rm.row 3 rfl, row_free h.rm.row 3⟩
theorem Md.mc (h : Md S B w p mb bv b al at_ x X) {i : Nat} {u : Value} (hu : x.cells[i]? = some u) : w.cell? ⟨mb, i, none⟩ = some u ∧ w.frozen? ⟨mb, i, none⟩ = false := ⟨row_cell h.mrow i hu, row_free h.mrow i⟩
theorem tw_no5 {ts : List SigD} {x : SigD} {n : Nat} (hn : n = ts.length) (h : ∀ j (hj : j < n), (ts ++ [x])[j]'(by simp; omega) ≠ (ts ++ [x])[n]'(by simp; omega)) : ts.any (fun y => decide (y = x)) = false := by
  subst hn
  rw [List.any_eq_false]
  intro y hy
  obtain ⟨j, hj, rfl⟩ := List.getElem_of_mem hy
  have := h j hj
  rw [List.getElem_append_left hj] at this
  simpa using this
theorem tw_yes5 {ts : List SigD} {x : SigD} {n : Nat} (hn : n = ts.length) (h : ∃ j, ∃ hj : j < n, (ts ++ [x])[j]'(by simp; omega) = (ts ++ [x])[n]'(by simp; omega)) : ts.any (fun y => decide (y = x)) = true := by
  subst hn
  rw [List.any_eq_true]
  obtain ⟨j, hj, e⟩ := h
  rw [List.getElem_append_left hj] at e
  exact ⟨ts[j], List.getElem_mem _, by rw [e]; simp⟩
theorem rsig_at (acc : List SigD) (b : List Int) (p : Nat) : rsig acc b p = (match rlett 8 b p with
    | .error e => .error e
    | .ok (s1, q1) => match rlett 8 b q1 with
      | .error e => .error e
      | .ok (s2, q2) => if (if acc.any (fun y => decide (y = (s1, s2))) then (16 : Int) else 0) = 0 then .ok ((s1, s2), q2) else .error (if acc.any (fun y => decide (y = (s1, s2))) then 16 else 0, p)) := by
  unfold rsig RdM.ask RdM.bind
  cases rlett 8 b p with
  | error e => rfl
  | ok z =>
    obtain ⟨s1, q1⟩ := z
    simp only
    cases rlett 8 b q1 with
    | error e => rfl
    | ok z2 => rfl
theorem rhd_2 {p n q k : Nat} {e : Int} (h : rnum 64 20 b p = .ok (n, q)) (h1 : RdM.rep rsig n [] b q = .error (e, k)) : rhd b p = .error (e, k) := by
  unfold rhd RdM.bind; rw [rmany_at, h]; simp only; rw [h1]
theorem rhd_1 {p k : Nat} {e : Int} (h : rnum 64 20 b p = .error (e, k)) : rhd b p = .error (e, k) := by
  unfold rhd RdM.bind; rw [rmany_at, h]
theorem at_of5 {v : Value} {g9 n c N M : Nat} (h : v.ownBlock = some g9 ∨ g9 = N) (hM : M ≤ N) : ∀ g, (Value.slice (some ⟨g9, 0, none⟩) n c).ownBlock = some g → v.ownBlock = some g ∨ M ≤ g := by
  intro g hg
  obtain rfl : g9 = g := by simpa [Value.ownBlock] using hg
  rcases h with h | h
  · exact .inl h
  · exact .inr (by omega)
theorem Md.setAt (h : Md S B w p mb bv b al at_ x X) (q : Nat) (hq : q ≤ b.length) : Md S B (w.setCell ⟨p, 3, none⟩ (.int .i64 q)) p mb bv b al q x X ∧ Kp B p mb w (w.setCell ⟨p, 3, none⟩ (.int .i64 q)) := by
  have k := h.rm.setAt (fun y hy => (h.sS y hy).2.1) (Keeps.refl _ w) h.rm.row q hq
  exact ⟨h.read k.1 k.2, Kp.read k.2⟩
theorem Md.put (h : Md S B w p mb bv b al at_ x X) (i : Nat) (v : Value) (hc : x'.cells = x.cells.setIfInBounds i v) (he : x'.ents = x.ents) : Md S B (w.setCell ⟨mb, i, none⟩ v) p mb bv b al at_ x' X ∧ Kp B p mb w (w.setCell ⟨mb, i, none⟩ v) := by
  have hk := (Keeps.refl (fun b => b ≠ mb) w).setCell (a := ⟨mb, i, none⟩) (by simp) v
  refine ⟨⟨h.rm.keeps hk h.ne fun y hy => (h.sS y hy).2.2, by rw [hc]; exact row_setCell h.mrow i v, ?_, h.lo, Nat.le_trans h.hi hk.size, h.sS⟩, hk.mono fun _ _ h => h.2.2⟩
  rw [he]
  exact h.fam.keeps hk (fun b hb _ => by have := h.lo.2; omega)
theorem Md.rl (h : Md S B w p mb bv b al at_ x X) : Rl w p mb x.cells := ⟨h.pc.1, h.mrow⟩
theorem Md.sigs (h : Md S B w p mb bv b al at_ x X) (hl : x.ts.length ≤ 64) : RdSigs (fun b => B ≤ b) w x.tv x.ts := by
  have m1 : tyE x.tv x.ts ∈ x.ents ++ X := by simp [Mq.ents]
  have ho := h.fam.own _ m1
  exact (rd_own (R := RSig) ho rfl rfl (fun _ _ => rfl) (by show x.ts.length ≤ _; omega) fun _ _ => rfl).mono (Nat.succ_pos _) (fun b _ hb => (Ent.lt ho b hb).1) fun _ _ h => h
end
theorem Tryd.infoIntH : (Tryd.prog.info? 3).map (fun i => (i.zero, i.size, i.bytes)) = some (some (.int .i64 0), 1, 8) := by kernel_rfl
theorem Tryd.infoGlobH : (Tryd.prog.info? 86).map (fun i => (i.zero, i.size, i.bytes)) = some (some (.agg #[.int .u8 0, .bool false, .int .u64 0]), 3, 16) := by kernel_rfl
theorem news1 (w : World) (a : Value) (t : Nat) : ∀ j u, [a][j]? = some u → (w.alloc (.cells #[a] t)).cell? ((⟨w.heap.size, 0, none⟩ : Addr).add j) = some u := by
  intro j u hj
  have hr := heap_alloc_new w (.cells #[a] t)
  have h1 := row_cell hr 0 rfl
  match j, hj with
  | 0, hj => obtain rfl := Option.some.inj hj; exact h1
theorem news3 (w : World) (a b c : Value) (t : Nat) : ∀ j u, [a, b, c][j]? = some u → (w.alloc (.cells #[a, b, c] t)).cell? ((⟨w.heap.size, 0, none⟩ : Addr).add j) = some u := by
  intro j u hj
  have hr := heap_alloc_new w (.cells #[a, b, c] t)
  have h1 := row_cell hr 0 rfl
  match j, hj with
  | 0, hj => obtain rfl := Option.some.inj hj; exact h1
  | 1, hj => obtain rfl := Option.some.inj hj; simp [Addr.add]
  | 2, hj => obtain rfl := Option.some.inj hj; simp [Addr.add]
theorem bind_bad1 {α β : Type} {r : RdM α} {k : α → RdM β} {b : List Int} {p : Nat} {z : Int × Nat} (h : r b p = .error z) : (r.bind k) b p = .error z := by
  unfold RdM.bind; rw [h]
theorem bind_bad2 {α β : Type} {r : RdM α} {k : α → RdM β} {b : List Int} {p q : Nat} {x : α} {z : Int × Nat} (h : r b p = .ok (x, q)) (h2 : k x b q = .error z) : (r.bind k) b p = .error z := by
  unfold RdM.bind; rw [h]; simp only; rw [h2]
theorem bind_good {α β : Type} {r : RdM α} {k : α → RdM β} {b : List Int} {p q q2 : Nat} {x : α} {y : β} (h : r b p = .ok (x, q)) (h2 : k x b q = .ok (y, q2)) : (r.bind k) b p = .ok ((x, y), q2) := by
  unfold RdM.bind; rw [h]; simp only; rw [h2]
theorem many_bad1 {α : Type} {most : Nat} {step : List α → RdM α} {b : List Int} {p : Nat} {z : Int × Nat} (h : rnum most 20 b p = .error z) : rmany most step b p = .error z := by rw [rmany_at, h]
theorem many_bad2 {α : Type} {most : Nat} {step : List α → RdM α} {b : List Int} {p q n : Nat} {z : Int × Nat} (h : rnum most 20 b p = .ok (n, q)) (h2 : RdM.rep step n [] b q = .error z) : rmany most step b p = .error z := by rw [rmany_at, h]; exact h2
theorem many_good {α : Type} {most : Nat} {step : List α → RdM α} {b : List Int} {p q q2 n : Nat} {l : List α} (h : rnum most 20 b p = .ok (n, q)) (h2 : RdM.rep step n [] b q = .ok (l, q2)) : rmany most step b p = .ok (l, q2) := by rw [rmany_at, h]; exact h2
end Go.Proofs.YteaolgldkfjdkaaDoor
namespace Go.Proofs.YteaolgldkfjdkaaDoor
open Go Go.RowKit

section
variable {b : List Int} {p q1 q2 c d : Nat} {z : Int × Nat}
theorem roct_ok5 (hb : Bytes b) (h : roct b p = .ok (c, q1)) : q1 = p + 1 ∧ c < 256 ∧ q1 ≤ b.length := by
  unfold roct at h
  split at h
  · rename_i h1
    simp only [Except.ok.injEq, Prod.mk.injEq] at h
    obtain ⟨rfl, rfl⟩ := h
    have hx := hb (b.getD p 0) (by rw [List.getD_eq_getElem?_getD, List.getElem?_eq_getElem h1]; exact List.getElem_mem h1)
    exact ⟨rfl, by omega, by omega⟩
  · exact absurd h (by simp)
theorem ask_at {α : Type} (r : RdM α) (t : α → Int) (b : List Int) (p : Nat) : r.ask t b p = (match r b p with
    | .error e => .error e
    | .ok (x, q) => if t x = 0 then .ok (x, q) else .error (t x, p)) := rfl
theorem rglob_1 (h : roct b p = .error z) : rglob b p = .error z := by
  unfold rglob RdM.map RdM.bind; simp only [ask_at]; rw [h]
theorem rglob_2 (h : roct b p = .ok (c, q1)) (hc : isLet c = false) : rglob b p = .error (15, p) := by
  unfold rglob RdM.map RdM.bind; simp only [ask_at]; rw [h]; simp [hc]
theorem rglob_3 (h : roct b p = .ok (c, q1)) (hc : isLet c = true) (h2 : roct b q1 = .error z) : rglob b p = .error z := by
  unfold rglob RdM.map RdM.bind; simp only [ask_at]; rw [h]; simp [hc, h2]
theorem rglob_4 (h : roct b p = .ok (c, q1)) (hc : isLet c = true) (h2 : roct b q1 = .ok (d, q2)) (hd : ¬ d ≤ 1) : rglob b p = .error (17, q1) := by
  unfold rglob RdM.map RdM.bind; simp only [ask_at]; rw [h]; simp [hc, h2, hd]
theorem rsvar_at (b : List Int) (p : Nat) : rsvar b p = if (ruv b p).2.2 ≠ 0 then .error ((ruv b p).2.2, p) else .ok (zag (ruv b p).1, (ruv b p).2.1) := by
  have := ruv_u64 b p
  unfold rsvar RdM.map rnum
  split
  · rename_i h; split at h
    · simp_all
    · rw [if_neg (by omega)] at h; exact absurd h (by simp)
  · rename_i h; split at h
    · exact absurd h (by simp)
    · rw [if_neg (by omega)] at h
      simp only [Except.ok.injEq, Prod.mk.injEq] at h
      obtain ⟨rfl, rfl⟩ := h
      simp_all
theorem rglob_5 (h : roct b p = .ok (c, q1)) (hc : isLet c = true) (h2 : roct b q1 = .ok (d, q2)) (hd : d ≤ 1) (h3 : (ruv b q2).2.2 ≠ 0) : rglob b p = .error ((ruv b q2).2.2, q2) := by
  unfold rglob RdM.map RdM.bind; simp only [ask_at, rsvar_at]; rw [h]; simp [hc, h2, hd, h3]
theorem rglob_6 (h : roct b p = .ok (119, q1)) (h2 : roct b q1 = .ok (d, q2)) (hd : d ≤ 1) (h3 : (ruv b q2).2.2 = 0) (hv : ¬ (-2147483648 ≤ zag (ruv b q2).1 ∧ zag (ruv b q2).1 ≤ 2147483647)) : rglob b p = .error (17, q2) := by
  have hc : isLet 119 = true := by decide
  unfold rglob RdM.map RdM.bind; simp only [ask_at, rsvar_at]; rw [h]; simp only [hc, if_true, h2, hd, h3, ne_eq, not_true, if_false, true_and, if_pos hv]; rfl
theorem rglob_7 (h : roct b p = .ok (c, q1)) (hc : isLet c = true) (h2 : roct b q1 = .ok (d, q2)) (hd : d ≤ 1) (h3 : (ruv b q2).2.2 = 0) (hv : c = 119 → -2147483648 ≤ zag (ruv b q2).1 ∧ zag (ruv b q2).1 ≤ 2147483647) : rglob b p = .ok (globOf ((c, d), zag (ruv b q2).1), (ruv b q2).2.1) := by
  have hn : ¬ (c = 119 ∧ ¬ (-2147483648 ≤ zag (ruv b q2).1 ∧ zag (ruv b q2).1 ≤ 2147483647)) := fun h => h.2 (hv h.1)
  unfold rglob RdM.map RdM.bind; simp only [ask_at, rsvar_at]; rw [h]; simp only [hc, if_true, h2, hd, h3, ne_eq, not_true, if_false, if_neg hn]
end
theorem ent_head : Hid (∀ args wx, (callFunc 50 args).run Tryd.prog wx = .ok (.enter 50 args) wx) := Lib.hid (Go.Proofs.enters_of Tryd.func50 (by kernel_rfl) rfl)
theorem rint_bad {most : Nat} {err : Int} {b : List Int} {p : Nat} {z : Int × Nat} (h : rnum most err b p = .error z) : rint most err b p = .error z := by unfold rint RdM.map; rw [h]
theorem rint_good {most : Nat} {err : Int} {b : List Int} {p n q : Nat} (h : rnum most err b p = .ok (n, q)) : rint most err b p = .ok ((n : Int), q) := by unfold rint RdM.map; rw [h]
/-- Most, asked. -/
def rmost (first : Int) : RdM Int := (rint 64 17).ask fun n => if n < first then 17 else 0
theorem rmost_eq (first : Nat) (b : List Int) (p : Nat) : rmost first b p = (match rask (fun n => if 64 < n then 17 else if n < first then 17 else 0) b p with | .error e => .error e | .ok (x, q) => .ok ((x : Int), q)) := by
  rw [rask_ask 64 (by decide) (fun n => if n < first then 17 else 0)]
  unfold rmost
  simp only [ask_at]
  unfold rint RdM.map
  cases rnum 64 17 b p with
  | error e => rfl
  | ok z =>
    obtain ⟨x, q⟩ := z
    simp only
    by_cases h : x < first
    · have h' : (x : Int) < first := by omega
      simp only [if_pos h, if_pos h']; rfl
    · have h' : ¬ (x : Int) < first := by omega
      simp only [if_neg h, if_neg h']; rfl
theorem mod_head1 (w : World) (rb p mb : Nat) (first n : Nat) (at_ : Int) (h0 : w.cell? ⟨rb, 0, none⟩ = some (.pointer (some ⟨p, 0, none⟩))) (h1 : w.cell? ⟨p, 0, none⟩ = some (.pointer (some ⟨mb, 0, none⟩))) (h2 : w.cell? ⟨mb, 3, none⟩ = some (.int .i64 first)) (hf : first ≤ 64) :
    Calls Tryd.prog 50 #[.int .u64 n, .int .i64 at_, .pointer (some ⟨rb, 0, none⟩)] w fun r w' =>
      ((first ≤ n ∧ n ≤ 64) ∧ r = .returned (.tuple #[]) ∧ w' = w) ∨ (¬ (first ≤ n ∧ n ≤ 64) ∧ r = .panicked (thrown 17 at_) ∧ w' = w) := by
  have hwr : IntKind.u64.wrap (first : Int) = first := IntWalk.u64_in _ ⟨by omega, by omega⟩
  by_cases a : first ≤ n
  · have hd : decide ((first : Int) ≤ n) = true := decide_eq_true (by omega)
    by_cases c : n ≤ 64
    · have hd2 : decide ((n : Int) ≤ 64) = true := decide_eq_true (by omega)
      go_enter Tryd.func50, Tryd.ntmps50
      go_wp2_with (go_at_call 20; refine (mod_ask _ _ _ _).mono ?_; rintro r w1 ⟨rfl, rfl⟩)
      all_goals (first | exact bodyPost_end (results_none rfl _ _ _) rfl (.inl ⟨⟨a, c⟩, rfl, rfl⟩) | (exfalso; simp_all; omega))
    · have hd2 : decide ((n : Int) ≤ 64) = false := decide_eq_false (by omega)
      go_enter Tryd.func50, Tryd.ntmps50
      go_wp2_with (go_at_call 20; refine (mod_ask _ _ _ _).mono ?_; rintro r w1 ⟨rfl, rfl⟩)
      all_goals (first | exact ⟨rfl, .inr ⟨fun h => c h.2, rfl, rfl⟩⟩ | (exfalso; simp_all; omega))
  · have hd : decide ((first : Int) ≤ n) = false := decide_eq_false (by omega)
    go_enter Tryd.func50, Tryd.ntmps50
    go_wp2_with (go_at_call 20; refine (mod_ask _ _ _ _).mono ?_; rintro r w1 ⟨rfl, rfl⟩)
    all_goals (first | exact ⟨rfl, .inr ⟨fun h => a h.1, rfl, rfl⟩⟩ | (exfalso; simp_all; omega))
theorem rm_most {S : Nat → Prop} {w : World} {p mb : Nat} {bv : Value} {b : List Int} {al : Int} {at_ : Nat} (h : Rm S w p mb bv b al at_) (hb : Bytes b) (hS : ∀ x, S x → x ≠ p) (rb first : Nat) (h0 : w.cell? ⟨rb, 0, none⟩ = some (.pointer (some ⟨p, 0, none⟩))) (h2 : w.cell? ⟨mb, 3, none⟩ = some (.int .i64 first)) (hf : first ≤ 64) :
    Calls Tryd.prog 44 #[.pointer (some ⟨p, 0, none⟩), .func (.func 50) #[] #[.pointer (some ⟨rb, 0, none⟩)]] w (RmE S w p mb bv b (fun _ => al) (rmost first b at_) fun n => .int .i64 n) := by
  refine (rm_number S w p mb bv b al at_ h hb hS _ ent_head _ (fun n => if 64 < n then 17 else if n < first then 17 else 0) (fun _ => al) (fun n hn => by split at hn; exact absurd hn (by decide); omega) fun wx hbx => ?_).mono ?_
  · refine (mod_head1 wx rb p mb first (ruv b at_).1 at_ (cell_below hbx h0) (cell_below hbx (row_cell h.row 0 rfl)) (cell_below hbx h2) hf).mono ?_
    rintro r w' (⟨e1, rfl, rfl⟩ | ⟨e1, rfl, rfl⟩)
    · exact .inl ⟨by rw [if_neg (by omega), if_neg (by omega)], rfl, Keeps.refl _ _, (hbx.block _ (row_lt h.row)).trans h.row⟩
    · by_cases c : 64 < (ruv b at_).1
      · exact .inr ⟨by rw [if_pos c]; decide, by rw [if_pos c], Keeps.refl _ _⟩
      · have c2 : (ruv b at_).1 < first := by omega
        exact .inr ⟨by rw [if_neg c, if_pos c2]; decide, by rw [if_neg c, if_pos c2], Keeps.refl _ _⟩
  · rintro e w2 (⟨x, q, h1, rfl, h2, h3⟩ | ⟨z, k, h1, rfl, h3⟩)
    · exact .inl ⟨(x : Int), q, by rw [rmost_eq, h1], rfl, h2, h3⟩
    · exact .inr ⟨_, _, by rw [rmost_eq, h1], rfl, h3⟩
end Go.Proofs.YteaolgldkfjdkaaDoor
