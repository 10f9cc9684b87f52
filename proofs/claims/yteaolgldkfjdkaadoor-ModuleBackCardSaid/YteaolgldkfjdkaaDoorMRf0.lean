/- module's reader: what a function's reading answers, step by step; its closure; where the table of ops stands. module's reader: what body's reading answers, step by step; how the lists of a module grow. Regions walked by hand. -/
import Derived.Test.YteaolgldkfjdkaaDoorMRd
import Derived.Test.YteaolgldkfjdkaaDoorMSmall
import Derived.Test.YteaolgldkfjdkaaDoorMDecode
import Derived.Test.YteaolgldkfjdkaaDoorMLib
import Derived.Deep.RegionHeld3
namespace Go.Proofs.YteaolgldkfjdkaaDoor
open Go Go.RowKit

theorem map_bad {α β : Type} {r : RdM α} {f : α → β} {b : List Int} {p : Nat} {z : Int × Nat} (h : r b p = .error z) : (r.map f) b p = .error z := by unfold RdM.map; rw [h]
theorem map_good {α β : Type} {r : RdM α} {f : α → β} {b : List Int} {p q : Nat} {x : α} (h : r b p = .ok (x, q)) : (r.map f) b p = .ok (f x, q) := by unfold RdM.map; rw [h]
section
variable {ts : List SigD} {acc : List FunD} {b : List Int} {p q1 q2 q3 q4 n : Nat} {t : Int} {lo : ByteArray} {l : List InsD} {z : Int × Nat}
/-- The count of a function's instructions. -/
def rcount (al : Nat) : RdM Nat := (rnum 2048 20).ask fun n => if 16384 < al + n then 20 else 0
theorem rcount_eq (al : Nat) : rcount al = rask (errC al) := by
  unfold rcount
  rw [← rask_ask 2048 (by decide)]
  rfl
theorem rfun_1 (h : ridx ts.length b p = .error z) : rfun ts acc b p = .error z := map_bad (bind_bad1 (bind_bad1 h))
theorem rfun_2 (h : ridx ts.length b p = .ok (t, q1)) (h2 : rlett (roomT ts t) b q1 = .error z) : rfun ts acc b p = .error z := map_bad (bind_bad1 (bind_bad2 h h2))
theorem rfun_3 (h : ridx ts.length b p = .ok (t, q1)) (h2 : rlett (roomT ts t) b q1 = .ok (lo, q2)) (h3 : rcount (allOf acc) b q2 = .error z) : rfun ts acc b p = .error z :=
  map_bad (bind_bad2 (bind_good h h2) (map_bad (bind_bad1 h3)))
theorem rfun_4 (h : ridx ts.length b p = .ok (t, q1)) (h2 : rlett (roomT ts t) b q1 = .ok (lo, q2)) (h3 : rcount (allOf acc) b q2 = .ok (n, q3)) (h4 : RdM.rep (fun _ => rins) n [] b q3 = .error z) : rfun ts acc b p = .error z :=
  map_bad (bind_bad2 (bind_good h h2) (map_bad (bind_bad2 h3 h4)))
theorem rfun_5 (h : ridx ts.length b p = .ok (t, q1)) (h2 : rlett (roomT ts t) b q1 = .ok (lo, q2)) (h3 : rcount (allOf acc) b q2 = .ok (n, q3)) (h4 : RdM.rep (fun _ => rins) n [] b q3 = .ok (l, q4)) : rfun ts acc b p = .ok (⟨t, lo, l⟩, q4) := by
  have h5 : (((rcount (allOf acc)).bind fun n => RdM.rep (fun _ => rins) n []).map Prod.snd) b q2 = .ok (l, q4) := map_good (f := Prod.snd) (bind_good h3 h4)
  have h6 : ((ridx ts.length).bind fun t => rlett (roomT ts t)) b p = .ok ((t, lo), q2) := bind_good h h2
  have h7 : (((ridx ts.length).bind fun t => rlett (roomT ts t)).bind fun _ => ((rcount (allOf acc)).bind fun n => RdM.rep (fun _ => rins) n []).map Prod.snd) b p = .ok (((t, lo), l), q4) := bind_good h6 h5
  exact map_good (f := fun z : (Int × ByteArray) × List InsD => (⟨z.1.1, z.1.2, z.2⟩ : FunD)) h7
end
/-- Where the table of ops stands: below what is read. -/
structure Bz (w0 w : World) (B p mb : Nat) : Prop where
  tb : Tb w0
  bel : Below w0.heap.size w0 w
  low : w0.heap.size ≤ p ∧ w0.heap.size ≤ mb ∧ w0.heap.size ≤ B
theorem Bz.t {w0 w : World} {B p mb : Nat} (h : Bz w0 w B p mb) : Tb w := h.tb.bel h.bel
theorem Bz.kp {w0 w w' : World} {B p mb : Nat} (h : Bz w0 w B p mb) (hk : Kp B p mb w w') : Bz w0 w' B p mb :=
  ⟨h.tb, h.bel.trans (hk.below h.bel.size fun b hb => by have := h.low; omega), h.low⟩
theorem ent_func : Hid (∀ args wx, (callFunc 65 args).run Tryd.prog wx = .ok (.enter 65 args) wx) := Lib.hid (Go.Proofs.enters_of Tryd.func65 (by kernel_rfl) rfl)
theorem mod_func1 (w : World) (rb p : Nat) (al n : Nat) (at_ : Int) (h0 : w.cell? ⟨rb, 0, none⟩ = some (.pointer (some ⟨p, 0, none⟩))) (h1 : w.cell? ⟨p, 1, none⟩ = some (.int .i64 al)) (hz : w.frozen? ⟨p, 1, none⟩ = false) (ha : al ≤ 16384) :
    Calls Tryd.prog 65 #[.int .u64 n, .int .i64 at_, .pointer (some ⟨rb, 0, none⟩)] w fun r w' =>
      (errC al n = 0 ∧ r = .returned (.tuple #[]) ∧ w' = w.setCell ⟨p, 1, none⟩ (.int .i64 ((al + n : Nat) : Int))) ∨ (errC al n = 20 ∧ r = .panicked (thrown 20 at_) ∧ ∃ x, w' = w ∨ w' = w.setCell ⟨p, 1, none⟩ x) := by
  by_cases a : 2048 < n
  · have e : errC al n = 20 := by unfold errC; rw [if_pos a]
    have d : decide ((n : Int) ≤ 2048) = false := decide_eq_false (by omega)
    go_enter Tryd.func65, Tryd.ntmps65
    go_wp2_with (go_at_call 20; refine (mod_ask _ _ _ _).mono ?_; rintro r w1 ⟨rfl, rfl⟩)
    all_goals (first | exact ⟨rfl, .inr ⟨e, rfl, .int .i64 0, .inl rfl⟩⟩ | (exfalso; simp_all; omega))
  · have d : decide ((n : Int) ≤ 2048) = true := decide_eq_true (by omega)
    have hwr : IntKind.i64.wrap (n : Int) = n := IntWalk.i64_in _ ⟨by omega, by omega⟩
    go_enter Tryd.func65, Tryd.ntmps65
    go_wp2_with (go_at_call 20; refine (mod_ask _ _ _ _).mono ?_; rintro r w1 ⟨rfl, rfl⟩)
    refine (mod_code _ p al n at_ h1 hz ha (by omega)).mono ?_
    rintro r w2 (⟨e, rfl, rfl⟩ | ⟨e, rfl, x, hx⟩)
    · go_wp2
      exact bodyPost_end (results_none rfl _ _ _) rfl (.inl ⟨e, rfl, rfl⟩)
    · exact ⟨rfl, .inr ⟨e, rfl, x, hx⟩⟩
theorem rm_code {S : Nat → Prop} {w : World} {p mb : Nat} {bv : Value} {b : List Int} {al : Nat} {at_ : Nat} (h : Rm S w p mb bv b al at_) (hb : Bytes b) (hS : ∀ x, S x → x ≠ p) (rb : Nat) (h0 : w.cell? ⟨rb, 0, none⟩ = some (.pointer (some ⟨p, 0, none⟩))) (ha : al ≤ 16384) :
    Calls Tryd.prog 44 #[.pointer (some ⟨p, 0, none⟩), .func (.func 65) #[] #[.pointer (some ⟨rb, 0, none⟩)]] w (RmE S w p mb bv b (fun n => ((al + n : Nat) : Int)) (rcount al b at_) fun n => .int .i64 n) := by
  rw [rcount_eq]
  refine rm_number S w p mb bv b al at_ h hb hS _ ent_func _ (errC al) (fun n => ((al + n : Nat) : Int)) (fun n hn => by unfold errC at hn; split at hn; exact absurd hn (by decide); omega) fun wx hbx => ?_
  have hrow := (hbx.block _ (row_lt h.row)).trans h.row
  refine (mod_func1 wx rb p al (ruv b at_).1 at_ (cell_below hbx h0) (row_cell hrow 1 rfl) (row_free hrow 1) ha).mono ?_
  rintro r w' (⟨e1, rfl, rfl⟩ | ⟨e1, rfl, x, hx⟩)
  · exact .inl ⟨e1, rfl, (Keeps.refl _ wx).setCell (a := ⟨p, 1, none⟩) (by simp) _, by simpa using row_setCell hrow 1 (.int .i64 ((al + (ruv b at_).1 : Nat) : Int))⟩
  · refine .inr ⟨by rw [e1]; decide, by rw [e1], ?_⟩
    rcases hx with rfl | rfl
    · exact Keeps.refl _ _
    · exact (Keeps.refl _ wx).setCell (a := ⟨p, 1, none⟩) (by simp) x
theorem ridx_ok5 {n : Nat} {b : List Int} {p q : Nat} {t : Int} (h : ridx n b p = .ok (t, q)) : ∃ k : Nat, t = k ∧ k < n := by
  unfold ridx RdM.map at h
  rw [ask_at] at h
  cases h1 : rnum 18446744073709551615 30 b p with
  | error e => rw [h1] at h; exact absurd h (by simp)
  | ok z =>
    obtain ⟨k, q'⟩ := z
    rw [h1] at h
    simp only at h
    by_cases hk : k < n
    · simp only [if_pos hk, if_true, Except.ok.injEq, Prod.mk.injEq] at h
      exact ⟨k, h.1.symm, hk⟩
    · simp [hk] at h
theorem rcount_ok {al n p q : Nat} {b : List Int} (h : rcount al b p = .ok (n, q)) : n ≤ 2048 ∧ al + n ≤ 16384 := by
  rw [rcount_eq, rask_at] at h
  split at h
  · exact absurd h (by simp)
  · split at h
    · exact absurd h (by simp)
    · rename_i _ h2
      simp only [Except.ok.injEq, Prod.mk.injEq] at h
      obtain ⟨rfl, _⟩ := h
      unfold errC at h2
      split at h2
      · exact absurd h2 (by simp)
      · split at h2
        · exact absurd h2 (by simp)
        · omega
section
variable {S : Nat → Prop} {B : Nat} {w w' : World} {p mb : Nat} {bv : Value} {b : List Int} {al : Int} {at_ : Nat} {x : Mq} {X : List Ent}
/-- An instruction's list, new. -/
theorem Md.dec (h : Md S B w p mb bv b al at_ x X) (hb : Below w.heap.size w w') {vl : Value} {D : InsD} (ho : Ow w.heap.size (fun y => w.heap.size ≤ y) w' vl D.l) : Md S B w' p mb bv b al at_ x (X ++ [iqE (D, vl)]) :=
  ⟨h.rm.on hb, (hb.block _ (row_lt h.mrow)).trans h.mrow, by
    rw [← List.append_assoc]
    exact h.fam.more (Keeps.all (fun _ => True) hb) (fun _ _ _ => trivial) (World.ownsRow.mono ho.2.1 h.hi) (fun g hg => ho.2.2 g hg), h.lo, Nat.le_trans h.hi hb.size, h.sS⟩
theorem Md.code0 (h : Md S B w p mb bv b al at_ x []) : Md S B w p mb bv b al at_ x [codE nilV []] :=
  ⟨h.rm, h.mrow, by
    have h1 : Fam B w x.ents := by have := h.fam; rwa [List.append_nil] at this
    exact h1.more (Keeps.refl (fun _ => True) w) (fun _ _ _ => trivial) (World.ownsRow_nil _ _ _ _) (fun g hg => by simp [codE, nilV, Value.ownBlock] at hg), h.lo, h.hi, h.sS⟩
theorem Md.gX (h : Md S B w p mb bv b al at_ x X) {g : Nat} {cs : Array Value} (hg : w.heap[g]? = some (.cells cs 49 (0, 0))) (hf : g ∉ entBs (x.ents ++ [])) (hX : ∀ e ∈ X, e.c = false ∧ e.t ≠ 49) : g ∉ entBs (x.ents ++ X) := by
  rw [List.append_nil] at hf
  rw [entBs_app, List.mem_append]
  rintro (h1 | h1)
  · exact hf h1
  · obtain ⟨e, he, hb⟩ := mem_entBs.1 h1
    obtain ⟨hc, ht⟩ := hX e he
    have ho := h.fam.own e (List.mem_append_right _ he)
    unfold Ent.own at ho
    rw [hc] at ho
    exact own_ne ho hg ht hb
/-- The list of instructions has grown. -/
theorem Md.code {cv : Value} {code : List Iq} (h : Md S B w p mb bv b al at_ x (codE cv code :: X)) {wy : World} {v9 : Value} {y : Iq} (hg : w.grownBy wy cv.ownBlock) (ho : wy.ownsRow B 76 3 v9 (code.length + 1) (code.flatMap iqC ++ iqC y)) (hat : ∀ g, v9.ownBlock = some g → cv.ownBlock = some g ∨ w.heap.size ≤ g) :
    Md S B wy p mb bv b al at_ x (codE v9 (code ++ [y]) :: X) ∧ Kp B p mb w wy := by
  have hlo := h.lo
  have hlt : ∀ g, cv.ownBlock = some g → B ≤ g := fun g hg => (h.fam.lt (mem_entBs.2 ⟨codE cv code, by simp, hg⟩)).1
  have hk : Keeps (fun b => cv.ownBlock ≠ some b) w wy := (Keeps.refl _ w).grown hg (fun k hk _ h => h hk)
  refine ⟨⟨h.rm.keeps hk (fun e => by have := hlt p e; omega) fun z hz e => by have := (h.sS z hz).1; have := hlt z e; omega, grown_block hg h.mrow (fun e => by have := hlt mb e; omega), h.fam.set hk (fun _ _ _ hne => hne) ?_ hat, h.lo, Nat.le_trans h.hi hk.size, h.sS⟩, hk.mono fun z _ hz e => by have := hlt z e; omega⟩
  show wy.ownsRow B 76 3 v9 (code ++ [y]).length ((code ++ [y]).flatMap iqC)
  simpa using ho
end
theorem row_set5 {w : World} {b c i : Nat} {cs : Array Value} {T : Nat} {fr : Nat × Nat} (h : w.heap[b]? = some (.cells cs T fr)) (hne : b ≠ c) (v : Value) : (w.setCell ⟨c, i, none⟩ v).heap[b]? = some (.cells cs T fr) :=
  (((Keeps.refl (fun b => b ≠ c) w).setCell (a := ⟨c, i, none⟩) (by simp) v).block b (row_lt h) hne).trans h
theorem Tryd.infoInsF : (Tryd.prog.info? 76).map (fun i => (i.zero, i.size, i.bytes)) = some (some (.agg #[.int .u8 0, .int .i64 0, .slice none 0 0]), 3, 40) := by kernel_rfl
theorem Tryd.infoFunF : (Tryd.prog.info? 49).map (fun i => (i.zero, i.size, i.bytes)) = some (some (.agg #[.int .i64 0, .string ⟨#[]⟩, .slice none 0 0]), 3, 48) := by kernel_rfl
end Go.Proofs.YteaolgldkfjdkaaDoor
namespace Go.Proofs.YteaolgldkfjdkaaDoor
open Go Go.RowKit

theorem bind_inv5 {α β : Type} {r : RdM α} {k : α → RdM β} {b : List Int} {p q : Nat} {z : α × β} (h : (r.bind k) b p = .ok (z, q)) : ∃ q1, r b p = .ok (z.1, q1) ∧ k z.1 b q1 = .ok (z.2, q) := by
  unfold RdM.bind at h
  cases h1 : r b p with
  | error e => rw [h1] at h; exact absurd h (by simp)
  | ok y =>
    obtain ⟨x, q1⟩ := y
    rw [h1] at h
    simp only at h
    cases h2 : k x b q1 with
    | error e => rw [h2] at h; exact absurd h (by simp)
    | ok y2 =>
      rw [h2] at h
      simp only [Except.ok.injEq, Prod.mk.injEq] at h
      obtain ⟨rfl, rfl⟩ := h
      exact ⟨q1, rfl, h2⟩
theorem bind_err5 {α β : Type} {r : RdM α} {k : α → RdM β} {b : List Int} {p : Nat} {z : Int × Nat} (h : (r.bind k) b p = .error z) : r b p = .error z ∨ ∃ x q, r b p = .ok (x, q) ∧ k x b q = .error z := by
  unfold RdM.bind at h
  cases h1 : r b p with
  | error e => rw [h1] at h; simp only at h; exact .inl (by simpa using h)
  | ok y =>
    obtain ⟨x, q1⟩ := y
    rw [h1] at h
    simp only at h
    cases h2 : k x b q1 with
    | error e => rw [h2] at h; simp only at h; exact .inr ⟨x, q1, rfl, h2.trans (by simpa using h)⟩
    | ok y2 => rw [h2] at h; exact absurd h (by simp)
theorem ask_inv5 {α : Type} {r : RdM α} {f : α → Int} {b : List Int} {p q : Nat} {x : α} (h : (r.ask f) b p = .ok (x, q)) : r b p = .ok (x, q) ∧ f x = 0 := by
  rw [ask_at] at h
  cases h1 : r b p with
  | error e => rw [h1] at h; exact absurd h (by simp)
  | ok y =>
    obtain ⟨x', q1⟩ := y
    rw [h1] at h
    simp only at h
    split at h
    · rename_i h0
      simp only [Except.ok.injEq, Prod.mk.injEq] at h
      obtain ⟨rfl, rfl⟩ := h
      exact ⟨rfl, h0⟩
    · exact absurd h (by simp)
/-- The plain reading of a body. -/
def rbd (ts : List SigD) (first : Int) : RdM (List FunD × List DatD × List ExpD) :=
  (rmany 128 (rfun ts)).bind fun fs => (rmany 64 (rdat (first * 4096).toNat)).bind fun _ => rmany 64 (rexp fs.length)
section
variable {b : List Int} {p q q2 : Nat}
theorem rmod_good {z : List SigD × List Int × List GlobD × Int × Int} {y : List FunD × List DatD × List ExpD} (h : rhd b p = .ok (z, q)) (h2 : rbd z.1 z.2.2.2.1 b q = .ok (y, q2)) :
    rmod b p = .ok (⟨z.1, z.2.1, z.2.2.1, z.2.2.2.1, z.2.2.2.2, y.1, y.2.1, y.2.2⟩, q2) := by
  obtain ⟨ts, hs, gs, first, most⟩ := z
  obtain ⟨fs, ds, es⟩ := y
  obtain ⟨q1, a1, h⟩ := bind_inv5 h
  obtain ⟨q3, a2, h⟩ := bind_inv5 h
  obtain ⟨q4, a3, h⟩ := bind_inv5 h
  obtain ⟨q5, a4, a5⟩ := bind_inv5 h
  simp only at a1 a2 a3 a4 a5 h2
  unfold rmod
  refine map_good (f := modOf) (x := (ts, hs, gs, first, most, fs, ds, es)) (bind_good a1 ?_)
  refine bind_good a2 ?_
  refine bind_good a3 ?_
  refine bind_good a4 ?_
  refine bind_good a5 ?_
  exact h2
theorem rmod_bad1 {e : Int × Nat} (h : rhd b p = .error e) : rmod b p = .error e := by
  rcases bind_err5 h with h | ⟨ts, q1, a1, h⟩
  · exact map_bad (bind_bad1 h)
  rcases bind_err5 h with h | ⟨hs, q2, a2, h⟩
  · exact map_bad (bind_bad2 a1 (bind_bad1 h))
  rcases bind_err5 h with h | ⟨gs, q3, a3, h⟩
  · exact map_bad (bind_bad2 a1 (bind_bad2 a2 (bind_bad1 h)))
  rcases bind_err5 h with h | ⟨first, q4, a4, h⟩
  · exact map_bad (bind_bad2 a1 (bind_bad2 a2 (bind_bad2 a3 (bind_bad1 h))))
  · exact map_bad (bind_bad2 a1 (bind_bad2 a2 (bind_bad2 a3 (bind_bad2 a4 (bind_bad1 h)))))
theorem rmod_bad2 {z : List SigD × List Int × List GlobD × Int × Int} {e : Int × Nat} (h : rhd b p = .ok (z, q)) (h2 : rbd z.1 z.2.2.2.1 b q = .error e) : rmod b p = .error e := by
  obtain ⟨ts, hs, gs, first, most⟩ := z
  obtain ⟨q1, a1, h⟩ := bind_inv5 h
  obtain ⟨q3, a2, h⟩ := bind_inv5 h
  obtain ⟨q4, a3, h⟩ := bind_inv5 h
  obtain ⟨q5, a4, a5⟩ := bind_inv5 h
  exact map_bad (bind_bad2 a1 (bind_bad2 a2 (bind_bad2 a3 (bind_bad2 a4 (bind_bad2 a5 h2)))))
theorem okL_each {α : Type} {ok : List α → α → Prop} {P : α → Prop} (hP : ∀ a x, ok a x → P x) : ∀ (l acc : List α), okL ok acc l → ∀ x ∈ l, P x
  | [], _, _, x, hx => absurd hx (by simp)
  | y :: l, acc, h, x, hx => by
    rw [okL] at h
    rcases List.mem_cons.1 hx with rfl | hx
    · exact hP _ _ h.1
    · exact okL_each hP l _ h.2 x hx
/-- What is asked of a head that has been read. -/
theorem rhd_ok {z : List SigD × List Int × List GlobD × Int × Int} (h : rhd b p = .ok (z, q)) (hb : Bytes b) (hp : p ≤ b.length) : z.1.length ≤ 64 ∧ (∀ s ∈ z.1, s.1.size ≤ 64) ∧ 0 ≤ z.2.2.2.1 ∧ z.2.2.2.1 ≤ 64 ∧ q ≤ b.length := by
  obtain ⟨ts, hs, gs, first, most⟩ := z
  obtain ⟨q1, a1, h⟩ := bind_inv5 h
  obtain ⟨q3, a2, h⟩ := bind_inv5 h
  obtain ⟨q4, a3, h⟩ := bind_inv5 h
  obtain ⟨q5, a4, a5⟩ := bind_inv5 h
  have c1 := (codec_rmany (most := 64) (by omega) codec_rsig).inv b p ts q1 hb hp a1
  have c2 := (codec_rmany (most := 32) (by omega) fun _ => codec_ridx (below := ts.length) (by omega)).inv b q1 hs q3 hb c1.2.2.2 a2
  have c3 := (codec_rmany (most := 64) (by omega) fun _ => codec_rglob).inv b q3 gs q4 hb c2.2.2.2 a3
  have c4 := (codec_rint (most := 64) (err := 17) (by omega)).inv b q4 first q5 hb c3.2.2.2 a4
  have c5 := ((codec_rint (most := 64) (err := 17) (by omega)).ask fun n => if n < first then 17 else 0).inv b q5 most q hb c4.2.2.2 a5
  refine ⟨c1.1.1, okL_each (P := fun s : SigD => s.1.size ≤ 64) (fun a x hx => ?_) ts [] c1.1.2, c4.1.1, by have := c4.1.2; simpa using this, c5.2.2.2⟩
  unfold errS at hx
  rw [thenE_0, errT_0] at hx
  have := hx.1.1
  omega
end
section
variable {ts : List SigD} {acc : List FunD} {b : List Int} {p q : Nat} {f : FunD}
theorem rfun_all (h : rfun ts acc b p = .ok (f, q)) (ht : ts.length ≤ 64) (hb : Bytes b) (hp : p ≤ b.length) : allOf (acc ++ [f]) ≤ 16384 := by
  have h1 := ((codec_rfun ts ht acc).inv b p f q hb hp h).1.2
  unfold errF at h1
  rw [thenE_0, thenE_0] at h1
  have h2 := h1.2.2
  split at h2
  · exact absurd h2 (by decide)
  split at h2
  · exact absurd h2 (by decide)
  unfold allOf at *
  rw [List.map_append, List.sum_append]
  simp
  omega
end
/-- A function more. -/
theorem Mq.pFun (x : Mq) (y : Fq5) : ∃ A, (x.ents ++ fqE y).Perm (fuE x.fv x.fs :: A) ∧ ∀ v9, (({ x with fv := v9, fs := x.fs ++ [y] } : Mq).ents ++ []).Perm (fuE v9 (x.fs ++ [y]) :: A) := by
  refine ⟨[tyE x.tv x.ts, hoE x.hv x.hs, glE x.gv x.gs] ++ (x.fs.flatMap fqE ++ fqE y ++ (daE x.dv x.ds :: x.ds.map dqE ++ [exE x.ev x.es])), ?_, ?_⟩
  · have h1 : (x.ents ++ fqE y) = [tyE x.tv x.ts, hoE x.hv x.hs, glE x.gv x.gs] ++ fuE x.fv x.fs :: (x.fs.flatMap fqE ++ ((daE x.dv x.ds :: x.ds.map dqE ++ [exE x.ev x.es]) ++ fqE y)) := by simp [Mq.ents]
    rw [h1]
    refine List.perm_middle.trans (List.Perm.cons _ (List.Perm.append_left _ ?_))
    exact (List.Perm.append_left _ List.perm_append_comm).trans (List.Perm.of_eq (List.append_assoc _ _ _).symm)
  · intro v9
    have h1 : (({ x with fv := v9, fs := x.fs ++ [y] } : Mq).ents ++ []) = [tyE x.tv x.ts, hoE x.hv x.hs, glE x.gv x.gs] ++ fuE v9 (x.fs ++ [y]) :: (x.fs.flatMap fqE ++ fqE y ++ (daE x.dv x.ds :: x.ds.map dqE ++ [exE x.ev x.es])) := by simp [Mq.ents]
    rw [h1]
    exact List.perm_middle
/-- Data more. -/
theorem Mq.pDat (x : Mq) (y : Dq) : ∃ A, (x.ents ++ [dqE y]).Perm (daE x.dv x.ds :: A) ∧ ∀ v9, (({ x with dv := v9, ds := x.ds ++ [y] } : Mq).ents ++ []).Perm (daE v9 (x.ds ++ [y]) :: A) := by
  refine ⟨([tyE x.tv x.ts, hoE x.hv x.hs, glE x.gv x.gs, fuE x.fv x.fs] ++ x.fs.flatMap fqE) ++ (x.ds.map dqE ++ [dqE y] ++ [exE x.ev x.es]), ?_, ?_⟩
  · have h1 : (x.ents ++ [dqE y]) = ([tyE x.tv x.ts, hoE x.hv x.hs, glE x.gv x.gs, fuE x.fv x.fs] ++ x.fs.flatMap fqE) ++ daE x.dv x.ds :: (x.ds.map dqE ++ ([exE x.ev x.es] ++ [dqE y])) := by simp [Mq.ents]
    rw [h1]
    refine List.perm_middle.trans (List.Perm.cons _ (List.Perm.append_left _ ?_))
    exact (List.Perm.append_left _ List.perm_append_comm).trans (List.Perm.of_eq (List.append_assoc _ _ _).symm)
  · intro v9
    have h1 : (({ x with dv := v9, ds := x.ds ++ [y] } : Mq).ents ++ []) = ([tyE x.tv x.ts, hoE x.hv x.hs, glE x.gv x.gs, fuE x.fv x.fs] ++ x.fs.flatMap fqE) ++ daE v9 (x.ds ++ [y]) :: (x.ds.map dqE ++ [dqE y] ++ [exE x.ev x.es]) := by simp [Mq.ents]
    rw [h1]
    exact List.perm_middle
/-- An export more. -/
theorem Mq.pExp (x : Mq) (y : ExpD) : ∃ A, (x.ents ++ []).Perm (exE x.ev x.es :: A) ∧ ∀ v9, (({ x with ev := v9, es := x.es ++ [y] } : Mq).ents ++ []).Perm (exE v9 (x.es ++ [y]) :: A) := by
  refine ⟨[tyE x.tv x.ts, hoE x.hv x.hs, glE x.gv x.gs, fuE x.fv x.fs] ++ x.fs.flatMap fqE ++ daE x.dv x.ds :: x.ds.map dqE, ?_, ?_⟩
  · have h1 : (x.ents ++ []) = ([tyE x.tv x.ts, hoE x.hv x.hs, glE x.gv x.gs, fuE x.fv x.fs] ++ x.fs.flatMap fqE ++ daE x.dv x.ds :: x.ds.map dqE) ++ exE x.ev x.es :: [] := by simp [Mq.ents]
    rw [h1]
    refine List.perm_middle.trans (by rw [List.append_nil])
  · intro v9
    have h1 : (({ x with ev := v9, es := x.es ++ [y] } : Mq).ents ++ []) = ([tyE x.tv x.ts, hoE x.hv x.hs, glE x.gv x.gs, fuE x.fv x.fs] ++ x.fs.flatMap fqE ++ daE x.dv x.ds :: x.ds.map dqE) ++ exE v9 (x.es ++ [y]) :: [] := by simp [Mq.ents]
    rw [h1]
    refine List.perm_middle.trans (by rw [List.append_nil])
end Go.Proofs.YteaolgldkfjdkaaDoor
namespace Go.Proofs.YteaolgldkfjdkaaDoor
open Go Go.RowKit

theorem wpAnyH_more {P : Program} {md : Region.Mode} {ops : Array Oper} {Q : Exit → Act → World → Prop} {S S' : World → Prop} (hs : ∀ w, S' w → S w) : ∀ {fuel : Nat} {listed : Array Bool} {a : Act} {w : World}, wpAnyH P md ops Q S' fuel listed a w → wpAnyH P md ops Q S fuel listed a w
  | 0, _, _, _, h => h
  | _ + 1, _, _, _, h => ⟨h.1, fun i hi => wpOp_mono (fun _ _ h' => ⟨hs _ h'.1, wpAnyH_more hs h'.2⟩) (h.2 i hi)⟩
theorem takeAt {P : Program} {md : Region.Mode} {ops : Array Oper} {Q : Exit → Act → World → Prop} {S : World → Prop} {i d : Nat} {oi : Oper} {v : Value} {fuel : Nat} {listed : Array Bool} {a : Act} {w : World} (hi : ops[i]? = some oi) (hd : oi.dst = some d)
    (hs : Region.noSelect ops = true) (hf : Region.free md ops listed i = true) (hr : (Region.ready md ops listed).contains i = true)
    (hQ : ∀ c a w, Q (.panic c) (a.put oi.dst v) w → Q (.panic c) a w) (hy : YieldsIf P ops S oi v a) (hS : S w)
    (h : wpAnyH P md ops Q S fuel (listed.setIfInBounds i true) (a.put (some d) v) w) : wpAnyH P md ops Q S (fuel + 1) listed a w :=
  wpAnyH_take hi hs hf hr hQ hy hS (by rw [hd]; exact h)
theorem stateAt {P : Program} {md : Region.Mode} {ops : Array Oper} {Q : Exit → Act → World → Prop} {S : World → Prop} {fuel : Nat} {listed : Array Bool} {a : Act} {o : Oper} {d : Nat} {v : Value} {w : World} (hd : o.dst = some d) (h : wpAnyH P md ops Q S fuel listed (a.put (some d) v) w) : wpAnyH P md ops Q S fuel listed (a.put o.dst v) w := by
  rw [hd]; exact h
end Go.Proofs.YteaolgldkfjdkaaDoor
