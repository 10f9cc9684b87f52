/- module's reader: body's closure; where data begin, read. module's reader: what reading data and exports answers, step by step; the lists that are looked at. -/
import Derived.Test.YteaolgldkfjdkaaDoorMRf0
import Derived.Test.YteaolgldkfjdkaaDoorMTwice
import Derived.StillTailTactics
import Derived.Test.YteaolgldkfjdkaaDoorMBody
import Derived.Laws.AppendOwn
namespace Go.Proofs.YteaolgldkfjdkaaDoor
open Go Go.RowKit

/-- Where data begin: the error as it is read. -/
def errB (R : Nat) (acc : List DatD) (n : Nat) : Int := if R < n then 17 else if (n : Int) ≤ behindD acc then 18 else 0
theorem ent_body1 : Hid (∀ args wx, (callFunc 52 args).run Tryd.prog wx = .ok (.enter 52 args) wx) := Lib.hid (Go.Proofs.enters_of Tryd.func52 (by kernel_rfl) rfl)
set_option maxRecDepth 100000 in
set_option maxHeartbeats 800000 in
theorem mod_body1 (w : World) (ob rb p mb : Nat) (cs : Array Value) (S : Nat → Prop) (first R n : Nat) (ho : w.cell? ⟨ob, 0, none⟩ = some (.int .i64 R)) (h0 : w.cell? ⟨rb, 0, none⟩ = some (.pointer (some ⟨p, 0, none⟩))) (hf : first ≤ 64) (hfe : (first : Int) * 4096 = R) (h : Rl w p mb cs) (h3 : cs[3]? = some (.int .i64 first))
    (dv : Value) (acc : List DatD) (h6 : cs[6]? = some dv) (hr : RdDats S w dv acc) (hl : acc.length ≤ 1000000) (hend : -1 ≤ behindD acc ∧ behindD acc ≤ 281474976710656) (hat : ∀ d ∈ acc, 0 ≤ d.at_ ∧ d.at_ ≤ 281474976710656) (at_ : Int) :
    Calls Tryd.prog 52 #[.int .u64 n, .int .i64 at_, .pointer (some ⟨ob, 0, none⟩), .pointer (some ⟨rb, 0, none⟩)] w (TwoEnds (errB R acc n) at_ w) := by
  have hwr : IntKind.u64.wrap (R : Int) = R := IntWalk.u64_in _ ⟨by omega, by omega⟩
  have hb0 := Below.refl w.heap.size w
  by_cases a : R < n
  · have HE : Hid (errB R acc n = 17) := Lib.hid (by unfold errB; rw [if_pos a])
    have hd : decide ((n : Int) ≤ R) = false := decide_eq_false (by omega)
    go_enter Tryd.func52, Tryd.ntmps52
    go_wp2_with (go_at_call 20; refine (mod_ask _ _ _ _).mono ?_; rintro r w1 ⟨rfl, rfl⟩)
    all_goals (first | exact ⟨rfl, .inr ⟨by rw [HE.out]; decide, by rw [HE.out], hb0⟩⟩ | (exfalso; simp_all; done) | (exfalso; simp_all; omega))
  · have hd : decide ((n : Int) ≤ R) = true := decide_eq_true (by omega)
    have HE : Hid (errSt (R : Int) acc n = errB R acc n) := Lib.hid (by unfold errB errSt; rw [if_neg a, if_neg (by omega)])
    have hwn : IntKind.i64.wrap (n : Int) = n := IntWalk.i64_in _ ⟨by omega, by omega⟩
    obtain ⟨da, dc, rfl, _⟩ := hr.len
    have p0 := h.ptr
    have m6 := row_cell h.row 6 h6
    have hD := drew_bel w
    have HS := Lib.hid (mod_starts w.drew p mb cs S first R hf hfe ⟨cell_below hD h.ptr, (hD.block _ (row_lt h.row)).trans h.row⟩ h3 n _ acc (RdL.map hr (Keeps.all S hD) (fun _ h => h) (fun _ _ h => h.keeps (Keeps.all S hD))) hl hend hat at_)
    clear hr hend hat hl h3 h6 h
    go_enter Tryd.func52, Tryd.ntmps52
    go_wp2_with (go_at_call 20; refine (mod_ask _ _ _ _).mono ?_; rintro r w1 ⟨rfl, rfl⟩)
    rotate_left
    · exfalso; simp_all; done
    go_still_tail 14, (by kernel_rfl)
    go_wp2_with fail
    refine HS.out.mono ?_
    rintro r w2 (⟨e1, rfl, hb2⟩ | ⟨e1, rfl, hb2⟩)
    · go_wp2_with fail
      exact bodyPost_end (results_none rfl _ _ _) rfl (.inl ⟨by rw [← HE.out]; exact e1, rfl, below_next hD hb2⟩)
    · exact ⟨rfl, .inr ⟨by rw [← HE.out]; exact e1, by rw [HE.out], below_next hD hb2⟩⟩
/-- The number where data begin. -/
def rfrom (R : Nat) (acc : List DatD) : RdM Nat := (rnum R 17).ask fun n => if (n : Int) ≤ behindD acc then 18 else 0
theorem rfrom_eq (R : Nat) (acc : List DatD) : rfrom R acc = rask (errB R acc) := by
  unfold rfrom
  rw [← rask_ask R (by decide)]
  rfl
theorem rm_from {S : Nat → Prop} {w : World} {p mb : Nat} {bv : Value} {b : List Int} {al : Int} {at_ : Nat} (h : Rm S w p mb bv b al at_) (hb : Bytes b) (hS : ∀ x, S x → x ≠ p) (ob rb : Nat) (cs : Array Value) (T : Nat → Prop) (first R : Nat) (ho : w.cell? ⟨ob, 0, none⟩ = some (.int .i64 R)) (h0 : w.cell? ⟨rb, 0, none⟩ = some (.pointer (some ⟨p, 0, none⟩)))
    (hf : first ≤ 64) (hfe : (first : Int) * 4096 = R) (hm : w.heap[mb]? = some (.cells cs 29 (0, 0))) (h3 : cs[3]? = some (.int .i64 first)) (dv : Value) (acc : List DatD) (h6 : cs[6]? = some dv) (hr : RdDats T w dv acc) (hl : acc.length ≤ 1000000) (hend : -1 ≤ behindD acc ∧ behindD acc ≤ 281474976710656) (hat : ∀ d ∈ acc, 0 ≤ d.at_ ∧ d.at_ ≤ 281474976710656) :
    Calls Tryd.prog 44 #[.pointer (some ⟨p, 0, none⟩), .func (.func 52) #[] #[.pointer (some ⟨ob, 0, none⟩), .pointer (some ⟨rb, 0, none⟩)]] w (RmE S w p mb bv b (fun _ => al) (rfrom R acc b at_) fun n => .int .i64 n) := by
  rw [rfrom_eq]
  refine rm_number S w p mb bv b al at_ h hb hS _ ent_body1 _ (errB R acc) (fun _ => al) (fun n hn => by unfold errB at hn; split at hn; exact absurd hn (by decide); omega) fun wx hbx => ?_
  have hrow := (hbx.block _ (row_lt h.row)).trans h.row
  refine (mod_body1 wx ob rb p mb cs T first R (ruv b at_).1 (cell_below hbx ho) (cell_below hbx h0) hf hfe ⟨row_cell hrow 0 rfl, (hbx.block _ (row_lt hm)).trans hm⟩ h3 dv acc h6 (RdL.map hr (Keeps.all T hbx) (fun _ h => h) (fun _ _ h => h.keeps (Keeps.all T hbx))) hl hend hat at_).mono ?_
  rintro r w' (⟨e1, rfl, hb'⟩ | ⟨e1, rfl, hb'⟩)
  · exact .inl ⟨e1, rfl, Keeps.all _ hb', (hb'.block _ (row_lt hrow)).trans hrow⟩
  · exact .inr ⟨e1, rfl, Keeps.all _ hb'⟩
end Go.Proofs.YteaolgldkfjdkaaDoor
namespace Go.Proofs.YteaolgldkfjdkaaDoor
open Go Go.RowKit

section
variable {R : Nat} {acc : List DatD} {b : List Int} {p q1 q2 n : Nat} {s : ByteArray} {z : Int × Nat}
theorem rdat_1 (h : rfrom R acc b p = .error z) : rdat R acc b p = .error z := map_bad (bind_bad1 h)
theorem rdat_2 (h : rfrom R acc b p = .ok (n, q1)) (h2 : rtext (R - n) b q1 = .error z) : rdat R acc b p = .error z := map_bad (bind_bad2 h (by rw [ask_at, h2]))
theorem rdat_3 (h : rfrom R acc b p = .ok (n, q1)) (h2 : rtext (R - n) b q1 = .ok (s, q2)) (h3 : s.size = 0) : rdat R acc b p = .error (17, q1) := map_bad (bind_bad2 h (by rw [ask_at, h2]; simp only [if_pos h3]; rfl))
theorem rdat_4 (h : rfrom R acc b p = .ok (n, q1)) (h2 : rtext (R - n) b q1 = .ok (s, q2)) (h3 : s.size ≠ 0) : rdat R acc b p = .ok (⟨n, bys s⟩, q2) :=
  map_good (f := fun z : Nat × ByteArray => (⟨z.1, bys z.2⟩ : DatD)) (x := (n, s)) (bind_good h (by rw [ask_at, h2]; simp only [if_neg h3]; rfl))
theorem rfrom_ok (h : rfrom R acc b p = .ok (n, q1)) : n ≤ R := by
  rw [rfrom_eq, rask_at] at h
  split at h
  · exact absurd h (by simp)
  · split at h
    · exact absurd h (by simp)
    · rename_i h2
      simp only [Except.ok.injEq, Prod.mk.injEq] at h
      obtain ⟨rfl, _⟩ := h
      unfold errB at h2
      split at h2
      · exact absurd h2 (by simp)
      · omega
end
section
variable {nf : Nat} {acc : List ExpD} {b : List Int} {p q1 q2 : Nat} {t : Int} {s : ByteArray} {z : Int × Nat}
theorem rexp_1 (h : rtext 32 b p = .error z) : rexp nf acc b p = .error z := map_bad (bind_bad1 (by rw [ask_at, h]))
theorem rexp_2 (h : rtext 32 b p = .ok (s, q1)) (h2 : errName acc s ≠ 0) : rexp nf acc b p = .error (errName acc s, p) := map_bad (bind_bad1 (by rw [ask_at, h]; simp only [if_neg h2]))
theorem rexp_3 (h : rtext 32 b p = .ok (s, q1)) (h2 : errName acc s = 0) (h3 : ridx nf b q1 = .error z) : rexp nf acc b p = .error z := map_bad (bind_bad2 (x := s) (q := q1) (by rw [ask_at, h]; simp only [if_pos h2]) h3)
theorem rexp_4 (h : rtext 32 b p = .ok (s, q1)) (h2 : errName acc s = 0) (h3 : ridx nf b q1 = .ok (t, q2)) : rexp nf acc b p = .ok (⟨s, t⟩, q2) :=
  map_good (f := fun z : ByteArray × Int => (⟨z.1, z.2⟩ : ExpD)) (x := (s, t)) (bind_good (x := s) (q := q1) (by rw [ask_at, h]; simp only [if_pos h2]) h3)
end
/-- One more, without an error. -/
theorem errL_snoc {α : Type} {e : List α → α → Int} {l : List α} {x : α} (h0 : errL e [] l = 0) (h1 : e l x = 0) : errL e [] (l ++ [x]) = 0 := by
  rw [errL_app, h0]
  simp [thenE, errL, h1]
theorem dat_all {R : Nat} {l : List DatD} (h : errL (errD R) [] l = 0) : (-1 ≤ behindD l ∧ behindD l ≤ R) ∧ ∀ d ∈ l, (0 ≤ d.at_ ∧ d.at_ ≤ R) ∧ d.b.length ≤ R := by
  have ht : l.take l.length = l := List.take_length
  have h1 := behindD_le (k := l.length) (Nat.le_refl _) (by rw [ht]; exact h)
  rw [ht] at h1
  refine ⟨h1, fun d hd => ?_⟩
  obtain ⟨a, ha⟩ := okL_mem ((errL_0 _ _).1 h) d hd
  have := errD_end ha
  omega
section
variable {S : Nat → Prop} {B : Nat} {w w' : World} {p mb : Nat} {bv : Value} {b : List Int} {al : Int} {at_ : Nat} {x : Mq} {X : List Ent}
theorem Md.dats (h : Md S B w p mb bv b al at_ x X) (hl : x.ds.length ≤ 140737488355328) (hb : ∀ d ∈ x.ds, d.1.b.length ≤ 140737488355328) : RdDats (fun b => B ≤ b) w x.dv (x.ds.map (·.1)) := by
  have hB : ∀ e ∈ x.ents ++ X, ∀ b, e.v.ownBlock = some b → B ≤ b := fun e he b hb => (Ent.lt (h.fam.own e he) b hb).1
  have m6 : daE x.dv x.ds ∈ x.ents ++ X := by simp [Mq.ents]
  have m7 : ∀ d ∈ x.ds, dqE d ∈ x.ents ++ X := fun d hd => by
    simp only [Mq.ents, List.mem_append, List.mem_cons, List.mem_map]
    exact .inl (.inl (.inr (.inr ⟨d, hd, rfl⟩)))
  have hr : ∀ d ∈ x.ds, RDat (fun b => B ≤ b) w (dqC d) d.1 := fun d hd =>
    ⟨d.2, rfl, (Cnv.rdI (h.fam.own _ (m7 d hd)) (hb d hd)).mono fun b _ hb => hB _ (m7 d hd) b hb⟩
  have h1 : RdL 2 (fun w cs (d : Dq) => RDat (fun b => B ≤ b) w cs d.1) (fun b => x.dv.ownBlock = some b) w x.dv x.ds := rd_own (α := Dq) (R := fun w cs d => RDat (fun b => B ≤ b) w cs d.1) (h.fam.own _ m6) rfl rfl (fun _ _ => rfl) hl hr
  have h2 := h1.mono (T := fun b => B ≤ b) (R' := fun w cs (d : Dq) => RDat (fun b => B ≤ b) w cs d.1) (by decide) (fun b _ hb => hB _ m6 b hb) fun _ _ h => h
  exact RdL.of_map h2
theorem Md.exps (h : Md S B w p mb bv b al at_ x X) (hl : x.es.length ≤ 140737488355328) : RdExps (fun b => B ≤ b) w x.ev x.es := by
  have m8 : exE x.ev x.es ∈ x.ents ++ X := by simp [Mq.ents]
  exact (rd_own (R := RExp) (h.fam.own _ m8) rfl rfl (fun _ _ => rfl) hl fun _ _ => rfl).mono (Nat.succ_pos _) (fun b _ hb => (Ent.lt (h.fam.own _ m8) b hb).1) fun _ _ h => h
end
/-- A text as bytes of its own. -/
theorem Md.conv {B : Nat} {S : Nat → Prop} {w : World} {p mb : Nat} {bv : Value} {b : List Int} {al : Int} {at_ : Nat} {x : Mq} {X : List Ent} (h : Md S B w p mb bv b al at_ x X) (N : Int) (s : ByteArray) :
    Md S B (Lib.bytesWorld w 5 s) p mb bv b al at_ x (X ++ [dqE (⟨N, bys s⟩, .slice (some ⟨w.heap.size, 0, none⟩) s.size (grownCap w s.size 0 5))]) := by
  have hb := cnv_below w s
  refine ⟨h.rm.on hb, (hb.block _ (row_lt h.mrow)).trans h.mrow, ?_, h.lo, Nat.le_trans h.hi hb.size, h.sS⟩
  rw [← List.append_assoc]
  have hsz : (Lib.bytesCells w 5 s).size = grownCap w s.size 0 5 := by
    have := grownCap_ge w s.size 0 5
    simp only [Lib.bytesCells, Array.size_append, Array.size_map, Array.size_replicate]
    show s.size + _ = _
    omega
  refine h.fam.more (Keeps.all (fun _ => True) hb) (fun _ _ _ => trivial) ?_ (fun g hg => by simp only [dqE, Value.ownBlock, Option.some.injEq] at hg; omega)
  show Cnv _ B 5 _ (bys s).length ((bys s).map (Value.int .u8))
  rw [bys_len, ← hsz]
  refine ⟨w.heap.size, Lib.bytesCells w 5 s, rfl, h.hi, Lib.bytesWorld_at_new w _ s, by rw [hsz]; exact grownCap_ge _ _ _ _, by rw [List.length_map, bys_len], ?_⟩
  simp only [Lib.bytesCells, Array.toList_append, Array.toList_map]
  rw [List.take_left' (by simp)]
  simp [bys]
theorem Tryd.infoDatF : (Tryd.prog.info? 52).map (fun i => (i.zero, i.size, i.bytes)) = some (some (.agg #[.int .i64 0, .slice none 0 0]), 2, 32) := by kernel_rfl
theorem Tryd.infoExpF : (Tryd.prog.info? 54).map (fun i => (i.zero, i.size, i.bytes)) = some (some (.agg #[.string ⟨#[]⟩, .int .i64 0]), 2, 24) := by kernel_rfl
end Go.Proofs.YteaolgldkfjdkaaDoor
