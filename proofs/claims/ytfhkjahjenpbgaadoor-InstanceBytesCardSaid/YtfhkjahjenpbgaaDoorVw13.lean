/- The validator's walk over a code. -/
import Derived.Test.YtfhkjahjenpbgaaDoorVw11
import Derived.Test.YtfhkjahjenpbgaaDoorVw12
import Derived.Deep.AppendLies
namespace Go.Proofs.YtfhkjahjenpbgaaDoor
open Go Go.RowKit

theorem Tryd.infoStrW : (Tryd.prog.info? 9).map (fun i => (i.zero, i.size, i.bytes)) = some (some (.string ⟨#[]⟩), 1, 16) := by kernel_rfl
theorem Tryd.infoIntW : (Tryd.prog.info? 3).map (fun i => (i.zero, i.size, i.bytes)) = some (some (.int .i64 0), 1, 8) := by kernel_rfl
/-- The walk's own boxes. -/
structure Wb (n p : Nat) (w : World) : Prop where
  wb : w.heap[n]? = some (.cells #[.pointer (some ⟨p, 0, none⟩)] 87 (0, 0))
  eb : w.heap[n + 1]? = some (.cells #[.int .i64 0] 38 (0, 0))
  ab : w.heap[n + 1 + 1]? = some (.cells #[.int .i64 0] 3 (0, 0))
def Xw (n : Nat) : Nat → Prop := fun b => b = n ∨ b = n + 1 ∨ b = n + 1 + 1
/-- How the walk stands. -/
structure Lw (k : Wc) (w0 : World) (n : Nat) (v : VwD) (pc : Int) (q : Wq) (w : World) : Prop where
  wv : Wv k w v pc q
  kw : Kw k w0 w
  wb : Wb n k.p w
  kx : ∀ b, Xw n b → k.p < b ∧ k.X b
section
variable {k : Wc} {w0 w w1 w2 : World} {n : Nat} {v v1 : VwD} {pc : Int} {q q1 : Wq}
theorem Lw.step {T : Nat → Prop} {pc1 : Int} (h : Lw k w0 n v pc q w) (hv : Wv k w1 v1 pc1 q1) (hk : Keeps T w w1) (hT : ∀ b, (b < k.p ∨ (k.p < b ∧ k.X b)) → T b := by first | exact fun b hb => hb | exact fun b hb => ne_kp hb) : Lw k w0 n v1 pc1 q1 w1 := by
  have hx : ∀ b, Xw n b → T b := fun b hb => hT b (.inr (h.kx b hb))
  exact ⟨hv, h.kw.trans (hk.mono fun b _ hb => hT b hb), ⟨(hk.block _ (row_lt h.wb.wb) (hx _ (.inl rfl))).trans h.wb.wb, (hk.block _ (row_lt h.wb.eb) (hx _ (.inr (.inl rfl)))).trans h.wb.eb, (hk.block _ (row_lt h.wb.ab) (hx _ (.inr (.inr rfl)))).trans h.wb.ab⟩, h.kx⟩
theorem Lw.on (h : Lw k w0 n v pc q w) (hb : Below w.heap.size w w1) : Lw k w0 n v pc q w1 := h.step (h.wv.on hb) (Kn.on (k := k) hb)
theorem Lw.wbk (h : Lw k w0 n v pc q w) (hk : Kw k w w1) : Wb n k.p w1 :=
  ⟨(hk.block _ (row_lt h.wb.wb) (.inr (h.kx _ (.inl rfl)))).trans h.wb.wb, (hk.block _ (row_lt h.wb.eb) (.inr (h.kx _ (.inr (.inl rfl))))).trans h.wb.eb, (hk.block _ (row_lt h.wb.ab) (.inr (h.kx _ (.inr (.inr rfl))))).trans h.wb.ab⟩
/-- A box beside the walker is written. -/
theorem Wv.otherX {c T : Nat} {cs : Array Value} (h : Wv k w v pc q) (hX : k.X c) (hc : k.p < c) (hr : w.heap[c]? = some (.cells cs T (0, 0))) (hT : 93 ≠ T) (i : Nat) (u : Value) : Wv k (w.setCell ⟨c, i, none⟩ u) v pc q := by
  have hk := (Keeps.refl (fun b => b ≠ c) w).setCell (a := ⟨c, i, none⟩) (by simp) u
  have ha := h.al c hX
  refine ⟨(hk.block _ (row_lt h.row) (by omega)).trans h.row, ⟨fun e he => Ent.keeps (h.fam.own e he) hk fun b hb e1 => ?_, h.fam.nd⟩, h.lo, Nat.le_trans h.hi hk.size, h.psl, fun j hj => ?_, h.rd.keeps hk fun b hb => by omega, fun b hx => ⟨Nat.lt_of_lt_of_le (h.al b hx).1 hk.size, (h.al b hx).2⟩⟩
  · subst e1
    simp only [Wq.ents, List.mem_cons, List.not_mem_nil, or_false] at he
    rcases he with rfl | rfl | rfl
    · exact ha.2.1 hb
    · exact ha.2.2.1 hb
    · exact ha.2.2.2 hb
  · obtain ⟨b, h1, h2⟩ := h.ops j hj
    exact ⟨b, h1, (hk.block b (row_lt h2) (row_ne h2 hr hT)).trans h2⟩
/-- A box that some call has made stays where a list grows. -/
theorem box_more {B T T' sz m g : Nat} {x : Value} {xs : List Value} {c : Array Value} {l : Value} (ho : w.ownsRow B T sz l m xs) (hg : w.grownBy w2 l.ownBlock) (hr : w.heap[g]? = some (.cells c T' (0, 0))) (hT : T ≠ T') (hp : g ≠ k.p) (i : Nat) : (w2.setCell ⟨k.p, i, none⟩ x).heap[g]? = some (.cells c T' (0, 0)) := by
  have h1 := grown_block hg hr (own_ne ho hr hT)
  exact (((Keeps.refl (fun b => b ≠ k.p) w2).setCell (a := ⟨k.p, i, none⟩) (by simp) x).block g (row_lt h1) hp).trans h1
end
theorem leaves_same {P : Program} {fn : Func} {t t' : Array Value} {R : Ending → World → Prop} (h : results fn t = results fn t') : ∀ (ds : List Deferred) (u : FrameMode) (w : World), Leaves P fn t R ds u w → Leaves P fn t' R ds u w
  | [], .returning, w, hl => by
    obtain ⟨v, h1, h2⟩ := hl
    exact ⟨v, by rw [← h]; exact h1, h2⟩
  | [], .panicking chain, w, hl => hl
  | [], .run, w, hl => hl
  | d :: ds, u, w, hl => by
    obtain ⟨h1, fv, cap, f, args, h2, h3, h4⟩ := hl
    refine ⟨h1, fv, cap, f, args, h2, h3, h4.mono ?_⟩
    intro r u' w' hr
    cases r with
    | returned v => exact leaves_same h ds _ w' hr
    | panicked chain => exact leaves_same h ds _ w' hr
    | outgrown => exact hr
theorem hQw {R : Ending → World → Prop} {d : Nat} (h2 : d ≠ 2) (h3 : d ≠ 3) {v : Value} {c : List PanicEntry} {a : Act} {w : World} (h : bodyPostD Tryd.prog Tryd.f25 R (.panic c) (a.put (some d) v) w) : bodyPostD Tryd.prog Tryd.f25 R (.panic c) a w := by
  refine leaves_same ?_ _ _ _ h
  have e2 : (a.tmps.setIfInBounds d v)[2]?.getD undef = a.tmps[2]?.getD undef := by rw [Array.getElem?_setIfInBounds_ne h2]
  have e3 : (a.tmps.setIfInBounds d v)[3]?.getD undef = a.tmps[3]?.getD undef := by rw [Array.getElem?_setIfInBounds_ne h3]
  simp [results, Tryd.results25, Act.put, e2, e3]
/-- What a walk answers. -/
def WalkP (k : Wc) (w : World) (v0 : VwD) (r : Ending) (w' : World) : Prop := match goV k.ctx k.code 0 v0 with
  | .error z => r = .returned (.tuple #[.int .i64 z.1, .int .i64 (z.2 : Nat)]) ∧ Keeps (fun b => b < k.p) w w'
  | .ok v => r = .returned (.tuple #[.int .i64 0, .int .i64 0]) ∧ Keeps (fun b => b < k.p) w w' ∧ ∃ pc q, Wv k w' v pc q
theorem walk_fail {k : Wc} {w0 w w7 : World} {v0 : VwD} {n at_ : Nat} {e : Int} (hw : Keeps (fun b => b < k.p) w w0) (hkw : Kw k w0 w7) (hb : Wb n k.p w7) (hn : k.p < n) (hp : w7.cell? ⟨k.p, 20, none⟩ = some (.int .i64 (at_ : Nat))) (hg : goV k.ctx k.code 0 v0 = .error (e, at_)) (tmps : Array Value) (h2 : tmps.getD 2 undef = .pointer (some ⟨n + 1, 0, none⟩)) (h3 : tmps.getD 3 undef = .pointer (some ⟨n + 1 + 1, 0, none⟩)) :
    bodyPostD Tryd.prog Tryd.f25 (WalkP k w v0) (Exit.panic (wrongV e)) ⟨tmps, [{ target := Target.fn (Fn.func 32) #[.pointer (some ⟨n, 0, none⟩), .pointer (some ⟨n + 1, 0, none⟩), .pointer (some ⟨n + 1 + 1, 0, none⟩)], args := #[] }]⟩ w7 := by
  refine leaves_cons (f := 32) (args := #[.pointer (some ⟨n, 0, none⟩), .pointer (some ⟨n + 1, 0, none⟩), .pointer (some ⟨n + 1 + 1, 0, none⟩)]) (by simp) (by simp [go_sem]) ?_
  refine (walk1_panicking n (n + 1) (n + 1 + 1) k.p (by omega) 0 0 e at_ [] w7 (row_cell hb.wb 0 rfl) hp hb.eb hb.ab).mono ?_
  rintro r u' w8 ⟨rfl, rfl, hc8⟩
  have c2 := row_cell hc8.re 0 rfl; have c3 := row_cell hc8.ra 0 rfl
  simp only [List.getElem_toArray, List.getElem_cons_zero] at c2 c3
  have h2' : tmps[2]?.getD undef = .pointer (some ⟨n + 1, 0, none⟩) := by simpa using h2
  have h3' : tmps[3]?.getD undef = .pointer (some ⟨n + 1 + 1, 0, none⟩) := by simpa using h3
  have hp8 : WalkP k w v0 (.returned (.tuple #[.int .i64 e, .int .i64 (at_ : Nat)])) w8 := by
    unfold WalkP
    rw [hg]
    exact ⟨rfl, hw.trans ((hkw.mono fun b _ hb' => .inl hb').trans (hc8.keep.mono fun b _ hb' => ⟨by omega, by omega⟩))⟩
  simp [Leaves, settle, results, Tryd.results25, go_sem, c2, c3, h2', h3', hp8]
theorem walk_done {k : Wc} {w0 w w7 : World} {v0 v : VwD} {n : Nat} {pc : Int} {q : Wq} (hw : Keeps (fun b => b < k.p) w w0) (hl : Lw k w0 n v pc q w7) (hg : goV k.ctx k.code 0 v0 = .ok v) (tmps : Array Value) (h2 : tmps.getD 2 undef = .pointer (some ⟨n + 1, 0, none⟩)) (h3 : tmps.getD 3 undef = .pointer (some ⟨n + 1 + 1, 0, none⟩)) :
    bodyPostD Tryd.prog Tryd.f25 (WalkP k w v0) Exit.ret ⟨tmps, [{ target := Target.fn (Fn.func 32) #[.pointer (some ⟨n, 0, none⟩), .pointer (some ⟨n + 1, 0, none⟩), .pointer (some ⟨n + 1 + 1, 0, none⟩)], args := #[] }]⟩ ((w7.setCell ⟨n + 1, 0, none⟩ (.int .i64 0)).setCell ⟨n + 1 + 1, 0, none⟩ (.int .i64 0)) := by
  obtain ⟨l1, x1⟩ := hl.kx (n + 1) (.inr (.inl rfl))
  obtain ⟨l2, x2⟩ := hl.kx (n + 1 + 1) (.inr (.inr rfl))
  have v8 := hl.wv.otherX x1 l1 hl.wb.eb (by decide) 0 (.int .i64 0)
  have k1 := (Keeps.refl (fun b => b ≠ n + 1) w7).setCell (a := ⟨n + 1, 0, none⟩) (by simp) (.int .i64 0)
  have r1 : (w7.setCell ⟨n + 1, 0, none⟩ (.int .i64 0)).heap[n + 1]? = some (.cells #[.int .i64 0] 38 (0, 0)) := by simpa using row_setCell hl.wb.eb 0 (.int .i64 0)
  have a1 := (k1.block (n + 1 + 1) (row_lt hl.wb.ab) (by omega)).trans hl.wb.ab
  generalize w7.setCell ⟨n + 1, 0, none⟩ (.int .i64 0) = w8 at *
  have v9 := v8.otherX x2 l2 a1 (by decide) 0 (.int .i64 0)
  have k2 := (Keeps.refl (fun b => b ≠ n + 1 + 1) w8).setCell (a := ⟨n + 1 + 1, 0, none⟩) (by simp) (.int .i64 0)
  have r2 : (w8.setCell ⟨n + 1 + 1, 0, none⟩ (.int .i64 0)).heap[n + 1 + 1]? = some (.cells #[.int .i64 0] 3 (0, 0)) := by simpa using row_setCell a1 0 (.int .i64 0)
  have r3 := (k2.block (n + 1) (row_lt r1) (by omega)).trans r1
  generalize w8.setCell ⟨n + 1 + 1, 0, none⟩ (.int .i64 0) = w9 at *
  have c2 := row_cell r3 0 rfl; have c3 := row_cell r2 0 rfl
  simp only [List.getElem_toArray, List.getElem_cons_zero] at c2 c3
  have h2' : tmps[2]?.getD undef = .pointer (some ⟨n + 1, 0, none⟩) := by simpa using h2
  have h3' : tmps[3]?.getD undef = .pointer (some ⟨n + 1 + 1, 0, none⟩) := by simpa using h3
  have hp8 : WalkP k w v0 (.returned (.tuple #[.int .i64 0, .int .i64 0])) w9 := by
    unfold WalkP
    rw [hg]
    exact ⟨rfl, hw.trans ((hl.kw.mono fun b _ hb' => .inl hb').trans ((k1.mono fun b _ hb' => by omega).trans (k2.mono fun b _ hb' => by omega))), pc, q, v9⟩
  refine leaves_cons (f := 32) (args := #[.pointer (some ⟨n, 0, none⟩), .pointer (some ⟨n + 1, 0, none⟩), .pointer (some ⟨n + 1 + 1, 0, none⟩)]) (by simp) (by simp [go_sem]) ?_
  refine (walk1_idle w9 _ _ _).mono ?_
  rintro r u' w10 ⟨rfl, rfl, rfl⟩
  simp [Leaves, settle, results, Tryd.results25, go_sem, c2, c3, h2', h3', hp8]
theorem Wb.start (w : World) (p : Nat) : Below w.heap.size w (((w.alloc (.cells #[.pointer (some ⟨p, 0, none⟩)] 87)).alloc (.cells #[.int .i64 0] 38)).alloc (.cells #[.int .i64 0] 3)) ∧ Wb w.heap.size p (((w.alloc (.cells #[.pointer (some ⟨p, 0, none⟩)] 87)).alloc (.cells #[.int .i64 0] 38)).alloc (.cells #[.int .i64 0] 3)) ∧ w.heap.size + 3 ≤ (((w.alloc (.cells #[.pointer (some ⟨p, 0, none⟩)] 87)).alloc (.cells #[.int .i64 0] 38)).alloc (.cells #[.int .i64 0] 3)).heap.size := by
  have st : ∀ (W : World) (o : Obj), Below W.heap.size W (W.alloc o) ∧ (W.alloc o).heap[W.heap.size]? = some o ∧ (W.alloc o).heap.size = W.heap.size + 1 := fun W o => ⟨below_alloc W o, heap_alloc_new W o, World.size_alloc ..⟩
  obtain ⟨b1, r1, s1⟩ := st w (.cells #[.pointer (some ⟨p, 0, none⟩)] 87)
  generalize w.alloc (.cells #[.pointer (some ⟨p, 0, none⟩)] 87) = w1 at *
  obtain ⟨b2, r2, s2⟩ := st w1 (.cells #[.int .i64 0] 38)
  generalize w1.alloc (.cells #[.int .i64 0] 38) = w2 at *
  obtain ⟨b3, r3, s3⟩ := st w2 (.cells #[.int .i64 0] 3)
  generalize w2.alloc (.cells #[.int .i64 0] 3) = w3 at *
  rw [s1] at r2
  rw [s2, s1] at r3
  exact ⟨below_next b1 (below_next b2 b3), ⟨((below_next b2 b3).block _ (by omega)).trans r1, (b3.block _ (by omega)).trans r2, r3⟩, by omega⟩
theorem Wr.code_at {k : Wc} {w : World} {ca : Option Addr} {cc at_ : Nat} (h : Wr k w) (hcv : k.cv = .slice ca k.code.length cc) (hlt : at_ < k.code.length) : ∃ b off vl, ca = some ⟨b, off, none⟩ ∧ w.cell? ⟨b, off + at_ * 3, none⟩ = some (.int .u8 k.code[at_].op) ∧ w.cell? ⟨b, off + at_ * 3 + 1, none⟩ = some (.int .i64 k.code[at_].a) ∧ w.cell? ⟨b, off + at_ * 3 + 2, none⟩ = some vl ∧ RdI .i64 k.S w vl k.code[at_].l := by
  obtain ⟨a, cap, e, _, _, h3⟩ := h.cod
  rw [hcv] at e
  simp only [Value.slice.injEq] at e
  obtain ⟨rfl, _, rfl⟩ := e
  obtain ⟨b, off, cs, e1, e2, e3, e4, v, e5, e6⟩ := h3 at_ hlt
  subst e5
  exact ⟨b, off, v, e1, e4 0 (by omega), e4 1 (by omega), e4 2 (by omega), e6⟩
theorem at_ofW {v : Value} {g9 n c N M : Nat} (h : v.ownBlock = some g9 ∨ g9 = N) (hM : M ≤ N) : ∀ g, (Value.slice (some ⟨g9, 0, none⟩) n c).ownBlock = some g → v.ownBlock = some g ∨ M ≤ g := by
  intro g hg
  simp only [Value.ownBlock, Option.some.injEq] at hg
  subst hg
  rcases h with h | h
  · exact .inl h
  · exact .inr (by omega)
section
variable {c : VcD} {code : List InsD} {v0 v v1 vA : VwD} {at_ : Nat} {x : InsD} {e : Int}
theorem go_err (h : goV c code 0 v0 = goV c (code.drop at_) at_ v) (hlt : at_ < code.length) (hx : code[at_] = x) (hs : stepV c v at_ x = .error e) : goV c code 0 v0 = .error (e, at_) := by
  rw [h, List.drop_eq_getElem_cons hlt, hx, goV, hs]
theorem go_ok (h : goV c code 0 v0 = goV c (code.drop at_) at_ v) (hlt : at_ < code.length) (hx : code[at_] = x) (hs : stepV c v at_ x = .ok v1) : goV c code 0 v0 = goV c (code.drop (at_ + 1)) (at_ + 1) v1 := by
  rw [h, List.drop_eq_getElem_cons hlt, hx, goV, hs]
theorem step_bad (h : aheadV v x = .error e) : stepV c v at_ x = .error e := by unfold stepV; rw [h]; rfl
theorem step_row (h : aheadV v x = .ok v1) : stepV c v at_ x = rowV c v1 at_ x := by unfold stepV; rw [h]; rfl
/-- The walk behind what is told of an instruction. -/
def toldV (v : VwD) : VwD := { v with shapes := v.shapes ++ [v.shape], high := max v.high v.shape.size, floors := v.floors ++ [-1] }
theorem ahead_36 (h : v.dead = true) (h2 : ¬ (x.op = 5 ∨ x.op = 6)) : aheadV v x = .error 36 := by unfold aheadV; rw [if_pos ⟨h, h2⟩]
theorem ahead_34 (h : v.dead = true) (h2 : x.op = 5 ∨ x.op = 6) (h3 : ¬ (v.top.base ++ v.top.res).size ≤ 256) : aheadV v x = .error 34 := by
  unfold aheadV; rw [if_neg (fun hh => hh.2 h2), if_pos h, if_neg h3]; rfl
theorem ahead_f (h : v.dead = false) : aheadV v x = .ok (toldV v) := by
  unfold aheadV; rw [if_neg (by simp [h]), if_neg (by simp [h])]; rfl
theorem ahead_t (h : v.dead = true) (h2 : x.op = 5 ∨ x.op = 6) (h3 : (v.top.base ++ v.top.res).size ≤ 256) : aheadV v x = .ok (toldV (setS v (v.top.base ++ v.top.res))) := by
  unfold aheadV; rw [if_neg (fun hh => hh.2 h2), if_pos h, if_pos h3]; rfl
end
set_option maxRecDepth 100000 in
set_option maxHeartbeats 6400000 in
theorem val_walkX (k : Wc) (w : World) (v0 : VwD) (pc0 : Int) (q0' : Wq) (hX : k.X = Xw w.heap.size) (hw : ∀ w', Below w.heap.size w w' → w.heap.size + 3 ≤ w'.heap.size → Wv k w' v0 pc0 q0') (hm : MOk k.m) (hlc : k.loc.size ≤ 140737488355328) (hs2 : k.s2.size ≤ 8) (hels : k.elses.length = k.code.length) (hlen : k.code.length ≤ 1048576) (hwf : ∀ x ∈ k.code, x.op < 256 ∧ i64P x.a ∧ (∀ n ∈ x.l, i64P n) ∧ (x.op = 9 → 0 < x.l.length)) (hVL : VL (opsOf k.code) v0 0) (w00 : World) (ht0 : Tb w00) (hb0 : Below w00.heap.size w00 w) (hlo : w00.heap.size ≤ k.p) (hpw : k.p < w.heap.size) :
    Calls Tryd.prog 25 #[.pointer (some ⟨k.p, 0, none⟩)] w (WalkP k w v0) := by
  obtain ⟨i1, hj, hy0, hy1, hy2⟩ := info_parts Tryd.infoStrW
  obtain ⟨i2, hj2, hz0, hz1, hz2⟩ := info_parts Tryd.infoIntW
  have hmf : ∀ (fn : Fn) (first cap : Array Value) (w : World), (Instr.makeFunc fn first cap).run Tryd.prog w = .ok (.func fn first cap) w := fun _ _ _ _ => rfl
  obtain ⟨hbel, hwb, hsz⟩ := Wb.start w k.p
  have hv0 := hw _ hbel hsz
  obtain ⟨ca, cc, hcv, -⟩ : ∃ a c, k.cv = .slice a k.code.length c ∧ k.code.length ≤ c := by
    obtain ⟨a, c, e, h1, _⟩ := hv0.rd.cod
    exact ⟨a, c, e, h1⟩
  have HCV := Lib.hid hcv
  have y11 := hv0.cell 11 (u := k.cv) rfl
  rw [hcv] at y11
  have qn := row_cell hwb.wb 0 rfl
  simp only [List.getElem_toArray, List.getElem_cons_zero] at qn
  have hkx : ∀ b, Xw w.heap.size b → k.p < b ∧ k.X b := fun b hb => by
    refine ⟨?_, by rw [hX]; exact hb⟩
    unfold Xw at hb; omega
  have HL0 : Hid (Lw k (((w.alloc (.cells #[.pointer (some ⟨k.p, 0, none⟩)] 87)).alloc (.cells #[.int .i64 0] 38)).alloc (.cells #[.int .i64 0] 3)) w.heap.size v0 pc0 q0' _) := Lib.hid ⟨hv0, Keeps.refl _ _, hwb, hkx⟩
  have HKW : Hid (Keeps (fun b => b < k.p) w (((w.alloc (.cells #[.pointer (some ⟨k.p, 0, none⟩)] 87)).alloc (.cells #[.int .i64 0] 38)).alloc (.cells #[.int .i64 0] 3))) := Lib.hid (Keeps.all _ hbel)
  have HB0 := Lib.hid (hb0.trans (hbel.mono hb0.size))
  have HWF := Lib.hid hwf; have HVL0 := Lib.hid hVL; have HM := Lib.hid hm; have HT0 := Lib.hid ht0
  clear hw hv0 hwb hsz hbel hcv hkx hwf hVL hm ht0 hb0 hX
  go_enter_defers Tryd.func25, Tryd.ntmps25
  go_wp2_with fail
  generalize ((w.alloc (.cells #[.pointer (some ⟨k.p, 0, none⟩)] 87)).alloc (.cells #[.int .i64 0] 38)).alloc (.cells #[.int .i64 0] 3) = w3 at *
  generalize w.heap.size = n at *
  go_loopw [14] (fun i wr => ∃ (at_ : Nat) (v : VwD) (q : Wq) (pc : Int), at_ ≤ k.code.length ∧ i = .int .i64 at_ ∧ Hid (Lw k w3 n v pc q wr) ∧ Hid (VL (opsOf k.code) v at_) ∧ Hid (goV k.ctx k.code 0 v0 = goV k.ctx (k.code.drop at_) at_ v)) (fun i _ => k.code.length - (intOf i).toNat)
  case atStart => exact ⟨0, v0, q0', pc0, by omega, rfl, HL0, HVL0, Lib.hid rfl⟩
  case round =>
    clear HL0 HVL0 y11 qn
    obtain ⟨at_, v, q, pc, hat, rfl, HL, HVL, HGO⟩ := hrel
    by_cases hlt : at_ < k.code.length
    · obtain ⟨bc, oc, vl, rfl, c0, c1, c2, hri⟩ := HL.out.wv.rd.code_at HCV.out hlt
      have hwx := HWF.out _ (List.getElem_mem hlt)
      obtain ⟨x, hx⟩ : ∃ x : InsD, k.code[at_] = x := ⟨_, rfl⟩
      rw [hx] at c0 c1 hri hwx
      obtain ⟨op, a, l⟩ := x
      simp only at c0 c1 hri hwx
      have HXX := Lib.hid hx
      obtain ⟨va, vc, rfl, -⟩ := hri.lenc
      have HRI := Lib.hid hri
      have HWX := Lib.hid hwx
      clear hri hwx hx
      have hba := below_alloc wr (.cells #[.int .u8 op, .int .i64 a, .slice va l.length vc] 68)
      have hna := heap_alloc_new wr (.cells #[.int .u8 op, .int .i64 a, .slice va l.length vc] 68)
      have HLA := HL.out.on hba
      obtain ⟨hP, hK⟩ := HLA.wv.put (v' := v) (q' := q) (pc' := at_) 20 (.int .i64 at_) rfl rfl rfl rfl
      have hgp : wr.heap.size ≠ k.p := by have := row_lt HL.out.wv.row; omega
      have hxa := (hK.block _ (row_lt hna) hgp).trans hna
      have HLB := Lib.hid (HLA.step hP hK)
      have HXB := Lib.hid hxa
      have HRB : Hid (RdI .i64 k.S ((wr.alloc (.cells #[.int .u8 op, .int .i64 a, .slice va l.length vc] 68)).setCell ⟨k.p, 20, none⟩ (.int .i64 at_)) (.slice va l.length vc) l) := Lib.hid (((HRI.out.keeps (Keeps.all _ hba))).keeps (hK.mono fun b _ hb2 => by have := HL.out.wv.rd.sS b hb2; omega))
      have r0 := heap_alloc_new wr (.cells #[.int .u8 0, .int .i64 0, .slice none 0 0] 68)
      have fr0 := row_free r0 0; have fr1 := row_free r0 1; have fr2 := row_free r0 2
      have qa := row_cell HLA.wb.wb 0 rfl
      have y20 := HLA.wv.cell 20 (u := .int .i64 pc) rfl
      have f20 := HLA.wv.free 20
      have x0 := row_cell hxa 0 rfl
      have qb := row_cell HLB.out.wb.wb 0 rfl
      have y19 : ((wr.alloc (.cells #[.int .u8 op, .int .i64 a, .slice va l.length vc] 68)).setCell ⟨k.p, 20, none⟩ (.int .i64 at_)).cell? ⟨k.p, 19, none⟩ = some (.bool v.dead) := HLB.out.wv.cell 19 rfl
      simp only [List.getElem_toArray, List.getElem_cons_zero] at qa x0 qb
      clear hba hna HLA hP hK hxa r0
      go_upto_region 6 with fail
      generalize ((wr.alloc (.cells #[.int .u8 op, .int .i64 a, .slice va l.length vc] 68)).setCell ⟨k.p, 20, none⟩ (.int .i64 at_)) = wB at *
      generalize wr.heap.size = gx at *
      clear fr0 fr1 fr2 qa y20 f20 c0 c1 c2
      go_cut [6, 14] from 14 to 110 (fun c6 c14 wx => c6 = .bool (decide (op = 5 ∨ op = 6)) ∧ c14 = .int .i64 at_ ∧ wx = wB)
      case first =>
        by_cases e5 : op = 5
        · have d5 : ((op : Int) == 5) = true := by simp [e5]
          go_wp2_with fail
          go_meet
          exact ⟨by simp [e5], rfl, rfl⟩
        · have d5 : ((op : Int) == 5) = false := by simp; omega
          by_cases e6 : op = 6
          · have d6 : ((op : Int) == 6) = true := by simp [e6]
            go_wp2_with fail
            go_meet
            exact ⟨by simp [e6], rfl, rfl⟩
          · have d6 : ((op : Int) == 6) = false := by simp; omega
            go_wp2_with fail
            go_meet
            exact ⟨by simp [e5, e6], rfl, rfl⟩
      case rest =>
        obtain ⟨rfl, rfl, rfl⟩ := hcut
        have hd2 : ∃ d, v.dead = d := ⟨_, rfl⟩
        obtain ⟨dd, hdd⟩ := hd2
        rw [hdd] at y19
        cases dd with
        | false =>
          go_wp2_with (first
            | (go_at_call 33; refine (val_must_ok _ _).mono ?_; rintro r w5 ⟨rfl, rfl⟩))
          obtain ⟨vA, hvA⟩ : ∃ vA, v = vA := ⟨_, rfl⟩
          have HAH : Hid (aheadV v ⟨op, a, l⟩ = .ok (toldV vA)) := Lib.hid (by rw [← hvA]; exact ahead_f hdd)
          have hsl : vA.shapes.length ≤ 1048576 ∧ vA.floors.length ≤ 1048576 := by
            obtain ⟨ms, _, hvi⟩ := HVL.out (by rw [opsOf_len]; exact hlt)
            have h1 := hvi.sh; have h2 := hvi.fl
            rw [← hvA]
            exact ⟨by omega, by omega⟩
          have hsl1 := hsl.1; have hfl1 := hsl.2
          clear hsl
          rw [hvA] at HLB
          have HB := HLB
          clear HLB
          as_aux_lemma =>
            go_cut [14] from 14 to 110 (fun c14 wx => c14 = .int .i64 at_ ∧ ∃ sv', Hid (Lw k w3 n { vA with shapes := vA.shapes ++ [vA.shape] } at_ { q with sv := sv' } wx) ∧ Hid (wx.heap[gx]? = some (.cells #[.int .u8 op, .int .i64 a, .slice va l.length vc] 68 (0, 0))) ∧ Hid (RdI .i64 k.S wx (.slice va l.length vc) l))
            case first =>
              obtain ⟨la, lc, hlv⟩ : ∃ a c, q.sv = .slice a vA.shapes.length c := by
                obtain ⟨a, c, e, _⟩ := own_slice (show w5.ownsRow k.B 9 1 q.sv vA.shapes.length (vA.shapes.map .string) from HB.out.wv.fam.own (shE q vA) (by simp [Wq.ents]))
                exact ⟨a, c, e⟩
              have HLV := Lib.hid hlv
              have yl : w5.cell? ⟨k.p, 12, none⟩ = some q.sv := HB.out.wv.cell 12 rfl
              rw [hlv] at yl
              clear hlv
              have y18 : w5.cell? ⟨k.p, 18, none⟩ = some (.string vA.shape) := HB.out.wv.cell 18 rfl
              have q0 := row_cell HB.out.wb.wb 0 rfl
              simp only [List.getElem_toArray, List.getElem_cons_zero] at q0
              have HLD := Lib.hid (HB.out.on (drew_bel w5))
              have hba := below_alloc w5.drew (.cells #[.string vA.shape] 9)
              have zl := cell_below hba (show w5.drew.cell? _ = _ from yl); have z18 := cell_below hba (show w5.drew.cell? _ = _ from y18); have zq := cell_below hba (show w5.drew.cell? _ = _ from q0)
              have zl2 : (w5.alloc (.cells #[.string vA.shape] 9)).cell? ⟨k.p, 12, none⟩ = some (.slice la vA.shapes.length lc) := zl
              have HLA := Lib.hid (HLD.out.on hba)
              have HXA : Hid ((w5.drew.alloc (.cells #[.string vA.shape] 9)).heap[gx]? = some (.cells #[.int .u8 op, .int .i64 a, .slice va l.length vc] 68 (0, 0))) := Lib.hid ((hba.block gx (row_lt (w := w5.drew) HXB.out)).trans HXB.out)
              have HOB : Hid ((w5.drew.alloc (.cells #[.string vA.shape] 9)).ownsRow k.B 9 1 q.sv vA.shapes.length (vA.shapes.map .string)) := Lib.hid (HLA.out.wv.fam.own (shE q vA) (by simp [Wq.ents]))
              have HOA : Hid ((w5.drew.alloc (.cells #[.string vA.shape] 9)).ownsRow k.B 9 1 (.slice la vA.shapes.length lc) vA.shapes.length (vA.shapes.map .string)) := Lib.hid (by rw [← HLV.out]; exact HOB.out)
              have HRA : Hid (RdI .i64 k.S (w5.drew.alloc (.cells #[.string vA.shape] 9)) (.slice va l.length vc) l) := Lib.hid ((HRB.out.keeps (Keeps.all _ (drew_bel w5))).keeps (Keeps.all _ hba))
              have HBA : Hid (k.B ≤ (w5.drew.alloc (.cells #[.string vA.shape] 9)).heap.size) := Lib.hid HLA.out.wv.hi
              clear hba
              refine wp_region_held_drew (S := (fun wx => wx.cell? ⟨n, 0, none⟩ = some (.pointer (some ⟨k.p, 0, none⟩)) ∧ wx.cell? ⟨k.p, 18, none⟩ = some (.string vA.shape))) (by kernel_rfl) ⟨q0, y18⟩ (fun hHeld => ?_)
              refine takeAt (i := 0) (d := 66) (v := ?_) rfl (by kernel_rfl) (by kernel_rfl) (by kernel_rfl) (by kernel_rfl) (fun _ _ _ h => hQw (d := 66) (by decide) (by decide) h) (Or.inl ⟨by kernel_rfl, ?_⟩) (by assumption) ?_
              rotate_left
              · (intro w hSw; (try dsimp only at hSw); go_simp; all_goals (with_reducible rfl))
              (try simp only [Act.put, List.setIfInBounds_toArray, List.set_cons_zero, List.set_cons_succ])
              refine takeAt (i := 1) (d := 67) (v := ?_) rfl (by kernel_rfl) (by kernel_rfl) (by kernel_rfl) (by kernel_rfl) (fun _ _ _ h => hQw (d := 67) (by decide) (by decide) h) (Or.inl ⟨by kernel_rfl, ?_⟩) (by assumption) ?_
              rotate_left
              · (intro w hSw; (try dsimp only at hSw); go_simp; all_goals (with_reducible rfl))
              (try simp only [Act.put, List.setIfInBounds_toArray, List.set_cons_zero, List.set_cons_succ])
              refine takeAt (i := 2) (d := 68) (v := ?_) rfl (by kernel_rfl) (by kernel_rfl) (by kernel_rfl) (by kernel_rfl) (fun _ _ _ h => hQw (d := 68) (by decide) (by decide) h) (Or.inl ⟨by kernel_rfl, ?_⟩) (by assumption) ?_
              rotate_left
              · (intro w hSw; (try dsimp only at hSw); go_simp; all_goals (with_reducible rfl))
              (try simp only [Act.put, List.setIfInBounds_toArray, List.set_cons_zero, List.set_cons_succ])
              refine takeAt (i := 3) (d := 69) (v := ?_) rfl (by kernel_rfl) (by kernel_rfl) (by kernel_rfl) (by kernel_rfl) (fun _ _ _ h => hQw (d := 69) (by decide) (by decide) h) (Or.inl ⟨by kernel_rfl, ?_⟩) (by assumption) ?_
              rotate_left
              · (intro w hSw; (try dsimp only at hSw); go_simp; all_goals (with_reducible rfl))
              (try simp only [Act.put, List.setIfInBounds_toArray, List.set_cons_zero, List.set_cons_succ])
              refine takeAt (i := 4) (d := 70) (v := ?_) rfl (by kernel_rfl) (by kernel_rfl) (by kernel_rfl) (by kernel_rfl) (fun _ _ _ h => hQw (d := 70) (by decide) (by decide) h) (Or.inl ⟨by kernel_rfl, ?_⟩) (by assumption) ?_
              rotate_left
              · (intro w hSw; (try dsimp only at hSw); go_simp; all_goals (with_reducible rfl))
              (try simp only [Act.put, List.setIfInBounds_toArray, List.set_cons_zero, List.set_cons_succ])
              refine takeAt (i := 6) (d := 72) (v := ?_) rfl (by kernel_rfl) (by kernel_rfl) (by kernel_rfl) (by kernel_rfl) (fun _ _ _ h => hQw (d := 72) (by decide) (by decide) h) (Or.inl ⟨by kernel_rfl, ?_⟩) (by assumption) ?_
              rotate_left
              · (intro w hSw; (try dsimp only at hSw); go_simp; all_goals (with_reducible rfl))
              (try simp only [Act.put, List.setIfInBounds_toArray, List.set_cons_zero, List.set_cons_succ])
              refine takeAt (i := 7) (d := 73) (v := ?_) rfl (by kernel_rfl) (by kernel_rfl) (by kernel_rfl) (by kernel_rfl) (fun _ _ _ h => hQw (d := 73) (by decide) (by decide) h) (Or.inl ⟨by kernel_rfl, ?_⟩) (by assumption) ?_
              rotate_left
              · (intro w hSw; (try dsimp only at hSw); go_simp; all_goals (with_reducible rfl))
              (try simp only [Act.put, List.setIfInBounds_toArray, List.set_cons_zero, List.set_cons_succ])
              refine takeAt (i := 8) (d := 74) (v := ?_) rfl (by kernel_rfl) (by kernel_rfl) (by kernel_rfl) (by kernel_rfl) (fun _ _ _ h => hQw (d := 74) (by decide) (by decide) h) (Or.inl ⟨by kernel_rfl, ?_⟩) (by assumption) ?_
              rotate_left
              · (intro w hSw; (try dsimp only at hSw); go_simp; all_goals (with_reducible rfl))
              (try simp only [Act.put, List.setIfInBounds_toArray, List.set_cons_zero, List.set_cons_succ])
              refine takeAt (i := 9) (d := 75) (v := ?_) rfl (by kernel_rfl) (by kernel_rfl) (by kernel_rfl) (by kernel_rfl) (fun _ _ _ h => hQw (d := 75) (by decide) (by decide) h) (Or.inl ⟨by kernel_rfl, ?_⟩) (by assumption) ?_
              rotate_left
              · (intro w hSw; (try dsimp only at hSw); go_simp; all_goals (with_reducible rfl))
              (try simp only [Act.put, List.setIfInBounds_toArray, List.set_cons_zero, List.set_cons_succ])
              refine wpAnyH_ready (rs := [5, 10]) (by kernel_rfl) (by simp) ?_
              refine AllReadyH.cons rfl (fun K hK => ?_) (AllReadyH.cons rfl (fun K hK => ?_) AllReadyH.nil)
              · go_simp
                refine hK.out _ _ hHeld (fun hHeld => ?_)
                (try refine stateAt (d := 71) (by kernel_rfl) ?_)
                (try simp only [Act.put, List.setIfInBounds_toArray, List.set_cons_zero, List.set_cons_succ])
                refine wpAnyH_ready (rs := [10]) (by kernel_rfl) (by simp) ?_
                refine AllReadyH.cons rfl (fun K hK => ?_) AllReadyH.nil
                go_simp
                refine hK.out _ _ ⟨zq, z18⟩ (fun hHeld => ?_)
                (try refine stateAt (d := 76) (by kernel_rfl) ?_)
                (try simp only [Act.put, List.setIfInBounds_toArray, List.set_cons_zero, List.set_cons_succ])
                refine wpAnyH_ready (rs := [11]) (by kernel_rfl) (by simp) ?_
                refine AllReadyH.cons rfl (fun K hK => ?_) AllReadyH.nil
                clear hHeld
                refine step_append_lies _ (by rfl) _ _ 76 (by rfl) k.B 9 i1 (.string ⟨#[]⟩) 1 16 Tryd.underlying76 hj hy0 hy1 hy2 rfl (by omega) (.slice la vA.shapes.length lc) vA.shapes.length (vA.shapes.map .string) (by rfl) HOA.out ⟨w5.heap.size, 0, none⟩ 1 1 [.string vA.shape] (by rfl) (by rfl) (cells1_new w5.drew _ _) (by simp [Value.oneCell']) (by omega) (by unfold maxLen; omega) (by omega) HBA.out (w5.heap.size + 1) (by show (w5.drew.alloc _).heap.size = _; rw [World.size_alloc]; rfl) ?_
                intro g9 cap9 w9 hown9 hgrow9 hat9 hlt9
                rw [← HLV.out] at hgrow9 hat9
                have hr9 := grown_block hgrow9 HLA.out.wv.row (own_ne HOB.out HLA.out.wv.row (by decide))
                have hn9 := grown_block hgrow9 HLA.out.wb.wb (HLA.out.wv.al n (HLA.out.kx n (.inl rfl)).2).2.1
                have d9 := row_cell hn9 0 rfl
                have e9 := row_cell hr9 18 (u := .string vA.shape) rfl
                have c9 := row_cell hr9 12 rfl
                have f9 := row_free hr9 12
                refine hK.out _ _ ⟨d9, e9⟩ (fun hHeld => ?_)
                (try refine stateAt (d := 77) (by kernel_rfl) ?_)
                (try simp only [Act.put, List.setIfInBounds_toArray, List.set_cons_zero, List.set_cons_succ])
                refine takeAt (i := 12) (d := 78) (v := ?_) rfl (by kernel_rfl) (by kernel_rfl) (by kernel_rfl) (by kernel_rfl) (fun _ _ _ h => hQw (d := 78) (by decide) (by decide) h) (Or.inl ⟨by kernel_rfl, ?_⟩) (by assumption) ?_
                rotate_left
                · (intro w hSw; (try dsimp only at hSw); go_simp; all_goals (with_reducible rfl))
                (try simp only [Act.put, List.setIfInBounds_toArray, List.set_cons_zero, List.set_cons_succ])
                refine takeAt (i := 13) (d := 79) (v := ?_) rfl (by kernel_rfl) (by kernel_rfl) (by kernel_rfl) (by kernel_rfl) (fun _ _ _ h => hQw (d := 79) (by decide) (by decide) h) (Or.inl ⟨by kernel_rfl, ?_⟩) (by assumption) ?_
                rotate_left
                · (intro w hSw; (try dsimp only at hSw); go_simp; all_goals (with_reducible rfl))
                (try simp only [Act.put, List.setIfInBounds_toArray, List.set_cons_zero, List.set_cons_succ])
                refine takeAt (i := 14) (d := 80) (v := ?_) rfl (by kernel_rfl) (by kernel_rfl) (by kernel_rfl) (by kernel_rfl) (fun _ _ _ h => hQw (d := 80) (by decide) (by decide) h) (Or.inl ⟨by kernel_rfl, ?_⟩) (by assumption) ?_
                rotate_left
                · (intro w hSw; (try dsimp only at hSw); go_simp; all_goals (with_reducible rfl))
                (try simp only [Act.put, List.setIfInBounds_toArray, List.set_cons_zero, List.set_cons_succ])
                refine wpAnyH_ready (rs := [15]) (by kernel_rfl) (by simp) ?_
                refine AllReadyH.cons rfl (fun K hK => ?_) AllReadyH.nil
                obtain ⟨hPm, hKm⟩ := HLA.out.wv.moreS (x := vA.shape) hgrow9 hown9 (at_ofW hat9 (by show (w5.drew.alloc _).heap.size ≤ _; rw [World.size_alloc]; exact Nat.le_refl _))
                have HLN := Lib.hid (HLA.out.step hPm hKm)
                have HXN := Lib.hid (box_more (k := k) (x := .slice (some ⟨g9, 0, none⟩) (vA.shapes.length + 1) cap9) HOB.out hgrow9 HXA.out (by decide) hgp 12)
                have HRN : Hid (RdI .i64 k.S _ (.slice va l.length vc) l) := Lib.hid (HRA.out.keeps (hKm.mono fun b _ hb2 => .inl (HLA.out.wv.rd.sS b hb2)))
                have d10 := row_cell HLN.out.wb.wb 0 rfl
                have e10 := HLN.out.wv.cell 18 (u := .string vA.shape) rfl
                simp only [List.getElem_toArray, List.getElem_cons_zero] at d9 d10
                go_simp
                refine hK.out _ _ ⟨d10, e10⟩ (fun hHeld => ?_)
                (try simp only [Act.put, List.setIfInBounds_toArray, List.set_cons_zero, List.set_cons_succ])
                refine wpAnyH_done (by kernel_rfl) ?_ _
                go_wp2_with fail
                go_meet
                exact ⟨rfl, _, HLN, HXN, HRN⟩
              · go_simp
                refine hK.out _ _ ⟨zq, z18⟩ (fun hHeld => ?_)
                (try refine stateAt (d := 76) (by kernel_rfl) ?_)
                (try simp only [Act.put, List.setIfInBounds_toArray, List.set_cons_zero, List.set_cons_succ])
                refine wpAnyH_ready (rs := [5]) (by kernel_rfl) (by simp) ?_
                refine AllReadyH.cons rfl (fun K hK => ?_) AllReadyH.nil
                go_simp
                refine hK.out _ _ ⟨zq, z18⟩ (fun hHeld => ?_)
                (try refine stateAt (d := 71) (by kernel_rfl) ?_)
                (try simp only [Act.put, List.setIfInBounds_toArray, List.set_cons_zero, List.set_cons_succ])
                refine wpAnyH_ready (rs := [11]) (by kernel_rfl) (by simp) ?_
                refine AllReadyH.cons rfl (fun K hK => ?_) AllReadyH.nil
                clear hHeld
                refine step_append_lies _ (by rfl) _ _ 76 (by rfl) k.B 9 i1 (.string ⟨#[]⟩) 1 16 Tryd.underlying76 hj hy0 hy1 hy2 rfl (by omega) (.slice la vA.shapes.length lc) vA.shapes.length (vA.shapes.map .string) (by rfl) HOA.out ⟨w5.heap.size, 0, none⟩ 1 1 [.string vA.shape] (by rfl) (by rfl) (cells1_new w5.drew _ _) (by simp [Value.oneCell']) (by omega) (by unfold maxLen; omega) (by omega) HBA.out (w5.heap.size + 1) (by show (w5.drew.alloc _).heap.size = _; rw [World.size_alloc]; rfl) ?_
                intro g9 cap9 w9 hown9 hgrow9 hat9 hlt9
                rw [← HLV.out] at hgrow9 hat9
                have hr9 := grown_block hgrow9 HLA.out.wv.row (own_ne HOB.out HLA.out.wv.row (by decide))
                have hn9 := grown_block hgrow9 HLA.out.wb.wb (HLA.out.wv.al n (HLA.out.kx n (.inl rfl)).2).2.1
                have d9 := row_cell hn9 0 rfl
                have e9 := row_cell hr9 18 (u := .string vA.shape) rfl
                have c9 := row_cell hr9 12 rfl
                have f9 := row_free hr9 12
                refine hK.out _ _ ⟨d9, e9⟩ (fun hHeld => ?_)
                (try refine stateAt (d := 77) (by kernel_rfl) ?_)
                (try simp only [Act.put, List.setIfInBounds_toArray, List.set_cons_zero, List.set_cons_succ])
                refine takeAt (i := 12) (d := 78) (v := ?_) rfl (by kernel_rfl) (by kernel_rfl) (by kernel_rfl) (by kernel_rfl) (fun _ _ _ h => hQw (d := 78) (by decide) (by decide) h) (Or.inl ⟨by kernel_rfl, ?_⟩) (by assumption) ?_
                rotate_left
                · (intro w hSw; (try dsimp only at hSw); go_simp; all_goals (with_reducible rfl))
                (try simp only [Act.put, List.setIfInBounds_toArray, List.set_cons_zero, List.set_cons_succ])
                refine takeAt (i := 13) (d := 79) (v := ?_) rfl (by kernel_rfl) (by kernel_rfl) (by kernel_rfl) (by kernel_rfl) (fun _ _ _ h => hQw (d := 79) (by decide) (by decide) h) (Or.inl ⟨by kernel_rfl, ?_⟩) (by assumption) ?_
                rotate_left
                · (intro w hSw; (try dsimp only at hSw); go_simp; all_goals (with_reducible rfl))
                (try simp only [Act.put, List.setIfInBounds_toArray, List.set_cons_zero, List.set_cons_succ])
                refine takeAt (i := 14) (d := 80) (v := ?_) rfl (by kernel_rfl) (by kernel_rfl) (by kernel_rfl) (by kernel_rfl) (fun _ _ _ h => hQw (d := 80) (by decide) (by decide) h) (Or.inl ⟨by kernel_rfl, ?_⟩) (by assumption) ?_
                rotate_left
                · (intro w hSw; (try dsimp only at hSw); go_simp; all_goals (with_reducible rfl))
                (try simp only [Act.put, List.setIfInBounds_toArray, List.set_cons_zero, List.set_cons_succ])
                refine wpAnyH_ready (rs := [15]) (by kernel_rfl) (by simp) ?_
                refine AllReadyH.cons rfl (fun K hK => ?_) AllReadyH.nil
                obtain ⟨hPm, hKm⟩ := HLA.out.wv.moreS (x := vA.shape) hgrow9 hown9 (at_ofW hat9 (by show (w5.drew.alloc _).heap.size ≤ _; rw [World.size_alloc]; exact Nat.le_refl _))
                have HLN := Lib.hid (HLA.out.step hPm hKm)
                have HXN := Lib.hid (box_more (k := k) (x := .slice (some ⟨g9, 0, none⟩) (vA.shapes.length + 1) cap9) HOB.out hgrow9 HXA.out (by decide) hgp 12)
                have HRN : Hid (RdI .i64 k.S _ (.slice va l.length vc) l) := Lib.hid (HRA.out.keeps (hKm.mono fun b _ hb2 => .inl (HLA.out.wv.rd.sS b hb2)))
                have d10 := row_cell HLN.out.wb.wb 0 rfl
                have e10 := HLN.out.wv.cell 18 (u := .string vA.shape) rfl
                simp only [List.getElem_toArray, List.getElem_cons_zero] at d9 d10
                go_simp
                refine hK.out _ _ ⟨d10, e10⟩ (fun hHeld => ?_)
                (try simp only [Act.put, List.setIfInBounds_toArray, List.set_cons_zero, List.set_cons_succ])
                refine wpAnyH_done (by kernel_rfl) ?_ _
                go_wp2_with fail
                go_meet
                exact ⟨rfl, _, HLN, HXN, HRN⟩
            case rest =>
              obtain ⟨rfl, sv', HC, HXC, HRC⟩ := hcut
              clear HB HXB HRB
              have q0 := row_cell HC.out.wb.wb 0 rfl
              simp only [List.getElem_toArray, List.getElem_cons_zero] at q0
              have y16 := HC.out.wv.cell 16 (u := .int .i64 vA.high) rfl
              have y18 := HC.out.wv.cell 18 (u := .string vA.shape) rfl
              go_wp2_with fail
              go_still_tail 15, (by kernel_rfl)
              change wpList _ _ _ _ _ wc.drew
              have HD := Lib.hid (HC.out.on (drew_bel wc))
              have HXD := Lib.hid (((drew_bel wc).block gx (row_lt HXC.out)).trans HXC.out)
              have HRD := Lib.hid (HRC.out.keeps (Keeps.all _ (drew_bel wc)))
              have f16 := HD.out.wv.free 16
              have y16' : wc.drew.cell? ⟨k.p, 16, none⟩ = _ := y16
              have y18' : wc.drew.cell? ⟨k.p, 18, none⟩ = _ := y18
              have q0' : wc.drew.cell? ⟨n, 0, none⟩ = _ := q0
              clear HC HXC HRC q0 y16 y18
              generalize wc.drew = wD at *
              obtain ⟨hPh, hKh⟩ := HD.out.wv.put (v' := { vA with shapes := vA.shapes ++ [vA.shape], high := max vA.high vA.shape.size }) (q' := { q with sv := sv' }) (pc' := at_) 16 (.int .i64 (max vA.high vA.shape.size)) rfl rfl rfl rfl
              have HE := Lib.hid (HD.out.step hPh hKh)
              have HXE := Lib.hid ((hKh.block gx (row_lt HXD.out) hgp).trans HXD.out)
              have HRE := Lib.hid (HRD.out.keeps (hKh.mono fun b _ hb2 => by have := HD.out.wv.rd.sS b hb2; omega))
              clear HD HXD HRD hPh hKh
              go_upto_region 14 with fail
              generalize wD.setCell ⟨k.p, 16, none⟩ (.int .i64 (max vA.high vA.shape.size)) = wE at *
              clear f16 y16' y18' q0'
              go_cut [14] from 14 to 110 (fun c14 wx => c14 = .int .i64 at_ ∧ ∃ fv', Hid (Lw k w3 n (toldV vA) at_ { q with sv := sv', fv := fv' } wx) ∧ Hid (wx.heap[gx]? = some (.cells #[.int .u8 op, .int .i64 a, .slice va l.length vc] 68 (0, 0))) ∧ Hid (RdI .i64 k.S wx (.slice va l.length vc) l))
              case first =>
                obtain ⟨la, lc, hlv⟩ : ∃ a c, q.fv = .slice a vA.floors.length c := by
                  obtain ⟨a, c, e, _⟩ := own_slice (show wE.ownsRow k.B 3 1 q.fv vA.floors.length (vA.floors.map (Value.int .i64)) from HE.out.wv.fam.own (flE { q with sv := sv' } { vA with shapes := vA.shapes ++ [vA.shape], high := max vA.high vA.shape.size }) (by simp [Wq.ents]))
                  exact ⟨a, c, e⟩
                have HLV := Lib.hid hlv
                have yl : wE.cell? ⟨k.p, 15, none⟩ = some q.fv := HE.out.wv.cell 15 rfl
                rw [hlv] at yl
                clear hlv
                have y18 : wE.cell? ⟨k.p, 18, none⟩ = some (.string vA.shape) := HE.out.wv.cell 18 rfl
                have q0 := row_cell HE.out.wb.wb 0 rfl
                simp only [List.getElem_toArray, List.getElem_cons_zero] at q0
                have HLD := Lib.hid (HE.out.on (drew_bel wE))
                have hba := below_alloc wE.drew (.cells #[.int .i64 (-1)] 3)
                have zl := cell_below hba (show wE.drew.cell? _ = _ from yl); have z18 := cell_below hba (show wE.drew.cell? _ = _ from y18); have zq := cell_below hba (show wE.drew.cell? _ = _ from q0)
                have zl2 : (wE.alloc (.cells #[.int .i64 (-1)] 3)).cell? ⟨k.p, 15, none⟩ = some (.slice la vA.floors.length lc) := zl
                have HLA := Lib.hid (HLD.out.on hba)
                have HXA : Hid ((wE.drew.alloc (.cells #[.int .i64 (-1)] 3)).heap[gx]? = some (.cells #[.int .u8 op, .int .i64 a, .slice va l.length vc] 68 (0, 0))) := Lib.hid ((hba.block gx (row_lt (w := wE.drew) HXE.out)).trans HXE.out)
                have HOB : Hid ((wE.drew.alloc (.cells #[.int .i64 (-1)] 3)).ownsRow k.B 3 1 q.fv vA.floors.length (vA.floors.map (Value.int .i64))) := Lib.hid (HLA.out.wv.fam.own (flE { q with sv := sv' } { vA with shapes := vA.shapes ++ [vA.shape], high := max vA.high vA.shape.size }) (by simp [Wq.ents]))
                have HOA : Hid ((wE.drew.alloc (.cells #[.int .i64 (-1)] 3)).ownsRow k.B 3 1 (.slice la vA.floors.length lc) vA.floors.length (vA.floors.map (Value.int .i64))) := Lib.hid (by rw [← HLV.out]; exact HOB.out)
                have HRA : Hid (RdI .i64 k.S (wE.drew.alloc (.cells #[.int .i64 (-1)] 3)) (.slice va l.length vc) l) := Lib.hid ((HRE.out.keeps (Keeps.all _ (drew_bel wE))).keeps (Keeps.all _ hba))
                have HBA : Hid (k.B ≤ (wE.drew.alloc (.cells #[.int .i64 (-1)] 3)).heap.size) := Lib.hid HLA.out.wv.hi
                clear hba
                refine wp_region_held_drew (S := (fun wx => wx.cell? ⟨n, 0, none⟩ = some (.pointer (some ⟨k.p, 0, none⟩)) ∧ True)) (by kernel_rfl) ⟨q0, trivial⟩ (fun hHeld => ?_)
                refine takeAt (i := 0) (d := 96) (v := ?_) rfl (by kernel_rfl) (by kernel_rfl) (by kernel_rfl) (by kernel_rfl) (fun _ _ _ h => hQw (d := 96) (by decide) (by decide) h) (Or.inl ⟨by kernel_rfl, ?_⟩) (by assumption) ?_
                rotate_left
                · (intro w hSw; (try dsimp only at hSw); go_simp; all_goals (with_reducible rfl))
                (try simp only [Act.put, List.setIfInBounds_toArray, List.set_cons_zero, List.set_cons_succ])
                refine takeAt (i := 1) (d := 97) (v := ?_) rfl (by kernel_rfl) (by kernel_rfl) (by kernel_rfl) (by kernel_rfl) (fun _ _ _ h => hQw (d := 97) (by decide) (by decide) h) (Or.inl ⟨by kernel_rfl, ?_⟩) (by assumption) ?_
                rotate_left
                · (intro w hSw; (try dsimp only at hSw); go_simp; all_goals (with_reducible rfl))
                (try simp only [Act.put, List.setIfInBounds_toArray, List.set_cons_zero, List.set_cons_succ])
                refine takeAt (i := 2) (d := 98) (v := ?_) rfl (by kernel_rfl) (by kernel_rfl) (by kernel_rfl) (by kernel_rfl) (fun _ _ _ h => hQw (d := 98) (by decide) (by decide) h) (Or.inl ⟨by kernel_rfl, ?_⟩) (by assumption) ?_
                rotate_left
                · (intro w hSw; (try dsimp only at hSw); go_simp; all_goals (with_reducible rfl))
                (try simp only [Act.put, List.setIfInBounds_toArray, List.set_cons_zero, List.set_cons_succ])
                refine takeAt (i := 3) (d := 99) (v := ?_) rfl (by kernel_rfl) (by kernel_rfl) (by kernel_rfl) (by kernel_rfl) (fun _ _ _ h => hQw (d := 99) (by decide) (by decide) h) (Or.inl ⟨by kernel_rfl, ?_⟩) (by assumption) ?_
                rotate_left
                · (intro w hSw; (try dsimp only at hSw); go_simp; all_goals (with_reducible rfl))
                (try simp only [Act.put, List.setIfInBounds_toArray, List.set_cons_zero, List.set_cons_succ])
                refine takeAt (i := 4) (d := 100) (v := ?_) rfl (by kernel_rfl) (by kernel_rfl) (by kernel_rfl) (by kernel_rfl) (fun _ _ _ h => hQw (d := 100) (by decide) (by decide) h) (Or.inl ⟨by kernel_rfl, ?_⟩) (by assumption) ?_
                rotate_left
                · (intro w hSw; (try dsimp only at hSw); go_simp; all_goals (with_reducible rfl))
                (try simp only [Act.put, List.setIfInBounds_toArray, List.set_cons_zero, List.set_cons_succ])
                refine wpAnyH_ready (rs := [5, 6]) (by kernel_rfl) (by simp) ?_
                refine AllReadyH.cons rfl (fun K hK => ?_) (AllReadyH.cons rfl (fun K hK => ?_) AllReadyH.nil)
                · go_simp
                  refine hK.out _ _ hHeld (fun hHeld => ?_)
                  (try refine stateAt (d := 101) (by kernel_rfl) ?_)
                  (try simp only [Act.put, List.setIfInBounds_toArray, List.set_cons_zero, List.set_cons_succ])
                  refine wpAnyH_ready (rs := [6]) (by kernel_rfl) (by simp) ?_
                  refine AllReadyH.cons rfl (fun K hK => ?_) AllReadyH.nil
                  go_simp
                  refine hK.out _ _ ⟨zq, trivial⟩ (fun hHeld => ?_)
                  (try refine stateAt (d := 102) (by kernel_rfl) ?_)
                  (try simp only [Act.put, List.setIfInBounds_toArray, List.set_cons_zero, List.set_cons_succ])
                  refine wpAnyH_ready (rs := [7]) (by kernel_rfl) (by simp) ?_
                  refine AllReadyH.cons rfl (fun K hK => ?_) AllReadyH.nil
                  clear hHeld
                  refine step_append_lies _ (by rfl) _ _ 23 (by rfl) k.B 3 i2 (.int .i64 0) 1 8 Tryd.underlying23 hj2 hz0 hz1 hz2 rfl (by omega) (.slice la vA.floors.length lc) vA.floors.length (vA.floors.map (Value.int .i64)) (by rfl) HOA.out ⟨wE.heap.size, 0, none⟩ 1 1 [.int .i64 (-1)] (by rfl) (by rfl) (cells1_new wE.drew _ _) (by simp [Value.oneCell']) (by omega) (by unfold maxLen; omega) (by omega) HBA.out (wE.heap.size + 1) (by show (wE.drew.alloc _).heap.size = _; rw [World.size_alloc]; rfl) ?_
                  intro g9 cap9 w9 hown9 hgrow9 hat9 hlt9
                  rw [← HLV.out] at hgrow9 hat9
                  have hr9 := grown_block hgrow9 HLA.out.wv.row (own_ne HOB.out HLA.out.wv.row (by decide))
                  have hn9 := grown_block hgrow9 HLA.out.wb.wb (HLA.out.wv.al n (HLA.out.kx n (.inl rfl)).2).2.2.1
                  have d9 := row_cell hn9 0 rfl
                  have e9 := row_cell hr9 18 (u := .string vA.shape) rfl
                  have c9 := row_cell hr9 15 rfl
                  have f9 := row_free hr9 15
                  refine hK.out _ _ ⟨d9, trivial⟩ (fun hHeld => ?_)
                  (try refine stateAt (d := 103) (by kernel_rfl) ?_)
                  (try simp only [Act.put, List.setIfInBounds_toArray, List.set_cons_zero, List.set_cons_succ])
                  refine takeAt (i := 8) (d := 104) (v := ?_) rfl (by kernel_rfl) (by kernel_rfl) (by kernel_rfl) (by kernel_rfl) (fun _ _ _ h => hQw (d := 104) (by decide) (by decide) h) (Or.inl ⟨by kernel_rfl, ?_⟩) (by assumption) ?_
                  rotate_left
                  · (intro w hSw; (try dsimp only at hSw); go_simp; all_goals (with_reducible rfl))
                  (try simp only [Act.put, List.setIfInBounds_toArray, List.set_cons_zero, List.set_cons_succ])
                  refine takeAt (i := 9) (d := 105) (v := ?_) rfl (by kernel_rfl) (by kernel_rfl) (by kernel_rfl) (by kernel_rfl) (fun _ _ _ h => hQw (d := 105) (by decide) (by decide) h) (Or.inl ⟨by kernel_rfl, ?_⟩) (by assumption) ?_
                  rotate_left
                  · (intro w hSw; (try dsimp only at hSw); go_simp; all_goals (with_reducible rfl))
                  (try simp only [Act.put, List.setIfInBounds_toArray, List.set_cons_zero, List.set_cons_succ])
                  refine takeAt (i := 10) (d := 106) (v := ?_) rfl (by kernel_rfl) (by kernel_rfl) (by kernel_rfl) (by kernel_rfl) (fun _ _ _ h => hQw (d := 106) (by decide) (by decide) h) (Or.inl ⟨by kernel_rfl, ?_⟩) (by assumption) ?_
                  rotate_left
                  · (intro w hSw; (try dsimp only at hSw); go_simp; all_goals (with_reducible rfl))
                  (try simp only [Act.put, List.setIfInBounds_toArray, List.set_cons_zero, List.set_cons_succ])
                  refine wpAnyH_ready (rs := [11]) (by kernel_rfl) (by simp) ?_
                  refine AllReadyH.cons rfl (fun K hK => ?_) AllReadyH.nil
                  obtain ⟨hPm, hKm⟩ := HLA.out.wv.moreF (x := (-1 : Int)) hgrow9 hown9 (at_ofW hat9 (by show (wE.drew.alloc _).heap.size ≤ _; rw [World.size_alloc]; exact Nat.le_refl _))
                  have HLN := Lib.hid (HLA.out.step hPm hKm)
                  have HXN := Lib.hid (box_more (k := k) (x := .slice (some ⟨g9, 0, none⟩) (vA.floors.length + 1) cap9) HOB.out hgrow9 HXA.out (by decide) hgp 15)
                  have HRN : Hid (RdI .i64 k.S _ (.slice va l.length vc) l) := Lib.hid (HRA.out.keeps (hKm.mono fun b _ hb2 => .inl (HLA.out.wv.rd.sS b hb2)))
                  have d10 := row_cell HLN.out.wb.wb 0 rfl
                  have e10 := HLN.out.wv.cell 18 (u := .string vA.shape) rfl
                  simp only [List.getElem_toArray, List.getElem_cons_zero] at d9 d10
                  go_simp
                  refine hK.out _ _ ⟨d10, trivial⟩ (fun hHeld => ?_)
                  (try simp only [Act.put, List.setIfInBounds_toArray, List.set_cons_zero, List.set_cons_succ])
                  refine wpAnyH_done (by kernel_rfl) ?_ _
                  go_wp2_with fail
                  go_meet
                  exact ⟨rfl, _, HLN, HXN, HRN⟩
                · go_simp
                  refine hK.out _ _ ⟨zq, trivial⟩ (fun hHeld => ?_)
                  (try refine stateAt (d := 102) (by kernel_rfl) ?_)
                  (try simp only [Act.put, List.setIfInBounds_toArray, List.set_cons_zero, List.set_cons_succ])
                  refine wpAnyH_ready (rs := [5]) (by kernel_rfl) (by simp) ?_
                  refine AllReadyH.cons rfl (fun K hK => ?_) AllReadyH.nil
                  go_simp
                  refine hK.out _ _ ⟨zq, trivial⟩ (fun hHeld => ?_)
                  (try refine stateAt (d := 101) (by kernel_rfl) ?_)
                  (try simp only [Act.put, List.setIfInBounds_toArray, List.set_cons_zero, List.set_cons_succ])
                  refine wpAnyH_ready (rs := [7]) (by kernel_rfl) (by simp) ?_
                  refine AllReadyH.cons rfl (fun K hK => ?_) AllReadyH.nil
                  clear hHeld
                  refine step_append_lies _ (by rfl) _ _ 23 (by rfl) k.B 3 i2 (.int .i64 0) 1 8 Tryd.underlying23 hj2 hz0 hz1 hz2 rfl (by omega) (.slice la vA.floors.length lc) vA.floors.length (vA.floors.map (Value.int .i64)) (by rfl) HOA.out ⟨wE.heap.size, 0, none⟩ 1 1 [.int .i64 (-1)] (by rfl) (by rfl) (cells1_new wE.drew _ _) (by simp [Value.oneCell']) (by omega) (by unfold maxLen; omega) (by omega) HBA.out (wE.heap.size + 1) (by show (wE.drew.alloc _).heap.size = _; rw [World.size_alloc]; rfl) ?_
                  intro g9 cap9 w9 hown9 hgrow9 hat9 hlt9
                  rw [← HLV.out] at hgrow9 hat9
                  have hr9 := grown_block hgrow9 HLA.out.wv.row (own_ne HOB.out HLA.out.wv.row (by decide))
                  have hn9 := grown_block hgrow9 HLA.out.wb.wb (HLA.out.wv.al n (HLA.out.kx n (.inl rfl)).2).2.2.1
                  have d9 := row_cell hn9 0 rfl
                  have e9 := row_cell hr9 18 (u := .string vA.shape) rfl
                  have c9 := row_cell hr9 15 rfl
                  have f9 := row_free hr9 15
                  refine hK.out _ _ ⟨d9, trivial⟩ (fun hHeld => ?_)
                  (try refine stateAt (d := 103) (by kernel_rfl) ?_)
                  (try simp only [Act.put, List.setIfInBounds_toArray, List.set_cons_zero, List.set_cons_succ])
                  refine takeAt (i := 8) (d := 104) (v := ?_) rfl (by kernel_rfl) (by kernel_rfl) (by kernel_rfl) (by kernel_rfl) (fun _ _ _ h => hQw (d := 104) (by decide) (by decide) h) (Or.inl ⟨by kernel_rfl, ?_⟩) (by assumption) ?_
                  rotate_left
                  · (intro w hSw; (try dsimp only at hSw); go_simp; all_goals (with_reducible rfl))
                  (try simp only [Act.put, List.setIfInBounds_toArray, List.set_cons_zero, List.set_cons_succ])
                  refine takeAt (i := 9) (d := 105) (v := ?_) rfl (by kernel_rfl) (by kernel_rfl) (by kernel_rfl) (by kernel_rfl) (fun _ _ _ h => hQw (d := 105) (by decide) (by decide) h) (Or.inl ⟨by kernel_rfl, ?_⟩) (by assumption) ?_
                  rotate_left
                  · (intro w hSw; (try dsimp only at hSw); go_simp; all_goals (with_reducible rfl))
                  (try simp only [Act.put, List.setIfInBounds_toArray, List.set_cons_zero, List.set_cons_succ])
                  refine takeAt (i := 10) (d := 106) (v := ?_) rfl (by kernel_rfl) (by kernel_rfl) (by kernel_rfl) (by kernel_rfl) (fun _ _ _ h => hQw (d := 106) (by decide) (by decide) h) (Or.inl ⟨by kernel_rfl, ?_⟩) (by assumption) ?_
                  rotate_left
                  · (intro w hSw; (try dsimp only at hSw); go_simp; all_goals (with_reducible rfl))
                  (try simp only [Act.put, List.setIfInBounds_toArray, List.set_cons_zero, List.set_cons_succ])
                  refine wpAnyH_ready (rs := [11]) (by kernel_rfl) (by simp) ?_
                  refine AllReadyH.cons rfl (fun K hK => ?_) AllReadyH.nil
                  obtain ⟨hPm, hKm⟩ := HLA.out.wv.moreF (x := (-1 : Int)) hgrow9 hown9 (at_ofW hat9 (by show (wE.drew.alloc _).heap.size ≤ _; rw [World.size_alloc]; exact Nat.le_refl _))
                  have HLN := Lib.hid (HLA.out.step hPm hKm)
                  have HXN := Lib.hid (box_more (k := k) (x := .slice (some ⟨g9, 0, none⟩) (vA.floors.length + 1) cap9) HOB.out hgrow9 HXA.out (by decide) hgp 15)
                  have HRN : Hid (RdI .i64 k.S _ (.slice va l.length vc) l) := Lib.hid (HRA.out.keeps (hKm.mono fun b _ hb2 => .inl (HLA.out.wv.rd.sS b hb2)))
                  have d10 := row_cell HLN.out.wb.wb 0 rfl
                  have e10 := HLN.out.wv.cell 18 (u := .string vA.shape) rfl
                  simp only [List.getElem_toArray, List.getElem_cons_zero] at d9 d10
                  go_simp
                  refine hK.out _ _ ⟨d10, trivial⟩ (fun hHeld => ?_)
                  (try simp only [Act.put, List.setIfInBounds_toArray, List.set_cons_zero, List.set_cons_succ])
                  refine wpAnyH_done (by kernel_rfl) ?_ _
                  go_wp2_with fail
                  go_meet
                  exact ⟨rfl, _, HLN, HXN, HRN⟩
              case rest =>
                obtain ⟨rfl, fv', HF, HXF, HRF⟩ := hcut
                clear HE HXE HRE
                have q0 := row_cell HF.out.wb.wb 0 rfl; have x0 := row_cell HXF.out 0 rfl; have x1 := row_cell HXF.out 1 rfl; have x2 := row_cell HXF.out 2 rfl
                simp only [List.getElem_toArray, List.getElem_cons_zero, List.getElem_cons_succ] at q0 x0 x1 x2
                have HRH := Lib.hid (show RowH k wc (toldV vA) at_ { q with sv := sv', fv := fv' } ⟨op, a, l⟩ (.slice va l.length vc) from
                  ⟨HF.out.wv, HM.out, by rw [hels, ← opsOf_len k.code]; exact HVL.out.row (by rw [opsOf_len]; exact hlt) HAH.out, hlc, hs2, by omega, HWX.out.2.1, HRF.out.mono fun b hb _ => hb, HWX.out.2.2.2, HWX.out.2.2.1, HWX.out.1, HT0.out.bel (HB0.out.trans (HF.out.kw.below HB0.out.size fun b hb => .inl (by omega)))⟩)
                go_wp2_with (first
                  | ((go_at_call 35; refine (val_row ⟨op, a, l⟩ (.slice va l.length vc) HRH.out).mono ?_)
                     rintro e w9 (⟨v2, q2, h1, rfl, h2, h3⟩ | ⟨z, h1, rfl, h2, h3⟩)
                     rotate_left
                     · exact walk_fail HKW.out (HF.out.kw.trans h3) (HF.out.wbk h3) (HF.out.kx n (.inl rfl)).1 h2 (go_err HGO.out hlt HXX.out ((step_row HAH.out).trans h1)) _ rfl rfl
                     have HL9 := Lib.hid (HF.out.step h2 h3)
                     have HVL9 := Lib.hid (HVL.out.next (HM.out.szc (c := k.ctx) rfl) (by rw [opsOf_len]; exact hlt) (x := ⟨op, a, l⟩) (by rw [opsOf_at hlt, HXX.out]) HAH.out h1)
                     have HGO9 := Lib.hid (go_ok HGO.out hlt HXX.out ((step_row HAH.out).trans h1))
                     clear h1 h2 h3 HF HXF HRF HRH HVL HGO))
                go_roundw
                case rel => exact ⟨at_ + 1, v2, q2, at_, by omega, by go_num, HL9, HVL9, HGO9⟩
                case measure => simp [intOf]; omega

        | true =>
          by_cases hcl : op = 5 ∨ op = 6
          · have hdc : (decide (op = 5) || decide (op = 6)) = true := by simpa using hcl
            have hne : 0 < v.opens.length := by
              obtain ⟨ms, _, hvi⟩ := HVL.out (by rw [opsOf_len]; exact hlt)
              rw [hvi.len]; omega
            obtain ⟨b, htb, hrow, -⟩ := HLB.out.wv.topAt hne
            obtain ⟨o, hto⟩ : ∃ o, v.top = o := ⟨_, rfl⟩
            rw [hto] at hrow
            have hos : o.base.size ≤ 256 ∧ o.res.size ≤ 8 := by
              obtain ⟨ms, _, hvi⟩ := HVL.out (by rw [opsOf_len]; exact hlt)
              have := hvi.j.ops _ (top_mem hne)
              rw [hto] at this
              exact ⟨by have := this.base; omega, this.res⟩
            have HTO := Lib.hid hto
            have HT := Lib.hid (val_topQ hne htb)
            have HRW := Lib.hid hrow
            clear htb hrow hto
            obtain ⟨s, hs⟩ : ∃ s, o.base ++ o.res = s := ⟨_, rfl⟩
            have hcat : ¬ 9223372036854775807 < o.base.size + o.res.size := by omega
            have HS := Lib.hid hs
            by_cases hz : s.size ≤ 256
            · have hdz : decide ((s.size : Int) ≤ 256) = true := decide_eq_true (by omega)
              obtain ⟨vA, hvA⟩ : ∃ vA, setS v s = vA := ⟨_, rfl⟩
              have HAH : Hid (aheadV v ⟨op, a, l⟩ = .ok (toldV vA)) := Lib.hid (by rw [← hvA, ← HS.out, ← HTO.out]; exact ahead_t hdd hcl (by rw [HTO.out, HS.out]; exact hz))
              have hsl : vA.shapes.length ≤ 1048576 ∧ vA.floors.length ≤ 1048576 := by
                obtain ⟨ms, _, hvi⟩ := HVL.out (by rw [opsOf_len]; exact hlt)
                have h1 := hvi.sh; have h2 := hvi.fl
                rw [← hvA]
                exact ⟨by show v.shapes.length ≤ _; omega, by show v.floors.length ≤ _; omega⟩
              have hsl1 := hsl.1; have hfl1 := hsl.2
              clear hsl
              go_wp2_with (first
                | (go_at_call 33; refine (val_must_ok _ _).mono ?_; rintro r w5 ⟨rfl, rfl⟩)
                | (go_at_call 34; refine HT.out.mono ?_; rintro e w6 ⟨rfl, m, rfl⟩
                   have qz : (w5.drewN m).cell? ⟨n, 0, none⟩ = _ := qb))
              have hq : Below w5.heap.size w5 (w5.drewN m) := bel_drewV (Below.refl _ _) m
              have z4 : (w5.drewN m).cell? ⟨b, 4, none⟩ = some (.string o.base) := row_cell HRW.out 4 rfl
              have z1 : (w5.drewN m).cell? ⟨b, 1, none⟩ = some (.string o.res) := row_cell HRW.out 1 rfl
              have HL5 := Lib.hid (HLB.out.on hq)
              have HX5 : Hid ((w5.drewN m).heap[gx]? = _) := HXB
              have HR5 := Lib.hid (HRB.out.keeps (Keeps.all _ hq))
              clear HLB HXB HRB qb y19 x0 HRW hq
              generalize w5.drewN m = w5 at *
              go_still_tail 13, (by kernel_rfl)
              change wpList _ _ _ _ _ w5.drew
              have HL6 := Lib.hid (HL5.out.on (drew_bel w5))
              have HX6 : Hid (w5.drew.heap[gx]? = _) := HX5
              have HR6 := Lib.hid (HR5.out.keeps (Keeps.all _ (drew_bel w5)))
              clear HL5 HX5 HR5 qz z4 z1
              generalize w5.drew = w6 at *
              have f18 := HL6.out.wv.free 18
              have y18 := HL6.out.wv.cell 18 (u := .string v.shape) rfl
              obtain ⟨hPs, hKs⟩ := HL6.out.wv.put (v' := setS v s) (q' := q) (pc' := at_) 18 (.string s) rfl rfl rfl rfl
              have HB := Lib.hid (HL6.out.step hPs hKs)
              have HXB := Lib.hid ((hKs.block gx (row_lt HX6.out) hgp).trans HX6.out)
              have HRB := Lib.hid (HR6.out.keeps (hKs.mono fun b _ hb2 => by have := HL6.out.wv.rd.sS b hb2; omega))
              have q6 := row_cell HL6.out.wb.wb 0 rfl; have q7 := row_cell HB.out.wb.wb 0 rfl
              have z18 : (w6.setCell ⟨k.p, 18, none⟩ (.string s)).cell? ⟨k.p, 18, none⟩ = some (.string s) := hPs.cell 18 rfl
              simp only [List.getElem_toArray, List.getElem_cons_zero] at q6 q7
              clear HL6 HX6 HR6 hPs hKs
              go_wp2_with (first
                | (go_at_call 33; refine (val_must_ok _ _).mono ?_; rintro r w8 ⟨rfl, rfl⟩))
              generalize w6.setCell ⟨k.p, 18, none⟩ (.string s) = wB at *
              rw [hvA] at HB
              clear hvA hcat hdz hz hos
              as_aux_lemma =>
                go_cut [14] from 14 to 110 (fun c14 wx => c14 = .int .i64 at_ ∧ ∃ sv', Hid (Lw k w3 n { vA with shapes := vA.shapes ++ [vA.shape] } at_ { q with sv := sv' } wx) ∧ Hid (wx.heap[gx]? = some (.cells #[.int .u8 op, .int .i64 a, .slice va l.length vc] 68 (0, 0))) ∧ Hid (RdI .i64 k.S wx (.slice va l.length vc) l))
                case first =>
                  obtain ⟨la, lc, hlv⟩ : ∃ a c, q.sv = .slice a vA.shapes.length c := by
                    obtain ⟨a, c, e, _⟩ := own_slice (show wB.ownsRow k.B 9 1 q.sv vA.shapes.length (vA.shapes.map .string) from HB.out.wv.fam.own (shE q vA) (by simp [Wq.ents]))
                    exact ⟨a, c, e⟩
                  have HLV := Lib.hid hlv
                  have yl : wB.cell? ⟨k.p, 12, none⟩ = some q.sv := HB.out.wv.cell 12 rfl
                  rw [hlv] at yl
                  clear hlv
                  have y18 : wB.cell? ⟨k.p, 18, none⟩ = some (.string vA.shape) := HB.out.wv.cell 18 rfl
                  have q0 := row_cell HB.out.wb.wb 0 rfl
                  simp only [List.getElem_toArray, List.getElem_cons_zero] at q0
                  have HLD := Lib.hid (HB.out.on (drew_bel wB))
                  have hba := below_alloc wB.drew (.cells #[.string vA.shape] 9)
                  have zl := cell_below hba (show wB.drew.cell? _ = _ from yl); have z18 := cell_below hba (show wB.drew.cell? _ = _ from y18); have zq := cell_below hba (show wB.drew.cell? _ = _ from q0)
                  have zl2 : (wB.alloc (.cells #[.string vA.shape] 9)).cell? ⟨k.p, 12, none⟩ = some (.slice la vA.shapes.length lc) := zl
                  have HLA := Lib.hid (HLD.out.on hba)
                  have HXA : Hid ((wB.drew.alloc (.cells #[.string vA.shape] 9)).heap[gx]? = some (.cells #[.int .u8 op, .int .i64 a, .slice va l.length vc] 68 (0, 0))) := Lib.hid ((hba.block gx (row_lt (w := wB.drew) HXB.out)).trans HXB.out)
                  have HOB : Hid ((wB.drew.alloc (.cells #[.string vA.shape] 9)).ownsRow k.B 9 1 q.sv vA.shapes.length (vA.shapes.map .string)) := Lib.hid (HLA.out.wv.fam.own (shE q vA) (by simp [Wq.ents]))
                  have HOA : Hid ((wB.drew.alloc (.cells #[.string vA.shape] 9)).ownsRow k.B 9 1 (.slice la vA.shapes.length lc) vA.shapes.length (vA.shapes.map .string)) := Lib.hid (by rw [← HLV.out]; exact HOB.out)
                  have HRA : Hid (RdI .i64 k.S (wB.drew.alloc (.cells #[.string vA.shape] 9)) (.slice va l.length vc) l) := Lib.hid ((HRB.out.keeps (Keeps.all _ (drew_bel wB))).keeps (Keeps.all _ hba))
                  have HBA : Hid (k.B ≤ (wB.drew.alloc (.cells #[.string vA.shape] 9)).heap.size) := Lib.hid HLA.out.wv.hi
                  clear hba
                  refine wp_region_held_drew (S := (fun wx => wx.cell? ⟨n, 0, none⟩ = some (.pointer (some ⟨k.p, 0, none⟩)) ∧ wx.cell? ⟨k.p, 18, none⟩ = some (.string vA.shape))) (by kernel_rfl) ⟨q0, y18⟩ (fun hHeld => ?_)
                  refine takeAt (i := 0) (d := 66) (v := ?_) rfl (by kernel_rfl) (by kernel_rfl) (by kernel_rfl) (by kernel_rfl) (fun _ _ _ h => hQw (d := 66) (by decide) (by decide) h) (Or.inl ⟨by kernel_rfl, ?_⟩) (by assumption) ?_
                  rotate_left
                  · (intro w hSw; (try dsimp only at hSw); go_simp; all_goals (with_reducible rfl))
                  (try simp only [Act.put, List.setIfInBounds_toArray, List.set_cons_zero, List.set_cons_succ])
                  refine takeAt (i := 1) (d := 67) (v := ?_) rfl (by kernel_rfl) (by kernel_rfl) (by kernel_rfl) (by kernel_rfl) (fun _ _ _ h => hQw (d := 67) (by decide) (by decide) h) (Or.inl ⟨by kernel_rfl, ?_⟩) (by assumption) ?_
                  rotate_left
                  · (intro w hSw; (try dsimp only at hSw); go_simp; all_goals (with_reducible rfl))
                  (try simp only [Act.put, List.setIfInBounds_toArray, List.set_cons_zero, List.set_cons_succ])
                  refine takeAt (i := 2) (d := 68) (v := ?_) rfl (by kernel_rfl) (by kernel_rfl) (by kernel_rfl) (by kernel_rfl) (fun _ _ _ h => hQw (d := 68) (by decide) (by decide) h) (Or.inl ⟨by kernel_rfl, ?_⟩) (by assumption) ?_
                  rotate_left
                  · (intro w hSw; (try dsimp only at hSw); go_simp; all_goals (with_reducible rfl))
                  (try simp only [Act.put, List.setIfInBounds_toArray, List.set_cons_zero, List.set_cons_succ])
                  refine takeAt (i := 3) (d := 69) (v := ?_) rfl (by kernel_rfl) (by kernel_rfl) (by kernel_rfl) (by kernel_rfl) (fun _ _ _ h => hQw (d := 69) (by decide) (by decide) h) (Or.inl ⟨by kernel_rfl, ?_⟩) (by assumption) ?_
                  rotate_left
                  · (intro w hSw; (try dsimp only at hSw); go_simp; all_goals (with_reducible rfl))
                  (try simp only [Act.put, List.setIfInBounds_toArray, List.set_cons_zero, List.set_cons_succ])
                  refine takeAt (i := 4) (d := 70) (v := ?_) rfl (by kernel_rfl) (by kernel_rfl) (by kernel_rfl) (by kernel_rfl) (fun _ _ _ h => hQw (d := 70) (by decide) (by decide) h) (Or.inl ⟨by kernel_rfl, ?_⟩) (by assumption) ?_
                  rotate_left
                  · (intro w hSw; (try dsimp only at hSw); go_simp; all_goals (with_reducible rfl))
                  (try simp only [Act.put, List.setIfInBounds_toArray, List.set_cons_zero, List.set_cons_succ])
                  refine takeAt (i := 6) (d := 72) (v := ?_) rfl (by kernel_rfl) (by kernel_rfl) (by kernel_rfl) (by kernel_rfl) (fun _ _ _ h => hQw (d := 72) (by decide) (by decide) h) (Or.inl ⟨by kernel_rfl, ?_⟩) (by assumption) ?_
                  rotate_left
                  · (intro w hSw; (try dsimp only at hSw); go_simp; all_goals (with_reducible rfl))
                  (try simp only [Act.put, List.setIfInBounds_toArray, List.set_cons_zero, List.set_cons_succ])
                  refine takeAt (i := 7) (d := 73) (v := ?_) rfl (by kernel_rfl) (by kernel_rfl) (by kernel_rfl) (by kernel_rfl) (fun _ _ _ h => hQw (d := 73) (by decide) (by decide) h) (Or.inl ⟨by kernel_rfl, ?_⟩) (by assumption) ?_
                  rotate_left
                  · (intro w hSw; (try dsimp only at hSw); go_simp; all_goals (with_reducible rfl))
                  (try simp only [Act.put, List.setIfInBounds_toArray, List.set_cons_zero, List.set_cons_succ])
                  refine takeAt (i := 8) (d := 74) (v := ?_) rfl (by kernel_rfl) (by kernel_rfl) (by kernel_rfl) (by kernel_rfl) (fun _ _ _ h => hQw (d := 74) (by decide) (by decide) h) (Or.inl ⟨by kernel_rfl, ?_⟩) (by assumption) ?_
                  rotate_left
                  · (intro w hSw; (try dsimp only at hSw); go_simp; all_goals (with_reducible rfl))
                  (try simp only [Act.put, List.setIfInBounds_toArray, List.set_cons_zero, List.set_cons_succ])
                  refine takeAt (i := 9) (d := 75) (v := ?_) rfl (by kernel_rfl) (by kernel_rfl) (by kernel_rfl) (by kernel_rfl) (fun _ _ _ h => hQw (d := 75) (by decide) (by decide) h) (Or.inl ⟨by kernel_rfl, ?_⟩) (by assumption) ?_
                  rotate_left
                  · (intro w hSw; (try dsimp only at hSw); go_simp; all_goals (with_reducible rfl))
                  (try simp only [Act.put, List.setIfInBounds_toArray, List.set_cons_zero, List.set_cons_succ])
                  refine wpAnyH_ready (rs := [5, 10]) (by kernel_rfl) (by simp) ?_
                  refine AllReadyH.cons rfl (fun K hK => ?_) (AllReadyH.cons rfl (fun K hK => ?_) AllReadyH.nil)
                  · go_simp
                    refine hK.out _ _ hHeld (fun hHeld => ?_)
                    (try refine stateAt (d := 71) (by kernel_rfl) ?_)
                    (try simp only [Act.put, List.setIfInBounds_toArray, List.set_cons_zero, List.set_cons_succ])
                    refine wpAnyH_ready (rs := [10]) (by kernel_rfl) (by simp) ?_
                    refine AllReadyH.cons rfl (fun K hK => ?_) AllReadyH.nil
                    go_simp
                    refine hK.out _ _ ⟨zq, z18⟩ (fun hHeld => ?_)
                    (try refine stateAt (d := 76) (by kernel_rfl) ?_)
                    (try simp only [Act.put, List.setIfInBounds_toArray, List.set_cons_zero, List.set_cons_succ])
                    refine wpAnyH_ready (rs := [11]) (by kernel_rfl) (by simp) ?_
                    refine AllReadyH.cons rfl (fun K hK => ?_) AllReadyH.nil
                    clear hHeld
                    refine step_append_lies _ (by rfl) _ _ 76 (by rfl) k.B 9 i1 (.string ⟨#[]⟩) 1 16 Tryd.underlying76 hj hy0 hy1 hy2 rfl (by omega) (.slice la vA.shapes.length lc) vA.shapes.length (vA.shapes.map .string) (by rfl) HOA.out ⟨wB.heap.size, 0, none⟩ 1 1 [.string vA.shape] (by rfl) (by rfl) (cells1_new wB.drew _ _) (by simp [Value.oneCell']) (by omega) (by unfold maxLen; omega) (by omega) HBA.out (wB.heap.size + 1) (by show (wB.drew.alloc _).heap.size = _; rw [World.size_alloc]; rfl) ?_
                    intro g9 cap9 w9 hown9 hgrow9 hat9 hlt9
                    rw [← HLV.out] at hgrow9 hat9
                    have hr9 := grown_block hgrow9 HLA.out.wv.row (own_ne HOB.out HLA.out.wv.row (by decide))
                    have hn9 := grown_block hgrow9 HLA.out.wb.wb (HLA.out.wv.al n (HLA.out.kx n (.inl rfl)).2).2.1
                    have d9 := row_cell hn9 0 rfl
                    have e9 := row_cell hr9 18 (u := .string vA.shape) rfl
                    have c9 := row_cell hr9 12 rfl
                    have f9 := row_free hr9 12
                    refine hK.out _ _ ⟨d9, e9⟩ (fun hHeld => ?_)
                    (try refine stateAt (d := 77) (by kernel_rfl) ?_)
                    (try simp only [Act.put, List.setIfInBounds_toArray, List.set_cons_zero, List.set_cons_succ])
                    refine takeAt (i := 12) (d := 78) (v := ?_) rfl (by kernel_rfl) (by kernel_rfl) (by kernel_rfl) (by kernel_rfl) (fun _ _ _ h => hQw (d := 78) (by decide) (by decide) h) (Or.inl ⟨by kernel_rfl, ?_⟩) (by assumption) ?_
                    rotate_left
                    · (intro w hSw; (try dsimp only at hSw); go_simp; all_goals (with_reducible rfl))
                    (try simp only [Act.put, List.setIfInBounds_toArray, List.set_cons_zero, List.set_cons_succ])
                    refine takeAt (i := 13) (d := 79) (v := ?_) rfl (by kernel_rfl) (by kernel_rfl) (by kernel_rfl) (by kernel_rfl) (fun _ _ _ h => hQw (d := 79) (by decide) (by decide) h) (Or.inl ⟨by kernel_rfl, ?_⟩) (by assumption) ?_
                    rotate_left
                    · (intro w hSw; (try dsimp only at hSw); go_simp; all_goals (with_reducible rfl))
                    (try simp only [Act.put, List.setIfInBounds_toArray, List.set_cons_zero, List.set_cons_succ])
                    refine takeAt (i := 14) (d := 80) (v := ?_) rfl (by kernel_rfl) (by kernel_rfl) (by kernel_rfl) (by kernel_rfl) (fun _ _ _ h => hQw (d := 80) (by decide) (by decide) h) (Or.inl ⟨by kernel_rfl, ?_⟩) (by assumption) ?_
                    rotate_left
                    · (intro w hSw; (try dsimp only at hSw); go_simp; all_goals (with_reducible rfl))
                    (try simp only [Act.put, List.setIfInBounds_toArray, List.set_cons_zero, List.set_cons_succ])
                    refine wpAnyH_ready (rs := [15]) (by kernel_rfl) (by simp) ?_
                    refine AllReadyH.cons rfl (fun K hK => ?_) AllReadyH.nil
                    obtain ⟨hPm, hKm⟩ := HLA.out.wv.moreS (x := vA.shape) hgrow9 hown9 (at_ofW hat9 (by show (wB.drew.alloc _).heap.size ≤ _; rw [World.size_alloc]; exact Nat.le_refl _))
                    have HLN := Lib.hid (HLA.out.step hPm hKm)
                    have HXN := Lib.hid (box_more (k := k) (x := .slice (some ⟨g9, 0, none⟩) (vA.shapes.length + 1) cap9) HOB.out hgrow9 HXA.out (by decide) hgp 12)
                    have HRN : Hid (RdI .i64 k.S _ (.slice va l.length vc) l) := Lib.hid (HRA.out.keeps (hKm.mono fun b _ hb2 => .inl (HLA.out.wv.rd.sS b hb2)))
                    have d10 := row_cell HLN.out.wb.wb 0 rfl
                    have e10 := HLN.out.wv.cell 18 (u := .string vA.shape) rfl
                    simp only [List.getElem_toArray, List.getElem_cons_zero] at d9 d10
                    go_simp
                    refine hK.out _ _ ⟨d10, e10⟩ (fun hHeld => ?_)
                    (try simp only [Act.put, List.setIfInBounds_toArray, List.set_cons_zero, List.set_cons_succ])
                    refine wpAnyH_done (by kernel_rfl) ?_ _
                    go_wp2_with fail
                    go_meet
                    exact ⟨rfl, _, HLN, HXN, HRN⟩
                  · go_simp
                    refine hK.out _ _ ⟨zq, z18⟩ (fun hHeld => ?_)
                    (try refine stateAt (d := 76) (by kernel_rfl) ?_)
                    (try simp only [Act.put, List.setIfInBounds_toArray, List.set_cons_zero, List.set_cons_succ])
                    refine wpAnyH_ready (rs := [5]) (by kernel_rfl) (by simp) ?_
                    refine AllReadyH.cons rfl (fun K hK => ?_) AllReadyH.nil
                    go_simp
                    refine hK.out _ _ ⟨zq, z18⟩ (fun hHeld => ?_)
                    (try refine stateAt (d := 71) (by kernel_rfl) ?_)
                    (try simp only [Act.put, List.setIfInBounds_toArray, List.set_cons_zero, List.set_cons_succ])
                    refine wpAnyH_ready (rs := [11]) (by kernel_rfl) (by simp) ?_
                    refine AllReadyH.cons rfl (fun K hK => ?_) AllReadyH.nil
                    clear hHeld
                    refine step_append_lies _ (by rfl) _ _ 76 (by rfl) k.B 9 i1 (.string ⟨#[]⟩) 1 16 Tryd.underlying76 hj hy0 hy1 hy2 rfl (by omega) (.slice la vA.shapes.length lc) vA.shapes.length (vA.shapes.map .string) (by rfl) HOA.out ⟨wB.heap.size, 0, none⟩ 1 1 [.string vA.shape] (by rfl) (by rfl) (cells1_new wB.drew _ _) (by simp [Value.oneCell']) (by omega) (by unfold maxLen; omega) (by omega) HBA.out (wB.heap.size + 1) (by show (wB.drew.alloc _).heap.size = _; rw [World.size_alloc]; rfl) ?_
                    intro g9 cap9 w9 hown9 hgrow9 hat9 hlt9
                    rw [← HLV.out] at hgrow9 hat9
                    have hr9 := grown_block hgrow9 HLA.out.wv.row (own_ne HOB.out HLA.out.wv.row (by decide))
                    have hn9 := grown_block hgrow9 HLA.out.wb.wb (HLA.out.wv.al n (HLA.out.kx n (.inl rfl)).2).2.1
                    have d9 := row_cell hn9 0 rfl
                    have e9 := row_cell hr9 18 (u := .string vA.shape) rfl
                    have c9 := row_cell hr9 12 rfl
                    have f9 := row_free hr9 12
                    refine hK.out _ _ ⟨d9, e9⟩ (fun hHeld => ?_)
                    (try refine stateAt (d := 77) (by kernel_rfl) ?_)
                    (try simp only [Act.put, List.setIfInBounds_toArray, List.set_cons_zero, List.set_cons_succ])
                    refine takeAt (i := 12) (d := 78) (v := ?_) rfl (by kernel_rfl) (by kernel_rfl) (by kernel_rfl) (by kernel_rfl) (fun _ _ _ h => hQw (d := 78) (by decide) (by decide) h) (Or.inl ⟨by kernel_rfl, ?_⟩) (by assumption) ?_
                    rotate_left
                    · (intro w hSw; (try dsimp only at hSw); go_simp; all_goals (with_reducible rfl))
                    (try simp only [Act.put, List.setIfInBounds_toArray, List.set_cons_zero, List.set_cons_succ])
                    refine takeAt (i := 13) (d := 79) (v := ?_) rfl (by kernel_rfl) (by kernel_rfl) (by kernel_rfl) (by kernel_rfl) (fun _ _ _ h => hQw (d := 79) (by decide) (by decide) h) (Or.inl ⟨by kernel_rfl, ?_⟩) (by assumption) ?_
                    rotate_left
                    · (intro w hSw; (try dsimp only at hSw); go_simp; all_goals (with_reducible rfl))
                    (try simp only [Act.put, List.setIfInBounds_toArray, List.set_cons_zero, List.set_cons_succ])
                    refine takeAt (i := 14) (d := 80) (v := ?_) rfl (by kernel_rfl) (by kernel_rfl) (by kernel_rfl) (by kernel_rfl) (fun _ _ _ h => hQw (d := 80) (by decide) (by decide) h) (Or.inl ⟨by kernel_rfl, ?_⟩) (by assumption) ?_
                    rotate_left
                    · (intro w hSw; (try dsimp only at hSw); go_simp; all_goals (with_reducible rfl))
                    (try simp only [Act.put, List.setIfInBounds_toArray, List.set_cons_zero, List.set_cons_succ])
                    refine wpAnyH_ready (rs := [15]) (by kernel_rfl) (by simp) ?_
                    refine AllReadyH.cons rfl (fun K hK => ?_) AllReadyH.nil
                    obtain ⟨hPm, hKm⟩ := HLA.out.wv.moreS (x := vA.shape) hgrow9 hown9 (at_ofW hat9 (by show (wB.drew.alloc _).heap.size ≤ _; rw [World.size_alloc]; exact Nat.le_refl _))
                    have HLN := Lib.hid (HLA.out.step hPm hKm)
                    have HXN := Lib.hid (box_more (k := k) (x := .slice (some ⟨g9, 0, none⟩) (vA.shapes.length + 1) cap9) HOB.out hgrow9 HXA.out (by decide) hgp 12)
                    have HRN : Hid (RdI .i64 k.S _ (.slice va l.length vc) l) := Lib.hid (HRA.out.keeps (hKm.mono fun b _ hb2 => .inl (HLA.out.wv.rd.sS b hb2)))
                    have d10 := row_cell HLN.out.wb.wb 0 rfl
                    have e10 := HLN.out.wv.cell 18 (u := .string vA.shape) rfl
                    simp only [List.getElem_toArray, List.getElem_cons_zero] at d9 d10
                    go_simp
                    refine hK.out _ _ ⟨d10, e10⟩ (fun hHeld => ?_)
                    (try simp only [Act.put, List.setIfInBounds_toArray, List.set_cons_zero, List.set_cons_succ])
                    refine wpAnyH_done (by kernel_rfl) ?_ _
                    go_wp2_with fail
                    go_meet
                    exact ⟨rfl, _, HLN, HXN, HRN⟩
                case rest =>
                  obtain ⟨rfl, sv', HC, HXC, HRC⟩ := hcut
                  clear HB HXB HRB
                  have q0 := row_cell HC.out.wb.wb 0 rfl
                  simp only [List.getElem_toArray, List.getElem_cons_zero] at q0
                  have y16 := HC.out.wv.cell 16 (u := .int .i64 vA.high) rfl
                  have y18 := HC.out.wv.cell 18 (u := .string vA.shape) rfl
                  go_wp2_with fail
                  go_still_tail 15, (by kernel_rfl)
                  change wpList _ _ _ _ _ wc.drew
                  have HD := Lib.hid (HC.out.on (drew_bel wc))
                  have HXD := Lib.hid (((drew_bel wc).block gx (row_lt HXC.out)).trans HXC.out)
                  have HRD := Lib.hid (HRC.out.keeps (Keeps.all _ (drew_bel wc)))
                  have f16 := HD.out.wv.free 16
                  have y16' : wc.drew.cell? ⟨k.p, 16, none⟩ = _ := y16
                  have y18' : wc.drew.cell? ⟨k.p, 18, none⟩ = _ := y18
                  have q0' : wc.drew.cell? ⟨n, 0, none⟩ = _ := q0
                  clear HC HXC HRC q0 y16 y18
                  generalize wc.drew = wD at *
                  obtain ⟨hPh, hKh⟩ := HD.out.wv.put (v' := { vA with shapes := vA.shapes ++ [vA.shape], high := max vA.high vA.shape.size }) (q' := { q with sv := sv' }) (pc' := at_) 16 (.int .i64 (max vA.high vA.shape.size)) rfl rfl rfl rfl
                  have HE := Lib.hid (HD.out.step hPh hKh)
                  have HXE := Lib.hid ((hKh.block gx (row_lt HXD.out) hgp).trans HXD.out)
                  have HRE := Lib.hid (HRD.out.keeps (hKh.mono fun b _ hb2 => by have := HD.out.wv.rd.sS b hb2; omega))
                  clear HD HXD HRD hPh hKh
                  go_upto_region 14 with fail
                  generalize wD.setCell ⟨k.p, 16, none⟩ (.int .i64 (max vA.high vA.shape.size)) = wE at *
                  clear f16 y16' y18' q0'
                  go_cut [14] from 14 to 110 (fun c14 wx => c14 = .int .i64 at_ ∧ ∃ fv', Hid (Lw k w3 n (toldV vA) at_ { q with sv := sv', fv := fv' } wx) ∧ Hid (wx.heap[gx]? = some (.cells #[.int .u8 op, .int .i64 a, .slice va l.length vc] 68 (0, 0))) ∧ Hid (RdI .i64 k.S wx (.slice va l.length vc) l))
                  case first =>
                    obtain ⟨la, lc, hlv⟩ : ∃ a c, q.fv = .slice a vA.floors.length c := by
                      obtain ⟨a, c, e, _⟩ := own_slice (show wE.ownsRow k.B 3 1 q.fv vA.floors.length (vA.floors.map (Value.int .i64)) from HE.out.wv.fam.own (flE { q with sv := sv' } { vA with shapes := vA.shapes ++ [vA.shape], high := max vA.high vA.shape.size }) (by simp [Wq.ents]))
                      exact ⟨a, c, e⟩
                    have HLV := Lib.hid hlv
                    have yl : wE.cell? ⟨k.p, 15, none⟩ = some q.fv := HE.out.wv.cell 15 rfl
                    rw [hlv] at yl
                    clear hlv
                    have y18 : wE.cell? ⟨k.p, 18, none⟩ = some (.string vA.shape) := HE.out.wv.cell 18 rfl
                    have q0 := row_cell HE.out.wb.wb 0 rfl
                    simp only [List.getElem_toArray, List.getElem_cons_zero] at q0
                    have HLD := Lib.hid (HE.out.on (drew_bel wE))
                    have hba := below_alloc wE.drew (.cells #[.int .i64 (-1)] 3)
                    have zl := cell_below hba (show wE.drew.cell? _ = _ from yl); have z18 := cell_below hba (show wE.drew.cell? _ = _ from y18); have zq := cell_below hba (show wE.drew.cell? _ = _ from q0)
                    have zl2 : (wE.alloc (.cells #[.int .i64 (-1)] 3)).cell? ⟨k.p, 15, none⟩ = some (.slice la vA.floors.length lc) := zl
                    have HLA := Lib.hid (HLD.out.on hba)
                    have HXA : Hid ((wE.drew.alloc (.cells #[.int .i64 (-1)] 3)).heap[gx]? = some (.cells #[.int .u8 op, .int .i64 a, .slice va l.length vc] 68 (0, 0))) := Lib.hid ((hba.block gx (row_lt (w := wE.drew) HXE.out)).trans HXE.out)
                    have HOB : Hid ((wE.drew.alloc (.cells #[.int .i64 (-1)] 3)).ownsRow k.B 3 1 q.fv vA.floors.length (vA.floors.map (Value.int .i64))) := Lib.hid (HLA.out.wv.fam.own (flE { q with sv := sv' } { vA with shapes := vA.shapes ++ [vA.shape], high := max vA.high vA.shape.size }) (by simp [Wq.ents]))
                    have HOA : Hid ((wE.drew.alloc (.cells #[.int .i64 (-1)] 3)).ownsRow k.B 3 1 (.slice la vA.floors.length lc) vA.floors.length (vA.floors.map (Value.int .i64))) := Lib.hid (by rw [← HLV.out]; exact HOB.out)
                    have HRA : Hid (RdI .i64 k.S (wE.drew.alloc (.cells #[.int .i64 (-1)] 3)) (.slice va l.length vc) l) := Lib.hid ((HRE.out.keeps (Keeps.all _ (drew_bel wE))).keeps (Keeps.all _ hba))
                    have HBA : Hid (k.B ≤ (wE.drew.alloc (.cells #[.int .i64 (-1)] 3)).heap.size) := Lib.hid HLA.out.wv.hi
                    clear hba
                    refine wp_region_held_drew (S := (fun wx => wx.cell? ⟨n, 0, none⟩ = some (.pointer (some ⟨k.p, 0, none⟩)) ∧ True)) (by kernel_rfl) ⟨q0, trivial⟩ (fun hHeld => ?_)
                    refine takeAt (i := 0) (d := 96) (v := ?_) rfl (by kernel_rfl) (by kernel_rfl) (by kernel_rfl) (by kernel_rfl) (fun _ _ _ h => hQw (d := 96) (by decide) (by decide) h) (Or.inl ⟨by kernel_rfl, ?_⟩) (by assumption) ?_
                    rotate_left
                    · (intro w hSw; (try dsimp only at hSw); go_simp; all_goals (with_reducible rfl))
                    (try simp only [Act.put, List.setIfInBounds_toArray, List.set_cons_zero, List.set_cons_succ])
                    refine takeAt (i := 1) (d := 97) (v := ?_) rfl (by kernel_rfl) (by kernel_rfl) (by kernel_rfl) (by kernel_rfl) (fun _ _ _ h => hQw (d := 97) (by decide) (by decide) h) (Or.inl ⟨by kernel_rfl, ?_⟩) (by assumption) ?_
                    rotate_left
                    · (intro w hSw; (try dsimp only at hSw); go_simp; all_goals (with_reducible rfl))
                    (try simp only [Act.put, List.setIfInBounds_toArray, List.set_cons_zero, List.set_cons_succ])
                    refine takeAt (i := 2) (d := 98) (v := ?_) rfl (by kernel_rfl) (by kernel_rfl) (by kernel_rfl) (by kernel_rfl) (fun _ _ _ h => hQw (d := 98) (by decide) (by decide) h) (Or.inl ⟨by kernel_rfl, ?_⟩) (by assumption) ?_
                    rotate_left
                    · (intro w hSw; (try dsimp only at hSw); go_simp; all_goals (with_reducible rfl))
                    (try simp only [Act.put, List.setIfInBounds_toArray, List.set_cons_zero, List.set_cons_succ])
                    refine takeAt (i := 3) (d := 99) (v := ?_) rfl (by kernel_rfl) (by kernel_rfl) (by kernel_rfl) (by kernel_rfl) (fun _ _ _ h => hQw (d := 99) (by decide) (by decide) h) (Or.inl ⟨by kernel_rfl, ?_⟩) (by assumption) ?_
                    rotate_left
                    · (intro w hSw; (try dsimp only at hSw); go_simp; all_goals (with_reducible rfl))
                    (try simp only [Act.put, List.setIfInBounds_toArray, List.set_cons_zero, List.set_cons_succ])
                    refine takeAt (i := 4) (d := 100) (v := ?_) rfl (by kernel_rfl) (by kernel_rfl) (by kernel_rfl) (by kernel_rfl) (fun _ _ _ h => hQw (d := 100) (by decide) (by decide) h) (Or.inl ⟨by kernel_rfl, ?_⟩) (by assumption) ?_
                    rotate_left
                    · (intro w hSw; (try dsimp only at hSw); go_simp; all_goals (with_reducible rfl))
                    (try simp only [Act.put, List.setIfInBounds_toArray, List.set_cons_zero, List.set_cons_succ])
                    refine wpAnyH_ready (rs := [5, 6]) (by kernel_rfl) (by simp) ?_
                    refine AllReadyH.cons rfl (fun K hK => ?_) (AllReadyH.cons rfl (fun K hK => ?_) AllReadyH.nil)
                    · go_simp
                      refine hK.out _ _ hHeld (fun hHeld => ?_)
                      (try refine stateAt (d := 101) (by kernel_rfl) ?_)
                      (try simp only [Act.put, List.setIfInBounds_toArray, List.set_cons_zero, List.set_cons_succ])
                      refine wpAnyH_ready (rs := [6]) (by kernel_rfl) (by simp) ?_
                      refine AllReadyH.cons rfl (fun K hK => ?_) AllReadyH.nil
                      go_simp
                      refine hK.out _ _ ⟨zq, trivial⟩ (fun hHeld => ?_)
                      (try refine stateAt (d := 102) (by kernel_rfl) ?_)
                      (try simp only [Act.put, List.setIfInBounds_toArray, List.set_cons_zero, List.set_cons_succ])
                      refine wpAnyH_ready (rs := [7]) (by kernel_rfl) (by simp) ?_
                      refine AllReadyH.cons rfl (fun K hK => ?_) AllReadyH.nil
                      clear hHeld
                      refine step_append_lies _ (by rfl) _ _ 23 (by rfl) k.B 3 i2 (.int .i64 0) 1 8 Tryd.underlying23 hj2 hz0 hz1 hz2 rfl (by omega) (.slice la vA.floors.length lc) vA.floors.length (vA.floors.map (Value.int .i64)) (by rfl) HOA.out ⟨wE.heap.size, 0, none⟩ 1 1 [.int .i64 (-1)] (by rfl) (by rfl) (cells1_new wE.drew _ _) (by simp [Value.oneCell']) (by omega) (by unfold maxLen; omega) (by omega) HBA.out (wE.heap.size + 1) (by show (wE.drew.alloc _).heap.size = _; rw [World.size_alloc]; rfl) ?_
                      intro g9 cap9 w9 hown9 hgrow9 hat9 hlt9
                      rw [← HLV.out] at hgrow9 hat9
                      have hr9 := grown_block hgrow9 HLA.out.wv.row (own_ne HOB.out HLA.out.wv.row (by decide))
                      have hn9 := grown_block hgrow9 HLA.out.wb.wb (HLA.out.wv.al n (HLA.out.kx n (.inl rfl)).2).2.2.1
                      have d9 := row_cell hn9 0 rfl
                      have e9 := row_cell hr9 18 (u := .string vA.shape) rfl
                      have c9 := row_cell hr9 15 rfl
                      have f9 := row_free hr9 15
                      refine hK.out _ _ ⟨d9, trivial⟩ (fun hHeld => ?_)
                      (try refine stateAt (d := 103) (by kernel_rfl) ?_)
                      (try simp only [Act.put, List.setIfInBounds_toArray, List.set_cons_zero, List.set_cons_succ])
                      refine takeAt (i := 8) (d := 104) (v := ?_) rfl (by kernel_rfl) (by kernel_rfl) (by kernel_rfl) (by kernel_rfl) (fun _ _ _ h => hQw (d := 104) (by decide) (by decide) h) (Or.inl ⟨by kernel_rfl, ?_⟩) (by assumption) ?_
                      rotate_left
                      · (intro w hSw; (try dsimp only at hSw); go_simp; all_goals (with_reducible rfl))
                      (try simp only [Act.put, List.setIfInBounds_toArray, List.set_cons_zero, List.set_cons_succ])
                      refine takeAt (i := 9) (d := 105) (v := ?_) rfl (by kernel_rfl) (by kernel_rfl) (by kernel_rfl) (by kernel_rfl) (fun _ _ _ h => hQw (d := 105) (by decide) (by decide) h) (Or.inl ⟨by kernel_rfl, ?_⟩) (by assumption) ?_
                      rotate_left
                      · (intro w hSw; (try dsimp only at hSw); go_simp; all_goals (with_reducible rfl))
                      (try simp only [Act.put, List.setIfInBounds_toArray, List.set_cons_zero, List.set_cons_succ])
                      refine takeAt (i := 10) (d := 106) (v := ?_) rfl (by kernel_rfl) (by kernel_rfl) (by kernel_rfl) (by kernel_rfl) (fun _ _ _ h => hQw (d := 106) (by decide) (by decide) h) (Or.inl ⟨by kernel_rfl, ?_⟩) (by assumption) ?_
                      rotate_left
                      · (intro w hSw; (try dsimp only at hSw); go_simp; all_goals (with_reducible rfl))
                      (try simp only [Act.put, List.setIfInBounds_toArray, List.set_cons_zero, List.set_cons_succ])
                      refine wpAnyH_ready (rs := [11]) (by kernel_rfl) (by simp) ?_
                      refine AllReadyH.cons rfl (fun K hK => ?_) AllReadyH.nil
                      obtain ⟨hPm, hKm⟩ := HLA.out.wv.moreF (x := (-1 : Int)) hgrow9 hown9 (at_ofW hat9 (by show (wE.drew.alloc _).heap.size ≤ _; rw [World.size_alloc]; exact Nat.le_refl _))
                      have HLN := Lib.hid (HLA.out.step hPm hKm)
                      have HXN := Lib.hid (box_more (k := k) (x := .slice (some ⟨g9, 0, none⟩) (vA.floors.length + 1) cap9) HOB.out hgrow9 HXA.out (by decide) hgp 15)
                      have HRN : Hid (RdI .i64 k.S _ (.slice va l.length vc) l) := Lib.hid (HRA.out.keeps (hKm.mono fun b _ hb2 => .inl (HLA.out.wv.rd.sS b hb2)))
                      have d10 := row_cell HLN.out.wb.wb 0 rfl
                      have e10 := HLN.out.wv.cell 18 (u := .string vA.shape) rfl
                      simp only [List.getElem_toArray, List.getElem_cons_zero] at d9 d10
                      go_simp
                      refine hK.out _ _ ⟨d10, trivial⟩ (fun hHeld => ?_)
                      (try simp only [Act.put, List.setIfInBounds_toArray, List.set_cons_zero, List.set_cons_succ])
                      refine wpAnyH_done (by kernel_rfl) ?_ _
                      go_wp2_with fail
                      go_meet
                      exact ⟨rfl, _, HLN, HXN, HRN⟩
                    · go_simp
                      refine hK.out _ _ ⟨zq, trivial⟩ (fun hHeld => ?_)
                      (try refine stateAt (d := 102) (by kernel_rfl) ?_)
                      (try simp only [Act.put, List.setIfInBounds_toArray, List.set_cons_zero, List.set_cons_succ])
                      refine wpAnyH_ready (rs := [5]) (by kernel_rfl) (by simp) ?_
                      refine AllReadyH.cons rfl (fun K hK => ?_) AllReadyH.nil
                      go_simp
                      refine hK.out _ _ ⟨zq, trivial⟩ (fun hHeld => ?_)
                      (try refine stateAt (d := 101) (by kernel_rfl) ?_)
                      (try simp only [Act.put, List.setIfInBounds_toArray, List.set_cons_zero, List.set_cons_succ])
                      refine wpAnyH_ready (rs := [7]) (by kernel_rfl) (by simp) ?_
                      refine AllReadyH.cons rfl (fun K hK => ?_) AllReadyH.nil
                      clear hHeld
                      refine step_append_lies _ (by rfl) _ _ 23 (by rfl) k.B 3 i2 (.int .i64 0) 1 8 Tryd.underlying23 hj2 hz0 hz1 hz2 rfl (by omega) (.slice la vA.floors.length lc) vA.floors.length (vA.floors.map (Value.int .i64)) (by rfl) HOA.out ⟨wE.heap.size, 0, none⟩ 1 1 [.int .i64 (-1)] (by rfl) (by rfl) (cells1_new wE.drew _ _) (by simp [Value.oneCell']) (by omega) (by unfold maxLen; omega) (by omega) HBA.out (wE.heap.size + 1) (by show (wE.drew.alloc _).heap.size = _; rw [World.size_alloc]; rfl) ?_
                      intro g9 cap9 w9 hown9 hgrow9 hat9 hlt9
                      rw [← HLV.out] at hgrow9 hat9
                      have hr9 := grown_block hgrow9 HLA.out.wv.row (own_ne HOB.out HLA.out.wv.row (by decide))
                      have hn9 := grown_block hgrow9 HLA.out.wb.wb (HLA.out.wv.al n (HLA.out.kx n (.inl rfl)).2).2.2.1
                      have d9 := row_cell hn9 0 rfl
                      have e9 := row_cell hr9 18 (u := .string vA.shape) rfl
                      have c9 := row_cell hr9 15 rfl
                      have f9 := row_free hr9 15
                      refine hK.out _ _ ⟨d9, trivial⟩ (fun hHeld => ?_)
                      (try refine stateAt (d := 103) (by kernel_rfl) ?_)
                      (try simp only [Act.put, List.setIfInBounds_toArray, List.set_cons_zero, List.set_cons_succ])
                      refine takeAt (i := 8) (d := 104) (v := ?_) rfl (by kernel_rfl) (by kernel_rfl) (by kernel_rfl) (by kernel_rfl) (fun _ _ _ h => hQw (d := 104) (by decide) (by decide) h) (Or.inl ⟨by kernel_rfl, ?_⟩) (by assumption) ?_
                      rotate_left
                      · (intro w hSw; (try dsimp only at hSw); go_simp; all_goals (with_reducible rfl))
                      (try simp only [Act.put, List.setIfInBounds_toArray, List.set_cons_zero, List.set_cons_succ])
                      refine takeAt (i := 9) (d := 105) (v := ?_) rfl (by kernel_rfl) (by kernel_rfl) (by kernel_rfl) (by kernel_rfl) (fun _ _ _ h => hQw (d := 105) (by decide) (by decide) h) (Or.inl ⟨by kernel_rfl, ?_⟩) (by assumption) ?_
                      rotate_left
                      · (intro w hSw; (try dsimp only at hSw); go_simp; all_goals (with_reducible rfl))
                      (try simp only [Act.put, List.setIfInBounds_toArray, List.set_cons_zero, List.set_cons_succ])
                      refine takeAt (i := 10) (d := 106) (v := ?_) rfl (by kernel_rfl) (by kernel_rfl) (by kernel_rfl) (by kernel_rfl) (fun _ _ _ h => hQw (d := 106) (by decide) (by decide) h) (Or.inl ⟨by kernel_rfl, ?_⟩) (by assumption) ?_
                      rotate_left
                      · (intro w hSw; (try dsimp only at hSw); go_simp; all_goals (with_reducible rfl))
                      (try simp only [Act.put, List.setIfInBounds_toArray, List.set_cons_zero, List.set_cons_succ])
                      refine wpAnyH_ready (rs := [11]) (by kernel_rfl) (by simp) ?_
                      refine AllReadyH.cons rfl (fun K hK => ?_) AllReadyH.nil
                      obtain ⟨hPm, hKm⟩ := HLA.out.wv.moreF (x := (-1 : Int)) hgrow9 hown9 (at_ofW hat9 (by show (wE.drew.alloc _).heap.size ≤ _; rw [World.size_alloc]; exact Nat.le_refl _))
                      have HLN := Lib.hid (HLA.out.step hPm hKm)
                      have HXN := Lib.hid (box_more (k := k) (x := .slice (some ⟨g9, 0, none⟩) (vA.floors.length + 1) cap9) HOB.out hgrow9 HXA.out (by decide) hgp 15)
                      have HRN : Hid (RdI .i64 k.S _ (.slice va l.length vc) l) := Lib.hid (HRA.out.keeps (hKm.mono fun b _ hb2 => .inl (HLA.out.wv.rd.sS b hb2)))
                      have d10 := row_cell HLN.out.wb.wb 0 rfl
                      have e10 := HLN.out.wv.cell 18 (u := .string vA.shape) rfl
                      simp only [List.getElem_toArray, List.getElem_cons_zero] at d9 d10
                      go_simp
                      refine hK.out _ _ ⟨d10, trivial⟩ (fun hHeld => ?_)
                      (try simp only [Act.put, List.setIfInBounds_toArray, List.set_cons_zero, List.set_cons_succ])
                      refine wpAnyH_done (by kernel_rfl) ?_ _
                      go_wp2_with fail
                      go_meet
                      exact ⟨rfl, _, HLN, HXN, HRN⟩
                  case rest =>
                    obtain ⟨rfl, fv', HF, HXF, HRF⟩ := hcut
                    clear HE HXE HRE
                    have q0 := row_cell HF.out.wb.wb 0 rfl; have x0 := row_cell HXF.out 0 rfl; have x1 := row_cell HXF.out 1 rfl; have x2 := row_cell HXF.out 2 rfl
                    simp only [List.getElem_toArray, List.getElem_cons_zero, List.getElem_cons_succ] at q0 x0 x1 x2
                    have HRH := Lib.hid (show RowH k wc (toldV vA) at_ { q with sv := sv', fv := fv' } ⟨op, a, l⟩ (.slice va l.length vc) from
                      ⟨HF.out.wv, HM.out, by rw [hels, ← opsOf_len k.code]; exact HVL.out.row (by rw [opsOf_len]; exact hlt) HAH.out, hlc, hs2, by omega, HWX.out.2.1, HRF.out.mono fun b hb _ => hb, HWX.out.2.2.2, HWX.out.2.2.1, HWX.out.1, HT0.out.bel (HB0.out.trans (HF.out.kw.below HB0.out.size fun b hb => .inl (by omega)))⟩)
                    go_wp2_with (first
                      | ((go_at_call 35; refine (val_row ⟨op, a, l⟩ (.slice va l.length vc) HRH.out).mono ?_)
                         rintro e w9 (⟨v2, q2, h1, rfl, h2, h3⟩ | ⟨z, h1, rfl, h2, h3⟩)
                         rotate_left
                         · exact walk_fail HKW.out (HF.out.kw.trans h3) (HF.out.wbk h3) (HF.out.kx n (.inl rfl)).1 h2 (go_err HGO.out hlt HXX.out ((step_row HAH.out).trans h1)) _ rfl rfl
                         have HL9 := Lib.hid (HF.out.step h2 h3)
                         have HVL9 := Lib.hid (HVL.out.next (HM.out.szc (c := k.ctx) rfl) (by rw [opsOf_len]; exact hlt) (x := ⟨op, a, l⟩) (by rw [opsOf_at hlt, HXX.out]) HAH.out h1)
                         have HGO9 := Lib.hid (go_ok HGO.out hlt HXX.out ((step_row HAH.out).trans h1))
                         clear h1 h2 h3 HF HXF HRF HRH HVL HGO))
                    go_roundw
                    case rel => exact ⟨at_ + 1, v2, q2, at_, by omega, by go_num, HL9, HVL9, HGO9⟩
                    case measure => simp [intOf]; omega
            · have hdz : decide ((s.size : Int) ≤ 256) = false := decide_eq_false (by omega)
              go_wp2_with (first
                | (go_at_call 33; refine (val_must_ok _ _).mono ?_; rintro r w5 ⟨rfl, rfl⟩)
                | (go_at_call 34; refine HT.out.mono ?_; rintro e w6 ⟨rfl, m, rfl⟩
                   have qz : (w5.drewN m).cell? ⟨n, 0, none⟩ = _ := qb))
              have hq : Below w5.heap.size w5 (w5.drewN m) := bel_drewV (Below.refl _ _) m
              have z4 : (w5.drewN m).cell? ⟨b, 4, none⟩ = some (.string o.base) := row_cell HRW.out 4 rfl
              have z1 : (w5.drewN m).cell? ⟨b, 1, none⟩ = some (.string o.res) := row_cell HRW.out 1 rfl
              have HL5 := Lib.hid (HLB.out.on hq)
              have HX5 : Hid ((w5.drewN m).heap[gx]? = _) := HXB
              have HR5 := Lib.hid (HRB.out.keeps (Keeps.all _ hq))
              clear HLB HXB HRB qb y19 x0 HRW hq
              generalize w5.drewN m = w5 at *
              go_still_tail 13, (by kernel_rfl)
              change wpList _ _ _ _ _ w5.drew
              have HL6 := Lib.hid (HL5.out.on (drew_bel w5))
              have HX6 : Hid (w5.drew.heap[gx]? = _) := HX5
              have HR6 := Lib.hid (HR5.out.keeps (Keeps.all _ (drew_bel w5)))
              clear HL5 HX5 HR5 qz z4 z1
              generalize w5.drew = w6 at *
              have f18 := HL6.out.wv.free 18
              have y18 := HL6.out.wv.cell 18 (u := .string v.shape) rfl
              obtain ⟨hPs, hKs⟩ := HL6.out.wv.put (v' := setS v s) (q' := q) (pc' := at_) 18 (.string s) rfl rfl rfl rfl
              have HB := Lib.hid (HL6.out.step hPs hKs)
              have HXB := Lib.hid ((hKs.block gx (row_lt HX6.out) hgp).trans HX6.out)
              have HRB := Lib.hid (HR6.out.keeps (hKs.mono fun b _ hb2 => by have := HL6.out.wv.rd.sS b hb2; omega))
              have q6 := row_cell HL6.out.wb.wb 0 rfl; have q7 := row_cell HB.out.wb.wb 0 rfl
              have z18 : (w6.setCell ⟨k.p, 18, none⟩ (.string s)).cell? ⟨k.p, 18, none⟩ = some (.string s) := hPs.cell 18 rfl
              simp only [List.getElem_toArray, List.getElem_cons_zero] at q6 q7
              clear HL6 HX6 HR6 hPs hKs
              go_wp2_with (first
                | (go_at_call 33; refine (val_must_no _ _).mono ?_; rintro r w8 ⟨rfl, rfl⟩))
              exact walk_fail HKW.out HB.out.kw HB.out.wb (HB.out.kx n (.inl rfl)).1 (HB.out.wv.cell 20 rfl) (go_err HGO.out hlt HXX.out (step_bad (ahead_34 hdd hcl (by rw [HTO.out, HS.out]; exact hz)))) _ rfl rfl
          · have hdc : (decide (op = 5) || decide (op = 6)) = false := by simpa using hcl
            go_wp2_with (first
              | (go_at_call 33; refine (val_must_no _ _).mono ?_; rintro r w5 ⟨rfl, rfl⟩))
            exact walk_fail HKW.out HLB.out.kw HLB.out.wb (HLB.out.kx n (.inl rfl)).1 (HLB.out.wv.cell 20 rfl) (go_err HGO.out hlt HXX.out (step_bad (ahead_36 hdd hcl))) _ rfl rfl
    · obtain rfl : at_ = k.code.length := by omega
      have HG : Hid (goV k.ctx k.code 0 v0 = .ok v) := Lib.hid (by rw [HGO.out, List.drop_length]; rfl)
      have ce := row_cell HL.out.wb.eb 0 rfl; have fe := row_free HL.out.wb.eb 0
      have hab := (((Keeps.refl (fun b => b ≠ n + 1) wr).setCell (a := ⟨n + 1, 0, none⟩) (by simp) (.int .i64 0)).block (n + 1 + 1) (row_lt HL.out.wb.ab) (by omega)).trans HL.out.wb.ab
      have cb := row_cell hab 0 rfl; have fb := row_free hab 0
      simp only [List.getElem_toArray, List.getElem_cons_zero] at ce cb
      clear hab
      go_wp2_with fail
      exact walk_done HKW.out HL.out HG.out _ rfl rfl
end Go.Proofs.YtfhkjahjenpbgaaDoor
