/- The validator, plain: how a function's code is walked, with its types. The validator's walker, in memory. The validator's small functions: must, top, index, brings, label, just, pops, pushes. The validator's pops, pushes, just. Regions walked by hand. -/
import Derived.Test.YtfhkjahjenpbgaaDoorMMod
import Derived.Test.YtfhkjahjenpbgaaDoorMCtl
import Derived.Test.YtfhkjahjenpbgaaDoorMOps4
import Derived.Shelf.Strings.Prefix
import Derived.Test.YtfhkjahjenpbgaaDoorMHead0
import Derived.Test.YtfhkjahjenpbgaaDoorShelf
import Derived.Test.YtfhkjahjenpbgaaDoorMTwice
import Derived.BigQuiet
import Derived.StillTailTactics
import Derived.Test.YtfhkjahjenpbgaaDoorMLib
import Derived.Deep.RegionHeld3
namespace Go.Proofs.YtfhkjahjenpbgaaDoor
open Go Go.RowKit

/-- What is open for the validator: the body, too. -/
structure OpD where
  par : ByteArray
  res : ByteArray
  pc : Int
  op : Nat
  base : ByteArray
deriving DecidableEq
def tE : ByteArray := ⟨#[]⟩
def tWw : ByteArray := ⟨#[119]⟩
def opZ : OpD := ⟨tE, tE, 0, 0, tE⟩
/-- The letters that its label brings. -/
def OpD.brings (o : OpD) : ByteArray := if o.op = 3 then o.par else o.res
/-- How the walk stands (the innermost is the last). -/
structure VwD where
  opens : List OpD
  shape : ByteArray
  dead : Bool
  shapes : List ByteArray
  floors : List Int
  high : Int
/-- What a walk hangs on, but for the function's code. -/
structure VcD where
  types : List SigD
  hosts : List Int
  globals : List GlobD
  ftypes : List Int
  res : ByteArray
  locals : ByteArray
  elses : List Int
def VwD.top (v : VwD) : OpD := v.opens.getLastD opZ
def VwD.above (v : VwD) : ByteArray := v.shape.extract v.top.base.size v.shape.size
/-- A step, and what follows it. -/
def andV {α β : Type} (r : Except Int α) (k : α → Except Int β) : Except Int β := match r with
  | .error e => .error e
  | .ok x => k x
def mustV (b : Bool) (e : Int) : Except Int Unit := if b then .ok () else .error e
def hasSuf (s t : ByteArray) : Bool := Lib.hasSuffix s.data.toList t.data.toList
def popsV (v : VwD) (s : ByteArray) : Except Int VwD := if hasSuf v.above s then .ok { v with shape := v.shape.extract 0 (v.shape.size - s.size) } else .error 33
def pushesV (v : VwD) (s : ByteArray) : Except Int VwD := if v.shape.size + s.size ≤ 256 then .ok { v with shape := v.shape ++ s } else .error 34
def setS (v : VwD) (s : ByteArray) : VwD := { v with shape := s }
def justV (v : VwD) (o : OpD) (s : ByteArray) : Except Int VwD :=
  if (if v.dead then o.base ++ s else v.shape) = o.base ++ s then .ok (setS v (o.base ++ s)) else .error 33
def indexV (n : Int) (count : Nat) : Except Int Nat := if 0 ≤ n ∧ n < count then .ok n.toNat else .error 30
def labelV (v : VwD) (n : Int) : Except Int OpD := if 0 ≤ n ∧ n < v.opens.length then .ok (v.opens.getD (v.opens.length - 1 - n.toNat) opZ) else .error 31
def sigAt (l : List SigD) (t : Int) : SigD := l.getD t.toNat (tE, tE)
/-- block, loop, if. -/
def opensV (c : VcD) (v : VwD) (at_ : Nat) (x : InsD) : Except Int VwD :=
  andV (indexV x.a c.types.length) fun t =>
  andV (popsV v (if x.op = 4 then (sigAt c.types t).1 ++ tWw else (sigAt c.types t).1)) fun v1 =>
  andV (pushesV v1 (sigAt c.types t).1) fun v2 =>
  .ok { v2 with floors := v2.floors.set at_ v1.shape.size, opens := v2.opens ++ [⟨(sigAt c.types t).1, (sigAt c.types t).2, at_, x.op, v1.shape⟩] }
/-- else, end. -/
def endsV (c : VcD) (v : VwD) (x : InsD) : Except Int VwD :=
  andV (justV v v.top v.top.res) fun v1 =>
  if x.op = 5 then .ok { v1 with dead := false, shape := v.top.base ++ v.top.par }
  else if v.top.op = 4 ∧ c.elses.getD v.top.pc.toNat 0 < 0 ∧ v.top.par ≠ v.top.res then .error 37
  else .ok { v1 with dead := false, opens := v1.opens.dropLast }
/-- All labels of a list are there, and bring the same. -/
def labelsV (v : VwD) : List Int → Except Int Unit
  | [] => .ok ()
  | n :: l => andV (labelV v n) fun _ => labelsV v l
def sameV (v : VwD) (s : ByteArray) : List Int → Except Int Unit
  | [] => .ok ()
  | n :: l => andV (labelV v n) fun o => if o.brings = s then sameV v s l else .error 32
/-- What goes elsewhere. -/
def branchesV (c : VcD) (v : VwD) (x : InsD) : Except Int VwD :=
  if x.op = 7 then andV (labelV v x.a) fun o => andV (popsV v o.brings) fun v1 => .ok { v1 with dead := true }
  else if x.op = 8 then andV (labelV v x.a) fun o => andV (popsV v (o.brings ++ tWw)) fun v1 => .ok { v1 with shape := v1.shape ++ o.brings }
  else if x.op = 9 then andV (labelsV v x.l) fun _ => andV (labelV v (x.l.getD 0 0)) fun o => andV (sameV v o.brings x.l) fun _ => andV (popsV v (o.brings ++ tWw)) fun v1 => .ok { v1 with dead := true }
  else if x.op = 10 then andV (popsV v c.res) fun v1 => .ok { v1 with dead := true }
  else .ok { v with dead := true }
/-- call, host. -/
def callsV (c : VcD) (v : VwD) (x : InsD) : Except Int VwD :=
  andV (if x.op = 11 then andV (indexV x.a c.ftypes.length) fun k => .ok (c.ftypes.getD k 0) else andV (indexV x.a c.hosts.length) fun k => .ok (c.hosts.getD k 0)) fun t =>
  andV (popsV v (sigAt c.types t).1) fun v1 => pushesV v1 (sigAt c.types t).2
/-- Locals, globals: the letter. -/
def letterV (c : VcD) (x : InsD) : Except Int ByteArray :=
  if x.op = 21 ∨ x.op = 22 then andV (indexV x.a c.globals.length) fun k =>
    if x.op = 21 ∨ (c.globals.getD k ⟨0, false, 0⟩).mu = true then .ok ⟨#[UInt8.ofNat (c.globals.getD k ⟨0, false, 0⟩).letter]⟩ else .error 39
  else andV (indexV x.a c.locals.size) fun k => .ok (c.locals.extract k (k + 1))
def namesV (c : VcD) (v : VwD) (x : InsD) : Except Int VwD :=
  andV (letterV c x) fun s =>
  andV (if x.op ≠ 18 ∧ x.op ≠ 21 then popsV v s else .ok v) fun v1 =>
  if x.op ≠ 19 ∧ x.op ≠ 22 then pushesV v1 s else .ok v1
/-- drop, select. -/
def picksV (v : VwD) (x : InsD) : Except Int VwD :=
  if x.op = 16 then (if v.above.size = 0 then .error 33 else .ok { v with shape := v.shape.extract 0 (v.shape.size - 1) })
  else if v.above.size < 3 then .error 33
  else andV (popsV v (v.above.extract (v.above.size - 2) (v.above.size - 1) ++ v.above.extract (v.above.size - 2) (v.above.size - 1) ++ tWw)) fun v1 => pushesV v1 (v.above.extract (v.above.size - 2) (v.above.size - 1))
/-- The rows of instructions that only pop and push. -/
def plainV (v : VwD) (x : InsD) : Except Int VwD :=
  andV (popsV v ⟨(if isOp x.op then (progRow x.op).pops else []).toArray⟩) fun v1 => pushesV v1 ⟨(if isOp x.op then (progRow x.op).pushes else []).toArray⟩
def rowV (c : VcD) (v : VwD) (at_ : Nat) (x : InsD) : Except Int VwD :=
  if x.op = 2 ∨ x.op = 3 ∨ x.op = 4 then opensV c v at_ x
  else if x.op = 5 ∨ x.op = 6 then endsV c v x
  else if x.op = 0 ∨ x.op = 7 ∨ x.op = 8 ∨ x.op = 9 ∨ x.op = 10 then branchesV c v x
  else if x.op = 11 ∨ x.op = 12 then callsV c v x
  else if x.op = 16 ∨ x.op = 17 then picksV v x
  else if x.op = 18 ∨ x.op = 19 ∨ x.op = 20 ∨ x.op = 21 ∨ x.op = 22 then namesV c v x
  else plainV v x
/-- What lies ahead of an instruction's row: dead code is left by its end alone; the shape is told. -/
def aheadV (v : VwD) (x : InsD) : Except Int VwD :=
  if v.dead = true ∧ ¬ (x.op = 5 ∨ x.op = 6) then .error 36
  else andV (if v.dead then (if (v.top.base ++ v.top.res).size ≤ 256 then .ok (setS v (v.top.base ++ v.top.res)) else .error 34) else .ok v) fun v1 =>
    .ok { v1 with shapes := v1.shapes ++ [v1.shape], high := max v1.high v1.shape.size, floors := v1.floors ++ [-1] }
def stepV (c : VcD) (v : VwD) (at_ : Nat) (x : InsD) : Except Int VwD := andV (aheadV v x) fun v1 => rowV c v1 at_ x
/-- From a place on: the walk's end, or the error and its place. -/
def goV (c : VcD) : List InsD → Nat → VwD → Except (Int × Nat) VwD
  | [], _, v => .ok v
  | x :: l, at_, v => match stepV c v at_ x with
    | .error e => .error (e, at_)
    | .ok v1 => goV c l (at_ + 1) v1
/-- A table. -/
structure TbD where
  shapes : List ByteArray
  ends : List Int
  elses : List Int
  floors : List Int
  high : Int
deriving DecidableEq
def tbZ : TbD := ⟨[], [], [], [], 0⟩
def startV (res : ByteArray) : VwD := ⟨[⟨tE, res, -1, 0, tE⟩], tE, false, [], [], 0⟩
/-- What a function's walk hangs on, of its module. -/
def ctxV (m : ModD) (f : FunD) (elses : List Int) : VcD := ⟨m.types, m.hosts, m.globals, m.funs.map (·.t), (sigAt m.types f.t).2, (sigAt m.types f.t).1 ++ f.locals, elses⟩
def funZ : FunD := ⟨0, tE, []⟩
/-- A function's table: with the error, its place. -/
def funV (m : ModD) (n : Nat) : TbD × Int × Int :=
  if (mapP (opsOf (m.funs.getD n funZ).code)).2.2.2.1 ≠ 0 then (tbZ, (mapP (opsOf (m.funs.getD n funZ).code)).2.2.2.1, (mapP (opsOf (m.funs.getD n funZ).code)).2.2.2.2)
  else match goV (ctxV m (m.funs.getD n funZ) (mapP (opsOf (m.funs.getD n funZ).code)).2.1) (m.funs.getD n funZ).code 0 (startV (sigAt m.types (m.funs.getD n funZ).t).2) with
    | .error z => (tbZ, z.1, (z.2 : Nat))
    | .ok v => (⟨v.shapes, (mapP (opsOf (m.funs.getD n funZ).code)).1, (mapP (opsOf (m.funs.getD n funZ).code)).2.1, v.floors, v.high⟩, 0, 0)
/-- validate.Function. -/
def valF (m : ModD) (n : Int) : TbD × Int × Int :=
  if (encM m).2 ≠ 0 then (tbZ, (encM m).2, -1)
  else if n < 0 ∨ (m.funs.length : Int) ≤ n then (tbZ, 1, -1)
  else funV m n.toNat
/-- The tables of all functions, one by one. -/
def allV (m : ModD) : Nat → Nat → List TbD → Except (Int × Int × Int) (List TbD)
  | 0, _, acc => .ok acc
  | f + 1, n, acc => if (funV m n).2.1 ≠ 0 then .error ((funV m n).2.1, (n : Nat), (funV m n).2.2) else allV m f (n + 1) (acc ++ [(funV m n).1])
/-- validate.Module: the tables, the error, the function, the place. -/
def valM (m : ModD) : List TbD × Int × Int × Int :=
  if (encM m).2 ≠ 0 then ([], (encM m).2, -1, 0)
  else match allV m m.funs.length 0 [] with
    | .error z => ([], z.1, z.2.1, z.2.2)
    | .ok l => (l, 0, 0, 0)
/-- A module whose functions are all well has each well. -/
theorem allV_ok {m : ModD} : ∀ (f n : Nat) (acc : List TbD), (∃ l, allV m f n acc = .ok l) ↔ ∀ j, n ≤ j → j < n + f → (funV m j).2.1 = 0
  | 0, n, acc => by simp [allV]; intro j h1 h2; omega
  | f + 1, n, acc => by
    rw [allV]
    by_cases h : (funV m n).2.1 = 0
    · rw [if_neg (by simp [h]), allV_ok f (n + 1)]
      constructor
      · intro hj j h1 h2
        by_cases e : j = n
        · subst e; exact h
        · exact hj j (by omega) (by omega)
      · intro hj j h1 h2
        exact hj j (by omega) (by omega)
    · rw [if_pos h]
      constructor
      · rintro ⟨l, hl⟩; exact absurd hl (by simp)
      · intro hj; exact absurd (hj n (Nat.le_refl _) (by omega)) h
theorem allV_err {m : ModD} {z : Int × Int × Int} : ∀ (f n : Nat) (acc : List TbD), allV m f n acc = .error z → z.1 ≠ 0
  | 0, n, acc, h => absurd h (by simp [allV])
  | f + 1, n, acc, h => by
    rw [allV] at h
    split at h
    · rename_i h1
      simp only [Except.error.injEq] at h
      rw [← h]; exact h1
    · exact allV_err f (n + 1) _ h
theorem valM_ok {m : ModD} : (valM m).2.1 = 0 ↔ (encM m).2 = 0 ∧ ∀ j, j < m.funs.length → (funV m j).2.1 = 0 := by
  unfold valM
  by_cases h : (encM m).2 = 0
  · rw [if_neg (by simp [h])]
    have key := allV_ok (m := m) m.funs.length 0 []
    cases hr : allV m m.funs.length 0 [] with
    | error z =>
      simp only
      constructor
      · intro hz
        exact absurd hz (allV_err _ _ _ hr)
      · rintro ⟨_, hj⟩
        obtain ⟨l, hl⟩ := key.2 fun j _ h2 => hj j (by omega)
        rw [hr] at hl; exact absurd hl (by simp)
    | ok l =>
      simp only [true_iff]
      exact ⟨h, fun j hj => key.1 ⟨l, hr⟩ j (Nat.zero_le _) (by omega)⟩
  · rw [if_pos h]
    simp only
    exact ⟨fun e => absurd e h, fun e => absurd e.1 h⟩
end Go.Proofs.YtfhkjahjenpbgaaDoor
namespace Go.Proofs.YtfhkjahjenpbgaaDoor
open Go Go.RowKit

theorem bel_drewV {B : Nat} {w w' : World} (h : Below B w w') (n : Nat) : Below B w (w'.drewN n) := ⟨h.os, h.tape, h.output, h.size, h.block⟩
/-- What a walk does not change. -/
structure Wc where
  S : Nat → Prop
  B : Nat
  p : Nat
  m : ModD
  tv : Value
  hv : Value
  gv : Value
  fv : Value
  dv : Value
  xv : Value
  s1 : ByteArray
  s2 : ByteArray
  loc : ByteArray
  cv : Value
  ev : Value
  lv : Value
  code : List InsD
  elses : List Int
  X : Nat → Prop
def Wc.ctx (k : Wc) : VcD := ⟨k.m.types, k.m.hosts, k.m.globals, k.m.funs.map (·.t), k.s2, k.loc, k.elses⟩
/-- The walker's own lists; the boxes of what is open. -/
structure Wq where
  sv : Value
  fv : Value
  ov : Value
  ps : List Nat
def ptrV (b : Nat) : Value := .pointer (some ⟨b, 0, none⟩)
def shE (q : Wq) (v : VwD) : Ent := ⟨q.sv, 9, 1, v.shapes.length, v.shapes.map .string, false⟩
def flE (q : Wq) (v : VwD) : Ent := ⟨q.fv, 3, 1, v.floors.length, v.floors.map (.int .i64), false⟩
def opE (q : Wq) (v : VwD) : Ent := ⟨q.ov, 91, 1, v.opens.length, q.ps.map ptrV, false⟩
def Wq.ents (q : Wq) (v : VwD) : List Ent := [shE q v, flE q v, opE q v]
def opC (o : OpD) : Array Value := #[.string o.par, .string o.res, .int .i64 o.pc, .int .u8 o.op, .string o.base]
def Wc.cells (k : Wc) (v : VwD) (pc : Int) (q : Wq) : Array Value :=
  #[k.tv, k.hv, k.gv, .int .i64 k.m.first, .int .i64 k.m.most, k.fv, k.dv, k.xv, .string k.s1, .string k.s2, .string k.loc, k.cv, q.sv, k.ev, k.lv, q.fv, .int .i64 v.high, q.ov, .string v.shape, .bool v.dead, .int .i64 pc]
/-- What the walk reads and leaves. -/
structure Wr (k : Wc) (w : World) : Prop where
  mod : RMod k.S w [k.tv, k.hv, k.gv, .int .i64 k.m.first, .int .i64 k.m.most, k.fv, k.dv, k.xv] k.m
  cod : CdS k.S w k.cv k.code
  els : RdI .i64 k.S w k.lv k.elses
  sS : ∀ y, k.S y → y < k.p
/-- The walker at its block. -/
structure Wv (k : Wc) (w : World) (v : VwD) (pc : Int) (q : Wq) : Prop where
  row : w.heap[k.p]? = some (.cells (k.cells v pc q) 90 (0, 0))
  fam : Fam k.B w (q.ents v)
  lo : k.p < k.B
  hi : k.B ≤ w.heap.size
  psl : q.ps.length = v.opens.length
  ops : ∀ i (h : i < v.opens.length), ∃ b, q.ps[i]? = some b ∧ w.heap[b]? = some (.cells (opC v.opens[i]) 93 (0, 0))
  rd : Wr k w
  al : ∀ b, k.X b → b < w.heap.size ∧ q.sv.ownBlock ≠ some b ∧ q.fv.ownBlock ≠ some b ∧ q.ov.ownBlock ≠ some b
/-- The frame of a step: what lay below the walker stays, and some boxes beside it. -/
abbrev Kw (k : Wc) (w w' : World) : Prop := Keeps (fun b => b < k.p ∨ (k.p < b ∧ k.X b)) w w'
/-- What validate throws. -/
def wrongV (e : Int) : List PanicEntry := [{ v := .iface 113 (.agg #[.int .i64 e]), recovered := false }]
/-- The frame of a step that changes the walker's cells alone. -/
abbrev Kn (k : Wc) (w w' : World) : Prop := Keeps (fun b => b ≠ k.p) w w'
/-- The ends of a step: it returns (with rv), or it throws; the place is told. -/
def WG (T : Nat → Prop) (k : Wc) (w : World) (pc : Int) (rv : Value) (r : Except Int VwD) (e : Ending) (w' : World) : Prop :=
  (∃ v1 q1, r = .ok v1 ∧ e = .returned rv ∧ Wv k w' v1 pc q1 ∧ Keeps T w w') ∨ (∃ z, r = .error z ∧ e = .panicked (wrongV z) ∧ w'.cell? ⟨k.p, 20, none⟩ = some (.int .i64 pc) ∧ Keeps T w w')
abbrev WE (k : Wc) := WG (fun b => b < k.p ∨ (k.p < b ∧ k.X b)) k
abbrev WN (k : Wc) := WG (fun b => b ≠ k.p) k
section
variable {k : Wc} {w w' : World} {v v' : VwD} {pc : Int} {q q' : Wq}
theorem Wr.keeps (h : Wr k w) {S : Nat → Prop} (hk : Keeps S w w') (hS : ∀ b, b < k.p → S b) : Wr k w' :=
  ⟨h.mod.keeps (hk.mono fun b _ hb => hS b (h.sS b hb)), CdS.keeps h.cod hk fun b hb => hS b (h.sS b hb), h.els.keeps (hk.mono fun b _ hb => hS b (h.sS b hb)), h.sS⟩
theorem Wv.on (h : Wv k w v pc q) (hb : Below w.heap.size w w') : Wv k w' v pc q :=
  ⟨(hb.block _ (row_lt h.row)).trans h.row, h.fam.bel hb, h.lo, Nat.le_trans h.hi hb.size, h.psl, fun i hi => by
    obtain ⟨b, h1, h2⟩ := h.ops i hi
    exact ⟨b, h1, (hb.block _ (row_lt h2)).trans h2⟩, h.rd.keeps (Keeps.all (fun _ => True) hb) fun _ _ => trivial, fun b hx => ⟨Nat.lt_of_lt_of_le (h.al b hx).1 hb.size, (h.al b hx).2⟩⟩
theorem ne_kp {b p : Nat} {P : Prop} (h : b < p ∨ (p < b ∧ P)) : b ≠ p := by
  rcases h with h | ⟨h, -⟩ <;> omega
theorem Kw.on (hb : Below w.heap.size w w') : Kw k w w' := Keeps.all _ hb
theorem Kw.trans {T : Nat → Prop} {w2 : World} (h : Kw k w w') (h2 : Keeps T w' w2) (hT : ∀ b, (b < k.p ∨ (k.p < b ∧ k.X b)) → T b := by first | exact fun b hb => hb | exact fun b hb => ne_kp hb) : Kw k w w2 := Keeps.trans h (h2.mono fun b _ hb => hT b hb)
theorem Kn.on (hb : Below w.heap.size w w') : Kn k w w' := Keeps.all _ hb
theorem Kn.trans {w2 : World} (h : Kn k w w') (h2 : Kn k w' w2) : Kn k w w2 := Keeps.trans h h2
theorem Kn.kw (h : Kn k w w') : Kw k w w' := h.mono fun _ _ hb => ne_kp hb
/-- A cell of the walker. -/
theorem Wv.cell (h : Wv k w v pc q) (i : Nat) {u : Value} (hu : (k.cells v pc q)[i]? = some u) : w.cell? ⟨k.p, i, none⟩ = some u := row_cell h.row i hu
theorem Wv.free (h : Wv k w v pc q) (i : Nat) : w.frozen? ⟨k.p, i, none⟩ = false := row_free h.row i
theorem Wv.nent (h : Wv k w v pc q) : k.p ∉ entBs (q.ents v) := fun h1 => by have := (h.fam.lt h1).1; have := h.lo; omega
/-- The walker's cell i is written; the lists stay. -/
theorem Wv.put (h : Wv k w v pc q) (i : Nat) (u : Value) {pc' : Int} (hc : k.cells v' pc' q' = (k.cells v pc q).setIfInBounds i u) (he : q'.ents v' = q.ents v) (ho : v'.opens = v.opens) (hp : q'.ps = q.ps) :
    Wv k (w.setCell ⟨k.p, i, none⟩ u) v' pc' q' ∧ Kn k w (w.setCell ⟨k.p, i, none⟩ u) := by
  have hk := (Keeps.refl (fun b => b ≠ k.p) w).setCell (a := ⟨k.p, i, none⟩) (by simp) u
  have hlo := h.lo
  have e1 : q'.sv = q.sv ∧ q'.fv = q.fv ∧ q'.ov = q.ov := by
    have := congrArg (fun l => l.map Ent.v) he
    simpa [Wq.ents, shE, flE, opE] using this
  refine ⟨⟨by rw [hc]; exact row_setCell h.row i u, ?_, h.lo, Nat.le_trans h.hi hk.size, by rw [ho, hp]; exact h.psl, fun j hj => ?_, h.rd.keeps hk fun b hb => by omega, fun b hx => ⟨Nat.lt_of_lt_of_le (h.al b hx).1 hk.size, by rw [e1.1, e1.2.1, e1.2.2]; exact (h.al b hx).2⟩⟩, hk⟩
  · rw [he]
    exact h.fam.keeps hk (fun b hb _ => by omega)
  · have hj' : j < v.opens.length := by rw [← ho]; exact hj
    obtain ⟨b, h1, h2⟩ := h.ops j hj'
    refine ⟨b, by rw [hp]; exact h1, ?_⟩
    have := row_ne h2 h.row (by decide)
    rw [hk.block b (row_lt h2) this, h2]
    simp only [ho]
/-- The cells of what is open at i. -/
theorem Wv.open_ (h : Wv k w v pc q) {i : Nat} (hi : i < v.opens.length) : ∃ b g cap, q.ov = .slice (some ⟨g, 0, none⟩) v.opens.length cap ∧ w.cell? ⟨g, i, none⟩ = some (ptrV b) ∧ w.heap[b]? = some (.cells (opC v.opens[i]) 93 (0, 0)) ∧ v.opens.length ≤ cap ∧ cap ≤ 9223372036854775807 := by
  obtain ⟨b, h1, h2⟩ := h.ops i hi
  have ho : w.ownsRow k.B 91 1 q.ov v.opens.length (q.ps.map ptrV) := h.fam.own (opE q v) (by simp [Wq.ents])
  rcases ho.2 with ⟨e1, h0⟩ | ⟨g, cap, cur, e1, hb, hg, hn, hm, hs, ht⟩
  · omega
  · refine ⟨b, g, cap, e1, ?_, h2, hn, ?_⟩
    · rw [e1] at ho
      have := ho.cells (g := g) rfl i (ptrV b) (by rw [List.getElem?_map, h1]; rfl)
      unfold Addr.add at this
      by_cases h0 : i = 0
      · simpa [h0] using this
      · simpa [h0] using this
    · have : maxLen = 9223372036854775807 := by decide
      omega
end
end Go.Proofs.YtfhkjahjenpbgaaDoor
namespace Go.Proofs.YtfhkjahjenpbgaaDoor
open Go Go.RowKit

theorem val_must_ok (w : World) (e : Int) : Calls Tryd.prog 33 #[.bool true, .int .i64 e] w fun r w' => r = .returned (.tuple #[]) ∧ w' = w := by
  go_enter Tryd.func33, Tryd.ntmps33
  go_wp2
  go_end0
  all_goals exact ⟨rfl, rfl⟩
theorem val_must_no (w : World) (e : Int) : Calls Tryd.prog 33 #[.bool false, .int .i64 e] w fun r w' => r = .panicked (wrongV e) ∧ w' = w := by
  go_enter Tryd.func33, Tryd.ntmps33
  go_wp2
  all_goals exact ⟨rfl, rfl, rfl⟩
theorem val_must (w : World) (h : Bool) (e : Int) : Calls Tryd.prog 33 #[.bool h, .int .i64 e] w fun r w' => r = (if h then .returned (.tuple #[]) else .panicked (wrongV e)) ∧ w' = w := by
  cases h
  · exact (val_must_no w e).mono fun r w' h => h
  · exact (val_must_ok w e).mono fun r w' h => h
theorem val_index (w : World) (n : Int) (c : Nat) (hn : i64P n) (_hc : c ≤ 9223372036854775807) : Calls Tryd.prog 62 #[.int .i64 n, .int .i64 c] w fun r w' => r = (if 0 ≤ n ∧ n < c then .returned (.int .i64 n) else .panicked (wrongV 30)) ∧ w' = w := by
  unfold i64P at hn
  by_cases h1 : 0 ≤ n
  · by_cases h2 : n < c
    · have e1 : decide (n ≥ 0) = true := by simp; omega
      have e2 : decide (n < (c : Int)) = true := by simp; omega
      rw [if_pos ⟨h1, h2⟩]
      go_enter Tryd.func62, Tryd.ntmps62
      go_wp2_with (first
        | (go_at_call 33; refine (val_must_ok _ _).mono ?_; rintro r w1 ⟨rfl, rfl⟩))
      go_ret
      exact ⟨rfl, rfl⟩
    · have e1 : decide (n ≥ 0) = true := by simp; omega
      have e2 : decide (n < (c : Int)) = false := by simp; omega
      rw [if_neg (by omega)]
      go_enter Tryd.func62, Tryd.ntmps62
      go_wp2_with (first
        | (go_at_call 33; refine (val_must_no _ _).mono ?_; rintro r w1 ⟨rfl, rfl⟩))
      all_goals exact ⟨rfl, rfl, rfl⟩
  · have e1 : decide (n ≥ 0) = false := by simp; omega
    rw [if_neg (by omega)]
    go_enter Tryd.func62, Tryd.ntmps62
    go_wp2_with (first
      | (go_at_call 33; refine (val_must_no _ _).mono ?_; rintro r w1 ⟨rfl, rfl⟩))
    all_goals exact ⟨rfl, rfl, rfl⟩
theorem val_brings (w : World) (b : Nat) (o : OpD) (h : w.heap[b]? = some (.cells (opC o) 93 (0, 0))) :
    Calls Tryd.prog 65 #[ptrV b] w fun r w' => r = .returned (.string o.brings) ∧ w' = w := by
  obtain ⟨par, res, pc, op, base⟩ := o
  have y0 := row_cell h 0 rfl; have y1 := row_cell h 1 rfl; have y3 := row_cell h 3 rfl
  simp only [opC, List.getElem_toArray, List.getElem_cons_zero, List.getElem_cons_succ] at y0 y1 y3
  unfold ptrV OpD.brings
  simp only
  by_cases h3 : op = 3
  · subst h3
    rw [if_pos rfl]
    go_enter Tryd.func65, Tryd.ntmps65
    go_wp2
    go_ret
    exact ⟨rfl, rfl⟩
  · have e : ((op : Int) == 3) = false := by simp; omega
    rw [if_neg h3]
    go_enter Tryd.func65, Tryd.ntmps65
    go_wp2
    go_ret
    exact ⟨rfl, rfl⟩
section
variable {k : Wc} {w : World} {v : VwD} {pc : Int} {q : Wq}
theorem top_at (hne : 0 < v.opens.length) : v.top = v.opens[v.opens.length - 1]'(by omega) := by
  unfold VwD.top
  rw [List.getLastD_eq_getLast?, List.getLast?_eq_getElem?, List.getElem?_eq_getElem (by omega)]
  rfl
/-- The innermost opener. -/
theorem Wv.top (h : Wv k w v pc q) (hne : 0 < v.opens.length) : ∃ b g cap, q.ov = .slice (some ⟨g, 0, none⟩) v.opens.length cap ∧ w.cell? ⟨g, v.opens.length - 1, none⟩ = some (ptrV b) ∧ w.heap[b]? = some (.cells (opC v.top) 93 (0, 0)) ∧ v.opens.length ≤ cap ∧ cap ≤ 9223372036854775807 ∧ q.ps[v.opens.length - 1]? = some b := by
  obtain ⟨b, g, cap, h1, h2, h3, h4, h5⟩ := h.open_ (i := v.opens.length - 1) (by omega)
  rw [← top_at hne] at h3
  obtain ⟨b', hb1, hb2⟩ := h.ops (v.opens.length - 1) (by omega)
  have ho : w.ownsRow k.B 91 1 q.ov v.opens.length (q.ps.map ptrV) := h.fam.own (opE q v) (by simp [Wq.ents])
  have hc : w.cell? ⟨g, v.opens.length - 1, none⟩ = some (ptrV b') := by
    rw [h1] at ho
    have := ho.cells (g := g) rfl (v.opens.length - 1) (ptrV b') (by rw [List.getElem?_map, hb1]; rfl)
    unfold Addr.add at this
    by_cases h0 : v.opens.length - 1 = 0
    · simpa [h0] using this
    · simpa [h0] using this
  rw [h2] at hc
  have : b = b' := by simpa [ptrV] using hc
  subst this
  exact ⟨b, g, cap, h1, h2, h3, h4, h5, hb1⟩
theorem top_end {w' : World} {b n : Nat} {o : OpD} (h : Wv k w v pc q) (hb : w.heap[b]? = some (.cells (opC o) 93 (0, 0))) (hq : q.ps[n]? = some b) (hw : Below w.heap.size w w') :
    ∃ b', Ending.returned (Value.pointer (some ⟨b, 0, none⟩)) = .returned (.pointer (some ⟨b', 0, none⟩)) ∧ w'.heap[b']? = some (.cells (opC o) 93 (0, 0)) ∧ q.ps[n]? = some b' ∧ Wv k w' v pc q ∧ Below w.heap.size w w' :=
  ⟨b, rfl, (hw.block _ (row_lt hb)).trans hb, hq, h.on hw, hw⟩
set_option maxRecDepth 100000 in
set_option maxHeartbeats 1600000 in
theorem val_top (h : Wv k w v pc q) (hne : 0 < v.opens.length) :
    Calls Tryd.prog 34 #[ptrV k.p] w fun r w' => ∃ b, r = .returned (ptrV b) ∧ w'.heap[b]? = some (.cells (opC v.top) 93 (0, 0)) ∧ q.ps[v.opens.length - 1]? = some b ∧ Wv k w' v pc q ∧ Below w.heap.size w w' := by
  obtain ⟨b, g, cap, h1, h2, h3, h4, h5, h6⟩ := h.top hne
  have y17 : w.cell? ⟨k.p, 17, none⟩ = some q.ov := h.cell 17 rfl
  rw [h1] at y17
  have HW := Lib.hid h
  have HB := Lib.hid (show w.heap[b]? = some (.cells (opC v.top) 93 (0, 0)) from h3)
  have HQ := Lib.hid h6
  clear h h3 h6
  generalize hn : v.opens.length = n at *
  obtain ⟨j, rfl⟩ : ∃ j, n = j + 1 := ⟨n - 1, by omega⟩
  simp only [Nat.add_sub_cancel] at h2 HQ
  have hj : ((j + 1 : Nat) : Int) - 1 = j := by omega
  unfold ptrV
  unfold ptrV at h2
  go_enter Tryd.func34, Tryd.ntmps34
  go_wp2
  go_quiet (fail)
  go_wp2
  go_ret
  exact top_end HW.out HB.out HQ.out (by first | exact (Below.refl _ _).drew | exact bel_drewV (Below.refl _ _) _ | exact Below.refl _ _)
set_option maxRecDepth 100000 in
set_option maxHeartbeats 1600000 in
theorem val_label (h : Wv k w v pc q) (n : Int) (hn : i64P n) :
    Calls Tryd.prog 64 #[ptrV k.p, .int .i64 n] w fun r w' => Below w.heap.size w w' ∧ ((∃ o b, labelV v n = .ok o ∧ r = .returned (ptrV b) ∧ w'.heap[b]? = some (.cells (opC o) 93 (0, 0)) ∧ Wv k w' v pc q ∧ o ∈ v.opens) ∨ (labelV v n = .error 31 ∧ r = .panicked (wrongV 31) ∧ Wv k w' v pc q)) := by
  unfold i64P at hn
  have y17 : w.cell? ⟨k.p, 17, none⟩ = some q.ov := h.cell 17 rfl
  have HW := Lib.hid h
  have ho : w.ownsRow k.B 91 1 q.ov v.opens.length (q.ps.map ptrV) := h.fam.own (opE q v) (by simp [Wq.ents])
  obtain ⟨oa, oc, hov, hl0, hl1⟩ : ∃ oa oc, q.ov = .slice oa v.opens.length oc ∧ v.opens.length ≤ oc ∧ oc ≤ 9223372036854775807 := by
    rcases ho.2 with ⟨e1, h0⟩ | ⟨g, cap, cur, e1, hb, hg, hn, hm, hs, ht⟩
    · exact ⟨none, 0, by rw [e1, h0], by omega, by omega⟩
    · have : maxLen = 9223372036854775807 := by decide
      exact ⟨_, cap, e1, hn, by omega⟩
  clear ho
  rw [hov] at y17
  by_cases h1 : 0 ≤ n
  · by_cases h2 : n < v.opens.length
    · obtain ⟨j, rfl⟩ : ∃ j : Nat, n = j := ⟨n.toNat, by omega⟩
      obtain ⟨i, hi⟩ : ∃ i, v.opens.length = i + 1 + j := ⟨v.opens.length - 1 - j, by omega⟩
      obtain ⟨b, g, cap, e1, h5, h6, h7, h8⟩ := h.open_ (i := i) (by omega)
      rw [hov] at e1
      have HO := Lib.hid h6
      have HM : Hid (v.opens[i]'(by omega) ∈ v.opens) := Lib.hid (List.getElem_mem _)
      have HL : Hid (labelV v j = .ok (v.opens[i]'(by omega))) := Lib.hid (by
        unfold labelV
        rw [if_pos ⟨by omega, h2⟩, List.getD_eq_getElem?_getD, show v.opens.length - 1 - (j : Int).toNat = i by omega, List.getElem?_eq_getElem (by omega)]; rfl)
      simp only [Value.slice.injEq] at e1
      obtain ⟨rfl, -, rfl⟩ := e1
      clear h h6 hov
      generalize v.opens[i]'(by omega) = o at *
      have d1 : decide ((j : Int) ≥ 0) = true := by simp
      have d2 : decide ((j : Int) < (v.opens.length : Int)) = true := by simp; omega
      generalize v.opens.length = m at *
      have hj : (m : Int) - 1 - j = i := by omega
      have him : i < m := by omega
      clear hi
      unfold ptrV
      unfold ptrV at h5
      go_enter Tryd.func64, Tryd.ntmps64
      go_wp2_with (first
        | (go_at_call 33; refine (val_must_ok _ _).mono ?_; rintro r w1 ⟨rfl, rfl⟩))
      go_quiet (fail)
      go_wp2
      go_ret
      exact ⟨by first | exact (Below.refl _ _).drew | exact bel_drewV (Below.refl _ _) _ | exact Below.refl _ _, .inl ⟨o, b, HL.out, rfl, HO.out, HW.out.on (by first | exact (Below.refl _ _).drew | exact bel_drewV (Below.refl _ _) _ | exact Below.refl _ _), HM.out⟩⟩
    · have d1 : decide (n ≥ 0) = true := by simp; omega
      have d2 : decide (n < (v.opens.length : Int)) = false := by simp; omega
      have HL : Hid (labelV v n = .error 31) := Lib.hid (by unfold labelV; rw [if_neg (by omega)])
      clear h hov
      unfold ptrV
      go_enter Tryd.func64, Tryd.ntmps64
      go_wp2_with (first
        | (go_at_call 33; refine (val_must_no _ _).mono ?_; rintro r w1 ⟨rfl, rfl⟩))
      all_goals exact ⟨rfl, Below.refl _ _, .inr ⟨HL.out, rfl, HW.out⟩⟩
  · have d1 : decide (n ≥ 0) = false := by simp; omega
    have HL : Hid (labelV v n = .error 31) := Lib.hid (by unfold labelV; rw [if_neg (by omega)])
    clear h hov
    unfold ptrV
    go_enter Tryd.func64, Tryd.ntmps64
    go_wp2_with (first
      | (go_at_call 33; refine (val_must_no _ _).mono ?_; rintro r w1 ⟨rfl, rfl⟩))
    all_goals exact ⟨rfl, Below.refl _ _, .inr ⟨HL.out, rfl, HW.out⟩⟩
end
end Go.Proofs.YtfhkjahjenpbgaaDoor
namespace Go.Proofs.YtfhkjahjenpbgaaDoor
open Go Go.RowKit

/-- Where the innermost opener lies. -/
def TopAt (k : Wc) (w : World) (v : VwD) (q : Wq) (b : Nat) : Prop := ∃ g cap, q.ov = .slice (some ⟨g, 0, none⟩) v.opens.length cap ∧ w.cell? ⟨k.p, 17, none⟩ = some q.ov ∧ w.cell? ⟨g, v.opens.length - 1, none⟩ = some (ptrV b) ∧ v.opens.length ≤ cap ∧ cap ≤ 9223372036854775807
/-- The ends of a step that leaves the walker's lists. -/
def WQ (k : Wc) (w : World) (pc : Int) (q : Wq) (rv : Value) (r : Except Int VwD) (e : Ending) (w' : World) : Prop :=
  (∃ v1, r = .ok v1 ∧ e = .returned rv ∧ Wv k w' v1 pc q ∧ Kn k w w') ∨ (∃ z, r = .error z ∧ e = .panicked (wrongV z) ∧ w'.cell? ⟨k.p, 20, none⟩ = some (.int .i64 pc) ∧ Kn k w w')
theorem WQ.n {k : Wc} {w w' : World} {pc : Int} {q : Wq} {rv : Value} {r : Except Int VwD} {e : Ending} (h : WQ k w pc q rv r e w') : WN k w pc rv r e w' := by
  rcases h with ⟨v1, h1, h2, h3, h4⟩ | h
  · exact .inl ⟨v1, q, h1, h2, h3, h4⟩
  · exact .inr h
section
variable {k : Wc} {w : World} {v : VwD} {pc : Int} {q : Wq} {b : Nat}
theorem Wv.topAt (h : Wv k w v pc q) (hne : 0 < v.opens.length) : ∃ b, TopAt k w v q b ∧ w.heap[b]? = some (.cells (opC v.top) 93 (0, 0)) ∧ q.ps[v.opens.length - 1]? = some b := by
  obtain ⟨b, g, cap, h1, h2, h3, h4, h5, h6⟩ := h.top hne
  exact ⟨b, ⟨g, cap, h1, h.cell 17 rfl, h2, h4, h5⟩, h3, h6⟩
set_option maxRecDepth 100000 in
set_option maxHeartbeats 1600000 in
theorem val_topQ (hne : 0 < v.opens.length) (ht : TopAt k w v q b) :
    Calls Tryd.prog 34 #[.pointer (some ⟨k.p, 0, none⟩)] w fun r w' => r = .returned (.pointer (some ⟨b, 0, none⟩)) ∧ ∃ m, w' = w.drewN m := by
  obtain ⟨g, cap, h1, y17, h2, h4, h5⟩ := ht
  rw [h1] at y17
  clear h1
  generalize v.opens.length = n at *
  obtain ⟨j, rfl⟩ : ∃ j, n = j + 1 := ⟨n - 1, by omega⟩
  simp only [Nat.add_sub_cancel] at h2
  have hj : ((j + 1 : Nat) : Int) - 1 = j := by omega
  unfold ptrV at h2
  go_enter Tryd.func34, Tryd.ntmps34
  go_wp2
  go_quiet (fail)
  go_wp2
  go_ret
  exact ⟨rfl, by first | exact ⟨_, rfl⟩ | exact ⟨0, rfl⟩⟩
set_option maxRecDepth 100000 in
set_option maxHeartbeats 1600000 in
theorem val_popsQ (h : Wv k w v pc q) (hne : 0 < v.opens.length) (hle : v.top.base.size ≤ v.shape.size) (hsz : v.shape.size ≤ 1000) (s : ByteArray) (hs : s.size ≤ 1000) :
    Calls Tryd.prog 56 #[.pointer (some ⟨k.p, 0, none⟩), .string s] w fun r w' => WQ k w pc q (.tuple #[]) (popsV v s) r w' := by
  obtain ⟨b, ht, hb, -⟩ := h.topAt hne
  have HT := Lib.hid (show ∀ n, Calls Tryd.prog 34 #[.pointer (some ⟨k.p, 0, none⟩)] (w.drewN n) fun r w' => r = .returned (.pointer (some ⟨b, 0, none⟩)) ∧ ∃ m, w' = (w.drewN n).drewN m from fun n => val_topQ (w := w.drewN n) hne ht)
  have y18 : w.cell? ⟨k.p, 18, none⟩ = some (.string v.shape) := h.cell 18 rfl
  have b4 : w.cell? ⟨b, 4, none⟩ = some (.string v.top.base) := row_cell hb 4 rfl
  have f18 := h.free 18
  have HW := Lib.hid h
  clear ht hb h hne
  go_enter Tryd.func56, Tryd.ntmps56
  go_wp2_with fail
  go_quiet ((go_at_call 34; exact Calls.quiet_of (HT.out _)))
  have HW1 := Lib.hid (HW.out.on (bel_drewV (Below.refl _ _) nq))
  have hw1 : Below w.heap.size w (w.drewN nq) := bel_drewV (Below.refl _ _) nq
  have y18' : (w.drewN nq).cell? ⟨k.p, 18, none⟩ = some (.string v.shape) := y18
  have f18' : (w.drewN nq).frozen? ⟨k.p, 18, none⟩ = false := f18
  have HK := Lib.hid (Kn.on (k := k) hw1)
  clear y18 f18 b4 HT HW hw1
  generalize w.drewN nq = w1 at *
  have ha : (v.shape.extract v.top.base.size v.shape.size).size ≤ 9223372036854775807 := by simp; omega
  by_cases hsuf : Lib.hasSuffix (v.shape.extract v.top.base.size v.shape.size).data.toList s.data.toList = true
  · have hlen : s.size ≤ v.shape.size := by
      have := (List.isSuffixOf_iff_suffix.1 hsuf).length_le
      simp at this; omega
    have HR : Hid (popsV v s = .ok { v with shape := v.shape.extract 0 (v.shape.size - s.size) }) := Lib.hid (by unfold popsV VwD.above hasSuf; rw [if_pos hsuf])
    have HS := Lib.hid hsuf
    clear hsuf
    go_wp2_with (first
      | (go_at_call 69; refine (Tryd.strings_HasSuffix _ _ _ ha).mono ?_; rw [HS.out]; rintro r w2 ⟨rfl, rfl⟩)
      | (go_at_call 33; refine (val_must_ok _ _).mono ?_; rintro r w3 ⟨rfl, rfl⟩))
    have e1 : IntKind.i64.wrap ((v.shape.size : Int) - s.size) = (v.shape.size : Int) - s.size := IntWalk.i64_in _ (by omega)
    have e2 : ((v.shape.size : Int) - s.size).toNat = v.shape.size - s.size := by omega
    have e3 : (0 : Int) ≤ (v.shape.size : Int) - s.size := by omega
    have e4 : (v.shape.size : Int) - s.size ≤ v.shape.size := by omega
    go_still_tail 16, (by kernel_rfl)
    change wpList _ _ _ _ _ w3.drew
    have hw3 : Below w3.heap.size w3 w3.drew := (Below.refl _ _).drew
    have HW3 := Lib.hid (HW1.out.on hw3)
    have HK3 := Lib.hid (HK.out.trans (Kn.on hw3))
    have f18 : w3.drew.frozen? ⟨k.p, 18, none⟩ = false := f18'
    have y18 : w3.drew.cell? ⟨k.p, 18, none⟩ = some (.string v.shape) := y18'
    clear HW1 HK y18' f18' hw3
    generalize w3.drew = w4 at *
    go_wp2
    obtain ⟨hP, hK⟩ := HW3.out.put (v' := { v with shape := v.shape.extract 0 (v.shape.size - s.size) }) (q' := q) (pc' := pc) 18 (.string (v.shape.extract 0 (v.shape.size - s.size))) rfl rfl rfl rfl
    exact bodyPost_end (results_none rfl _ _ _) rfl (.inl ⟨_, HR.out, rfl, hP, HK3.out.trans hK⟩)
  · have HR : Hid (popsV v s = .error 33) := Lib.hid (by unfold popsV VwD.above hasSuf; rw [if_neg hsuf])
    have HS := Lib.hid (show Lib.hasSuffix (v.shape.extract v.top.base.size v.shape.size).data.toList s.data.toList = false by simpa using hsuf)
    clear hsuf
    go_wp2_with (first
      | (go_at_call 69; refine (Tryd.strings_HasSuffix _ _ _ ha).mono ?_; rw [HS.out]; rintro r w2 ⟨rfl, rfl⟩)
      | (go_at_call 33; refine (val_must_no _ _).mono ?_; rintro r w3 ⟨rfl, rfl⟩))
    exact ⟨rfl, .inr ⟨33, HR.out, rfl, HW1.out.cell 20 rfl, HK.out⟩⟩
set_option maxRecDepth 100000 in
set_option maxHeartbeats 1600000 in
theorem val_pushesQ (h : Wv k w v pc q) (hsz : v.shape.size ≤ 1000) (s : ByteArray) (hs : s.size ≤ 1000) :
    Calls Tryd.prog 57 #[.pointer (some ⟨k.p, 0, none⟩), .string s] w fun r w' => WQ k w pc q (.tuple #[]) (pushesV v s) r w' := by
  have y18 : w.cell? ⟨k.p, 18, none⟩ = some (.string v.shape) := h.cell 18 rfl
  have f18 := h.free 18
  have HW := Lib.hid h
  clear h
  by_cases hle : v.shape.size + s.size ≤ 256
  · have HR : Hid (pushesV v s = .ok { v with shape := v.shape ++ s }) := Lib.hid (by unfold pushesV; rw [if_pos hle])
    have hd : decide ((v.shape.size : Int) + s.size ≤ 256) = true := decide_eq_true (by omega)
    go_enter Tryd.func57, Tryd.ntmps57
    go_wp2_with (first
      | (go_at_call 33; refine (val_must_ok _ _).mono ?_; rintro r w3 ⟨rfl, rfl⟩))
    obtain ⟨hP, hK⟩ := HW.out.put (v' := { v with shape := v.shape ++ s }) (q' := q) (pc' := pc) 18 (.string (v.shape ++ s)) rfl rfl rfl rfl
    exact bodyPost_end (results_none rfl _ _ _) rfl (.inl ⟨_, HR.out, rfl, hP, hK⟩)
  · have HR : Hid (pushesV v s = .error 34) := Lib.hid (by unfold pushesV; rw [if_neg hle])
    have hd : decide ((v.shape.size : Int) + s.size ≤ 256) = false := decide_eq_false (by omega)
    go_enter Tryd.func57, Tryd.ntmps57
    go_wp2_with (first
      | (go_at_call 33; refine (val_must_no _ _).mono ?_; rintro r w3 ⟨rfl, rfl⟩))
    exact ⟨rfl, .inr ⟨34, HR.out, rfl, HW.out.cell 20 rfl, Keeps.refl _ _⟩⟩
theorem val_pops (h : Wv k w v pc q) (hne : 0 < v.opens.length) (hle : v.top.base.size ≤ v.shape.size) (hsz : v.shape.size ≤ 1000) (s : ByteArray) (hs : s.size ≤ 1000) :
    Calls Tryd.prog 56 #[.pointer (some ⟨k.p, 0, none⟩), .string s] w fun r w' => WN k w pc (.tuple #[]) (popsV v s) r w' := (val_popsQ h hne hle hsz s hs).mono fun _ _ h => h.n
theorem val_pushes (h : Wv k w v pc q) (hsz : v.shape.size ≤ 1000) (s : ByteArray) (hs : s.size ≤ 1000) :
    Calls Tryd.prog 57 #[.pointer (some ⟨k.p, 0, none⟩), .string s] w fun r w' => WN k w pc (.tuple #[]) (pushesV v s) r w' := (val_pushesQ h hsz s hs).mono fun _ _ h => h.n
/-- A region's end: the walker behind the draw. -/
theorem Wv.drew (h : Wv k w v pc q) : Wv k w.drew v pc q ∧ Kn k w w.drew := ⟨h.on (Below.refl _ _).drew, Kn.on (Below.refl _ _).drew⟩
set_option maxRecDepth 100000 in
set_option maxHeartbeats 1600000 in
theorem val_just (h : Wv k w v pc q) (o : OpD) (hb : w.heap[b]? = some (.cells (opC o) 93 (0, 0))) (s : ByteArray) (ho : o.base.size ≤ 1000) (hs : s.size ≤ 1000) :
    Calls Tryd.prog 63 #[.pointer (some ⟨k.p, 0, none⟩), .pointer (some ⟨b, 0, none⟩), .string s] w fun r w' => WN k w pc (.tuple #[]) (justV v o s) r w' := by
  have y18 : w.cell? ⟨k.p, 18, none⟩ = some (.string v.shape) := h.cell 18 rfl
  have y19 : w.cell? ⟨k.p, 19, none⟩ = some (.bool v.dead) := h.cell 19 rfl
  have b4 : w.cell? ⟨b, 4, none⟩ = some (.string o.base) := row_cell hb 4 rfl
  have f18 := h.free 18
  have hne : b ≠ k.p := row_ne hb h.row (by decide)
  have HW := Lib.hid h
  have HB := Lib.hid hb
  clear h hb
  cases hd : v.dead with
  | true =>
    rw [hd] at y19
    have HR : Hid (justV v o s = .ok { v with shape := o.base ++ s }) := Lib.hid (by unfold justV; rw [hd]; simp [setS, hd])
    obtain ⟨hP, hK⟩ := HW.out.put (v' := { v with shape := o.base ++ s }) (q' := q) (pc' := pc) 18 (.string (o.base ++ s)) rfl rfl rfl rfl
    have HP := Lib.hid hP; have HK := Lib.hid hK
    have z18 : (w.setCell ⟨k.p, 18, none⟩ (.string (o.base ++ s))).cell? ⟨k.p, 18, none⟩ = some (.string (o.base ++ s)) := hP.cell 18 rfl
    have z4 : (w.setCell ⟨k.p, 18, none⟩ (.string (o.base ++ s))).cell? ⟨b, 4, none⟩ = some (.string o.base) := by
      refine row_cell (c := opC o) (T := 93) (fr := (0, 0)) ?_ 4 rfl
      rw [← HB.out]
      exact ((Keeps.refl (fun x => x ≠ k.p) w).setCell (a := ⟨k.p, 18, none⟩) (by simp) _).block b (row_lt HB.out) hne
    clear hP hK HW HB hne hd
    go_enter Tryd.func63, Tryd.ntmps63
    go_wp2_with fail
    generalize w.setCell ⟨k.p, 18, none⟩ (.string (o.base ++ s)) = w2 at *
    have hcat : ¬ 9223372036854775807 < o.base.size + s.size := by omega
    go_still_tail 11, (by kernel_rfl)
    go_wp2_with (first
      | (go_at_call 33; refine (val_must_ok _ _).mono ?_; rintro r w3 ⟨rfl, rfl⟩))
    exact bodyPost_end (results_none rfl _ _ _) rfl (.inl ⟨_, q, HR.out, rfl, HP.out.drew.1, HK.out.trans HP.out.drew.2⟩)
  | false =>
    rw [hd] at y19
    clear hne
    by_cases he : v.shape = o.base ++ s
    · have HR : Hid (justV v o s = .ok v) := Lib.hid (by unfold justV; rw [hd]; simp [setS, ← he])
      have HE := Lib.hid he
      have he2 : (v.shape.toList == (o.base ++ s).toList) = true := by rw [he]; simp
      have hcat : ¬ 9223372036854775807 < o.base.size + s.size := by omega
      clear he hd HB
      go_enter Tryd.func63, Tryd.ntmps63
      go_wp2_with fail
      go_still_tail 11, (by kernel_rfl)
      go_wp2_with (first
        | (go_at_call 33; refine (val_must_ok _ _).mono ?_; rintro r w3 ⟨rfl, rfl⟩))
      exact bodyPost_end (results_none rfl _ _ _) rfl (.inl ⟨_, q, HR.out, rfl, HW.out.drew.1, HW.out.drew.2⟩)
    · have HR : Hid (justV v o s = .error 33) := Lib.hid (by unfold justV; rw [hd]; simp [he])
      have HE := Lib.hid he
      have he2 : (v.shape.toList == (o.base ++ s).toList) = false := by simpa using fun e => he (ba_inj5 e)
      have hcat : ¬ 9223372036854775807 < o.base.size + s.size := by omega
      clear he hd HB
      go_enter Tryd.func63, Tryd.ntmps63
      go_wp2_with fail
      go_still_tail 11, (by kernel_rfl)
      go_wp2_with (first
        | (go_at_call 33; refine (val_must_no _ _).mono ?_; rintro r w3 ⟨rfl, rfl⟩))
      exact ⟨rfl, .inr ⟨33, HR.out, rfl, HW.out.drew.1.cell 20 rfl, HW.out.drew.2⟩⟩
end
end Go.Proofs.YtfhkjahjenpbgaaDoor
namespace Go.Proofs.YtfhkjahjenpbgaaDoor
open Go Go.RowKit

theorem wpAnyH_more {P : Program} {md : Region.Mode} {ops : Array Oper} {Q : Exit → Act → World → Prop} {S S' : World → Prop} (hs : ∀ w, S' w → S w) : ∀ {fuel : Nat} {listed : Array Bool} {a : Act} {w : World}, wpAnyH P md ops Q S' fuel listed a w → wpAnyH P md ops Q S fuel listed a w
  | 0, _, _, _, h => h
  | _ + 1, _, _, _, h => ⟨h.1, fun i hi => wpOp_mono (fun _ _ h' => ⟨hs _ h'.1, wpAnyH_more hs h'.2⟩) (h.2 i hi)⟩
theorem takeAt {P : Program} {md : Region.Mode} {ops : Array Oper} {Q : Exit → Act → World → Prop} {S : World → Prop} {i d : Nat} {oi : Oper} {v : Value} {fuel : Nat} {listed : Array Bool} {a : Act} {w : World} (hi : ops[i]? = some oi) (hd : oi.dst = some d)
    (hs : Region.noSelect ops = true) (hf : Region.free md ops listed i = true) (hr : (Region.ready md ops listed).contains i = true)
    (hQ : ∀ c a w, Q (.panic c) (a.put oi.dst v) w → Q (.panic c) a w) (hy : YieldsIf P ops S oi v a) (hS : S w)
    (h : wpAnyH P md ops Q S fuel (listed.setIfInBounds i true) (a.put (some d) v) w) : wpAnyH P md ops Q S (fuel + 1) listed a w :=
  wpAnyH_take hi hs hf hr hQ hy hS (by rw [hd]; exact h)
theorem stateAt {P : Program} {md : Region.Mode} {ops : Array Oper} {Q : Exit → Act → World → Prop} {S : World → Prop} {fuel : Nat} {listed : Array Bool} {a : Act} {o : Oper} {d : Nat} {v : Value} {w : World} (hd : o.dst = some d) (h : wpAnyH P md ops Q S fuel listed (a.put (some d) v) w) : wpAnyH P md ops Q S fuel listed (a.put o.dst v) w := by
  rw [hd]; exact h
end Go.Proofs.YtfhkjahjenpbgaaDoor
