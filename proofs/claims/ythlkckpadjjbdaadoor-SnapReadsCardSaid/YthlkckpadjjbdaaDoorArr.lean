/- Arrays of bytes read out of a slice and compared: laws on single operations. -/
import Derived.Test.YthlkckpadjjbdaaDoorLib
import Derived.Stop.BytesEq
import Derived.Laws.Cover3
namespace Go.Proofs.YthlkckpadjjbdaaDoor
open Go Go.RowKit

/-- An operation that is run by an equation. -/
theorem wpList_run {P : Program} {ops : Array Oper} {rest : List Oper} {o : Oper} {a : Act} {w w' : World} {Q : Exit → Act → World → Prop} {v : Value} (hgd : o.guard = none)
    (hrun : (execOp a.eval o).run P w = .ok (.value v) w') (h : wpList P ops Q rest (a.put o.dst v) w') : wpList P ops Q (o :: rest) a w :=
  wpList_plain hgd fun K hK => by
    unfold Oper.wp
    rw [hrun]
    exact hK _ _ h

theorem wpList_arrayAt {P : Program} {ops : Array Oper} {rest : List Oper} {o : Oper} {a : Act} {w : World} {Q : Exit → Act → World → Prop} (hgd : o.guard = none)
    (t : TypeId) (x : Operand) (ho : o.op = .sliceToArrayPointer t x) (e : TypeId) (n : Nat) (ad : Option Addr) (len cap : Nat) (hx : a.eval x = .slice ad len cap) (hu : P.underlying t = some (.array n e)) (hn : n ≤ len)
    (h : wpList P ops Q rest (a.put o.dst (.pointer ad)) w) : wpList P ops Q (o :: rest) a w := by
  refine wpList_run hgd ?_ h
  simp only [execOp, ho, hx, Sem.run_bind, run_arrayAt w t e n ad len cap hu hn, Result.andThen_ok, Sem.run_pure]

theorem wpList_loadArr {P : Program} {ops : Array Oper} {rest : List Oper} {o : Oper} {a : Act} {w : World} {Q : Exit → Act → World → Prop} (hgd : o.guard = none)
    (t : TypeId) (x : Operand) (ho : o.op = .load t x) (ad : Addr) (hx : a.eval x = .pointer (some ad)) (n : Nat) (e : TypeId) (hu : P.underlying t = some (.array n e)) (cs : List Value) (hi : (P.info? t).map (·.size) = some cs.length)
    (hc : ∀ j v, cs[j]? = some v → w.cell? (ad.add j) = some v) (h : wpList P ops Q rest (a.put o.dst (.agg cs.toArray)) w) : wpList P ops Q (o :: rest) a w := by
  refine wpList_run hgd ?_ h
  have hl := run_loadCells_list (P := P) w ad cs hc
  have hagg : (isAgg t).run P w = .ok true w := by
    unfold isAgg
    rw [Sem.run_bind, run_underlying hu w]
    simp
  cases hq : P.info? t with
  | none => simp [hq] at hi
  | some i =>
    have hs : i.size = cs.length := by simpa [hq] using hi
    simp [execOp, ho, hx, Instr.loadAt, Instr.sureAddr, loadVar, Sem.run_bind, hagg, sizeOf, typeInfo, hq, hs, hl]

theorem wpList_build {P : Program} {ops : Array Oper} {rest : List Oper} {o : Oper} {a : Act} {w : World} {Q : Exit → Act → World → Prop} (hgd : o.guard = none)
    (t : TypeId) (ho : o.op = .build t #[]) (v : Value) (hv : ∀ w, (Instr.build t #[]).run P w = .ok v w) (h : wpList P ops Q rest (a.put o.dst v) w) : wpList P ops Q (o :: rest) a w := by
  refine wpList_run hgd ?_ h
  simp [execOp, ho, hv]

theorem wpList_binOp {P : Program} {ops : Array Oper} {rest : List Oper} {o : Oper} {a : Act} {w : World} {Q : Exit → Act → World → Prop} (hgd : o.guard = none)
    (op : BinOp) (t ty : TypeId) (x y : Operand) (ho : o.op = .binOp op t x y ty) (X Y v : Value) (hx : a.eval x = X) (hy : a.eval y = Y) (hg : (eqGuard op t x y X Y).run P w = .ok () w) (hv : (binOp op t X Y).run P w = .ok v w)
    (h : wpList P ops Q rest (a.put o.dst v) w) : wpList P ops Q (o :: rest) a w := by
  refine wpList_run hgd ?_ h
  simp [execOp, ho, Sem.run_bind, hx, hy, hg, hv]

/-- Bytes as the model's cells. -/
def u8s (l : List Int) : List UInt8 := l.map fun x => UInt8.ofNat x.toNat
theorem u8s_cells {l : List Int} (h : ∀ x ∈ l, 0 ≤ x ∧ x ≤ 255) : l.map (Value.int .u8) = (u8s l).map Extern.Stop.cell := by
  unfold u8s
  rw [List.map_map]
  refine List.map_congr_left fun x hx => ?_
  have := h x hx
  simp only [Function.comp, Extern.Stop.cell, UInt8.toNat_ofNat', Nat.reducePow]
  congr 1
  show x = ((x.toNat % 256 : Nat) : Int)
  omega
theorem u8s_inj : ∀ {a b : List Int}, (∀ x ∈ a, 0 ≤ x ∧ x ≤ 255) → (∀ x ∈ b, 0 ≤ x ∧ x ≤ 255) → u8s a = u8s b → a = b := by
  intro a
  induction a with
  | nil => intro b _ _ h; cases b <;> simp_all [u8s]
  | cons x a ih =>
    intro b ha hb h
    cases b with
    | nil => simp [u8s] at h
    | cons y b =>
      simp only [u8s, List.map_cons, List.cons.injEq] at h
      have hx := ha x (by simp); have hy := hb y (by simp)
      have e : x = y := by
        have := congrArg UInt8.toNat h.1
        simp only [UInt8.toNat_ofNat'] at this
        omega
      rw [e, ih (fun z hz => ha z (by simp [hz])) (fun z hz => hb z (by simp [hz])) h.2]
theorem u8s_beq {a b : List Int} (ha : ∀ x ∈ a, 0 ≤ x ∧ x ≤ 255) (hb : ∀ x ∈ b, 0 ≤ x ∧ x ≤ 255) : (u8s a == u8s b) = decide (a = b) := by
  by_cases h : a = b
  · subst h; simp
  · rw [decide_eq_false h]
    simp only [beq_eq_false_iff_ne]
    exact fun e => h (u8s_inj ha hb e)

/-- '==', '!=' on arrays of bytes. -/
theorem run_eql_arr {P : Program} (w : World) (t e : TypeId) (n : Nat) (ht : P.underlying t = some (.array n e)) (he : P.underlying e = some (.int .u8)) (hsz : ∀ w, (sizeOf e).run P w = .ok 1 w)
    (a b : List Int) (ha : ∀ x ∈ a, 0 ≤ x ∧ x ≤ 255) (hb : ∀ x ∈ b, 0 ≤ x ∧ x ≤ 255) (hla : a.length = n) (hlb : b.length = n) :
    (binOp .eql t (.agg (a.map (Value.int .u8)).toArray) (.agg (b.map (Value.int .u8)).toArray)).run P w = .ok (.bool (decide (a = b))) w := by
  rw [u8s_cells ha, u8s_cells hb, run_eql_bytes w t e n ht he hsz _ _ (by simp [u8s, hla]) (by simp [u8s, hlb]), u8s_beq ha hb]
theorem run_neq_arr {P : Program} (w : World) (t e : TypeId) (n : Nat) (ht : P.underlying t = some (.array n e)) (he : P.underlying e = some (.int .u8)) (hsz : ∀ w, (sizeOf e).run P w = .ok 1 w)
    (a b : List Int) (ha : ∀ x ∈ a, 0 ≤ x ∧ x ≤ 255) (hb : ∀ x ∈ b, 0 ≤ x ∧ x ≤ 255) (hla : a.length = n) (hlb : b.length = n) :
    (binOp .neq t (.agg (a.map (Value.int .u8)).toArray) (.agg (b.map (Value.int .u8)).toArray)).run P w = .ok (.bool (!decide (a = b))) w := by
  rw [u8s_cells ha, u8s_cells hb, run_neq_struct, run_equalIn_bytes w 9998 t e n ht he hsz _ _ (by simp [u8s, hla]) (by simp [u8s, hlb]), u8s_beq ha hb]
  rfl

/-- A page of noughts. -/
def zpage : List Int := List.replicate 4096 0
theorem zpage_bytes : ∀ x ∈ zpage, 0 ≤ x ∧ x ≤ 255 := by intro x hx; rw [(List.mem_replicate.1 hx).2]; omega
theorem zpage_len : zpage.length = 4096 := List.length_replicate
theorem Tryd.pageZero (w : World) : (Instr.build 103 #[]).run Tryd.prog w = .ok (.agg (zpage.map (Value.int .u8)).toArray) w := by kernel_rfl
theorem Tryd.pageInfo : (Tryd.prog.info? 103).map (·.size) = some 4096 := by kernel_rfl
theorem Tryd.u8Size (w : World) : (sizeOf 5).run Tryd.prog w = .ok 1 w := by kernel_rfl
theorem Tryd.pageGuard : Tryd.prog.eqGuardType Tryd.prog.depth 103 = false := by kernel_rfl
end Go.Proofs.YthlkckpadjjbdaaDoor
