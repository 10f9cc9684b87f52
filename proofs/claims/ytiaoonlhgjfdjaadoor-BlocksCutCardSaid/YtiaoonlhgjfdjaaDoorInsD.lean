/- Instructions as data, lists of them as they lie in memory. -/
import Derived.Test.YtiaoonlhgjfdjaaDoorLib2
namespace Go.Proofs.YtiaoonlhgjfdjaaDoor
open Go Go.RowKit

/-- An instruction as data. -/
structure InsD where
  op : Nat
  a : Int
  l : List Int
deriving DecidableEq
def insZ : InsD := ⟨0, 0, []⟩
def i64P (n : Int) : Prop := -9223372036854775808 ≤ n ∧ n ≤ 9223372036854775807
structure WfIns (x : InsD) : Prop where
  op : x.op < 256
  a : i64P x.a
  l : ∀ n ∈ x.l, i64P n
/-- An instruction in three cells. -/
def RIns (S : Nat → Prop) (w : World) (cs : List Value) (x : InsD) : Prop := ∃ v, cs = [.int .u8 x.op, .int .i64 x.a, v] ∧ RdI .i64 S w v x.l
theorem RIns.keeps {S T : Nat → Prop} {w w' : World} {cs : List Value} {x : InsD} (h : RIns S w cs x) (hk : Keeps T w w') (hS : ∀ b, S b → T b) : RIns S w' cs x := by
  obtain ⟨v, e, hr⟩ := h
  exact ⟨v, e, hr.keeps (hk.mono fun b _ hb => hS b hb)⟩
theorem RIns.mono {S T : Nat → Prop} {w : World} {cs : List Value} {x : InsD} (h : RIns S w cs x) (hS : ∀ b, b < w.heap.size → S b → T b) : RIns T w cs x := by
  obtain ⟨v, e, hr⟩ := h
  exact ⟨v, e, hr.mono hS⟩
/-- The slice v reads as the code l; what it reads lies in the blocks S. -/
abbrev CdS (S : Nat → Prop) (w : World) (v : Value) (l : List InsD) : Prop := RdL 3 (RIns S) S w v l
/-- The slice v reads as the code l. -/
abbrev Cd (w : World) (v : Value) (l : List InsD) : Prop := CdS (· < w.heap.size) w v l
theorem CdS.keeps {S T : Nat → Prop} {w w' : World} {v : Value} {l : List InsD} (h : CdS S w v l) (hk : Keeps T w w') (hS : ∀ b, S b → T b) : CdS S w' v l :=
  RdL.map h (hk.mono fun b _ hb => hS b hb) (fun _ h => h) fun _ _ hr => hr.keeps hk hS
theorem CdS.any {S : Nat → Prop} {w : World} {v : Value} {l : List InsD} (h : CdS S w v l) : Cd w v l :=
  RdL.mono h (by omega) (fun _ hb _ => hb) fun _ _ hr => hr.mono fun _ hb _ => hb
theorem Cd.bel {w w' : World} {v : Value} {l : List InsD} (h : Cd w v l) (hb : Below w.heap.size w w') : Cd w' v l :=
  CdS.any (CdS.keeps h (Keeps.all (· < w.heap.size) hb) fun _ h => h)
theorem Cd.at_ {S : Nat → Prop} {w : World} {a : Option Addr} {n c : Nat} {l : List InsD} (h : CdS S w (.slice a n c) l) {k : Nat} (hk : k < l.length) :
    ∃ b off vl, a = some ⟨b, off, none⟩ ∧ w.cell? ⟨b, off + k * 3, none⟩ = some (.int .u8 l[k].op) ∧ w.cell? ⟨b, off + k * 3 + 1, none⟩ = some (.int .i64 l[k].a) ∧ w.cell? ⟨b, off + k * 3 + 2, none⟩ = some vl ∧ RdI .i64 S w vl l[k].l := by
  obtain ⟨a', c', e, _, _, h3⟩ := h
  simp only [Value.slice.injEq] at e
  obtain ⟨rfl, _, rfl⟩ := e
  obtain ⟨b, off, cs, e1, e2, e3, e4, vl, e5, e6⟩ := h3 k hk
  subst e5
  exact ⟨b, off, vl, e1, e4 0 (by omega), e4 1 (by omega), e4 2 (by omega), e6⟩
/-- The opcodes of a code. -/
def opsOf (l : List InsD) : List Nat := l.map InsD.op
theorem opsOf_len (l : List InsD) : (opsOf l).length = l.length := by simp [opsOf]
theorem opsOf_at {l : List InsD} {k : Nat} (h : k < l.length) : (opsOf l).getD k 0 = l[k].op := by simp [opsOf, h]
theorem Tryd.cIns : Tryd.prog.cellsOf 74 = 3 := by kernel_rfl
end Go.Proofs.YtiaoonlhgjfdjaaDoor
