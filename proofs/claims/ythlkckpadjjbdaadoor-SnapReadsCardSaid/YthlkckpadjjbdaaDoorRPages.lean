/- snap's reader: pages. -/
import Derived.Test.YthlkckpadjjbdaaDoorReader
import Derived.Laws.CopyOwn
namespace Go.Proofs.YthlkckpadjjbdaaDoor
open Go Go.RowKit BigFrame

section
variable {P : Program} {ops : Array Oper} {C : World → Prop} {Q : Act → Prop} {a : Act} {o : Oper} {rest : List Oper}
/-- An operation of a quiet walk, run by an equation. -/
theorem q_run (hg : o.guard = none) (v : Value) (hrun : ∀ w, C w → (execOp a.eval o).run P w = .ok (.value v) w) (h : wpQuiet P ops C Q rest (a.put o.dst v)) : wpQuiet P ops C Q (o :: rest) a :=
  wpQuiet_want (by simp [Region.wanted, hg]) fun _ hK => ⟨v, fun w hw => by unfold Oper.quietAt; rw [hrun w hw]; exact ⟨rfl, rfl⟩, hK _ h⟩
theorem q_arrayAt (hgd : o.guard = none) (t : TypeId) (x : Operand) (ho : o.op = .sliceToArrayPointer t x) (e : TypeId) (n : Nat) (ad : Option Addr) (len cap : Nat) (hx : a.eval x = .slice ad len cap) (hu : P.underlying t = some (.array n e)) (hn : n ≤ len)
    (h : wpQuiet P ops C Q rest (a.put o.dst (.pointer ad))) : wpQuiet P ops C Q (o :: rest) a := by
  refine q_run hgd _ (fun w _ => ?_) h
  simp only [execOp, ho, hx, Sem.run_bind, run_arrayAt w t e n ad len cap hu hn, Result.andThen_ok, Sem.run_pure]
theorem q_loadArr (hgd : o.guard = none) (t : TypeId) (x : Operand) (ho : o.op = .load t x) (ad : Addr) (hx : a.eval x = .pointer (some ad)) (n : Nat) (e : TypeId) (hu : P.underlying t = some (.array n e)) (cs : List Value) (hi : (P.info? t).map (·.size) = some cs.length)
    (hc : ∀ w, C w → ∀ j v, cs[j]? = some v → w.cell? (ad.add j) = some v) (h : wpQuiet P ops C Q rest (a.put o.dst (.agg cs.toArray))) : wpQuiet P ops C Q (o :: rest) a := by
  refine q_run hgd _ (fun w hw => ?_) h
  have hl := run_loadCells_list (P := P) w ad cs (hc w hw)
  have hagg : (isAgg t).run P w = .ok true w := by
    unfold isAgg
    rw [Sem.run_bind, run_underlying hu w]
    simp
  cases hq : P.info? t with
  | none => simp [hq] at hi
  | some i =>
    have hs : i.size = cs.length := by simpa [hq] using hi
    simp [execOp, ho, hx, Instr.loadAt, Instr.sureAddr, loadVar, Sem.run_bind, hagg, sizeOf, typeInfo, hq, hs, hl]
theorem q_build (hgd : o.guard = none) (t : TypeId) (ho : o.op = .build t #[]) (v : Value) (hv : ∀ w, (Instr.build t #[]).run P w = .ok v w) (h : wpQuiet P ops C Q rest (a.put o.dst v)) : wpQuiet P ops C Q (o :: rest) a := by
  refine q_run hgd _ (fun w _ => ?_) h
  simp [execOp, ho, hv]
theorem q_binOp (hgd : o.guard = none) (op : BinOp) (t ty : TypeId) (x y : Operand) (ho : o.op = .binOp op t x y ty) (X Y v : Value) (hx : a.eval x = X) (hy : a.eval y = Y) (hg : ∀ w, (eqGuard op t x y X Y).run P w = .ok () w) (hv : ∀ w, (binOp op t X Y).run P w = .ok v w)
    (h : wpQuiet P ops C Q rest (a.put o.dst v)) : wpQuiet P ops C Q (o :: rest) a := by
  refine q_run hgd _ (fun w _ => ?_) h
  simp [execOp, ho, Sem.run_bind, hx, hy, hg, hv]
end

/-- 'copy' into a row, as one step of a region that draws: the row is set. -/
theorem step_copy_set {P : Program} {ops : Array Oper} {o : Oper} {a : Act} {w : World} {K : Act → World → Prop} {Q : Exit → Act → World → Prop} {E : Prop} (hgd : o.guard = none) (d s : Operand) (dT sT : TypeId)
    (ho : o.op = .call { callee := .builtin .copy, args := #[d, s], argTypes := #[dT, sT] }) (elem : TypeId) (hu : P.underlying dT = some (.slice elem)) (hsz : (P.info? elem).map (·.size) = some 1)
    (g off dLen dCap : Nat) (ad : Addr) (sLen sCap : Nat) (hd : a.eval d = .slice (some ⟨g, off, none⟩) dLen dCap) (hs : a.eval s = .slice (some ad) sLen sCap)
    (cur : Array Value) (t : TypeId) (hg : w.heap[g]? = some (.cells cur t (0, 0))) (cs : List Value) (hn : cs.length = Nat.min sLen dLen)
    (hsrc : ∀ j v, cs[j]? = some v → w.cell? (ad.add j) = some v) (hfit : off + cs.length ≤ cur.size) (h1 : ∀ v ∈ cs, v.oneCell' = true)
    (h : K (a.put o.dst (goInt cs.length)) (w.setRow g (cur.toList.take off ++ (cs ++ cur.toList.drop (off + cs.length))).toArray)) :
    if Region.wanted o (yielded ops a.tmps) = true then Oper.wp P o a w K Q else E := by
  have hw : Region.wanted o (yielded ops a.tmps) = true := by simp [Region.wanted, hgd]
  rw [if_pos hw]
  have hrun := run_copy_row (P := P) w dT sT o.type elem g off dLen dCap ad sLen sCap cur t cs hu hsz hg hn hsrc hfit h1
  unfold Oper.wp
  simp [execOp, ho, resolve, invoke, builtin, hd, hs, hrun, Result.andThen]
  exact h

/-- A page of its own. -/
def pgv (g : Nat) : Value := .slice (some ⟨g, 0, none⟩) 4096 4096
/-- Pages in memory of their own: the list and each page. -/
structure PgOwn (base : Nat) (w : World) (v : Value) (gs : List Nat) (pages : List (List Int)) : Prop where
  len : gs.length = pages.length
  own : w.ownsRow base 31 1 v gs.length (gs.map pgv)
  nd : gs.Nodup
  ge : ∀ g ∈ gs, base ≤ g ∧ v.ownBlock ≠ some g
  row : ∀ (i : Nat) (g : Nat), gs[i]? = some g → w.heap[g]? = some (.cells ((pages.getD i []).map (Value.int .u8)).toArray 5 (0, 0))
  page : ∀ x ∈ pages, x.length = 4096 ∧ ∀ y ∈ x, 0 ≤ y ∧ y ≤ 255

theorem PgOwn.nil (base : Nat) (w : World) : PgOwn base w (.slice none 0 0) [] [] := ⟨rfl, World.ownsRow_nil _ _ _ _, by simp, by simp, by simp, by simp⟩
theorem PgOwn.keeps {S : Nat → Prop} {base : Nat} {w w' : World} {v : Value} {gs : List Nat} {pages : List (List Int)} (h : PgOwn base w v gs pages) (hk : Keeps S w w') (hS : ∀ b, base ≤ b → b < w.heap.size → S b) : PgOwn base w' v gs pages := by
  refine ⟨h.len, ?_, h.nd, h.ge, fun i g hg => ?_, h.page⟩
  · have := h.own.lt
    exact own_keeps h.own hk fun b hb => hS b (this b hb).1 (this b hb).2
  · have hr := h.row i g hg
    exact (hk.block g (row_lt hr) (hS g (h.ge g (List.mem_of_getElem? hg)).1 (row_lt hr))).trans hr
theorem PgOwn.le {base : Nat} {w : World} {v : Value} {gs : List Nat} {pages : List (List Int)} (h : PgOwn base w v gs pages) : ∀ g ∈ gs, g < w.heap.size := by
  intro g hg
  obtain ⟨i, hi, rfl⟩ := List.getElem_of_mem hg
  exact row_lt (h.row i _ (List.getElem?_eq_getElem hi))

/-- One page more. -/
theorem PgOwn.add {base : Nat} {wr w1 w2 : World} {u : Value} {g cap : Nat} {gs : List Nat} {pages : List (List Int)} (h : PgOwn base wr u gs pages) (hb : base ≤ wr.heap.size)
    (hown1 : w1.ownsRow base 5 1 (.slice (some ⟨wr.heap.size, 0, none⟩) 4096 4096) 4096 (zpage.map (Value.int .u8))) (hg1 : wr.grownBy w1 none) {o : Obj}
    (hown2 : w2.ownsRow base 31 1 (.slice (some ⟨g, 0, none⟩) (gs.length + 1) cap) (gs.length + 1) (gs.map pgv ++ [pgv wr.heap.size])) (hg2 : (w1.alloc o).grownBy w2 u.ownBlock) (hat : u.ownBlock = some g ∨ g = (w1.alloc o).heap.size) :
    PgOwn base w2 (.slice (some ⟨g, 0, none⟩) (gs.length + 1) cap) (gs ++ [wr.heap.size]) (pages ++ [zpage]) := by
  have hlt1 : wr.heap.size < w1.heap.size := (hown1.lt wr.heap.size rfl).2
  have hlo := h.own.lt
  have hle := h.le
  have hne : u.ownBlock ≠ some wr.heap.size := fun e => by have := hlo _ e; omega
  have hk1 : Keeps (fun b => u.ownBlock ≠ some b) w1 w2 := ((Keeps.refl _ w1).alloc o).grown hg2 fun k hk _ h => h hk
  refine ⟨by simp [h.len], by simpa using hown2, ?_, ?_, ?_, ?_⟩
  · rw [List.nodup_append]
    refine ⟨h.nd, by simp, fun x hx y hy => ?_⟩
    have := hle x hx
    simp at hy; omega
  · intro x hx
    rcases List.mem_append.1 hx with hx | hx
    · refine ⟨(h.ge x hx).1, ?_⟩
      simp only [Value.ownBlock, ne_eq, Option.some.injEq]
      rintro rfl
      rcases hat with e | e
      · exact (h.ge _ hx).2 e
      · have := hle _ hx; rw [World.size_alloc] at e; omega
    · simp at hx; subst hx
      refine ⟨hb, ?_⟩
      simp only [Value.ownBlock, ne_eq, Option.some.injEq]
      rintro rfl
      rcases hat with e | e
      · exact hne e
      · rw [World.size_alloc] at e; omega
  · intro i x hx
    rcases Nat.lt_or_ge i gs.length with hi | hi
    · rw [List.getElem?_append_left hi] at hx
      have hr := h.row i x hx
      have hxm := List.mem_of_getElem? hx
      rw [hk1.block x (by have := hle x hxm; omega) (h.ge x hxm).2, hg1.block x (hle x hxm) (by simp), hr]
      congr 3
      rw [List.getD_eq_getElem?_getD, List.getD_eq_getElem?_getD, List.getElem?_append_left (by rw [← h.len]; exact hi)]
    · rw [List.getElem?_append_right hi] at hx
      obtain ⟨hi2, rfl⟩ : i = gs.length ∧ wr.heap.size = x := by
        rw [List.getElem?_singleton] at hx
        split at hx
        · exact ⟨by omega, by simpa using hx⟩
        · simp at hx
      have e : (pages ++ [zpage]).getD i [] = zpage := by
        rw [hi2, h.len]; simp
      rw [e]
      rcases hown1.2 with ⟨e, _⟩ | ⟨g', cap', cur, e, _, hh, _, _, hs, ht⟩
      · simp at e
      · simp only [Value.slice.injEq, Option.some.injEq, Addr.mk.injEq, and_true, true_and] at e
        obtain ⟨rfl, rfl⟩ := e
        rw [hk1.block _ hlt1 hne, hh]
        congr 2
        rw [List.take_of_length_le (by simp [hs])] at ht
        rw [← ht]
  · intro x hx
    rcases List.mem_append.1 hx with hx | hx
    · exact h.page x hx
    · simp at hx; subst hx; exact ⟨zpage_len, zpage_bytes⟩

/-- What a round does with the reader, ahead of the copy: the place, the reader behind it. -/
def rpageNo (b : List Int) (n : Nat) (r : RS) (behind : Nat) : Nat × RS :=
  let i := (rnum b r 18446744073709551615 17).1
  let r1 := (rnum b r 18446744073709551615 17).2
  let r2 := if r1.e = 0 ∧ n ≤ i then r1.no 17 r.at_ else r1
  let r3 := if i < behind then r2.no 18 r.at_ else r2
  (i, if r3.e = 0 ∧ b.length - r3.at_ < 4096 then r3.no 10 r3.at_ else r3)
/-- k pages more. -/
def rpagesGo (b : List Int) (n : Nat) : Nat → RS → Nat → List (List Int) → List (List Int) × RS
  | 0, r, _, ps => (ps, r)
  | k + 1, r, behind, ps =>
    if (rpageNo b n r behind).2.e ≠ 0 then ([], (rpageNo b n r behind).2)
    else if (b.drop (rpageNo b n r behind).2.at_).take 4096 = zpage then ([], (rpageNo b n r behind).2.no 12 (rpageNo b n r behind).2.at_)
    else rpagesGo b n k { (rpageNo b n r behind).2 with at_ := (rpageNo b n r behind).2.at_ + 4096 } ((rpageNo b n r behind).1 + 1) (ps.set (rpageNo b n r behind).1 ((b.drop (rpageNo b n r behind).2.at_).take 4096))
/-- The reader behind a page's number, ahead of its bytes. -/
def rpageMid (b : List Int) (n : Nat) (r : RS) (behind i : Nat) (r1 : RS) : RS :=
  let r2 := if r1.e = 0 ∧ n ≤ i then r1.no 17 r.at_ else r1
  let r3 := if i < behind then r2.no 18 r.at_ else r2
  if r3.e = 0 ∧ b.length - r3.at_ < 4096 then r3.no 10 r3.at_ else r3
def rpageStep (b : List Int) (n k : Nat) (ps : List (List Int)) (x : Nat × RS) : List (List Int) × RS :=
  if x.2.e ≠ 0 then ([], x.2)
  else if (b.drop x.2.at_).take 4096 = zpage then ([], x.2.no 12 x.2.at_)
  else rpagesGo b n k { x.2 with at_ := x.2.at_ + 4096 } (x.1 + 1) (ps.set x.1 ((b.drop x.2.at_).take 4096))
theorem rpagesGo_step (b : List Int) (n k : Nat) (r : RS) (behind : Nat) (ps : List (List Int)) : rpagesGo b n (k + 1) r behind ps = rpageStep b n k ps (rpageNo b n r behind) := rfl
theorem rpageNo_eq (b : List Int) (n : Nat) (r : RS) (behind : Nat) :
    rpageNo b n r behind = ((rnum b r 18446744073709551615 17).1, rpageMid b n r behind (rnum b r 18446744073709551615 17).1 (rnum b r 18446744073709551615 17).2) := rfl
theorem rnum_err (b : List Int) (r : RS) (most : Nat) (g : Int) (h : (rnum b r most g).2.e ≠ 0) : (rnum b r most g).1 = 0 := by
  unfold rnum at h ⊢
  split
  · rfl
  · rename_i h1
    rw [if_neg h1] at h
    split
    · rfl
    · rename_i h2
      rw [if_neg h2] at h
      split
      · rfl
      · rename_i h3
        rw [if_neg h3] at h
        simp at h1 h
        exact absurd h1 h
theorem page_cells {S : Nat → Prop} {w3 wz : World} {b : List Int} {bb off k : Nat} (h : ∀ j (h : j < b.length), ∃ b' o', some (⟨bb, off, none⟩ : Addr) = some ⟨b', o', none⟩ ∧ S b' ∧ w3.cell? ⟨b', o' + j, none⟩ = some (.int .u8 b[j]))
    (hk : Keeps (fun y => S y) w3 wz) (hl : k + 4096 ≤ b.length) : ∀ q u, (((b.drop k).take 4096).map (Value.int .u8))[q]? = some u → wz.cell? ((⟨bb, off + k, none⟩ : Addr).add q) = some u := by
  intro q u hu
  have hq : q < 4096 := by have := (List.getElem?_eq_some_iff.1 hu).1; rw [List.length_map, List.length_take] at this; omega
  obtain ⟨b', o', e, hs, hc⟩ := h (k + q) (by omega)
  simp only [Option.some.injEq, Addr.mk.injEq, and_true] at e
  obtain ⟨rfl, rfl⟩ := e
  rw [List.getElem?_map, List.getElem?_take, if_pos hq, List.getElem?_drop, List.getElem?_eq_getElem (by omega)] at hu
  simp only [Option.map_some, Option.some.injEq] at hu
  subst hu
  have hc := hk.cell hc hs
  unfold Addr.add
  split
  · rename_i e0; subst e0; exact hc
  · rw [Nat.add_assoc]; exact hc
theorem rpage_go {b : List Int} {n k : Nat} {ps : List (List Int)} {r3 ra : RS} {x : Nat} {behind K : Nat} {X : List (List Int) × RS} {pg : List Int} (h : X = rpagesGo b n K r3 behind ps) (hs : rpagesGo b n K r3 behind ps = rpageStep b n k ps (x, rpageMid b n r3 behind x ra))
    (hm : rpageMid b n r3 behind x ra = ra) (he : ra.e = 0) (hp : pg = (b.drop ra.at_).take 4096) (hz : pg ≠ zpage) : X = rpagesGo b n k { ra with at_ := ra.at_ + 4096 } (x + 1) (ps.set x pg) := by
  rw [h, hs, hm, rpageStep, if_neg (by simp [he]), if_neg (by simp only; rw [← hp]; exact hz), hp]

section
variable {b : List Int} {n : Nat} {r : RS} {behind i : Nat} {r1 : RS}
theorem rpageMid_err (h : r1.e ≠ 0) : rpageMid b n r behind i r1 = r1 := by
  unfold rpageMid
  simp only [h, false_and, if_false]
  have e : r1.no 18 r.at_ = r1 := by rw [RS.no, if_neg h]
  simp only [e, ite_self, h, false_and, if_false]
theorem rpageMid_17 (h : r1.e = 0) (hn : n ≤ i) (hb : ¬ i < behind) : rpageMid b n r behind i r1 = r1.no 17 r.at_ := by
  unfold rpageMid
  simp only [h, hn, and_self, if_true, hb, if_false]
  rw [if_neg (by simp [RS.no, h])]
theorem rpageMid_18 (h : r1.e = 0) (hn : ¬ n ≤ i) (hb : i < behind) : rpageMid b n r behind i r1 = r1.no 18 r.at_ := by
  unfold rpageMid
  simp only [h, hn, and_false, if_false, hb, if_true]
  rw [if_neg (by simp [RS.no, h])]
theorem rpageMid_10 (h : r1.e = 0) (hn : ¬ n ≤ i) (hb : ¬ i < behind) (hs : b.length - r1.at_ < 4096) : rpageMid b n r behind i r1 = r1.no 10 r1.at_ := by
  unfold rpageMid
  simp only [h, hn, and_false, if_false, hb, hs, and_self, if_true]
theorem rpageMid_ok (h : r1.e = 0) (hn : ¬ n ≤ i) (hb : ¬ i < behind) (hs : ¬ b.length - r1.at_ < 4096) : rpageMid b n r behind i r1 = r1 := by
  unfold rpageMid
  simp only [h, hn, and_false, if_false, hb, hs]
end

def rpages (b : List Int) (r : RS) : List (List Int) × RS :=
  rpagesGo b (rnum b r 64 20).1 (rnum b (rnum b r 64 20).2 (rnum b r 64 20).1 20).1 (rnum b (rnum b r 64 20).2 (rnum b r 64 20).1 20).2 0 (List.replicate (rnum b r 64 20).1 zpage)
theorem Tryd.infoSl : (Tryd.prog.info? 31).map (fun i => (i.zero, i.size, i.bytes)) = some (some (.slice none 0 0), 1, 24) := by kernel_rfl
theorem zcells : (madeCells (Value.int .u8 0).cells (4096 * 1)).toList = zpage.map (Value.int .u8) := by
  rw [zpage, List.map_replicate]; exact toList_madeCells_one _ _

/-- How the reader and the pages stand in a round. -/
structure PS (S : Nat → Prop) (w : World) (p : Nat) (v : Value) (b : List Int) (base : Nat) (lv : Value) (gs : List Nat) (ps : List (List Int)) (r : RS) (wx : World) : Prop where
  rr : Rr S wx p v b r
  pg : PgOwn base wx lv gs ps
  keep : Keeps (fun x => x ≠ p ∧ x < w.heap.size) w wx
  hp : p < base
  hS : ∀ x, S x → x < w.heap.size
  hb : w.heap.size ≤ base
section
variable {S : Nat → Prop} {w : World} {p : Nat} {v : Value} {b : List Int} {base : Nat} {lv : Value} {gs : List Nat} {ps : List (List Int)} {r : RS} {wx : World}
theorem PS.step {w' : World} {r' : RS} (h : PS S w p v b base lv gs ps r wx) (hr : Rr S w' p v b r') (hk : Keeps (fun x => x ≠ p) wx w') : PS S w p v b base lv gs ps r' w' :=
  ⟨hr, h.pg.keeps hk fun x hx _ => by have := h.hp; omega, h.keep.trans (hk.mono fun x _ hx => hx.1), h.hp, h.hS, h.hb⟩
theorem PS.drewN (h : PS S w p v b base lv gs ps r wx) (n : Nat) : PS S w p v b base lv gs ps r (wx.drewN n) :=
  h.step (h.rr.keeps (Keeps.of_drewN (S := fun _ => True) n) trivial fun _ _ => trivial) (Keeps.of_drewN n)
theorem PS.drew (h : PS S w p v b base lv gs ps r wx) : PS S w p v b base lv gs ps r wx.drew := h.drewN 1
theorem PS.cells (h : PS S w p v b base lv gs ps r wx) : wx.cell? ⟨p, 0, none⟩ = some v ∧ wx.cell? ⟨p, 1, none⟩ = some (.int .i64 r.at_) ∧ wx.cell? ⟨p, 2, none⟩ = some (.int .i64 r.e) ∧ wx.frozen? ⟨p, 1, none⟩ = false :=
  ⟨row_cell h.rr.row 0 rfl, row_cell h.rr.row 1 rfl, row_cell h.rr.row 2 rfl, row_free h.rr.row 1⟩
theorem rd_noP (h : PS S w p v b base lv gs ps r wx) (e : Int) (k : Nat) (K : Int) (hK : (k : Int) = K) :
    Calls Tryd.prog 59 #[.pointer (some ⟨p, 0, none⟩), .int .i64 e, .int .i64 K] wx fun en w' => en = .returned (.tuple #[]) ∧ PS S w p v b base lv gs ps (r.no e k) w' := by
  refine (rd_no S wx p v b r h.rr e k K hK).mono ?_
  rintro en w' ⟨rfl, h1, h2⟩
  exact ⟨rfl, h.step h1 h2⟩
theorem rd_numberP (h : PS S w p v b base lv gs ps r wx) (hb : ∀ x ∈ b, 0 ≤ x ∧ x ≤ 255) (most : Nat) (M : Int) (hM : (most : Int) = M) (great : Int) (hg : great ≠ 0) (x : Nat) (r' : RS) (hx : Hid (rnum b r most great = (x, r'))) :
    Calls Tryd.prog 56 #[.pointer (some ⟨p, 0, none⟩), .int .u64 M, .int .i64 great] wx fun en w' => en = .returned (.int .u64 x) ∧ PS S w p v b base lv gs ps r' w' := by
  refine (rd_number S wx p v b r h.rr hb most M hM great hg).mono ?_
  rintro en w' ⟨rfl, h1, h2⟩
  rw [hx.out] at h1 ⊢
  exact ⟨rfl, h.step h1 h2⟩
end

theorem Keeps.setRow {S : Nat → Prop} (w : World) (g : Nat) (cs : Array Value) (hg : ¬ S g) : Keeps S w (w.setRow g cs) :=
  ⟨rfl, rfl, rfl, by rw [size_setRow]; omega, fun b _ hb => setRow_other w g b cs (by rintro rfl; exact hg hb)⟩
theorem PgOwn.setPage {base : Nat} {w : World} {v : Value} {gs : List Nat} {ps : List (List Int)} {x g : Nat} {pg : List Int} (h : PgOwn base w v gs ps) (hg : gs[x]? = some g) (hl : pg.length = 4096) (hb : ∀ y ∈ pg, 0 ≤ y ∧ y ≤ 255) {cs : Array Value} (hcs : cs = (pg.map (Value.int .u8)).toArray) :
    PgOwn base (w.setRow g cs) v gs (ps.set x pg) := by
  subst hcs
  have hgm := List.mem_of_getElem? hg
  have hk : Keeps (fun b => b ≠ g) w (w.setRow g (pg.map (Value.int .u8)).toArray) := Keeps.setRow w g _ (by simp)
  have hxl : x < gs.length := (List.getElem?_eq_some_iff.1 hg).1
  refine ⟨by rw [List.length_set]; exact h.len, own_keeps h.own hk fun b hb e => (h.ge g hgm).2 (e ▸ hb), h.nd, h.ge, fun i y hy => ?_, fun z hz => ?_⟩
  · by_cases e : i = x
    · subst e
      rw [hg] at hy
      obtain rfl := Option.some.inj hy
      have : (ps.set i pg).getD i [] = pg := by
        rw [List.getD_eq_getElem?_getD, List.getElem?_set_self (by rw [← h.len]; exact hxl)]; rfl
      rw [this]
      exact setRow_heap w g _ _ _ _ (h.row i g hg)
    · have hne : y ≠ g := by
        rintro rfl
        have h1 := (List.getElem?_eq_some_iff.1 hy)
        have h2 := (List.getElem?_eq_some_iff.1 hg)
        exact e ((List.getElem_inj h.nd).1 (h1.2.trans h2.2.symm))
      have : (ps.set x pg).getD i [] = ps.getD i [] := by
        rw [List.getD_eq_getElem?_getD, List.getD_eq_getElem?_getD, List.getElem?_set_ne (Ne.symm e)]
      rw [this, setRow_other w g y _ hne]
      exact h.row i y hy
  · rcases List.mem_or_eq_of_mem_set hz with hz | hz
    · exact h.page z hz
    · subst hz; exact ⟨hl, hb⟩
section
variable {S : Nat → Prop} {w : World} {p : Nat} {v : Value} {b : List Int} {base : Nat} {lv : Value} {gs : List Nat} {ps : List (List Int)} {r : RS} {wx : World}
theorem PS.setPage {x g : Nat} {pg : List Int} {cs : Array Value} (h : PS S w p v b base lv gs ps r wx) (hg : gs[x]? = some g) (hl : pg.length = 4096) (hb : ∀ y ∈ pg, 0 ≤ y ∧ y ≤ 255) (e : cs = (pg.map (Value.int .u8)).toArray) :
    Hid (PS S w p v b base lv gs (ps.set x pg) r (wx.setRow g cs)) := by
  have hge := h.pg.ge g (List.mem_of_getElem? hg)
  have hp := h.hp
  have hbb := h.hb
  have hk : Keeps (fun y => y ≠ g) wx (wx.setRow g (pg.map (Value.int .u8)).toArray) := Keeps.setRow wx g _ (by simp)
  rw [e]
  exact ⟨h.rr.keeps hk (by omega) fun y hy => by have := h.hS y hy; omega, h.pg.setPage hg hl hb rfl, h.keep.trans' hk (fun y hy hyp => ⟨hyp, by omega⟩), hp, h.hS, hbb⟩
theorem PS.advance (h : PS S w p v b base lv gs ps r wx) (k : Nat) (hk : k ≤ b.length) : PS S w p v b base lv gs ps { r with at_ := k } (wx.setCell ⟨p, 1, none⟩ (.int .i64 k)) := by
  have hkk : Keeps (fun y => y ≠ p) wx (wx.setCell ⟨p, 1, none⟩ (.int .i64 k)) := (Keeps.refl _ wx).setCell (a := ⟨p, 1, none⟩) (by simp) _
  exact h.step (h.rr.set { r with at_ := k } hkk (by simpa using row_setCell h.rr.row 1 (.int .i64 k)) hk) hkk
end

theorem pg_base {base base' : Nat} {w : World} {v : Value} {gs : List Nat} {ps : List (List Int)} (h : PgOwn base w v gs ps) (hb : base' ≤ base) : PgOwn base' w v gs ps := by
  refine ⟨h.len, ⟨h.own.1, ?_⟩, h.nd, fun g hg => ⟨Nat.le_trans hb (h.ge g hg).1, (h.ge g hg).2⟩, h.row, h.page⟩
  rcases h.own.2 with e | ⟨g, cap, cur, e, h1, rest⟩
  · exact .inl e
  · exact .inr ⟨g, cap, cur, e, Nat.le_trans hb h1, rest⟩

set_option maxRecDepth 100000 in
set_option maxHeartbeats 1600000 in
theorem rd_pages (S) (w : World) (p : Nat) (v : Value) (b : List Int) (r : RS) (h : Rr S w p v b r) (hb : ∀ x ∈ b, 0 ≤ x ∧ x ≤ 255) (hS : ∀ x, S x → x < w.heap.size) :
    Calls Tryd.prog 58 #[.pointer (some ⟨p, 0, none⟩)] w fun en w' => ∃ v', en = .returned v' ∧ (∃ gs, PgOwn w.heap.size w' v' gs (rpages b r).1) ∧
      Rr S w' p v b (rpages b r).2 ∧ Keeps (fun x => x ≠ p ∧ x < w.heap.size) w w' := by
  obtain ⟨i0, hi, hz0, hz1, hz2⟩ := info_parts Tryd.infoU8
  obtain ⟨i1, hi1, hy0, hy1, hy2⟩ := info_parts Tryd.infoSl
  have H := Lib.hid h; have HB := Lib.hid hb; have HSS := Lib.hid hS; clear h hb hS
  have hnle := rnum_le b r 64 20
  have HRV : Hid (rpages b r = rpagesGo b (rnum b r 64 20).1 (rnum b (rnum b r 64 20).2 (rnum b r 64 20).1 20).1 (rnum b (rnum b r 64 20).2 (rnum b r 64 20).1 20).2 0 (List.replicate (rnum b r 64 20).1 zpage)) := rfl
  have hpw := row_lt H.out.row
  go_enter Tryd.func58, Tryd.ntmps58
  go_wp2_with fail
  (with_reducible refine (rd_number S _ p v b r H.out HB.out 64 64 (by omega) 20 (by omega)).mono ?_)
  rintro e w1 ⟨rfl, hr1, hk1⟩
  generalize (rnum b r 64 20).1 = n at *
  generalize (rnum b r 64 20).2 = r1 at *
  have HR1 := Lib.hid hr1; have HK1 := Lib.hid hk1; clear hr1 hk1
  have hsz1 := HK1.out.size
  go_wp2
  go_loopw [4, 11] (fun l i wr => ∃ (k : Nat) (gs : List Nat), k ≤ n ∧ i = .int .u64 k ∧ gs.length = k ∧ Hid (PgOwn w1.heap.size wr l gs (List.replicate k zpage)) ∧ Below w1.heap.size w1 wr) (fun _ i _ => n - (intOf i).toNat)
  case atStart => exact ⟨0, [], by omega, rfl, rfl, PgOwn.nil _ _, Below.refl _ _⟩
  case round =>
    obtain ⟨k, gs, hk, rfl, hgk, HPG, hbel⟩ := hrel
    by_cases hlt : k < n
    · have hszr := hbel.size
      have hgl : gs.length ≤ 64 := by omega
      have HGK := Lib.hid hgk; clear hgk
      go_wp2_with (first
        | (refine wpList_make_full _ rfl _ _ 31 rfl w1.heap.size 5 i0 (.int .u8 0) 1 Tryd.underlying31 hi hz0 hz1 .i64 .i64 4096 4096 4096 rfl rfl rfl rfl (by rw [hz2]; omega) (by unfold maxLen; omega) hszr ?_; intro wa hown1 hgrow1)
        | (at_builtin; refine wpList_append_lies _ rfl _ _ 24 rfl w1.heap.size 31 i1 (.slice none 0 0) 1 24 Tryd.underlying24 hi1 hy0 hy1 hy2 rfl (by decide) _ gs.length (gs.map pgv) rfl (own_keeps HPG.out.own (((Keeps.refl (fun _ => True) wr).grown hgrow1 (fun _ e => by cases e)).alloc _) (fun _ _ => trivial)) ⟨wa.heap.size, 0, none⟩ 1 1 [pgv wr.heap.size] rfl rfl (cell_one_new _ _ _) (by simp [Value.oneCell', pgv]) (by omega) (by unfold maxLen; omega) (by omega) (by have := hgrow1.size; rw [World.size_alloc]; omega) _ rfl ?_; intro g cap wb hown2 hgrow2 hat hlt2))
      have P := Lib.hid (HPG.out.add hszr (by rw [← zcells]; exact hown1) hgrow1 hown2 hgrow2 hat)
      have PB : Hid (Below w1.heap.size w1 wb) := ((hbel.grown hgrow1 hszr (by simp)).alloc (by have := hgrow1.size; omega) _).grown hgrow2 (by have := hgrow1.size; rw [World.size_alloc]; omega) fun k hk => (HPG.out.own.lt k hk).1
      clear hown1 hgrow1 hown2 hgrow2 hat
      go_roundw
      case rel => exact ⟨k + 1, gs ++ [wr.heap.size], by omega, by go_num, by rw [List.length_append, HGK.out]; rfl, by rw [List.replicate_succ']; exact P, PB.out⟩
      case measure => simp [intOf]; omega
    · obtain rfl : k = n := by omega
      have HPS : Hid (PS S w p v b w1.heap.size u4 gs (List.replicate k zpage) r1 wr) :=
        ⟨HR1.out.keeps (Keeps.all (fun _ => True) hbel) trivial fun _ _ => trivial, HPG.out, HK1.out.trans' (Keeps.all (fun _ => True) hbel) (fun x _ hx => ⟨hx.1, trivial⟩), by omega, HSS.out, hsz1⟩
      obtain ⟨K, r2, hkr⟩ : ∃ K r2, rnum b r1 k 20 = (K, r2) := ⟨_, _, rfl⟩
      have hK : K ≤ k := by have := rnum_le b r1 k 20; rw [hkr] at this; exact this
      have HRV2 : Hid (rpages b r = rpagesGo b k K r2 0 (List.replicate k zpage)) := by show _ = _; rw [HRV.out, hkr]
      have HKR := Lib.hid hkr; clear hkr
      have HGK := Lib.hid hgk; clear hgk
      go_wp2_with fail
      (with_reducible refine (rd_numberP HPS.out HB.out k k rfl 20 (by omega) K r2 HKR).mono ?_)
      rintro e w2 ⟨rfl, hps2⟩
      have HPS2 := Lib.hid hps2; clear hps2 HPS HKR HPG hbel
      go_wp2
      go_loopw [5, 21] (fun bh i wr => ∃ (j behind : Nat) (ps : List (List Int)) (r3 : RS), j ≤ K ∧ i = .int .u64 j ∧ bh = .int .u64 behind ∧ behind ≤ k ∧ Hid (PS S w p v b w1.heap.size u4 gs ps r3 wr) ∧ Hid (rpages b r = rpagesGo b k (K - j) r3 behind ps)) (fun _ i _ => K - (intOf i).toNat)
      case atStart => exact ⟨0, 0, _, r2, by omega, rfl, rfl, by omega, HPS2, HRV2⟩
      case round =>
        obtain ⟨j, behind, ps, r3, hj, rfl, rfl, hbh, HP, HE⟩ := hrel
        by_cases hjl : j < K
        · obtain ⟨x, ra, hxr⟩ : ∃ x ra, rnum b r3 18446744073709551615 17 = (x, ra) := ⟨_, _, rfl⟩
          have hx64 : x ≤ 18446744073709551615 := by have := rnum_u64 b r3 18446744073709551615 17; rw [hxr] at this; exact this
          have hxe : ra.e ≠ 0 → x = 0 := by intro h; have := rnum_err b r3 18446744073709551615 17 (by rw [hxr]; exact h); rw [hxr] at this; exact this
          have HST : Hid (rpagesGo b k (K - j) r3 behind ps = rpageStep b k (K - (j + 1)) ps (x, rpageMid b k r3 behind x ra)) := by
            show _ = _
            rw [show K - j = (K - (j + 1)) + 1 by omega, rpagesGo_step, rpageNo_eq, hxr]
          have HX := Lib.hid hxr; clear hxr
          have hlev := HP.out.rr.rd.len
          have y := HP.out.cells
          have y1 := y.2.1
          clear y
          go_wp2_with fail
          (with_reducible refine (rd_numberP HP.out HB.out 18446744073709551615 18446744073709551615 (by omega) 17 (by omega) x ra HX).mono ?_)
          rintro e w3 ⟨rfl, hpa⟩
          have HPA := Lib.hid hpa; clear hpa
          have y := HPA.out.cells
          have y2 := y.2.2.1
          clear y
          by_cases he : ra.e = 0
          · have he1 : (ra.e == 0) = true := by simp [he]
            by_cases hkx : k ≤ x
            · have hnx : ¬ x < behind := by omega
              have E : Hid (rpages b r = ([], ra.no 17 r3.at_)) := by
                show _ = _
                rw [HE.out, HST.out, rpageMid_17 he hkx hnx, rpageStep, if_pos (by simp [RS.no, he])]
              have hr' : (ra.no 17 r3.at_).e = 17 := by rw [RS.no, if_pos he]
              have HR' := Lib.hid hr'; clear hr' he
              go_wp2_with fail
              (with_reducible refine (rd_noP HPA.out 17 r3.at_ r3.at_ rfl).mono ?_)
              rintro e w4 ⟨rfl, hpb⟩
              have HPB := Lib.hid hpb; clear hpb
              generalize ra.no 17 r3.at_ = rb at *
              have he1 : (rb.e == 0) = false := by rw [HR'.out]; rfl
              have he2 : (rb.e != 0) = true := by rw [HR'.out]; rfl
              have z := HPB.out.cells
              have z2 := z.2.2.1; have z1 := z.2.1; have z0 := z.1
              clear z
              go_wp2
              go_quiet (fail)
              go_wp2
              go_ret
              rw [E.out]
              exact ⟨_, rfl, ⟨[], PgOwn.nil _ _⟩, (HPB.out.drewN _).rr, (HPB.out.drewN _).keep⟩
            · by_cases hxb : x < behind
              · have E : Hid (rpages b r = ([], ra.no 18 r3.at_)) := by
                  show _ = _
                  rw [HE.out, HST.out, rpageMid_18 he hkx hxb, rpageStep, if_pos (by simp [RS.no, he])]
                have hr' : (ra.no 18 r3.at_).e = 18 := by rw [RS.no, if_pos he]
                have HR' := Lib.hid hr'; clear hr' he
                go_wp2_with fail
                (with_reducible refine (rd_noP HPA.out 18 r3.at_ r3.at_ rfl).mono ?_)
                rintro e w4 ⟨rfl, hpb⟩
                have HPB := Lib.hid hpb; clear hpb
                generalize ra.no 18 r3.at_ = rb at *
                have he1 : (rb.e == 0) = false := by rw [HR'.out]; rfl
                have he2 : (rb.e != 0) = true := by rw [HR'.out]; rfl
                have z := HPB.out.cells
                have z2 := z.2.2.1; have z1 := z.2.1; have z0 := z.1
                clear z
                go_wp2
                go_quiet (fail)
                go_wp2
                go_ret
                rw [E.out]
                exact ⟨_, rfl, ⟨[], PgOwn.nil _ _⟩, (HPB.out.drewN _).rr, (HPB.out.drewN _).keep⟩
              · by_cases hsh : b.length - ra.at_ < 4096
                · have hle := HPA.out.rr.le
                  have hsh' : (b.length : Int) - (ra.at_ : Int) < 4096 := by omega
                  have E : Hid (rpages b r = ([], ra.no 10 ra.at_)) := by
                    show _ = _
                    rw [HE.out, HST.out, rpageMid_10 he hkx hxb hsh, rpageStep, if_pos (by simp [RS.no, he])]
                  have hr' : (ra.no 10 ra.at_).e = 10 := by rw [RS.no, if_pos he]
                  have HR' := Lib.hid hr'; clear hr' he hsh
                  obtain ⟨va, vc, rfl, hvl⟩ := hlev
                  have y := HPA.out.cells
                  have y0 := y.1; have y1 := y.2.1; have yf := y.2.2.2
                  clear y
                  go_wp2_with fail
                  go_quiet (fail)
                  go_wp2_with fail
                  (with_reducible refine (rd_noP (HPA.out.drewN _) 10 ra.at_ ra.at_ rfl).mono ?_)
                  rintro e w4 ⟨rfl, hpb⟩
                  have HPB := Lib.hid hpb; clear hpb
                  generalize ra.no 10 ra.at_ = rb at *
                  have z := HPB.out.cells
                  have z2 := z.2.2.1
                  clear z
                  have he2 : (rb.e != 0) = true := by rw [HR'.out]; rfl
                  go_wp2
                  go_ret
                  rw [E.out]
                  exact ⟨_, rfl, ⟨[], PgOwn.nil _ _⟩, HPB.out.rr, HPB.out.keep⟩
                · have hle := HPA.out.rr.le
                  have hsh' : ¬ (b.length : Int) - (ra.at_ : Int) < 4096 := by omega
                  have hsl : ra.at_ + 4096 ≤ b.length := by omega
                  have EM := Lib.hid (rpageMid_ok (b := b) (r := r3) he hkx hxb hsh)
                  have he2 : (ra.e != 0) = false := by simp [he]
                  obtain ⟨va, vc, hv, hvc, hvl, hvr⟩ := HPA.out.rr.rd
                  subst hv
                  obtain ⟨bb, off, hva, hSb, _⟩ := hvr 0 (by omega)
                  subst hva
                  have HVR := Lib.hid hvr
                  clear hvr hsh
                  have HE0 := Lib.hid he; clear he
                  have y := HPA.out.cells
                  have y0 := y.1; have y1 := y.2.1; have yf := y.2.2.2
                  clear y
                  go_wp2_with fail
                  go_quiet (fail)
                  go_wp2_with fail
                  refine wp_region_quiet_lit (by kernel_rfl) (by kernel_rfl) ?_
                  have w1' : IntKind.i64.wrap ((ra.at_ : Int) + 4096) = (ra.at_ : Int) + 4096 := IntWalk.i64_in _ ⟨by omega, by omega⟩
                  have w2' : (0 : Int) ≤ (ra.at_ : Int) + 4096 := by omega
                  have w3' : ((ra.at_ : Int) + 4096).toNat = ra.at_ + 4096 := by omega
                  have w4' : ra.at_ + 4096 ≤ vc := by omega
                  have w5' : ra.at_ ≤ ra.at_ + 4096 := by omega
                  have w6' : (ra.at_ : Int) + 4096 ≤ (vc : Int) := by omega
                  have hvne : (vc = ra.at_) = False := by simp; omega
                  have hpgl : ((b.drop ra.at_).take 4096).length = 4096 := by rw [List.length_take, List.length_drop]; omega
                  have hpgb : ∀ y ∈ (b.drop ra.at_).take 4096, 0 ≤ y ∧ y ≤ 255 := fun y hy => HB.out y (List.mem_of_mem_drop (List.mem_of_mem_take hy))
                  have HPC : Hid (∀ wz, Keeps (fun y => S y) w3 wz → ∀ q u, (((b.drop ra.at_).take 4096).map (Value.int .u8))[q]? = some u → wz.cell? ((⟨bb, off + ra.at_, none⟩ : Addr).add q) = some u) := fun wz hkz => page_cells HVR.out hkz hsl
                  obtain ⟨pg, hpg⟩ : ∃ pg, pg = (b.drop ra.at_).take 4096 := ⟨_, rfl⟩
                  rw [← hpg] at hpgl hpgb HPC
                  have HPG2 := Lib.hid hpg; have HPGL := Lib.hid hpgl; have HPGB := Lib.hid hpgb
                  clear hpg hpgl hpgb
                  have HI : Hid ((Tryd.prog.info? 103).map (·.size) = some (pg.map (Value.int .u8)).length) := by
                    show _ = _
                    rw [List.length_map, HPGL.out]; exact Tryd.pageInfo
                  obtain ⟨dz, hdz⟩ : ∃ dz, dz = decide (pg = zpage) := ⟨_, rfl⟩
                  have HDZ := Lib.hid hdz; clear hdz
                  repeat (quiet_step (fail))
                  refine q_arrayAt rfl 103 _ rfl 5 4096 _ _ _ rfl Tryd.underlying103 (Nat.le_refl _) ?_
                  refine q_loadArr rfl 103 _ rfl ⟨bb, off + ra.at_, none⟩ rfl 4096 5 Tryd.underlying103 (pg.map (Value.int .u8)) HI.out (fun wz hwz => by obtain ⟨nz, rfl⟩ := hwz; exact HPC.out _ ((Keeps.of_drewN _).drewN _)) ?_
                  refine q_build rfl 103 rfl _ Tryd.pageZero ?_
                  refine q_binOp rfl .eql 103 103 _ _ rfl _ _ (.bool dz) rfl rfl (fun wz => run_eqGuard_agg wz _ _ _ _ _ _ Tryd.pageGuard) (fun wz => by rw [HDZ.out]; exact run_eql_arr (P := Tryd.prog) wz 103 5 4096 Tryd.underlying103 Tryd.underlying5 Tryd.u8Size pg zpage HPGB.out zpage_bytes HPGL.out zpage_len) ?_
                  refine wpQuiet_nil ?_
                  intro _ hw'
                  obtain ⟨nq2, hw''⟩ := hw'
                  subst hw''
                  clear w1' w2' w3' w4' w5' w6'
                  cases dz with
                  | true =>
                    have hz : pg = zpage := of_decide_eq_true HDZ.out.symm
                    have E : Hid (rpages b r = ([], ra.no 12 ra.at_)) := by
                      show _ = _
                      rw [HE.out, HST.out, EM.out, rpageStep, if_neg (by simp [HE0.out]), if_pos (by simp only; rw [← HPG2.out]; exact hz)]
                    have hr' : (ra.no 12 ra.at_).e = 12 := by rw [RS.no, if_pos HE0.out]
                    have HR' := Lib.hid hr'; clear hr' hz
                    go_wp2_with fail
                    (with_reducible refine (rd_noP (HPA.out.drewN _) 12 ra.at_ ra.at_ rfl).mono ?_)
                    rintro e w4 ⟨rfl, hpb⟩
                    have HPB := Lib.hid hpb; clear hpb
                    generalize ra.no 12 ra.at_ = rb at *
                    go_wp2
                    go_ret
                    rw [E.out]
                    exact ⟨_, rfl, ⟨[], PgOwn.nil _ _⟩, HPB.out.rr, HPB.out.keep⟩
                  | false =>
                    have hz : pg ≠ zpage := of_decide_eq_false HDZ.out.symm
                    have E := Lib.hid (rpage_go HE.out HST.out EM.out HE0.out HPG2.out hz)
                    clear hz
                    have hxl : x < gs.length := by rw [HGK.out]; omega
                    obtain ⟨lg, lc, hu4, _, hlg⟩ := HPA.out.pg.own.form (by omega)
                    subst hu4
                    have hgx : gs[x]? = some gs[x] := List.getElem?_eq_getElem hxl
                    have lcell : w3.cell? ⟨lg, x, none⟩ = some (.slice (some ⟨gs[x], 0, none⟩) 4096 4096) := by
                      have := HPA.out.pg.own.cells (g := lg) rfl x (pgv gs[x]) (by rw [List.getElem?_map, hgx]; rfl)
                      unfold Addr.add at this
                      split at this
                      · rename_i e0; subst e0; exact this
                      · simpa [pgv] using this
                    have hrow := HPA.out.pg.row x gs[x] hgx
                    have hsz0 : ((ps.getD x []).map (Value.int .u8)).toArray.size = 4096 := by
                      have hxp : x < ps.length := by rw [← HPA.out.pg.len]; exact hxl
                      have := (HPA.out.pg.page ps[x] (List.getElem_mem _)).1
                      simp [hxp, this]
                    have HSZ1 : Hid ((ps[x]?.getD []).length = 4096) := by
                      have hxp : x < ps.length := by rw [← HPA.out.pg.len]; exact hxl
                      have := (HPA.out.pg.page ps[x] (List.getElem_mem _)).1
                      show _ = _
                      simp [hxp, this]
                    have HGX := Lib.hid hgx; have HROW := Lib.hid hrow; have HSZ0 := Lib.hid hsz0
                    clear hgx hrow hsz0
                    have hxi : (x : Int) < (gs.length : Int) := by omega
                    have hxi0 : (0 : Int) ≤ (x : Int) := by omega
                    have hgsl : gs.length ≤ 64 := by rw [HGK.out]; exact hnle
                    generalize gs[x] = gx at *
                    go_wp2_with fail
                    simp only [Act.put, List.setIfInBounds_toArray, List.set_cons_succ, List.set_cons_zero]
                    go_cut [] (fun wx => Hid (PS S w p (.slice (some ⟨bb, off, none⟩) b.length vc) b w1.heap.size (.slice (some ⟨lg, 0, none⟩) gs.length lc) gs (ps.set x pg) ra wx))
                    case first =>
                      go_region_law (refine step_copy_set (by rfl) _ _ 31 31 (by rfl) 5 Tryd.underlying31 (by kernel_rfl) gx 0 4096 4096 ⟨bb, off + ra.at_, none⟩ (b.length - ra.at_) (vc - ra.at_) (by rfl) (by rfl) ((ps.getD x []).map (Value.int .u8)).toArray 5 (by exact HROW.out) (pg.map (Value.int .u8)) (by rw [List.length_map, HPGL.out]; simp only [Nat.min_def]; split <;> omega) (by exact HPC.out _ ((Keeps.of_drewN _).drew)) (by rw [List.length_map, HPGL.out, HSZ0.out]; omega) (by intro u hu; simp at hu; obtain ⟨_, _, rfl⟩ := hu; rfl) ?_)
                      all_goals (go_wp2_with fail; go_meet; exact (HPA.out.drewN _).setPage HGX.out HPGL.out HPGB.out (by rw [List.drop_of_length_le (by rw [List.length_map, HSZ1.out, HPGL.out]; omega), List.append_nil]))
                    case rest =>
                      have HPB : Hid _ := hcut
                      have z := HPB.out.cells
                      have z1 := z.2.1; have zf := z.2.2.2
                      have HFin := Lib.hid (HPB.out.advance (ra.at_ + 4096) hsl)
                      clear z hcut
                      go_wp2_with fail
                      go_roundw
                      case rel => exact ⟨j + 1, x + 1, _, _, by omega, by go_num, by go_num, by omega, HFin, E⟩
                      case measure => simp [intOf]; omega
          · have hx0 := hxe he
            subst hx0
            have E : Hid (rpages b r = ([], ra)) := by
              show _ = _
              rw [HE.out, HST.out, rpageMid_err he, rpageStep, if_pos he]
            have he1 : (ra.e == 0) = false := by simp [he]
            have he2 : (ra.e != 0) = true := by simp [he]
            have HNO : Hid (ra.no 18 r3.at_ = ra) := by show _ = _; rw [RS.no, if_neg he]
            clear he
            by_cases hb0 : 0 < behind
            · go_wp2_with fail
              (with_reducible refine (rd_noP HPA.out 18 r3.at_ r3.at_ rfl).mono ?_)
              rintro e w4 ⟨rfl, hpb⟩
              rw [HNO.out] at hpb
              have HPB := Lib.hid hpb; clear hpb
              have z := HPB.out.cells
              have z2 := z.2.2.1; have z1 := z.2.1; have z0 := z.1
              clear z
              go_wp2
              go_quiet (fail)
              go_wp2
              go_ret
              rw [E.out]
              exact ⟨_, rfl, ⟨[], PgOwn.nil _ _⟩, (HPB.out.drewN _).rr, (HPB.out.drewN _).keep⟩
            · have hb0' : behind = 0 := by omega
              subst hb0'
              have z := HPA.out.cells
              have z2 := z.2.2.1; have z1 := z.2.1; have z0 := z.1
              clear z
              go_wp2
              go_quiet (fail)
              go_wp2
              go_ret
              rw [E.out]
              exact ⟨_, rfl, ⟨[], PgOwn.nil _ _⟩, (HPA.out.drewN _).rr, (HPA.out.drewN _).keep⟩
        · obtain rfl : j = K := by omega
          have E : Hid (rpages b r = (ps, r3)) := by show _ = _; rw [HE.out, Nat.sub_self, rpagesGo]
          go_wp2
          go_ret
          rw [E.out]
          exact ⟨_, rfl, ⟨gs, pg_base HP.out.pg hsz1⟩, HP.out.rr, HP.out.keep⟩
end Go.Proofs.YthlkckpadjjbdaaDoor
