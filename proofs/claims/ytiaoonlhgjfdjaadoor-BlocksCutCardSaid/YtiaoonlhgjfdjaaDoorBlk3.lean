/- blocks.segments as a value; slices.Equal; what a body that collects needs. -/
import Derived.Test.YtiaoonlhgjfdjaaDoorBlk2
import Derived.Test.YtiaoonlhgjfdjaaDoorShelf
import Derived.Test.YtiaoonlhgjfdjaaDoorKept0
namespace Go.Proofs.YtiaoonlhgjfdjaaDoor
open Go Go.RowKit Go.Shelf
attribute [local go_sem] Oper.semAt_some

theorem seg_in (F : Fence) (n : Nat) (hF : F.fn 38) (hro : F.round = none) (a : Option Addr) (k c : Nat) (w : World) :
    CallsIn F n Tryd.prog 38 #[.slice a k c] w fun e w' => e = .returned (.func (.func 73) #[] #[.pointer (some ⟨w.heap.size, 0, none⟩)]) ∧ w' = w.alloc (.cells #[.slice a k c] 35) := by
  refine callsIn_of_wp Tryd.func38 rfl hF ?_ hro
  simp only [Tryd.ntmps38, List.size_toArray, List.length_cons, List.length_nil, Nat.reduceAdd, Nat.reduceSub, Array.replicate_succ, Array.replicate_zero, List.push_toArray, List.append_toArray, List.nil_append, List.cons_append]
  gi_wp2
  go_ret
  exact ⟨rfl, rfl⟩
theorem seg_stops (F : Fence) (n : Nat) (hF : F.fn 73) (hro : F.round = none) (hn : 1 ≤ n) (Bn : Nat) (S : Nat → Prop) (v : Value) (l : List Bool) (hl : l.length ≤ 1048576) (w : World) (hBn : S Bn)
    (hc : w.cell? ⟨Bn, 0, none⟩ = some v) (hr : RdBo S w v l) :
    SeqStopsK F n Tryd.prog 73 #[.pointer (some ⟨Bn, 0, none⟩)] (fun x : Sg => #[Value.int .i64 (x.1 : Nat), Value.int .i64 (x.2 : Nat)]) (Keeps S) (fun ys => ys = sgs l) (fun pre => pre <+: sgs l) l.length w :=
  fun ly J Jx W hW _ _ hY h0 => seg1_in F n hF hro hn ly Bn S v l hl J Jx hY W hBn ((Keeps.all S hW).cell hc hBn) (hr.keeps (Keeps.all S hW)) h0
theorem getD_z {l : List Int} {j : Nat} (h : j < l.length) : l.getD j 0 = l[j] := by
  rw [List.getD_eq_getElem?_getD, List.getElem?_eq_getElem h]; rfl
theorem slices_eq (w : World) (S1 S2 : Nat → Prop) (v1 v2 : Value) (l1 l2 : List Int) (h1 : RdI .i64 S1 w v1 l1) (h2 : RdI .i64 S2 w v2 l2) :
    Calls Tryd.prog 37 #[v1, v2] w fun e w' => e = .returned (.bool (decide (l1 = l2))) ∧ ∃ q, w' = w.drewN q := by
  obtain ⟨a1, c1, rfl, -, hl1, hc1⟩ := h1
  obtain ⟨a2, c2, rfl, -, hl2, hc2⟩ := h2
  by_cases hlen : l1.length = l2.length
  · by_cases h0 : l1.length = 0
    · obtain rfl : l1 = [] := List.eq_nil_of_length_eq_zero h0
      obtain rfl : l2 = [] := List.eq_nil_of_length_eq_zero (by rw [← hlen]; exact h0)
      refine (Tryd.slices_Equal_int_empty a1 a2 c1 0 c2 w (by omega)).mono ?_
      rintro e w' ⟨rfl, rfl⟩
      exact ⟨rfl, 0, rfl⟩
    · obtain ⟨b1, o1, rfl, _, _⟩ := hc1 0 (by omega)
      obtain ⟨b2, o2, rfl, _, _⟩ := hc2 0 (by omega)
      refine (Tryd.slices_Equal_int b1 o1 l1.length c1 b2 o2 l2.length c2 l1 l2 w (Nat.le_refl _) (Nat.le_refl _) (by omega) (by omega) (fun j hj => ?_) (fun j hj => ?_)).mono ?_
      · obtain ⟨b', o', e, _, h⟩ := hc1 j hj
        simp only [Option.some.injEq, Addr.mk.injEq, and_true] at e
        obtain ⟨rfl, rfl⟩ := e
        rw [getD_z hj]; exact h
      · obtain ⟨b', o', e, _, h⟩ := hc2 j hj
        simp only [Option.some.injEq, Addr.mk.injEq, and_true] at e
        obtain ⟨rfl, rfl⟩ := e
        rw [getD_z hj]; exact h
      · rintro e w' ⟨rfl, h⟩
        refine ⟨?_, h⟩
        rw [List.take_length, List.take_length]
        by_cases e : l1 = l2
        · subst e; simp
        · rw [decide_eq_false e]; simp [e]
  · refine (Tryd.slices_Equal_int_lens a1 a2 l1.length c1 l2.length c2 w hlen).mono ?_
    rintro e w' ⟨rfl, rfl⟩
    exact ⟨by rw [decide_eq_false (fun e => hlen (by rw [e]))], 0, rfl⟩
theorem wpListIn_append_kept {F : Fence} {m0 : Nat} {P : Program} (w : World) {ops : Array Oper} {rest : List Oper} {o : Oper} {a : Act} {Q : Exit → Act → World → Prop} (hgd : o.guard = none) (s x : Operand) (t : TypeId)
    (ho : o.op = Op.call { callee := Callee.builtin Builtin.append, args := #[s, x], argTypes := #[t, t] })
    (base : Nat) (e : TypeId) (i : TypeInfo) (z : Value) (size bytes : Nat) (ht : P.underlying t = some (.slice e)) (hi : P.info? e = some i) (hz : i.zero = some z)
    (hsize : i.size = size) (hby : i.bytes = bytes) (hzs : z.cells.size = size) (hsz : 0 < size)
    (v : Value) (n : Nat) (xs : List Value) (hs : a.eval s = v) (hown : w.ownsRow base e size v n xs)
    (ad : Addr) (m c : Nat) (news : List Value) (hx : a.eval x = .slice (some ad) m c) (hl : news.length = m * size) (hnews : ∀ j u, news[j]? = some u → w.cell? (ad.add j) = some u) (h1 : ∀ u ∈ news, u.oneCell' = true)
    (h63 : n + m ≤ maxLen) (hbytes : (n + m) * bytes ≤ 140737488355328) (hbase : base ≤ w.heap.size)
    (h : ∀ v' w', w'.ownsRow base e size v' (n + m) (xs ++ news) → Kept w w' v.ownBlock (n * size) → (∀ g, v'.ownBlock = some g → v.ownBlock = some g ∨ w.heap.size ≤ g) → wpListIn F m0 P ops Q rest (a.put o.dst v') w') : wpListIn F m0 P ops Q (o :: rest) a w := by
  refine wpListIn_plain hgd fun K hK' => ?_
  obtain ⟨v', w', hrun, r1, r2, r3⟩ := run_append_kept (P := P) w base t o.type e i z size bytes ht hi hz hsize hby hzs hsz v n xs hown ad m c news hl hnews h1 h63 hbytes hbase
  unfold Oper.wpIn
  refine ⟨?_, ?_⟩
  · simp [Oper.about, ho, resolve, Target.leads, Sem.run_pure]
  · rw [Oper.semAt_plain F _ _ (by rw [ho]; intro c hc'; cases hc')]
    simp [execOp, ho, resolve, invoke, builtin, hs, hx, hrun, Result.andThen]
    exact hK' _ _ (h v' w' r1 r2 r3)
/-- What has been gathered of the segments xs. -/
def startsS (xs : List Sg) : List Int := xs.flatMap fun x => List.replicate (x.2 : Nat) (x.1 : Int)
def leftsS (xs : List Sg) : List Int := xs.flatMap fun x => (List.range (x.2 : Nat)).map fun i => (((x.2 : Nat) - i : Nat) : Int)
theorem startsS_app (xs : List Sg) (x : Sg) : startsS (xs ++ [x]) = startsS xs ++ List.replicate (x.2 : Nat) (x.1 : Int) := by simp [startsS]
theorem leftsS_app (xs : List Sg) (x : Sg) : leftsS (xs ++ [x]) = leftsS xs ++ (List.range (x.2 : Nat)).map fun i => (((x.2 : Nat) - i : Nat) : Int) := by simp [leftsS]
theorem startsS_len : ∀ xs : List Sg, (startsS xs).length ≤ 16 * xs.length
  | [] => by simp [startsS]
  | x :: xs => by
    have := startsS_len xs
    have hx := x.2.isLt
    show (List.replicate (x.2 : Nat) (x.1 : Int) ++ startsS xs).length ≤ _
    rw [List.length_append, List.length_replicate, List.length_cons]; omega
theorem leftsS_len : ∀ xs : List Sg, (leftsS xs).length ≤ 16 * xs.length
  | [] => by simp [leftsS]
  | x :: xs => by
    have := leftsS_len xs
    have hx := x.2.isLt
    show (((List.range (x.2 : Nat)).map fun i => (((x.2 : Nat) - i : Nat) : Int)) ++ leftsS xs).length ≤ _
    rw [List.length_append, List.length_map, List.length_range, List.length_cons]; omega
theorem segsP_hi {l : List Bool} {n : Nat} : ∀ k f, ∀ x ∈ segsP l n k f, x.2 ≤ 16
  | 0, f, x, h => by rw [segsP] at h; cases h
  | k + 1, f, x, h => by
    rw [segsP] at h
    split at h
    · rcases List.mem_cons.1 h with rfl | h
      · exact segG_hi l n f 16 1 (by omega)
      · exact segsP_hi k _ x h
    · cases h
theorem starts_sg : ∀ xs : List (Nat × Nat), (∀ x ∈ xs, x.2 ≤ 16) → startsS (xs.map sgOf) = startsOf xs ∧ leftsS (xs.map sgOf) = leftsOf xs
  | [], _ => ⟨rfl, rfl⟩
  | x :: xs, h => by
    obtain ⟨h1, h2⟩ := starts_sg xs fun y hy => h y (List.mem_cons_of_mem _ hy)
    have hx := h x (List.mem_cons_self ..)
    have e : ((sgOf x).2 : Nat) = x.2 := by unfold sgOf; simp; omega
    refine ⟨?_, ?_⟩
    · show List.replicate ((sgOf x).2 : Nat) (x.1 : Int) ++ startsS (xs.map sgOf) = List.replicate x.2 (x.1 : Int) ++ startsOf xs
      rw [e, h1]
    · show ((List.range ((sgOf x).2 : Nat)).map fun i => ((((sgOf x).2 : Nat) - i : Nat) : Int)) ++ leftsS (xs.map sgOf) = ((List.range x.2).map fun i => ((x.2 - i : Nat) : Int)) ++ leftsOf xs
      rw [e, h2]
theorem sgs_all (l : List Bool) : startsS (sgs l) = startsL l l.length ∧ leftsS (sgs l) = leftsL l l.length := by
  unfold sgs segsQ
  obtain ⟨h1, h2⟩ := starts_sg _ (segsP_hi (l := l) (n := l.length) l.length 0)
  rw [h1, h2, segs_startsL, segs_leftsL]; exact ⟨rfl, rfl⟩
end Go.Proofs.YtiaoonlhgjfdjaaDoor
