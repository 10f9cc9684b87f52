/- flagonlaw04.InstrBack, walked. -/
import Derived.Test.YtmlniifdipeboaaDoorLaw04
import Derived.Laws.AppendOwnNone
namespace Go.Proofs.YtmlniifdipeboaaDoor
open Go Go.RowKit

/-- A slice that is nil, or has an address. -/
def NilOr (v : Value) : Prop := v = .slice none 0 0 ∨ ∃ a n c, v = .slice (some a) n c
/-- 'append(own, bytes...)'. -/
theorem append_bytes {ops : Array Oper} {rest : List Oper} {o : Oper} {a : Act} {Q : Exit → Act → World → Prop} (w : World) (hgd : o.guard = none) (s x : Operand)
    (ho : o.op = .call { callee := .builtin .append, args := #[s, x], argTypes := #[34, 34] })
    (base : Nat) (v : Value) (n : Nat) (xs : List Value) (hs : a.eval s = v) (hown : w.ownsRow base 5 1 v n xs) (v1 : Value) (hx : a.eval x = v1) (S) (l : List Int) (hr : RdI .u8 S w v1 l) (hn : NilOr v1)
    (hb : n + l.length ≤ 140737488355328) (hbase : base ≤ w.heap.size)
    (h : ∀ v' w', w'.ownsRow base 5 1 v' (n + l.length) (xs ++ l.map (Value.int .u8)) → w.grownBy w' v.ownBlock → wpList Tryd.prog ops Q rest (a.put o.dst v') w') : wpList Tryd.prog ops Q (o :: rest) a w := by
  obtain ⟨i0, hi, hz0, hz1, hz2⟩ := info_parts Tryd.infoU8
  rcases hn with rfl | ⟨ad, m, c, rfl⟩
  · have hl : l = [] := by obtain ⟨_, _, e, _⟩ := hr; simp only [Value.slice.injEq] at e; exact List.eq_nil_of_length_eq_zero e.2.1.symm
    subst hl
    refine wpList_append_own_none hgd s x _ ho base 5 i0 1 Tryd.underlying34 hi v n xs hs hown hx ?_
    exact h v w (by simpa using hown) ⟨rfl, rfl, rfl, Nat.le_refl _, fun _ _ _ => rfl⟩
  · obtain ⟨cap, e⟩ : ∃ cap, Value.slice (some ad) m c = .slice (some ad) l.length cap := by obtain ⟨a', c', e, _⟩ := hr; simp only [Value.slice.injEq] at e; exact ⟨c, by rw [e.2.1]⟩
    simp only [Value.slice.injEq, true_and] at e
    obtain ⟨rfl, rfl⟩ := e
    exact wpList_append_own w hgd s x _ ho base 5 i0 (.int .u8 0) 1 1 Tryd.underlying34 hi hz0 hz1 hz2 rfl (by decide) v n xs hs hown ad l.length c (l.map (Value.int .u8)) hx (by simp) hr.news
      (by intro u hu; simp at hu; obtain ⟨x, _, rfl⟩ := hu; rfl) (by unfold maxLen; omega) (by omega) hbase fun v' w' ho' hg' _ => h v' w' ho' hg'
/-- Part of a list of bytes. -/
theorem RdI.sub {k : IntKind} {S : Nat → Prop} {w : World} {b o n c : Nat} {l : List Int} (h : RdI k S w (.slice (some ⟨b, o, none⟩) n c) l) (q m : Nat) (hm : q + m ≤ l.length) : RdI k S w (.slice (some ⟨b, o + q, none⟩) m (c - q)) ((l.drop q).take m) := by
  obtain ⟨a', c', e, h1, h2, h3⟩ := h
  simp only [Value.slice.injEq] at e
  obtain ⟨rfl, _, rfl⟩ := e
  have hl : ((l.drop q).take m).length = m := by simp; omega
  refine ⟨_, c - q, by rw [hl], by omega, by omega, fun j hj => ?_⟩
  obtain ⟨b', o', e, hs, hc⟩ := h3 (q + j) (by omega)
  simp only [Option.some.injEq, Addr.mk.injEq, and_true] at e
  obtain ⟨rfl, rfl⟩ := e
  refine ⟨b, o + q, rfl, hs, ?_⟩
  rw [Nat.add_assoc, hc]
  simp
theorem dec_err {b : List Int} {p : Int} (h : (decI b p).2.2 ≠ 0) : (decI b p).2.1 = 0 := by
  unfold decI at h ⊢
  split at h
  · rename_i h1; rw [if_pos h1]
  rename_i h1; rw [if_neg h1]
  split at h
  · rename_i h2; rw [if_pos h2]
  rename_i h2; rw [if_neg h2]
  split at h
  · rename_i h3; rw [if_pos h3]
  rename_i h3; rw [if_neg h3]
  split at h
  · rename_i h4; rw [if_pos h4]
  · exact absurd rfl h
theorem bytes_app {a b : List Int} (ha : Bytes a) (hb : Bytes b) : Bytes (a ++ b) := fun x hx => (List.mem_append.1 hx).elim (ha x) (hb x)
theorem bytes_uv {n : Nat} (h : n ≤ 18446744073709551615) : Bytes (uv n) := fun x hx => uv_byte 10 n (Nat.lt_of_le_of_lt h (by decide)) x hx
theorem bytes_uvs {l : List Int} (h : ∀ n ∈ l, smallI n = true) : Bytes (uvs l) := by
  intro x hx
  simp only [uvs, List.mem_flatMap] at hx
  obtain ⟨n, hn, hx⟩ := hx
  have hs : 0 ≤ n ∧ n ≤ 2147483647 := by simpa [smallI] using h n hn
  exact bytes_uv (by omega) x hx
theorem enc_ok {x : InsD} (wf : WfIns x) (hc : checkI x = 0) : Bytes (encI x) ∧ (encI x).length ≤ 200 := by
  obtain ⟨k1, k2, k3, k4⟩ := check_ok hc
  have he : encI x = (x.op : Int) :: tailI x := by rw [encI, if_pos hc]
  have ho : Bytes [(x.op : Int)] := by intro y hy; simp at hy; have := wf.op; omega
  have ht : Bytes (tailI x) ∧ (tailI x).length ≤ 180 := by
    unfold tailI
    split
    · rename_i h3
      obtain ⟨j1, j2, j3⟩ := k3 h3
      have := uvs_len j3
      have := uv_len10 (n := x.l.length) (by omega)
      exact ⟨bytes_app (bytes_uv (by omega)) (bytes_uvs j3), by rw [List.length_append]; omega⟩
    split
    · exact ⟨bytes_uv (zig_le wf.a), by have := uv_len10 (zig_le wf.a); omega⟩
    split
    · rename_i hu
      have hb := bounds_u hu
      have hi : (boundsI x.op).1 ≤ x.a ∧ x.a ≤ (boundsI x.op).2 := by simpa [inI] using k2
      exact ⟨bytes_uv (by omega), by have := uv_len10 (n := x.a.toNat) (by omega); omega⟩
    · exact ⟨fun x hx => by simp at hx, by simp⟩
  rw [he]
  exact ⟨bytes_app ho ht.1, by rw [List.length_cons]; omega⟩
/-- What stays while the law goes on: the box, the bytes behind. -/
structure Bk (w : World) (x : InsD) (vl v1 v2 : Value) (ah be : List Int) (wx : World) : Prop where
  bel : Below w.heap.size w wx
  tb : Tb wx
  row : wx.heap[w.heap.size]? = some (.cells #[.int .u8 x.op, .int .i64 x.a, vl] 81 (0, 0))
  rx : RdI .i64 (· < w.heap.size) wx vl x.l
  r1 : RdI .u8 (· < w.heap.size) wx v1 ah
  r2 : RdI .u8 (· < w.heap.size) wx v2 be
theorem Bk.on {w x vl v1 v2 ah be wx wy} (h : Bk w x vl v1 v2 ah be wx) (hb : Below wx.heap.size wx wy) : Bk w x vl v1 v2 ah be wy :=
  ⟨below_next h.bel hb, h.tb.bel hb, (hb.block _ (row_lt h.row)).trans h.row, h.rx.keeps (Keeps.all _ hb), h.r1.keeps (Keeps.all _ hb), h.r2.keeps (Keeps.all _ hb)⟩
theorem row_on4 {w w' : World} {g : Nat} {o : Obj} (h : Hid (w.heap[g]? = some o)) (hb : Below w.heap.size w w') : Hid (w'.heap[g]? = some o) := Lib.hid ((hb.block _ (row_lt h.out)).trans h.out)
theorem keepG {B : Nat} {wx wy : World} {vo : Value} (hg : wx.grownBy wy vo.ownBlock) (hlt : ∀ k, vo.ownBlock = some k → B ≤ k) : Keeps (· < B) wx wy :=
  (Keeps.refl _ wx).grown hg fun k hk _ h => by have := hlt k hk; omega
theorem Bk.keep {w x vl v1 v2 ah be wx wy B} (h : Bk w x vl v1 v2 ah be wx) (ht : Tb w) (hk : Keeps (· < B) wx wy) (hB : w.heap.size < B) : Bk w x vl v1 v2 ah be wy :=
  have hb : Below w.heap.size w wy := h.bel.trans (hk.below h.bel.size fun _ hy => Nat.lt_trans hy hB)
  ⟨hb, ht.bel hb, (hk.block _ (row_lt h.row) hB).trans h.row, h.rx.keeps (hk.mono fun _ _ hy => Nat.lt_trans hy hB), h.r1.keeps (hk.mono fun _ _ hy => Nat.lt_trans hy hB), h.r2.keeps (hk.mono fun _ _ hy => Nat.lt_trans hy hB)⟩
theorem Bk.new {w x vl v1 v2 ah be} (ht : Tb w) (hx : RdI .i64 (· < w.heap.size) w vl x.l) (h1 : RdI .u8 (· < w.heap.size) w v1 ah) (h2 : RdI .u8 (· < w.heap.size) w v2 be) : Bk w x vl v1 v2 ah be (w.alloc (.cells #[.int .u8 x.op, .int .i64 x.a, vl] 81)) :=
  ⟨below_alloc _ _, ht.bel (below_alloc _ _), heap_alloc_new _ _, hx.alloc _, h1.alloc _, h2.alloc _⟩

set_option maxRecDepth 100000 in
set_option maxHeartbeats 6400000 in
theorem law_back04 (w : World) (x : InsD) (vl v1 v2 : Value) (ah be : List Int) (p : Int) (wf : WfIns x) (hx : RdI .i64 (· < w.heap.size) w vl x.l) (h1 : RdI .u8 (· < w.heap.size) w v1 ah) (h2 : RdI .u8 (· < w.heap.size) w v2 be)
    (b1 : Bytes ah) (b2 : Bytes be) (n1 : NilOr v1) (n2 : NilOr v2) (ht : Tb w) :
    Calls Tryd.prog 6 #[.agg #[.int .u8 x.op, .int .i64 x.a, vl], v1, v2, .int .i64 p] w fun e w' => e = .returned (.bool true) ∧ Below w.heap.size w w' := by
  have HK0 := Lib.hid (Bk.new ht hx h1 h2)
  have HT := Lib.hid ht
  have HBa := Lib.hid b1; have HBe := Lib.hid b2; have HN1 := Lib.hid n1; have HN2 := Lib.hid n2; have HWf := Lib.hid wf
  obtain ⟨al, cl, rfl, hlm⟩ := hx.len
  obtain ⟨a1, c1, rfl, hlm1⟩ := h1.len
  obtain ⟨a2, c2, rfl, hlm2⟩ := h2.len
  clear ht hx h1 h2 b1 b2 n1 n2 wf
  obtain ⟨op, a, l⟩ := x
  simp only at *
  go_enter Tryd.func6, Tryd.ntmps6
  go_wp2_with fail
  generalize w.alloc (.cells #[.int .u8 op, .int .i64 a, .slice al l.length cl] 81) = w0 at *
  refine (law_works04 _ HK0.out.tb).mono ?_
  rintro e w1 ⟨rfl, hb1⟩
  have HK1 := Lib.hid (HK0.out.on hb1)
  clear hb1 HK0
  have x0 := row_cell HK1.out.row 0 rfl; have x1 := row_cell HK1.out.row 1 rfl; have x2 := row_cell HK1.out.row 2 rfl
  simp only [List.getElem_toArray, List.getElem_cons_zero, List.getElem_cons_succ] at x0 x1 x2
  have F1 : IntKind.i64.wrap ((l.length : Int) + ah.length) = ((l.length + ah.length : Nat) : Int) := by rw [IntWalk.i64_in _ ⟨by omega, by omega⟩]; push_cast; rfl
  have F2 : IntKind.i64.wrap (((l.length + ah.length : Nat) : Int) + be.length) = ((l.length + ah.length + be.length : Nat) : Int) := by rw [IntWalk.i64_in _ ⟨by omega, by omega⟩]; push_cast; rfl
  by_cases hbig : 65536 < l.length + ah.length + be.length
  · go_wp2
    go_ret
    exact ⟨rfl, HK1.out.bel⟩
  go_wp2_with fail
  clear F1 F2
  refine (instr_Encode _ _ ⟨op, a, l⟩ _ HWf.out HK1.out.rx HK1.out.tb).mono ?_
  rintro e w2 ⟨v10, rfl, hb2, hown2, hnil2⟩
  have HK2 := Lib.hid (HK1.out.on hb2)
  have hB : w.heap.size < w2.heap.size := Nat.lt_of_lt_of_le (row_lt HK1.out.row) hb2.size
  clear hb2 HK1 x0 x1 x2
  obtain ⟨c, hc⟩ : ∃ c, checkI ⟨op, a, l⟩ = c := ⟨_, rfl⟩
  rw [hc] at hnil2 ⊢
  by_cases hc0 : ¬ c = 0
  · obtain rfl := hnil2 hc0
    have hc1 : (c == 0) = false := by rw [beq_eq_false_iff_ne]; exact hc0
    clear hown2 hnil2 hc hc0
    go_wp2_with fail
    have HK := HK2
    clear HK2
    refine (instr_Decode _ _ (.slice a2 be.length c2) be p HBe.out HK.out.r2 (fun k hk => Nat.lt_of_lt_of_le hk HK.out.bel.size) HK.out.tb).mono ?_
    rintro e w8 ⟨⟨vy, rfl, hry⟩, hb8⟩
    have HK8 := Lib.hid (HK.out.on hb8)
    have HDI := Lib.hid (fun h => decI_inv (b := be) HBe.out (p := p) h)
    have HDE := Lib.hid (fun h => dec_err (b := be) (p := p) h)
    obtain ⟨⟨⟨yo, ya, yl⟩, nx, f⟩, hD⟩ : ∃ r, decI be p = r := ⟨_, rfl⟩
    rw [hD] at HDI HDE hry ⊢
    simp only at HDI HDE hry ⊢
    clear hb8 HK hD
    obtain ⟨ay, cy, rfl, _⟩ := hry.lenc
    have hry8 := hry.any
    have hb9 := below_alloc w8 (.cells #[.int .u8 yo, .int .i64 ya, .slice ay yl.length cy] 81)
    have hr9 := heap_alloc_new w8 (.cells #[.int .u8 yo, .int .i64 ya, .slice ay yl.length cy] 81)
    have HK9 := Lib.hid (HK8.out.on hb9)
    have HY9 := Lib.hid (hry8.bel hb9)
    have HR9 := Lib.hid hr9
    have y0 := row_cell hr9 0 rfl; have y1 := row_cell hr9 1 rfl; have y2 := row_cell hr9 2 rfl
    simp only [List.getElem_toArray, List.getElem_cons_zero, List.getElem_cons_succ] at y0 y1 y2
    clear hb9 hr9 hry hry8 HK8
    by_cases hf : f = 0
    · subst hf
      obtain ⟨q, rfl, k2, k3, k4, k5, k6, k7⟩ := HDI.out rfl
      have HWy := Lib.hid k3; have HCy := Lib.hid k2
      have HSub := Lib.hid k6
      obtain ⟨hby, hly⟩ := enc_ok k3 k2
      clear HDI HDE k3 k6 hby
      go_wp2_with fail
      generalize w8.alloc (.cells #[.int .u8 yo, .int .i64 ya, .slice ay yl.length cy] 81) = w9 at *
      generalize w8.heap.size = g9 at *
      refine (instr_Encode _ _ ⟨yo, ya, yl⟩ _ HWy.out HY9.out HK9.out.tb).mono ?_
      rintro e wa ⟨va, rfl, hba, howna, -⟩
      rw [k2]
      have HKa := Lib.hid (HK9.out.on hba); have HYa := Lib.hid (HY9.out.bel hba); have HRa := row_on4 HR9 hba
      have HVa := Lib.hid (RdI.of_own howna (by omega)).any
      clear hba howna HK9 HY9 HR9 y0 y1 y2
      have y0 := row_cell HRa.out 0 rfl; have y1 := row_cell HRa.out 1 rfl; have y2 := row_cell HRa.out 2 rfl
      simp only [List.getElem_toArray, List.getElem_cons_zero, List.getElem_cons_succ] at y0 y1 y2
      go_wp2_with fail
      refine (instr_Check _ _ ⟨yo, ya, yl⟩ _ HWy.out HYa.out HKa.out.tb).mono ?_
      rintro e wb ⟨rfl, hbb⟩
      rw [HCy.out]
      have HKb := Lib.hid (HKa.out.on hbb); have HVb := Lib.hid (HVa.out.bel hbb)
      clear hbb HKa HYa HRa HVa y0 y1 y2
      obtain ⟨b2, o2, rfl⟩ : ∃ b o, a2 = some ⟨b, o, none⟩ := by
        obtain ⟨a', c', e, _, _, h3⟩ := HKb.out.r2
        simp only [Value.slice.injEq] at e
        obtain ⟨rfl, _, rfl⟩ := e
        obtain ⟨b, o, e1, _⟩ := h3 q (by omega)
        exact ⟨b, o, e1⟩
      have HSb : Hid (RdI .u8 (· < w.heap.size) wb (.slice (some ⟨b2, o2 + q, none⟩) (encI ⟨yo, ya, yl⟩).length (c2 - q)) (encI ⟨yo, ya, yl⟩)) := Lib.hid (by
        have h := HKb.out.r2.sub q (nx - q) (by omega)
        have e : (be.drop q).take (nx - q) = encI ⟨yo, ya, yl⟩ := by rw [HSub.out, show nx - q = (encI ⟨yo, ya, yl⟩).length by omega, List.take_left]
        rw [e, show nx - q = (encI ⟨yo, ya, yl⟩).length by omega] at h
        exact h)
      obtain ⟨_, _, _, hc2, _⟩ := HKb.out.r2
      have hbl : be.length ≤ c2 := by obtain ⟨_, _, e, h, _⟩ := HKb.out.r2; simp only [Value.slice.injEq] at e; omega
      clear hc2 HSub HWy HCy k2
      go_wp2_with fail
      refine (eqBytes _ _ _ va _ (encI ⟨yo, ya, yl⟩) (encI ⟨yo, ya, yl⟩) HVb.out HSb.out).mono ?_
      rintro e wc ⟨rfl, n, rfl⟩
      rw [decide_eq_true (rfl : encI ⟨yo, ya, yl⟩ = encI ⟨yo, ya, yl⟩)]
      go_wp2
      go_ret
      exact ⟨rfl, below_next HKb.out.bel (drewN_below _ _)⟩
    · have hz := HDE.out hf
      subst hz
      have hf' : (f != 0) = true := by rw [bne_iff_ne]; exact hf
      clear HDI HDE hf
      go_wp2
      go_ret
      exact ⟨rfl, HK9.out.bel⟩
  obtain rfl := Decidable.not_not.1 hc0
  obtain ⟨hbe, hle⟩ := enc_ok HWf.out hc
  have hpos : 0 < (encI ⟨op, a, l⟩).length := by rw [encI, if_pos hc]; simp
  have HDL := Lib.hid (decI_encI ⟨op, a, l⟩ HWf.out hc ah be)
  have HBL : Hid (Bytes (ah ++ (encI ⟨op, a, l⟩ ++ be))) := Lib.hid (bytes_app HBa.out (bytes_app hbe HBe.out))
  obtain ⟨g10, c10, rfl, _, _⟩ := hown2.form hpos
  have HV2 : Hid (RdI .u8 (· < w2.heap.size) w2 _ (encI ⟨op, a, l⟩)) := Lib.hid (RdI.of_own hown2 (by omega)).any
  clear hown2 hnil2 hc hc0 hbe
  generalize encI ⟨op, a, l⟩ = E at *
  go_wp2_with (at_builtin; refine append_bytes _ rfl _ _ rfl w2.heap.size _ _ _ rfl (World.ownsRow_nil _ _ _ _) _ rfl _ ah HK2.out.r1 HN1.out (by omega) (Nat.le_refl _) ?_)
  intro v3 w3 hown3 hgrow3
  have hk3 := keepG (B := w2.heap.size) hgrow3 (fun k hk => by simp [Value.ownBlock] at hk)
  have HK3 := Lib.hid (HK2.out.keep HT.out hk3 hB); have HV3 := Lib.hid (HV2.out.keeps hk3)
  have hz3 := hk3.size
  clear HK2 HV2 hgrow3 hk3
  go_wp2_with (at_builtin; refine append_bytes _ rfl _ _ rfl w2.heap.size _ _ _ rfl hown3 _ rfl _ E HV3.out (.inr ⟨_, _, _, rfl⟩) (by omega) hz3 ?_)
  intro v4 w4 hown4 hgrow4
  have hk4 := keepG (B := w2.heap.size) hgrow4 (fun k hk => (hown3.lt k hk).1)
  have HK4 := Lib.hid (HK3.out.keep HT.out hk4 hB)
  have hz4 := Nat.le_trans hz3 hk4.size
  clear HK3 HV3 hgrow4 hk4 hown3 hz3
  go_wp2_with (at_builtin; refine append_bytes _ rfl _ _ rfl w2.heap.size _ _ _ rfl hown4 _ rfl _ be HK4.out.r2 HN2.out (by omega) hz4 ?_)
  intro v5 w5 hown5 hgrow5
  have hk5 := keepG (B := w2.heap.size) hgrow5 (fun k hk => (hown4.lt k hk).1)
  have HK5 := Lib.hid (HK4.out.keep HT.out hk5 hB)
  have hown5' : w5.ownsRow w2.heap.size 5 1 v5 (ah ++ (E ++ be)).length ((ah ++ (E ++ be)).map (Value.int .u8)) := by simpa [Nat.add_assoc] using hown5
  have HV5 := Lib.hid (RdI.of_own hown5' (by simp; omega)).any
  clear HK4 hgrow5 hk5 hown4 hown5 hown5' hz4
  go_wp2_with fail
  refine (instr_Decode _ _ v5 (ah ++ (E ++ be)) ah.length HBL.out HV5.out (fun k h => h) HK5.out.tb).mono ?_
  rintro e w6 ⟨⟨vy, rfl, hry⟩, hb6⟩
  rw [HDL.out] at hry ⊢
  simp only at hry ⊢
  obtain ⟨ay, cy, rfl, _⟩ := hry.lenc
  have HK6 := Lib.hid (HK5.out.on hb6)
  have hb7 := below_alloc w6 (.cells #[.int .u8 op, .int .i64 a, .slice ay l.length cy] 81)
  have hr7 := heap_alloc_new w6 (.cells #[.int .u8 op, .int .i64 a, .slice ay l.length cy] 81)
  have HK7 := Lib.hid (HK6.out.on hb7)
  have HY7 := Lib.hid (hry.any.bel hb7)
  have y0 := row_cell hr7 0 rfl; have y1 := row_cell hr7 1 rfl; have y2 := row_cell hr7 2 rfl
  have x0 := row_cell HK7.out.row 0 rfl; have x1 := row_cell HK7.out.row 1 rfl; have x2 := row_cell HK7.out.row 2 rfl
  simp only [List.getElem_toArray, List.getElem_cons_zero, List.getElem_cons_succ] at x0 x1 x2 y0 y1 y2
  have F3 : IntKind.i64.wrap ((ah.length : Int) + E.length) = ((ah.length + E.length : Nat) : Int) := by rw [IntWalk.i64_in _ ⟨by omega, by omega⟩]; push_cast; rfl
  clear hb6 hb7 hr7 hry HK5 HK6 HV5 HDL HBL
  go_wp2_with fail
  generalize w6.alloc (.cells #[.int .u8 op, .int .i64 a, .slice ay l.length cy] 81) = w7 at *
  refine (eqInsQ _ _ _ ⟨op, a, l⟩ _ _ HK7.out.rx HY7.out).mono ?_
  rintro e w7b ⟨rfl, hb7⟩
  have HK := Lib.hid (HK7.out.on hb7)
  clear hb7 HK7 HY7 x0 x1 x2 y0 y1 y2 F3
  go_wp2_with fail
  refine (instr_Decode _ _ (.slice a2 be.length c2) be p HBe.out HK.out.r2 (fun k hk => Nat.lt_of_lt_of_le hk HK.out.bel.size) HK.out.tb).mono ?_
  rintro e w8 ⟨⟨vy, rfl, hry⟩, hb8⟩
  have HK8 := Lib.hid (HK.out.on hb8)
  have HDI := Lib.hid (fun h => decI_inv (b := be) HBe.out (p := p) h)
  have HDE := Lib.hid (fun h => dec_err (b := be) (p := p) h)
  obtain ⟨⟨⟨yo, ya, yl⟩, nx, f⟩, hD⟩ : ∃ r, decI be p = r := ⟨_, rfl⟩
  rw [hD] at HDI HDE hry ⊢
  simp only at HDI HDE hry ⊢
  clear hb8 HK hD
  obtain ⟨ay, cy, rfl, _⟩ := hry.lenc
  have hry8 := hry.any
  have hb9 := below_alloc w8 (.cells #[.int .u8 yo, .int .i64 ya, .slice ay yl.length cy] 81)
  have hr9 := heap_alloc_new w8 (.cells #[.int .u8 yo, .int .i64 ya, .slice ay yl.length cy] 81)
  have HK9 := Lib.hid (HK8.out.on hb9)
  have HY9 := Lib.hid (hry8.bel hb9)
  have HR9 := Lib.hid hr9
  have y0 := row_cell hr9 0 rfl; have y1 := row_cell hr9 1 rfl; have y2 := row_cell hr9 2 rfl
  simp only [List.getElem_toArray, List.getElem_cons_zero, List.getElem_cons_succ] at y0 y1 y2
  clear hb9 hr9 hry hry8 HK8
  by_cases hf : f = 0
  · subst hf
    obtain ⟨q, rfl, k2, k3, k4, k5, k6, k7⟩ := HDI.out rfl
    have HWy := Lib.hid k3; have HCy := Lib.hid k2
    have HSub := Lib.hid k6
    obtain ⟨hby, hly⟩ := enc_ok k3 k2
    clear HDI HDE k3 k6 hby
    go_wp2_with fail
    generalize w8.alloc (.cells #[.int .u8 yo, .int .i64 ya, .slice ay yl.length cy] 81) = w9 at *
    generalize w8.heap.size = g9 at *
    refine (instr_Encode _ _ ⟨yo, ya, yl⟩ _ HWy.out HY9.out HK9.out.tb).mono ?_
    rintro e wa ⟨va, rfl, hba, howna, -⟩
    rw [k2]
    have HKa := Lib.hid (HK9.out.on hba); have HYa := Lib.hid (HY9.out.bel hba); have HRa := row_on4 HR9 hba
    have HVa := Lib.hid (RdI.of_own howna (by omega)).any
    clear hba howna HK9 HY9 HR9 y0 y1 y2
    have y0 := row_cell HRa.out 0 rfl; have y1 := row_cell HRa.out 1 rfl; have y2 := row_cell HRa.out 2 rfl
    simp only [List.getElem_toArray, List.getElem_cons_zero, List.getElem_cons_succ] at y0 y1 y2
    go_wp2_with fail
    refine (instr_Check _ _ ⟨yo, ya, yl⟩ _ HWy.out HYa.out HKa.out.tb).mono ?_
    rintro e wb ⟨rfl, hbb⟩
    rw [HCy.out]
    have HKb := Lib.hid (HKa.out.on hbb); have HVb := Lib.hid (HVa.out.bel hbb)
    clear hbb HKa HYa HRa HVa y0 y1 y2
    obtain ⟨b2, o2, rfl⟩ : ∃ b o, a2 = some ⟨b, o, none⟩ := by
      obtain ⟨a', c', e, _, _, h3⟩ := HKb.out.r2
      simp only [Value.slice.injEq] at e
      obtain ⟨rfl, _, rfl⟩ := e
      obtain ⟨b, o, e1, _⟩ := h3 q (by omega)
      exact ⟨b, o, e1⟩
    have HSb : Hid (RdI .u8 (· < w.heap.size) wb (.slice (some ⟨b2, o2 + q, none⟩) (encI ⟨yo, ya, yl⟩).length (c2 - q)) (encI ⟨yo, ya, yl⟩)) := Lib.hid (by
      have h := HKb.out.r2.sub q (nx - q) (by omega)
      have e : (be.drop q).take (nx - q) = encI ⟨yo, ya, yl⟩ := by rw [HSub.out, show nx - q = (encI ⟨yo, ya, yl⟩).length by omega, List.take_left]
      rw [e, show nx - q = (encI ⟨yo, ya, yl⟩).length by omega] at h
      exact h)
    obtain ⟨_, _, _, hc2, _⟩ := HKb.out.r2
    have hbl : be.length ≤ c2 := by obtain ⟨_, _, e, h, _⟩ := HKb.out.r2; simp only [Value.slice.injEq] at e; omega
    clear hc2 HSub HWy HCy k2
    go_wp2_with fail
    refine (eqBytes _ _ _ va _ (encI ⟨yo, ya, yl⟩) (encI ⟨yo, ya, yl⟩) HVb.out HSb.out).mono ?_
    rintro e wc ⟨rfl, n, rfl⟩
    rw [decide_eq_true (rfl : encI ⟨yo, ya, yl⟩ = encI ⟨yo, ya, yl⟩)]
    go_wp2
    go_ret
    exact ⟨rfl, below_next HKb.out.bel (drewN_below _ _)⟩
  · have hz := HDE.out hf
    subst hz
    have hf' : (f != 0) = true := by rw [bne_iff_ne]; exact hf
    clear HDI HDE hf
    go_wp2
    go_ret
    exact ⟨rfl, HK9.out.bel⟩
end Go.Proofs.YtmlniifdipeboaaDoor
