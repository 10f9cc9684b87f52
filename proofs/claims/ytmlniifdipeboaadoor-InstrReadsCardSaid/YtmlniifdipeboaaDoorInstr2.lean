/- instr.Check; wire.Svar, ReadSvar. -/
import Derived.Test.YtmlniifdipeboaaDoorInstr1
import Derived.Laws.DeepNot64
namespace Go.Proofs.YtmlniifdipeboaaDoor
open Go Go.RowKit

theorem i64_xor_comm (a b : Int) : bits .xor .i64 a b = bits .xor .i64 b a := by
  show IntKind.i64.wrap ((BitVec.ofInt 64 a ^^^ BitVec.ofInt 64 b).toNat : Int) = IntKind.i64.wrap ((BitVec.ofInt 64 b ^^^ BitVec.ofInt 64 a).toNat : Int)
  rw [BitVec.xor_comm]
theorem i64_xor_zero (a : Nat) (ha : a < 9223372036854775808) : bits .xor .i64 (a : Int) 0 = a := by
  show IntKind.i64.wrap ((BitVec.ofInt 64 (a : Int) ^^^ BitVec.ofInt 64 0).toNat : Int) = _
  have h1 : BitVec.ofInt 64 0 = 0#64 := by decide
  rw [h1, BitVec.xor_zero, ofInt_u64 a (by omega)]
  simp [IntKind.wrap, IntKind.bits, IntKind.signed]
  omega
theorem u64_xor_ones (z : Nat) (hz : z < 18446744073709551616) : bits .xor .u64 (z : Int) 18446744073709551615 = ((18446744073709551615 - z : Nat) : Int) := by
  rw [show (18446744073709551615 : Int) = ((18446744073709551615 : Nat) : Int) from rfl, bits_xor_u64_nat _ _ hz (by decide)]
  have := not_eq (n := 64) (x := z) hz
  rw [show (2 : Nat) ^ 64 - 1 = 18446744073709551615 from rfl] at this
  rw [this]
theorem u64_xor_zero (z : Nat) (hz : z < 18446744073709551616) : bits .xor .u64 (z : Int) 0 = (z : Int) := by
  rw [show (0 : Int) = ((0 : Nat) : Int) from rfl, bits_xor_u64_nat _ _ hz (by decide), Nat.xor_zero]

set_option maxRecDepth 100000 in
set_option maxHeartbeats 800000 in
/-- 'wire.Svar': a number's bytes with its sign, in new memory. -/
theorem wire_Svar (w : World) (a : Int) (ha : i64P a) :
    Calls Tryd.prog 110 #[.int .i64 a] w fun e w' => ∃ v', e = .returned v' ∧ w'.ownsRow w.heap.size 5 1 v' (uv (zig a)).length ((uv (zig a)).map (Value.int .u8)) ∧ Below w.heap.size w w' := by
  have hz := zig_le ha
  have ha' : -9223372036854775808 ≤ a ∧ a ≤ 9223372036854775807 := ha
  have H := Lib.hid (wire_Uvar w (zig a) hz)
  by_cases h0 : 0 ≤ a
  · have e1 : IntKind.u64.wrap a = a := IntWalk.u64_in _ ⟨by omega, by omega⟩
    have e2 : IntKind.u64.wrap (a * 2) = (zig a : Int) := by rw [IntWalk.u64_in _ ⟨by omega, by omega⟩]; unfold zig; rw [if_pos h0]; omega
    have e3 : a / 9223372036854775808 = 0 := by omega
    have e4 := u64_xor_zero (zig a) (by omega)
    clear hz ha ha'
    generalize zig a = z at *
    go_enter Tryd.func110, Tryd.ntmps110
    go_wp2_with fail
    refine H.out.mono ?_
    rintro e w' ⟨v', rfl, hown, hb⟩
    go_wp2
    go_ret
    exact ⟨v', rfl, hown, hb⟩
  · obtain ⟨y, hy⟩ : ∃ y : Nat, (y : Int) = a * 2 + 18446744073709551616 := ⟨(a * 2 + 18446744073709551616).toNat, by omega⟩
    have e1 : IntKind.u64.wrap a = a + 18446744073709551616 := by rw [IntKind.wrap_u64]; omega
    have e2 : IntKind.u64.wrap ((a + 18446744073709551616) * 2) = (y : Int) := by rw [IntKind.wrap_u64]; omega
    have e3 : a / 9223372036854775808 = -1 := by omega
    have e5 : IntKind.u64.wrap (-1) = 18446744073709551615 := by decide
    have e4 := u64_xor_ones y (by omega)
    have e6 : 18446744073709551615 - y = zig a := by unfold zig; rw [if_neg h0]; omega
    rw [e6] at e4
    clear hz ha ha' hy e6
    generalize zig a = z at *
    go_enter Tryd.func110, Tryd.ntmps110
    go_wp2_with fail
    refine H.out.mono ?_
    rintro e w' ⟨v', rfl, hown, hb⟩
    go_wp2
    go_ret
    exact ⟨v', rfl, hown, hb⟩

theorem rets3i {a b c a' b' c' : Int} {k j i : IntKind} (h : a = a') (e : b = b') (f : c = c') : Ending.returned (.tuple #[.int k a, .int j b, .int i c]) = .returned (.tuple #[.int k a', .int j b', .int i c']) := by rw [h, e, f]
set_option maxRecDepth 100000 in
set_option maxHeartbeats 800000 in
/-- 'wire.ReadSvar'. -/
theorem wire_ReadSvar (w : World) (S) (v : Value) (b : List Int) (hb : Bytes b) (h : RdI .u8 S w v b) (p : Nat) (hp : p ≤ b.length) :
    Calls Tryd.prog 144 #[v, .int .i64 p] w fun e w' => e = .returned (.tuple #[.int .i64 (zag (ruv b p).1), .int .i64 (ruv b p).2.1, .int .i64 (ruv b p).2.2]) ∧ w = w' := by
  have hu := ruv_u64 b p
  have H := Lib.hid (wire_ReadUvar w S v b hb h p hp)
  clear h hb
  generalize (ruv b p).1 = u at *
  generalize (ruv b p).2.1 = q at *
  generalize (ruv b p).2.2 = z at *
  have e0 : (u : Int) / 2 = ((u / 2 : Nat) : Int) := by omega
  have e9 : bits .and .u64 (u : Int) 1 = ((u % 2 : Nat) : Int) := by
    rw [show (1 : Int) = ((1 : Nat) : Int) from rfl, bits_and_u64_nat _ _ (by omega) (by decide)]
    have := Nat.and_two_pow_sub_one_eq_mod u 1
    simp only [Nat.pow_one, Nat.add_one_sub_one] at this
    rw [this]
  have e1 : IntKind.i64.wrap ((u / 2 : Nat) : Int) = ((u / 2 : Nat) : Int) := IntWalk.i64_in _ ⟨by omega, by omega⟩
  have hx : u / 2 < 9223372036854775808 := by omega
  rcases Nat.mod_two_eq_zero_or_one u with hm | hm
  · have e2 := i64_xor_zero (u / 2) hx
    have e3 : Hid (((u / 2 : Nat) : Int) = zag u) := by show _ = _; rw [zag, if_pos hm]
    rw [hm] at e9
    generalize u / 2 = y at *
    clear hm hx hu
    go_enter Tryd.func144, Tryd.ntmps144
    go_wp2_with fail
    refine H.out.mono ?_
    rintro e w' ⟨rfl, rfl⟩
    go_wp2
    go_ret3
    exact ⟨rets3i (by rw [← e3.out]) rfl rfl, rfl⟩
  · have e2 : bits .xor .i64 ((u / 2 : Nat) : Int) (-1) = -1 - ((u / 2 : Nat) : Int) := by rw [i64_xor_comm, i64_not _ hx]
    have e3 : Hid (-1 - ((u / 2 : Nat) : Int) = zag u) := by show _ = _; rw [zag, if_neg (by omega)]; omega
    rw [hm] at e9
    generalize u / 2 = y at *
    clear hm hx hu
    go_enter Tryd.func144, Tryd.ntmps144
    go_wp2_with fail
    refine H.out.mono ?_
    rintro e w' ⟨rfl, rfl⟩
    go_wp2
    go_ret3
    exact ⟨rets3i (by rw [← e3.out]) rfl rfl, rfl⟩

theorem all_drop {l : List Int} {k : Nat} (h : k < l.length) : (l.drop k).all smallI = (smallI l[k] && (l.drop (k + 1)).all smallI) := by
  rw [List.drop_eq_getElem_cons h, List.all_cons]

set_option maxRecDepth 100000 in
set_option maxHeartbeats 3200000 in
/-- 'instr.Check'. -/
theorem instr_Check (w : World) (S) (x : InsD) (vl : Value) (wf : WfIns x) (hr : RdI .i64 S w vl x.l) (ht : Tb w) :
    Calls Tryd.prog 47 #[.agg #[.int .u8 x.op, .int .i64 x.a, vl]] w fun e w' => e = .returned (.int .i64 (checkI x)) ∧ Below w.heap.size w w' := by
  obtain ⟨op, a, l⟩ := x
  have ho := wf.op
  have HW := Lib.hid wf.l
  obtain ⟨va, vc, rfl, hlc⟩ := hr.lenc
  have hlm : l.length ≤ 140737488355328 := by obtain ⟨_, _, _, _, h, _⟩ := hr; exact h
  have HT := Lib.hid ht; have HL := Lib.hid hr
  clear wf hr ht
  simp only at *
  have HC : Hid (checkI ⟨op, a, l⟩ = if isOp op = false then 21 else if inI op a = false then 17 else if takesP op ≠ 3 then (if 0 < l.length then 17 else 0) else if l.length < 1 ∨ 16 < l.length then 17 else if l.all smallI then 0 else 17) := Lib.hid rfl
  have hb0 := below_alloc w (.cells #[.int .u8 op, .int .i64 a, .slice va l.length vc] 81)
  have hr0 := heap_alloc_new w (.cells #[.int .u8 op, .int .i64 a, .slice va l.length vc] 81)
  go_enter Tryd.func47, Tryd.ntmps47
  go_wp2_with fail
  generalize w.alloc (.cells #[.int .u8 op, .int .i64 a, .slice va l.length vc] 81) = w0 at *
  have HB0 := Lib.hid hb0; have HR0 := Lib.hid hr0
  have HT0 : Hid (Tb w0) := Lib.hid (HT.out.bel hb0)
  have HL0 : Hid (RdI .i64 (· < w0.heap.size) w0 (.slice va l.length vc) l) := Lib.hid (HL.out.any.bel hb0)
  clear hb0 hr0 HL HT
  refine (ops_Of _ op ho HT0.out).mono ?_
  rintro e w1 ⟨rfl, hb1⟩
  cases hop : isOp op with
  | false =>
    obtain ⟨rx, rs, rt, rp, rq, rb, hrv⟩ := rowVal_open op
    rw [hrv]; clear hrv
    have HX : Hid (checkI ⟨op, a, l⟩ = 21) := by have := HC.out; rw [if_pos hop] at this; exact this
    go_wp2
    go_ret
    have h2 := below_next HB0.out hb1
    exact ⟨ret_int HX.out.symm, h2.alloc h2.size _⟩
  | true =>
    rw [irow_eq op hop]
    have HX : Hid (checkI ⟨op, a, l⟩ = if inI op a = false then 17 else if takesP op ≠ 3 then (if 0 < l.length then 17 else 0) else if l.length < 1 ∨ 16 < l.length then 17 else if l.all smallI then 0 else 17) := by have := HC.out; rw [if_neg (by simp [hop])] at this; exact this
    have HW2 := fun w' : World => instr_within w' op ho a
    have HH := Lib.hid HW2
    clear HW2 HC hop
    have HR1 : Hid (w1.heap[w.heap.size]? = some (.cells #[.int .u8 op, .int .i64 a, .slice va l.length vc] 81 (0, 0))) := Lib.hid ((hb1.block _ (row_lt HR0.out)).trans HR0.out)
    have HL1 := Lib.hid (HL0.out.bel hb1)
    have HB1 := Lib.hid (below_next HB0.out hb1)
    clear hb1 HR0 HB0 HL0
    unfold irow at *
    generalize (progRow op).pops = pp at *
    generalize (progRow op).pushes = pu at *
    generalize (progRow op).plain = pl at *
    generalize wordP op = wd at *
    generalize takesP op = t at *
    generalize inI op a = ok at *
    have HB2 := Lib.hid (below_alloc w1 (.cells #[.int .u8 op, .string ⟨wd.toArray⟩, .int .i8 t, .string ⟨pp.toArray⟩, .string ⟨pu.toArray⟩, .bool pl] 24))
    have hR2 := (HB2.out.block _ (row_lt HR1.out)).trans HR1.out
    have b0 := row_cell hR2 0 rfl; have b1 := row_cell hR2 1 rfl; have b2 := row_cell hR2 2 rfl
    simp only [List.getElem_toArray, List.getElem_cons_zero, List.getElem_cons_succ] at b0 b1 b2
    go_wp2_with fail
    refine (HH.out _).mono ?_
    rintro e w3 ⟨rfl, hb3⟩
    have hR3 := (hb3.block _ (row_lt hR2)).trans hR2
    have hQ3 := (hb3.block _ (row_lt (heap_alloc_new w1 _))).trans (heap_alloc_new w1 (.cells #[.int .u8 op, .string ⟨wd.toArray⟩, .int .i8 t, .string ⟨pp.toArray⟩, .string ⟨pu.toArray⟩, .bool pl] 24))
    have HB3 := Lib.hid (below_next (below_next HB1.out HB2.out) hb3)
    have HL3 := Lib.hid ((HL1.out.bel HB2.out).bel hb3)
    clear b0 b1 b2
    have b2 := row_cell hR3 2 rfl; have q2 := row_cell hQ3 2 rfl
    simp only [List.getElem_toArray, List.getElem_cons_zero, List.getElem_cons_succ] at b2 q2
    clear hR2 hR3 hQ3 hb3 HL1 HB1 HB2 HR1 HH
    generalize w1.heap.size = g1 at *
    cases ok with
    | false =>
      have HY : Hid (checkI ⟨op, a, l⟩ = 17) := HX.out
      go_wp2
      go_ret
      exact ⟨ret_int HY.out.symm, HB3.out⟩
    | true =>
      have HY : Hid (checkI ⟨op, a, l⟩ = if t ≠ 3 then (if 0 < l.length then 17 else 0) else if l.length < 1 ∨ 16 < l.length then 17 else if l.all smallI then 0 else 17) := HX.out
      clear HX
      by_cases h3 : t = 3
      · subst h3
        by_cases hlen : l.length < 1 ∨ 16 < l.length
        · have HZ : Hid (checkI ⟨op, a, l⟩ = 17) := by have := HY.out; rw [if_neg (by simp), if_pos hlen] at this; exact this
          clear HY
          rcases hlen with h1 | h1
          all_goals go_wp2
          all_goals go_ret
          all_goals exact ⟨ret_int HZ.out.symm, HB3.out⟩
        · have HZ : Hid (checkI ⟨op, a, l⟩ = if l.all smallI then 0 else 17) := by have := HY.out; rw [if_neg (by simp), if_neg hlen] at this; exact this
          clear HY
          have l1 : ¬ l.length < 1 := by omega
          have l2 : ¬ 16 < l.length := by omega
          clear hlen
          go_wp2
          go_loop [40] (fun i => ∃ k : Nat, k ≤ l.length ∧ i = .int .i64 k ∧ Hid (l.all smallI = (l.drop k).all smallI)) (fun i => l.length - (intOf i).toNat)
          case atStart => exact ⟨0, by omega, rfl, Lib.hid rfl⟩
          case round =>
            obtain ⟨k, hk, rfl, HK⟩ := hrel
            by_cases hlt : k < l.length
            · obtain ⟨va', vc', e, _, _, hcell⟩ := HL3.out
              simp only [Value.slice.injEq] at e
              obtain ⟨rfl, _, rfl⟩ := e
              obtain ⟨bb, off, rfl, _, hc⟩ := hcell k hlt
              have HK2 := Lib.hid (HK.out.trans (all_drop hlt))
              have hs : Hid (smallI l[k] = decide (0 ≤ l[k] ∧ l[k] ≤ 2147483647)) := Lib.hid rfl
              clear hcell HK
              generalize l[k] = n at *
              by_cases hn : 0 ≤ n ∧ n ≤ 2147483647
              · have HN : Hid (l.all smallI = (l.drop (k + 1)).all smallI) := by have := HK2.out; rw [hs.out, decide_eq_true hn, Bool.true_and] at this; exact this
                clear HK2 hs
                obtain ⟨n1, n2⟩ := hn
                go_wp2
                go_round
                case rel => exact ⟨k + 1, by omega, by go_num, HN⟩
                case measure => simp [intOf]; omega
              · have HN : Hid (l.all smallI = false) := by have := HK2.out; rw [hs.out, decide_eq_false hn, Bool.false_and] at this; exact this
                have HE : Hid (checkI ⟨op, a, l⟩ = 17) := by have := HZ.out; rw [HN.out] at this; exact this
                clear HK2 hs HN HZ
                go_wp2
                all_goals first | (exfalso; omega) | skip
                all_goals go_ret
                all_goals exact ⟨ret_int HE.out.symm, HB3.out⟩
            · have HN : Hid (l.all smallI = true) := by have := HK.out; rw [List.drop_of_length_le (by omega)] at this; exact this
              have HE : Hid (checkI ⟨op, a, l⟩ = 0) := by have := HZ.out; rw [HN.out] at this; exact this
              go_wp2
              go_ret
              exact ⟨ret_int HE.out.symm, HB3.out⟩
      · have h3' : (t != 3) = true := by rw [bne_iff_ne]; exact h3
        by_cases h0 : 0 < l.length
        · have HZ : Hid (checkI ⟨op, a, l⟩ = 17) := by have := HY.out; rw [if_pos h3, if_pos h0] at this; exact this
          clear HY
          go_wp2
          go_ret
          exact ⟨ret_int HZ.out.symm, HB3.out⟩
        · have HZ : Hid (checkI ⟨op, a, l⟩ = 0) := by have := HY.out; rw [if_pos h3, if_neg h0] at this; exact this
          clear HY
          go_wp2
          go_ret
          exact ⟨ret_int HZ.out.symm, HB3.out⟩
end Go.Proofs.YtmlniifdipeboaaDoor
