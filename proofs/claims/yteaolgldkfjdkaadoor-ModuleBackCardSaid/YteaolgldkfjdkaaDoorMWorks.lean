/- module.Check; the module of flagonlaw05.one. flagonlaw05.works. -/
import Derived.Test.YteaolgldkfjdkaaDoorEnc5
import Derived.Test.YteaolgldkfjdkaaDoorMDcd
import Derived.Test.YteaolgldkfjdkaaDoorMInstr4
import Derived.Test.YteaolgldkfjdkaaDoorEqQ
import Derived.Test.YteaolgldkfjdkaaDoorMLib
import Derived.Lib.SlBytesConst
import Derived.Test.YteaolgldkfjdkaaDoorMRf0
namespace Go.Proofs.YteaolgldkfjdkaaDoor
open Go Go.RowKit

set_option maxRecDepth 100000 in
set_option maxHeartbeats 800000 in
theorem mod_Check (w : World) (S : Nat → Prop) (hS : ∀ b, S b → b < w.heap.size) (m : ModD) (cs : List Value) (hm : RMod S w cs m) (sm : SmM m) (wf : WfM m) (ht : Tb w) :
    Calls Tryd.prog 11 #[.agg cs.toArray] w fun e w' => e = .returned (.int .i64 (encM m).2) ∧ Below w.heap.size w w' := by
  obtain ⟨tv, hv, gv, fv, dv, ev, rfl, r1, r2, r3, r4, r5, r6⟩ := hm
  obtain ⟨ta, tc, rfl, -⟩ := r1.len
  obtain ⟨ha, hc, rfl, -⟩ := r2.len
  obtain ⟨ga, gc, rfl, -⟩ := r3.len
  obtain ⟨fa, fc, rfl, -⟩ := r4.len
  obtain ⟨da, dc, rfl, -⟩ := r5.len
  obtain ⟨ea, ec, rfl, -⟩ := r6.len
  have hb := below_alloc w (.cells #[.slice ta m.types.length tc, .slice ha m.hosts.length hc, .slice ga m.globals.length gc, .int .i64 m.first, .int .i64 m.most, .slice fa m.funs.length fc, .slice da m.datas.length dc, .slice ea m.exps.length ec] 29)
  have hm1 : RMod S (w.alloc (.cells #[.slice ta m.types.length tc, .slice ha m.hosts.length hc, .slice ga m.globals.length gc, .int .i64 m.first, .int .i64 m.most, .slice fa m.funs.length fc, .slice da m.datas.length dc, .slice ea m.exps.length ec] 29)) _ m := RMod.keeps ⟨_, _, _, _, _, _, rfl, r1, r2, r3, r4, r5, r6⟩ (Keeps.all S hb)
  have HC := Lib.hid (mod_Encode _ S (fun b hb' => by have := hS b hb'; have := hb.size; omega) m _ hm1 sm wf (ht.bel hb))
  have HB := Lib.hid hb
  clear hm1 hb r1 r2 r3 r4 r5 r6 hS sm wf ht
  go_enter Tryd.func11, Tryd.ntmps11
  go_wp2_with fail
  refine HC.out.mono ?_
  rintro e w1 ⟨v, rfl, hb1, -, -⟩
  have HB1 := Lib.hid (below_next HB.out hb1)
  clear hb1 HB HC
  go_wp2_with fail
  go_ret
  exact ⟨rfl, HB1.out⟩
theorem one_chk : checkI ⟨24, 5, []⟩ = 0 ∧ checkI ⟨6, 0, []⟩ = 0 := by decide +kernel
theorem one_enc : encI ⟨24, 5, []⟩ = [24, 10] ∧ encI ⟨6, 0, []⟩ = [6] := by
  refine ⟨?_, ?_⟩
  · unfold encI; rw [if_pos one_chk.1]; decide +kernel
  · unfold encI; rw [if_pos one_chk.2]; decide +kernel
theorem henc5 : ∀ x, WfIns x → checkI x = 0 → Bytes (encI x) := fun _ h1 h2 => (enc_ok h1 h2).1
theorem one_encM : encM oneM = (oneB, 0) := by
  have h1 := one_parts one_chk.1 one_chk.2
  have h2 := one_laid one_enc.1 one_enc.2
  unfold encM
  rw [if_neg (by rw [h1]; simp), if_neg (by rw [h2]; decide), h2]
theorem one_decM : decM oneB = (oneM, 0, 0) := by
  have h := (law_back henc5 one_wf (by rw [one_encM])).1
  rwa [one_encM] at h
theorem one_sm : SmM oneM := parts_sm (one_parts one_chk.1 one_chk.2)
theorem rdL_of_block {α : Type} {n : Nat} {R : World → List Value → α → Prop} {S : Nat → Prop} {w : World} {xs : List α} {b T : Nat} {c : Array Value} {fr : Nat × Nat} (h : w.heap[b]? = some (.cells c T fr)) (hS : S b) (cap : Nat) (hc : xs.length ≤ cap) (hl : xs.length ≤ 140737488355328)
    (he : ∀ j (hj : j < xs.length), ∃ cs, cs.length = n ∧ (∀ i, i < n → ∃ u, c[j * n + i]? = some u ∧ cs[i]? = some u) ∧ R w cs xs[j]) : RdL n R S w (.slice (some ⟨b, 0, none⟩) xs.length cap) xs := by
  refine ⟨_, cap, rfl, hc, hl, fun j hj => ?_⟩
  obtain ⟨cs, h1, h2, h3⟩ := he j hj
  refine ⟨b, 0, cs, rfl, hS, h1, fun i hi => ?_, h3⟩
  obtain ⟨u, h4, h5⟩ := h2 i hi
  rw [h5, Nat.zero_add]
  exact row_cell h _ h4
theorem one_results {a : Act} {w : World} (g : Nat) (cs : Array Value) (hrow : w.heap[g]? = some (.cells cs 29 (0, 0))) (hsz : cs.size = 8) (h2 : a.tmps.getD 0 undef = .pointer (some ⟨g, 0, none⟩)) :
    (results Tryd.f14 a.tmps).run Tryd.prog w = .ok (.agg cs) w := by
  have hl := run_loadVar_row (P := Tryd.prog) w g 29 29 cs (0, 0) _ hrow Tryd.underlying29 rfl (by rw [hsz]; kernel_rfl)
  have h2' : a.tmps[0]?.getD undef = .pointer (some ⟨g, 0, none⟩) := by simpa using h2
  simp [results, Tryd.results14, asAddr, h2', hl]
set_option maxRecDepth 100000 in
theorem law_one (w : World) : Calls Tryd.prog 14 #[] w fun e w' => ∃ cs : List Value, e = .returned (.agg cs.toArray) ∧ RMod (· < w'.heap.size) w' cs oneM ∧ Below w.heap.size w w' := by
  go_enter Tryd.func14, Tryd.ntmps14
  go_wp2_with fail
  have st : ∀ (W : World) (o : Obj), Below W.heap.size W (W.alloc o) ∧ (W.alloc o).heap[W.heap.size]? = some o ∧ (W.alloc o).heap.size = W.heap.size + 1 := fun W o => ⟨below_alloc W o, heap_alloc_new W o, World.size_alloc ..⟩
  obtain ⟨b1, r1, s1⟩ := st w (.cells #[.slice (some ⟨w.heap.size + 1, 0, none⟩) 1 1, .slice none 0 0, .slice none 0 0, .int .i64 0, .int .i64 0, .slice (some ⟨w.heap.size + 1 + 1 + 1, 0, none⟩) 1 1, .slice none 0 0, .slice (some ⟨w.heap.size + 1 + 1 + 1 + 1, 0, none⟩) 1 1] 29)
  generalize w.alloc (.cells #[.slice (some ⟨w.heap.size + 1, 0, none⟩) 1 1, .slice none 0 0, .slice none 0 0, .int .i64 0, .int .i64 0, .slice (some ⟨w.heap.size + 1 + 1 + 1, 0, none⟩) 1 1, .slice none 0 0, .slice (some ⟨w.heap.size + 1 + 1 + 1 + 1, 0, none⟩) 1 1] 29) = w1 at *
  obtain ⟨b2, r2, s2⟩ := st w1 (.cells #[.string ⟨#[]⟩, .string ⟨#[119]⟩] 46)
  generalize w1.alloc (.cells #[.string ⟨#[]⟩, .string ⟨#[119]⟩] 46) = w2 at *
  obtain ⟨b3, r3, s3⟩ := st w2 (.cells #[.int .u8 24, .int .i64 5, .slice none 0 0, .int .u8 6, .int .i64 0, .slice none 0 0] 76)
  generalize w2.alloc (.cells #[.int .u8 24, .int .i64 5, .slice none 0 0, .int .u8 6, .int .i64 0, .slice none 0 0] 76) = w3 at *
  obtain ⟨b4, r4, s4⟩ := st w3 (.cells #[.int .i64 0, .string ⟨#[]⟩, .slice (some ⟨w.heap.size + 1 + 1, 0, none⟩) 2 2] 49)
  generalize w3.alloc (.cells #[.int .i64 0, .string ⟨#[]⟩, .slice (some ⟨w.heap.size + 1 + 1, 0, none⟩) 2 2] 49) = w4 at *
  obtain ⟨b5, r5, s5⟩ := st w4 (.cells #[.string ⟨#[102]⟩, .int .i64 0] 54)
  generalize w4.alloc (.cells #[.string ⟨#[102]⟩, .int .i64 0] 54) = w5 at *
  rw [s1] at r2
  rw [s2, s1] at r3
  rw [s3, s2, s1] at r4
  rw [s4, s3, s2, s1] at r5
  have b45 := b5
  have b35 := below_next b4 b45
  have b25 := below_next b3 b35
  have b15 := below_next b2 b25
  have hb := below_next b1 b15
  have q1 := (b15.block _ (by omega)).trans r1
  have q2 := (b25.block _ (by omega)).trans r2
  have q3 := (b35.block _ (by omega)).trans r3
  have q4 := (b45.block _ (by omega)).trans r4
  refine bodyPost_ret (one_results w.heap.size _ q1 rfl rfl) rfl ⟨_, rfl, ⟨_, _, _, _, _, _, rfl, ?_, RdI.nil _ _ _, RdL.nil _ _ _ _, ?_, RdL.nil _ _ _ _, ?_⟩, hb⟩
  · exact rdL_of_block (xs := oneM.types) q2 (row_lt q2) 1 (by decide) (by decide) fun j hj => by
      match j, hj with
      | 0, _ => exact ⟨_, rfl, fun i hi => by
          match i, hi with
          | 0, _ => exact ⟨_, rfl, rfl⟩
          | 1, _ => exact ⟨_, rfl, rfl⟩, rfl⟩
  · refine rdL_of_block (xs := oneM.funs) q4 (row_lt q4) 1 (by decide) (by decide) fun j hj => ?_
    match j, hj with
    | 0, _ => exact ⟨_, rfl, fun i hi => by
          match i, hi with
          | 0, _ => exact ⟨_, rfl, rfl⟩
          | 1, _ => exact ⟨_, rfl, rfl⟩
          | 2, _ => exact ⟨_, rfl, rfl⟩, _, rfl, rdL_of_block (xs := [(⟨24, 5, []⟩ : InsD), ⟨6, 0, []⟩]) q3 (row_lt q3) 2 (by decide) (by decide) fun j hj => by
              match j, hj with
              | 0, _ => exact ⟨_, rfl, fun i hi => by
                  match i, hi with
                  | 0, _ => exact ⟨_, rfl, rfl⟩
                  | 1, _ => exact ⟨_, rfl, rfl⟩
                  | 2, _ => exact ⟨_, rfl, rfl⟩, _, rfl, RdI.nil _ _ _⟩
              | 1, _ => exact ⟨_, rfl, fun i hi => by
                  match i, hi with
                  | 0, _ => exact ⟨_, rfl, rfl⟩
                  | 1, _ => exact ⟨_, rfl, rfl⟩
                  | 2, _ => exact ⟨_, rfl, rfl⟩, _, rfl, RdI.nil _ _ _⟩⟩
  · exact rdL_of_block (xs := oneM.exps) r5 (row_lt r5) 1 (by decide) (by decide) fun j hj => by
      match j, hj with
      | 0, _ => exact ⟨_, rfl, fun i hi => by
          match i, hi with
          | 0, _ => exact ⟨_, rfl, rfl⟩
          | 1, _ => exact ⟨_, rfl, rfl⟩, rfl⟩
end Go.Proofs.YteaolgldkfjdkaaDoor
namespace Go.Proofs.YteaolgldkfjdkaaDoor
open Go Go.RowKit

theorem modZ_parts : partsM modZ = 0 := by rfl
theorem modZ_wf : WfM modZ := ⟨fun _ h => by simp [modZ] at h, fun _ h => by simp [modZ] at h, fun _ h => by simp [modZ] at h⟩
theorem dec_wf5 {b : List Int} (hb : Bytes b) : WfM (decM b).1 ∧ partsM (decM b).1 = 0 := by
  by_cases h : (decM b).2.1 = 0
  · have h1 := law_forth hb h
    exact ⟨h1.2, (enc_good (by rw [h1.1])).2.1⟩
  · rw [dec_none h]; exact ⟨modZ_wf, modZ_parts⟩
theorem mod_Dec (w : World) (S : Nat → Prop) (hS : ∀ y, S y → y < w.heap.size) (bv : Value) (b : List Int) (hb : Bytes b) (hr : RdI .u8 S w bv b) (ht : Tb w) :
    Calls Tryd.prog 9 #[bv] w fun r w' => ∃ ta tc ha hc ga gc fa fc da dc ea ec, r = .returned (.tuple #[.agg #[.slice ta (decM b).1.types.length tc, .slice ha (decM b).1.hosts.length hc, .slice ga (decM b).1.globals.length gc, .int .i64 (decM b).1.first, .int .i64 (decM b).1.most, .slice fa (decM b).1.funs.length fc, .slice da (decM b).1.datas.length dc, .slice ea (decM b).1.exps.length ec], .int .i64 (decM b).2.1, .int .i64 ((decM b).2.2 : Nat)]) ∧ Below w.heap.size w w' ∧
      RMod (fun y => w.heap.size ≤ y ∧ y < w'.heap.size) w' [.slice ta (decM b).1.types.length tc, .slice ha (decM b).1.hosts.length hc, .slice ga (decM b).1.globals.length gc, .int .i64 (decM b).1.first, .int .i64 (decM b).1.most, .slice fa (decM b).1.funs.length fc, .slice da (decM b).1.datas.length dc, .slice ea (decM b).1.exps.length ec] (decM b).1 := by
  refine (mod_Decode w S hS bv b hb hr ht).mono ?_
  rintro r w' ⟨x, B, rfl, hbel, hm, hB, hfam⟩
  have hp : partsM x.m = 0 := by rw [hm]; exact (dec_wf5 hb).2
  have h := (Mq.read hfam (parts_len hp)).mono (T := fun y => w.heap.size ≤ y ∧ y < w'.heap.size) fun y h1 h2 => ⟨by omega, h1⟩
  rw [hm] at h
  obtain ⟨tv, hv, gv, fv, dv, ev, e, r1, r2, r3, r4, r5, r6⟩ := h
  obtain ⟨ta, tc, rfl, -⟩ := r1.len
  obtain ⟨ha, hc, rfl, -⟩ := r2.len
  obtain ⟨ga, gc, rfl, -⟩ := r3.len
  obtain ⟨fa, fc, rfl, -⟩ := r4.len
  obtain ⟨da, dc, rfl, -⟩ := r5.len
  obtain ⟨ea, ec, rfl, -⟩ := r6.len
  exact ⟨ta, tc, ha, hc, ga, gc, fa, fc, da, dc, ea, ec, by rw [← Array.toArray_toList (xs := x.cells), e], hbel, ⟨_, _, _, _, _, _, rfl, r1, r2, r3, r4, r5, r6⟩⟩
theorem oneB_bytes : Bytes oneB := by intro x hx; simp [oneB] at hx; omega
theorem badB_bytes : Bytes badB := by intro x hx; simp [badB] at hx; omega
set_option maxRecDepth 100000 in
set_option maxHeartbeats 3200000 in
theorem law_works5 (w : World) (ht : Tb w) : Calls Tryd.prog 6 #[] w fun e w' => e = .returned (.bool true) ∧ Below w.heap.size w w' := by
  have HT := Lib.hid ht
  clear ht
  go_enter Tryd.func6, Tryd.ntmps6
  go_wp2_with fail
  refine (law_one w).mono ?_
  rintro e w1 ⟨cs1, rfl, hm1, hb1⟩
  have HB1 := Lib.hid hb1
  have HE := Lib.hid (mod_Encode w1 _ (fun _ h => h) oneM cs1 hm1 one_sm one_wf (HT.out.bel hb1))
  clear hm1 hb1
  go_wp2_with fail
  refine HE.out.mono ?_
  rintro e w2 ⟨v, rfl, hb2, hown, -⟩
  rw [one_encM] at hown ⊢
  have hown : w2.ownsRow w1.heap.size 5 1 v 25 (oneB.map (Value.int .u8)) := hown
  obtain ⟨va, vc, rfl, -⟩ := own_slice hown
  have HB2 := Lib.hid (below_next HB1.out hb2)
  clear hb2 HE HB1 hown
  have kc := Lib.run_convert_bytes_const (P := Tryd.prog) w2 30 5 #[.int .u8 70, .int .u8 76, .int .u8 71, .int .u8 78, .int .u8 1, .int .u8 1, .int .u8 0, .int .u8 1, .int .u8 119, .int .u8 0, .int .u8 0, .int .u8 0, .int .u8 0, .int .u8 1, .int .u8 0, .int .u8 0, .int .u8 2, .int .u8 24, .int .u8 10, .int .u8 6, .int .u8 0, .int .u8 1, .int .u8 1, .int .u8 102, .int .u8 0] 25 25 Tryd.underlying30 Tryd.underlying5
  simp only [List.size_toArray, List.length_cons, List.length_nil] at kc
  go_wp2_with fail
  clear kc
  have hb3 := below_alloc w2 (.cells #[.int .u8 70, .int .u8 76, .int .u8 71, .int .u8 78, .int .u8 1, .int .u8 1, .int .u8 0, .int .u8 1, .int .u8 119, .int .u8 0, .int .u8 0, .int .u8 0, .int .u8 0, .int .u8 1, .int .u8 0, .int .u8 0, .int .u8 2, .int .u8 24, .int .u8 10, .int .u8 6, .int .u8 0, .int .u8 1, .int .u8 1, .int .u8 102, .int .u8 0] 5 (25, 26))
  have hr3 : RdI .u8 (· < (w2.alloc (.cells #[.int .u8 70, .int .u8 76, .int .u8 71, .int .u8 78, .int .u8 1, .int .u8 1, .int .u8 0, .int .u8 1, .int .u8 119, .int .u8 0, .int .u8 0, .int .u8 0, .int .u8 0, .int .u8 1, .int .u8 0, .int .u8 0, .int .u8 2, .int .u8 24, .int .u8 10, .int .u8 6, .int .u8 0, .int .u8 1, .int .u8 1, .int .u8 102, .int .u8 0] 5 (25, 26))).heap.size) (w2.alloc (.cells #[.int .u8 70, .int .u8 76, .int .u8 71, .int .u8 78, .int .u8 1, .int .u8 1, .int .u8 0, .int .u8 1, .int .u8 119, .int .u8 0, .int .u8 0, .int .u8 0, .int .u8 0, .int .u8 1, .int .u8 0, .int .u8 0, .int .u8 2, .int .u8 24, .int .u8 10, .int .u8 6, .int .u8 0, .int .u8 1, .int .u8 1, .int .u8 102, .int .u8 0] 5 (25, 26))) (.slice (some ⟨w2.heap.size, 0, none⟩) 25 25) oneB := RdI.any (rdI_block (k := .u8) (l := oneB) (heap_alloc_new w2 (.cells #[.int .u8 70, .int .u8 76, .int .u8 71, .int .u8 78, .int .u8 1, .int .u8 1, .int .u8 0, .int .u8 1, .int .u8 119, .int .u8 0, .int .u8 0, .int .u8 0, .int .u8 0, .int .u8 1, .int .u8 0, .int .u8 0, .int .u8 2, .int .u8 24, .int .u8 10, .int .u8 6, .int .u8 0, .int .u8 1, .int .u8 1, .int .u8 102, .int .u8 0] 5 (25, 26))) (by decide) 25 (by decide))
  have HC3 := Lib.hid (mod_Dec _ _ (fun _ h => h) _ oneB oneB_bytes hr3 (HT.out.bel (below_next HB2.out hb3)))
  have HB3 := Lib.hid (below_next HB2.out hb3)
  clear hb3 hr3 HB2
  refine HC3.out.mono ?_
  clear HC3
  generalize w2.alloc (.cells #[.int .u8 70, .int .u8 76, .int .u8 71, .int .u8 78, .int .u8 1, .int .u8 1, .int .u8 0, .int .u8 1, .int .u8 119, .int .u8 0, .int .u8 0, .int .u8 0, .int .u8 0, .int .u8 1, .int .u8 0, .int .u8 0, .int .u8 2, .int .u8 24, .int .u8 10, .int .u8 6, .int .u8 0, .int .u8 1, .int .u8 1, .int .u8 102, .int .u8 0] 5 (25, 26)) = w3 at *
  rintro e w4 ⟨at0, at1, ah0, ah1, ag0, ag1, af0, af1, ad0, ad1, ae0, ae1, he, hb4, hm4⟩
  rw [one_decM] at he hm4
  simp only at he hm4
  subst he
  have HB4 := Lib.hid (below_next HB3.out hb4)
  have hb5 := below_alloc w4 (.cells #[.slice at0 oneM.types.length at1, .slice ah0 oneM.hosts.length ah1, .slice ag0 oneM.globals.length ag1, .int .i64 oneM.first, .int .i64 oneM.most, .slice af0 oneM.funs.length af1, .slice ad0 oneM.datas.length ad1, .slice ae0 oneM.exps.length ae1] 29)
  have HX := Lib.hid (heap_alloc_new w4 (.cells #[.slice at0 oneM.types.length at1, .slice ah0 oneM.hosts.length ah1, .slice ag0 oneM.globals.length ag1, .int .i64 oneM.first, .int .i64 oneM.most, .slice af0 oneM.funs.length af1, .slice ad0 oneM.datas.length ad1, .slice ae0 oneM.exps.length ae1] 29))
  have HD := Lib.hid (hm4.keeps (Keeps.all _ hb5))
  have HB5 := Lib.hid (below_next HB4.out hb5)
  have kc := Lib.run_convert_bytes_const (P := Tryd.prog) (w4.alloc (.cells #[.slice at0 oneM.types.length at1, .slice ah0 oneM.hosts.length ah1, .slice ag0 oneM.globals.length ag1, .int .i64 oneM.first, .int .i64 oneM.most, .slice af0 oneM.funs.length af1, .slice ad0 oneM.datas.length ad1, .slice ae0 oneM.exps.length ae1] 29)) 30 5 #[.int .u8 70, .int .u8 76, .int .u8 71, .int .u8 78, .int .u8 1, .int .u8 1, .int .u8 1, .int .u8 120, .int .u8 0] 9 9 Tryd.underlying30 Tryd.underlying5
  simp only [List.size_toArray, List.length_cons, List.length_nil, World.size_alloc] at kc
  clear HB3 HB4 hb4 hm4 hb5
  go_wp2_with fail
  clear kc
  have hw5 : (w4.alloc (.cells #[.slice at0 oneM.types.length at1, .slice ah0 oneM.hosts.length ah1, .slice ag0 oneM.globals.length ag1, .int .i64 oneM.first, .int .i64 oneM.most, .slice af0 oneM.funs.length af1, .slice ad0 oneM.datas.length ad1, .slice ae0 oneM.exps.length ae1] 29)).heap.size = w4.heap.size + 1 := World.size_alloc ..
  generalize w4.alloc (.cells #[.slice at0 oneM.types.length at1, .slice ah0 oneM.hosts.length ah1, .slice ag0 oneM.globals.length ag1, .int .i64 oneM.first, .int .i64 oneM.most, .slice af0 oneM.funs.length af1, .slice ad0 oneM.datas.length ad1, .slice ae0 oneM.exps.length ae1] 29) = w5 at *
  have hb6 := below_alloc w5 (.cells #[.int .u8 70, .int .u8 76, .int .u8 71, .int .u8 78, .int .u8 1, .int .u8 1, .int .u8 1, .int .u8 120, .int .u8 0] 5 (9, 10))
  have hr6 : RdI .u8 (· < (w5.alloc (.cells #[.int .u8 70, .int .u8 76, .int .u8 71, .int .u8 78, .int .u8 1, .int .u8 1, .int .u8 1, .int .u8 120, .int .u8 0] 5 (9, 10))).heap.size) (w5.alloc (.cells #[.int .u8 70, .int .u8 76, .int .u8 71, .int .u8 78, .int .u8 1, .int .u8 1, .int .u8 1, .int .u8 120, .int .u8 0] 5 (9, 10))) (.slice (some ⟨w4.heap.size + 1, 0, none⟩) 9 9) badB := RdI.any (rdI_block (k := .u8) (l := badB) (by rw [← hw5]; exact heap_alloc_new w5 (.cells #[.int .u8 70, .int .u8 76, .int .u8 71, .int .u8 78, .int .u8 1, .int .u8 1, .int .u8 1, .int .u8 120, .int .u8 0] 5 (9, 10))) (by decide) 9 (by decide))
  have HC6 := Lib.hid (mod_Dec _ _ (fun _ h => h) _ badB badB_bytes hr6 (HT.out.bel (below_next HB5.out hb6)))
  have HB6 := Lib.hid (below_next HB5.out hb6)
  have HX6 := Lib.hid ((hb6.block _ (row_lt HX.out)).trans HX.out)
  have HD6 := Lib.hid (HD.out.keeps (Keeps.all _ hb6))
  clear hb6 hr6 HB5 HX HD hw5
  refine HC6.out.mono ?_
  clear HC6
  generalize w5.alloc (.cells #[.int .u8 70, .int .u8 76, .int .u8 71, .int .u8 78, .int .u8 1, .int .u8 1, .int .u8 1, .int .u8 120, .int .u8 0] 5 (9, 10)) = w6 at *
  generalize w4.heap.size = m3 at *
  rintro e w7 ⟨bt0, bt1, bh0, bh1, bg0, bg1, bf0, bf1, bd0, bd1, be0, be1, he, hb7, hm7⟩
  rw [dec_badB] at he
  clear hm7
  simp only at he
  subst he
  have hb8 := below_alloc w7 (.cells #[.slice bt0 modZ.types.length bt1, .slice bh0 modZ.hosts.length bh1, .slice bg0 modZ.globals.length bg1, .int .i64 modZ.first, .int .i64 modZ.most, .slice bf0 modZ.funs.length bf1, .slice bd0 modZ.datas.length bd1, .slice be0 modZ.exps.length be1] 29)
  have hb := below_next hb7 hb8
  have HX := Lib.hid ((hb.block _ (row_lt HX6.out)).trans HX6.out)
  have HD := Lib.hid (HD6.out.keeps (Keeps.all _ hb))
  have HB : Hid (Below w.heap.size w (w7.alloc (.cells #[.slice bt0 modZ.types.length bt1, .slice bh0 modZ.hosts.length bh1, .slice bg0 modZ.globals.length bg1, .int .i64 modZ.first, .int .i64 modZ.most, .slice bf0 modZ.funs.length bf1, .slice bd0 modZ.datas.length bd1, .slice be0 modZ.exps.length be1] 29))) := Lib.hid (below_next HB6.out hb)
  clear hb7 hb8 hb HX6 HD6 HB6
  go_wp2_with fail
  generalize w7.alloc (.cells #[.slice bt0 modZ.types.length bt1, .slice bh0 modZ.hosts.length bh1, .slice bg0 modZ.globals.length bg1, .int .i64 modZ.first, .int .i64 modZ.most, .slice bf0 modZ.funs.length bf1, .slice bd0 modZ.datas.length bd1, .slice be0 modZ.exps.length be1] 29) = w8 at *
  have y0 := row_cell HX.out 0 rfl; have y1 := row_cell HX.out 1 rfl; have y2 := row_cell HX.out 2 rfl; have y3 := row_cell HX.out 3 rfl; have y4 := row_cell HX.out 4 rfl; have y5 := row_cell HX.out 5 rfl; have y6 := row_cell HX.out 6 rfl; have y7 := row_cell HX.out 7 rfl
  simp only [List.getElem_toArray, List.getElem_cons_zero, List.getElem_cons_succ] at y0 y1 y2 y3 y4 y5 y6 y7
  refine wp_region_held_drew (S := (fun wx => wx.cell? ⟨m3, 0, none⟩ = some (.slice at0 oneM.types.length at1) ∧ wx.cell? ⟨m3, 1, none⟩ = some (.slice ah0 oneM.hosts.length ah1) ∧ wx.cell? ⟨m3, 2, none⟩ = some (.slice ag0 oneM.globals.length ag1) ∧ wx.cell? ⟨m3, 3, none⟩ = some (.int .i64 oneM.first) ∧ wx.cell? ⟨m3, 4, none⟩ = some (.int .i64 oneM.most) ∧ wx.cell? ⟨m3, 5, none⟩ = some (.slice af0 oneM.funs.length af1) ∧ wx.cell? ⟨m3, 6, none⟩ = some (.slice ad0 oneM.datas.length ad1) ∧ wx.cell? ⟨m3, 7, none⟩ = some (.slice ae0 oneM.exps.length ae1))) (by kernel_rfl) ⟨y0, y1, y2, y3, y4, y5, y6, y7⟩ (fun hHeld => ?_)
  have hb := drewN_below w8 1
  have HX : Hid (w8.drew.heap[m3]? = _) := HX
  have HD := Lib.hid (HD.out.keeps (Keeps.all _ hb))
  have HB : Hid (Below w.heap.size w w8.drew) := Lib.hid (below_next HB.out hb)
  clear hb
  refine takeAt (i := 0) (d := 28) (v := ?_) rfl (by kernel_rfl) (by kernel_rfl) (by kernel_rfl) (by kernel_rfl) (fun _ _ _ h => h) (Or.inl ⟨by kernel_rfl, ?_⟩) (by assumption) ?_
  rotate_left
  · (intro w hSw; (try dsimp only at hSw); go_simp; all_goals (with_reducible rfl))
  (try simp only [Act.put, List.setIfInBounds_toArray, List.set_cons_zero, List.set_cons_succ])
  refine takeAt (i := 1) (d := 29) (v := ?_) rfl (by kernel_rfl) (by kernel_rfl) (by kernel_rfl) (by kernel_rfl) (fun _ _ _ h => h) (Or.inl ⟨by kernel_rfl, ?_⟩) (by assumption) ?_
  rotate_left
  · (intro w hSw; (try dsimp only at hSw); go_simp; all_goals (with_reducible rfl))
  (try simp only [Act.put, List.setIfInBounds_toArray, List.set_cons_zero, List.set_cons_succ])
  refine takeAt (i := 2) (d := 30) (v := ?_) rfl (by kernel_rfl) (by kernel_rfl) (by kernel_rfl) (by kernel_rfl) (fun _ _ _ h => h) (Or.inl ⟨by kernel_rfl, ?_⟩) (by assumption) ?_
  rotate_left
  · (intro w hSw; (try dsimp only at hSw); go_simp; all_goals (with_reducible rfl))
  (try simp only [Act.put, List.setIfInBounds_toArray, List.set_cons_zero, List.set_cons_succ])
  refine takeAt (i := 3) (d := 31) (v := ?_) rfl (by kernel_rfl) (by kernel_rfl) (by kernel_rfl) (by kernel_rfl) (fun _ _ _ h => h) (Or.inl ⟨by kernel_rfl, ?_⟩) (by assumption) ?_
  rotate_left
  · (intro w hSw; (try dsimp only at hSw); go_simp; all_goals (with_reducible rfl))
  (try simp only [Act.put, List.setIfInBounds_toArray, List.set_cons_zero, List.set_cons_succ])
  refine takeAt (i := 4) (d := 32) (v := ?_) rfl (by kernel_rfl) (by kernel_rfl) (by kernel_rfl) (by kernel_rfl) (fun _ _ _ h => h) (Or.inl ⟨by kernel_rfl, ?_⟩) (by assumption) ?_
  rotate_left
  · (intro w hSw; (try dsimp only at hSw); go_simp; all_goals (with_reducible rfl))
  (try simp only [Act.put, List.setIfInBounds_toArray, List.set_cons_zero, List.set_cons_succ])
  refine takeAt (i := 5) (d := 33) (v := ?_) rfl (by kernel_rfl) (by kernel_rfl) (by kernel_rfl) (by kernel_rfl) (fun _ _ _ h => h) (Or.inl ⟨by kernel_rfl, ?_⟩) (by assumption) ?_
  rotate_left
  · (intro w hSw; (try dsimp only at hSw); go_simp; all_goals (with_reducible rfl))
  (try simp only [Act.put, List.setIfInBounds_toArray, List.set_cons_zero, List.set_cons_succ])
  refine takeAt (i := 6) (d := 34) (v := ?_) rfl (by kernel_rfl) (by kernel_rfl) (by kernel_rfl) (by kernel_rfl) (fun _ _ _ h => h) (Or.inl ⟨by kernel_rfl, ?_⟩) (by assumption) ?_
  rotate_left
  · (intro w hSw; (try dsimp only at hSw); go_simp; all_goals (with_reducible rfl))
  (try simp only [Act.put, List.setIfInBounds_toArray, List.set_cons_zero, List.set_cons_succ])
  refine takeAt (i := 7) (d := 35) (v := ?_) rfl (by kernel_rfl) (by kernel_rfl) (by kernel_rfl) (by kernel_rfl) (fun _ _ _ h => h) (Or.inl ⟨by kernel_rfl, ?_⟩) (by assumption) ?_
  rotate_left
  · (intro w hSw; (try dsimp only at hSw); go_simp; all_goals (with_reducible rfl))
  (try simp only [Act.put, List.setIfInBounds_toArray, List.set_cons_zero, List.set_cons_succ])
  refine takeAt (i := 8) (d := 36) (v := ?_) rfl (by kernel_rfl) (by kernel_rfl) (by kernel_rfl) (by kernel_rfl) (fun _ _ _ h => h) (Or.inl ⟨by kernel_rfl, ?_⟩) (by assumption) ?_
  rotate_left
  · (intro w hSw; (try dsimp only at hSw); go_simp; all_goals (with_reducible rfl))
  (try simp only [Act.put, List.setIfInBounds_toArray, List.set_cons_zero, List.set_cons_succ])
  refine takeAt (i := 9) (d := 37) (v := ?_) rfl (by kernel_rfl) (by kernel_rfl) (by kernel_rfl) (by kernel_rfl) (fun _ _ _ h => h) (Or.inl ⟨by kernel_rfl, ?_⟩) (by assumption) ?_
  rotate_left
  · (intro w hSw; (try dsimp only at hSw); go_simp; all_goals (with_reducible rfl))
  (try simp only [Act.put, List.setIfInBounds_toArray, List.set_cons_zero, List.set_cons_succ])
  refine takeAt (i := 10) (d := 38) (v := ?_) rfl (by kernel_rfl) (by kernel_rfl) (by kernel_rfl) (by kernel_rfl) (fun _ _ _ h => h) (Or.inl ⟨by kernel_rfl, ?_⟩) (by assumption) ?_
  rotate_left
  · (intro w hSw; (try dsimp only at hSw); go_simp; all_goals (with_reducible rfl))
  (try simp only [Act.put, List.setIfInBounds_toArray, List.set_cons_zero, List.set_cons_succ])
  refine takeAt (i := 11) (d := 39) (v := ?_) rfl (by kernel_rfl) (by kernel_rfl) (by kernel_rfl) (by kernel_rfl) (fun _ _ _ h => h) (Or.inl ⟨by kernel_rfl, ?_⟩) (by assumption) ?_
  rotate_left
  · (intro w hSw; (try dsimp only at hSw); go_simp; all_goals (with_reducible rfl))
  (try simp only [Act.put, List.setIfInBounds_toArray, List.set_cons_zero, List.set_cons_succ])
  refine takeAt (i := 12) (d := 40) (v := ?_) rfl (by kernel_rfl) (by kernel_rfl) (by kernel_rfl) (by kernel_rfl) (fun _ _ _ h => h) (Or.inl ⟨by kernel_rfl, ?_⟩) (by assumption) ?_
  rotate_left
  · (intro w hSw; (try dsimp only at hSw); go_simp; all_goals (with_reducible rfl))
  (try simp only [Act.put, List.setIfInBounds_toArray, List.set_cons_zero, List.set_cons_succ])
  refine takeAt (i := 13) (d := 41) (v := ?_) rfl (by kernel_rfl) (by kernel_rfl) (by kernel_rfl) (by kernel_rfl) (fun _ _ _ h => h) (Or.inl ⟨by kernel_rfl, ?_⟩) (by assumption) ?_
  rotate_left
  · (intro w hSw; (try dsimp only at hSw); go_simp; all_goals (with_reducible rfl))
  (try simp only [Act.put, List.setIfInBounds_toArray, List.set_cons_zero, List.set_cons_succ])
  refine takeAt (i := 14) (d := 42) (v := ?_) rfl (by kernel_rfl) (by kernel_rfl) (by kernel_rfl) (by kernel_rfl) (fun _ _ _ h => h) (Or.inl ⟨by kernel_rfl, ?_⟩) (by assumption) ?_
  rotate_left
  · (intro w hSw; (try dsimp only at hSw); go_simp; all_goals (with_reducible rfl))
  (try simp only [Act.put, List.setIfInBounds_toArray, List.set_cons_zero, List.set_cons_succ])
  refine takeAt (i := 15) (d := 43) (v := ?_) rfl (by kernel_rfl) (by kernel_rfl) (by kernel_rfl) (by kernel_rfl) (fun _ _ _ h => h) (Or.inl ⟨by kernel_rfl, ?_⟩) (by assumption) ?_
  rotate_left
  · (intro w hSw; (try dsimp only at hSw); go_simp; all_goals (with_reducible rfl))
  (try simp only [Act.put, List.setIfInBounds_toArray, List.set_cons_zero, List.set_cons_succ])
  refine takeAt (i := 16) (d := 44) (v := ?_) rfl (by kernel_rfl) (by kernel_rfl) (by kernel_rfl) (by kernel_rfl) (fun _ _ _ h => h) (Or.inl ⟨by kernel_rfl, ?_⟩) (by assumption) ?_
  rotate_left
  · (intro w hSw; (try dsimp only at hSw); go_simp; all_goals (with_reducible rfl))
  (try simp only [Act.put, List.setIfInBounds_toArray, List.set_cons_zero, List.set_cons_succ])
  refine wpAnyH_ready (rs := [17]) (by kernel_rfl) (by simp) ?_
  refine AllReadyH.cons rfl (fun K hK => ?_) AllReadyH.nil
  clear hHeld
  go_simp
  refine (law_one _).mono ?_
  rintro e w9 ⟨cs9, rfl, hm9, hb⟩
  have HX := Lib.hid ((hb.block _ (row_lt HX.out)).trans HX.out)
  have HD := Lib.hid (HD.out.keeps (Keeps.all _ hb))
  have HB : Hid (Below w.heap.size w w9) := Lib.hid (below_next HB.out hb)
  clear y0 y1 y2 y3 y4 y5 y6 y7
  have y0 := row_cell HX.out 0 rfl; have y1 := row_cell HX.out 1 rfl; have y2 := row_cell HX.out 2 rfl; have y3 := row_cell HX.out 3 rfl; have y4 := row_cell HX.out 4 rfl; have y5 := row_cell HX.out 5 rfl; have y6 := row_cell HX.out 6 rfl; have y7 := row_cell HX.out 7 rfl
  simp only [List.getElem_toArray, List.getElem_cons_zero, List.getElem_cons_succ] at y0 y1 y2 y3 y4 y5 y6 y7
  have HA := Lib.hid hm9
  clear hm9 hb
  go_wp2_with fail
  refine hK.out _ _ ⟨y0, y1, y2, y3, y4, y5, y6, y7⟩ (fun hHeld => ?_)
  clear hK K
  (try refine stateAt (d := 45) (by kernel_rfl) ?_)
  (try simp only [Act.put, List.setIfInBounds_toArray, List.set_cons_zero, List.set_cons_succ])
  refine wpAnyH_ready (rs := [18]) (by kernel_rfl) (by simp) ?_
  refine AllReadyH.cons rfl (fun K hK => ?_) AllReadyH.nil
  clear hHeld
  go_simp
  refine (eqMod5 w9 _ _ [.slice at0 oneM.types.length at1, .slice ah0 oneM.hosts.length ah1, .slice ag0 oneM.globals.length ag1, .int .i64 oneM.first, .int .i64 oneM.most, .slice af0 oneM.funs.length af1, .slice ad0 oneM.datas.length ad1, .slice ae0 oneM.exps.length ae1] cs9 oneM oneM HD.out HA.out).mono ?_
  rintro e w10 ⟨rfl, hb⟩
  rw [show decide (oneM = oneM) = true from decide_eq_true rfl]
  clear HA
  have HX := Lib.hid ((hb.block _ (row_lt HX.out)).trans HX.out)
  have HD := Lib.hid (HD.out.keeps (Keeps.all _ hb))
  have HB : Hid (Below w.heap.size w w10) := Lib.hid (below_next HB.out hb)
  clear y0 y1 y2 y3 y4 y5 y6 y7
  have y0 := row_cell HX.out 0 rfl; have y1 := row_cell HX.out 1 rfl; have y2 := row_cell HX.out 2 rfl; have y3 := row_cell HX.out 3 rfl; have y4 := row_cell HX.out 4 rfl; have y5 := row_cell HX.out 5 rfl; have y6 := row_cell HX.out 6 rfl; have y7 := row_cell HX.out 7 rfl
  simp only [List.getElem_toArray, List.getElem_cons_zero, List.getElem_cons_succ] at y0 y1 y2 y3 y4 y5 y6 y7
  clear hb
  go_wp2_with fail
  refine hK.out _ _ ⟨y0, y1, y2, y3, y4, y5, y6, y7⟩ (fun hHeld => ?_)
  clear hK K
  (try refine stateAt (d := 46) (by kernel_rfl) ?_)
  (try simp only [Act.put, List.setIfInBounds_toArray, List.set_cons_zero, List.set_cons_succ])
  refine takeAt (i := 19) (d := 47) (v := ?_) rfl (by kernel_rfl) (by kernel_rfl) (by kernel_rfl) (by kernel_rfl) (fun _ _ _ h => h) (Or.inl ⟨by kernel_rfl, ?_⟩) (by assumption) ?_
  rotate_left
  · (intro w hSw; (try dsimp only at hSw); go_simp; all_goals (with_reducible rfl))
  (try simp only [Act.put, List.setIfInBounds_toArray, List.set_cons_zero, List.set_cons_succ])
  refine takeAt (i := 20) (d := 48) (v := ?_) rfl (by kernel_rfl) (by kernel_rfl) (by kernel_rfl) (by kernel_rfl) (fun _ _ _ h => h) (Or.inl ⟨by kernel_rfl, ?_⟩) (by assumption) ?_
  rotate_left
  · (intro w hSw; (try dsimp only at hSw); go_simp; all_goals (with_reducible rfl))
  (try simp only [Act.put, List.setIfInBounds_toArray, List.set_cons_zero, List.set_cons_succ])
  refine wpAnyH_ready (rs := [21]) (by kernel_rfl) (by simp) ?_
  refine AllReadyH.cons rfl (fun K hK => ?_) AllReadyH.nil
  clear hHeld
  go_simp
  refine (law_one _).mono ?_
  rintro e w11 ⟨cs11, rfl, hm11, hb⟩
  have HX := Lib.hid ((hb.block _ (row_lt HX.out)).trans HX.out)
  have HD := Lib.hid (HD.out.keeps (Keeps.all _ hb))
  have HB : Hid (Below w.heap.size w w11) := Lib.hid (below_next HB.out hb)
  clear y0 y1 y2 y3 y4 y5 y6 y7
  have y0 := row_cell HX.out 0 rfl; have y1 := row_cell HX.out 1 rfl; have y2 := row_cell HX.out 2 rfl; have y3 := row_cell HX.out 3 rfl; have y4 := row_cell HX.out 4 rfl; have y5 := row_cell HX.out 5 rfl; have y6 := row_cell HX.out 6 rfl; have y7 := row_cell HX.out 7 rfl
  simp only [List.getElem_toArray, List.getElem_cons_zero, List.getElem_cons_succ] at y0 y1 y2 y3 y4 y5 y6 y7
  have HA := Lib.hid hm11
  clear hm11 hb
  go_wp2_with fail
  refine hK.out _ _ ⟨y0, y1, y2, y3, y4, y5, y6, y7⟩ (fun hHeld => ?_)
  clear hK K
  (try refine stateAt (d := 49) (by kernel_rfl) ?_)
  (try simp only [Act.put, List.setIfInBounds_toArray, List.set_cons_zero, List.set_cons_succ])
  refine wpAnyH_ready (rs := [22]) (by kernel_rfl) (by simp) ?_
  refine AllReadyH.cons rfl (fun K hK => ?_) AllReadyH.nil
  clear hHeld
  go_simp
  refine (mod_Check w11 _ (fun _ h => h) oneM cs11 HA.out one_sm one_wf (HT.out.bel HB.out)).mono ?_
  rintro e w12 ⟨rfl, hb⟩
  rw [one_encM]
  clear HA
  have HX := Lib.hid ((hb.block _ (row_lt HX.out)).trans HX.out)
  have HD := Lib.hid (HD.out.keeps (Keeps.all _ hb))
  have HB : Hid (Below w.heap.size w w12) := Lib.hid (below_next HB.out hb)
  clear y0 y1 y2 y3 y4 y5 y6 y7
  have y0 := row_cell HX.out 0 rfl; have y1 := row_cell HX.out 1 rfl; have y2 := row_cell HX.out 2 rfl; have y3 := row_cell HX.out 3 rfl; have y4 := row_cell HX.out 4 rfl; have y5 := row_cell HX.out 5 rfl; have y6 := row_cell HX.out 6 rfl; have y7 := row_cell HX.out 7 rfl
  simp only [List.getElem_toArray, List.getElem_cons_zero, List.getElem_cons_succ] at y0 y1 y2 y3 y4 y5 y6 y7
  clear hb
  go_wp2_with fail
  refine hK.out _ _ ⟨y0, y1, y2, y3, y4, y5, y6, y7⟩ (fun hHeld => ?_)
  clear hK K
  (try refine stateAt (d := 50) (by kernel_rfl) ?_)
  (try simp only [Act.put, List.setIfInBounds_toArray, List.set_cons_zero, List.set_cons_succ])
  refine takeAt (i := 23) (d := 51) (v := ?_) rfl (by kernel_rfl) (by kernel_rfl) (by kernel_rfl) (by kernel_rfl) (fun _ _ _ h => h) (Or.inl ⟨by kernel_rfl, ?_⟩) (by assumption) ?_
  rotate_left
  · (intro w hSw; (try dsimp only at hSw); go_simp; all_goals (with_reducible rfl))
  (try simp only [Act.put, List.setIfInBounds_toArray, List.set_cons_zero, List.set_cons_succ])
  refine takeAt (i := 24) (d := 52) (v := ?_) rfl (by kernel_rfl) (by kernel_rfl) (by kernel_rfl) (by kernel_rfl) (fun _ _ _ h => h) (Or.inl ⟨by kernel_rfl, ?_⟩) (by assumption) ?_
  rotate_left
  · (intro w hSw; (try dsimp only at hSw); go_simp; all_goals (with_reducible rfl))
  (try simp only [Act.put, List.setIfInBounds_toArray, List.set_cons_zero, List.set_cons_succ])
  refine takeAt (i := 25) (d := 53) (v := ?_) rfl (by kernel_rfl) (by kernel_rfl) (by kernel_rfl) (by kernel_rfl) (fun _ _ _ h => h) (Or.inl ⟨by kernel_rfl, ?_⟩) (by assumption) ?_
  rotate_left
  · (intro w hSw; (try dsimp only at hSw); go_simp; all_goals (with_reducible rfl))
  (try simp only [Act.put, List.setIfInBounds_toArray, List.set_cons_zero, List.set_cons_succ])
  refine takeAt (i := 26) (d := 54) (v := ?_) rfl (by kernel_rfl) (by kernel_rfl) (by kernel_rfl) (by kernel_rfl) (fun _ _ _ h => h) (Or.inl ⟨by kernel_rfl, ?_⟩) (by assumption) ?_
  rotate_left
  · (intro w hSw; (try dsimp only at hSw); go_simp; all_goals (with_reducible rfl))
  (try simp only [Act.put, List.setIfInBounds_toArray, List.set_cons_zero, List.set_cons_succ])
  refine takeAt (i := 27) (d := 55) (v := ?_) rfl (by kernel_rfl) (by kernel_rfl) (by kernel_rfl) (by kernel_rfl) (fun _ _ _ h => h) (Or.inl ⟨by kernel_rfl, ?_⟩) (by assumption) ?_
  rotate_left
  · (intro w hSw; (try dsimp only at hSw); go_simp; all_goals (with_reducible rfl))
  (try simp only [Act.put, List.setIfInBounds_toArray, List.set_cons_zero, List.set_cons_succ])
  refine takeAt (i := 28) (d := 56) (v := ?_) rfl (by kernel_rfl) (by kernel_rfl) (by kernel_rfl) (by kernel_rfl) (fun _ _ _ h => h) (Or.inl ⟨by kernel_rfl, ?_⟩) (by assumption) ?_
  rotate_left
  · (intro w hSw; (try dsimp only at hSw); go_simp; all_goals (with_reducible rfl))
  (try simp only [Act.put, List.setIfInBounds_toArray, List.set_cons_zero, List.set_cons_succ])
  refine takeAt (i := 29) (d := 57) (v := ?_) rfl (by kernel_rfl) (by kernel_rfl) (by kernel_rfl) (by kernel_rfl) (fun _ _ _ h => h) (Or.inl ⟨by kernel_rfl, ?_⟩) (by assumption) ?_
  rotate_left
  · (intro w hSw; (try dsimp only at hSw); go_simp; all_goals (with_reducible rfl))
  (try simp only [Act.put, List.setIfInBounds_toArray, List.set_cons_zero, List.set_cons_succ])
  refine takeAt (i := 30) (d := 58) (v := ?_) rfl (by kernel_rfl) (by kernel_rfl) (by kernel_rfl) (by kernel_rfl) (fun _ _ _ h => h) (Or.inl ⟨by kernel_rfl, ?_⟩) (by assumption) ?_
  rotate_left
  · (intro w hSw; (try dsimp only at hSw); go_simp; all_goals (with_reducible rfl))
  (try simp only [Act.put, List.setIfInBounds_toArray, List.set_cons_zero, List.set_cons_succ])
  refine takeAt (i := 31) (d := 59) (v := ?_) rfl (by kernel_rfl) (by kernel_rfl) (by kernel_rfl) (by kernel_rfl) (fun _ _ _ h => h) (Or.inl ⟨by kernel_rfl, ?_⟩) (by assumption) ?_
  rotate_left
  · (intro w hSw; (try dsimp only at hSw); go_simp; all_goals (with_reducible rfl))
  (try simp only [Act.put, List.setIfInBounds_toArray, List.set_cons_zero, List.set_cons_succ])
  refine takeAt (i := 32) (d := 60) (v := ?_) rfl (by kernel_rfl) (by kernel_rfl) (by kernel_rfl) (by kernel_rfl) (fun _ _ _ h => h) (Or.inl ⟨by kernel_rfl, ?_⟩) (by assumption) ?_
  rotate_left
  · (intro w hSw; (try dsimp only at hSw); go_simp; all_goals (with_reducible rfl))
  (try simp only [Act.put, List.setIfInBounds_toArray, List.set_cons_zero, List.set_cons_succ])
  refine takeAt (i := 33) (d := 0) (v := ?_) rfl (by kernel_rfl) (by kernel_rfl) (by kernel_rfl) (by kernel_rfl) (fun _ _ _ h => h) (Or.inl ⟨by kernel_rfl, ?_⟩) (by assumption) ?_
  rotate_left
  · (intro w hSw; (try dsimp only at hSw); go_simp; all_goals (with_reducible rfl))
  (try simp only [Act.put, List.setIfInBounds_toArray, List.set_cons_zero])
  refine wpAnyH_done (by kernel_rfl) ?_ _
  go_wp2_with fail
  go_ret
  exact ⟨rfl, HB.out⟩
end Go.Proofs.YteaolgldkfjdkaaDoor
