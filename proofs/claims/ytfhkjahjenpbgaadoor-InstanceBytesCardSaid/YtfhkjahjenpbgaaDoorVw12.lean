/- The validator's deferred closure. -/
import Derived.Test.YtfhkjahjenpbgaaDoorMVw1
import Derived.Defers
import Derived.Recover
namespace Go.Proofs.YtfhkjahjenpbgaaDoor
open Go Go.RowKit

theorem ta_wrong (W : World) (v : Value) : (Instr.typeAssert (.iface 113 v) 20 113 true).run Tryd.prog W = .ok (.tuple #[v, .bool true]) W := by kernel_rfl
/-- What a wrong row leaves: the error and its place in their boxes. -/
structure Wro (eb ab : Nat) (e a : Int) (w w' : World) : Prop where
  re : w'.heap[eb]? = some (.cells #[.int .i64 e] 38 (0, 0))
  ra : w'.heap[ab]? = some (.cells #[.int .i64 a] 3 (0, 0))
  keep : Keeps (fun b => b ≠ eb ∧ b ≠ ab) w w'
set_option maxRecDepth 100000 in
set_option maxHeartbeats 800000 in
theorem walk1_panicking (wb eb ab p : Nat) (hne : eb ≠ ab) (e0 a0 e a : Int) (older : List PanicEntry) (w : World) (hw : w.cell? ⟨wb, 0, none⟩ = some (.pointer (some ⟨p, 0, none⟩))) (hp : w.cell? ⟨p, 20, none⟩ = some (.int .i64 a)) (he : w.heap[eb]? = some (.cells #[.int .i64 e0] 38 (0, 0))) (ha : w.heap[ab]? = some (.cells #[.int .i64 a0] 3 (0, 0))) :
    CallsD Tryd.prog 32 #[.pointer (some ⟨wb, 0, none⟩), .pointer (some ⟨eb, 0, none⟩), .pointer (some ⟨ab, 0, none⟩)] (.panicking ({ v := .iface 113 (.agg #[.int .i64 e]), recovered := false } :: older)) w fun r u' w' =>
      r = .returned (.tuple #[]) ∧ u' = .panicking ({ v := .iface 113 (.agg #[.int .i64 e]), recovered := true } :: older) ∧ Wro eb ab e a w w' := by
  refine callsD_of_wpS Tryd.func32 rfl fun c₀ cs hu => ?_
  apply wpS_seq
  apply wpS_region
  simp [wpOpsS, go_sem, recoverD, hu, Tryd.ntmps32, Exit.thenS]
  refine wpS_of_wp ?_
  have ce := row_cell he 0 rfl; have fe := row_free he 0; have ca := row_cell ha 0 rfl; have fa := row_free ha 0
  simp only [List.getElem_toArray, List.getElem_cons_zero] at ce ca
  have HU := Lib.hid hu
  clear hu
  generalize hQ : (fun (e_1 : Exit) (a' : Act) (w' : World) => bodyPostS Tryd.prog Tryd.f32 c₀ cs _ e_1 a' _ w') = Q
  have HQ := Lib.hid hQ
  clear hQ
  generalize hT : #[.pointer (some ⟨wb, 0, none⟩), .pointer (some ⟨eb, 0, none⟩), .pointer (some ⟨ab, 0, none⟩)] ++ ((Array.replicate 20 undef).setIfInBounds 3 _).setIfInBounds 0 _ = T
  simp only [Array.replicate, List.replicate, List.setIfInBounds_toArray, List.set_cons_succ, List.set_cons_zero, List.append_toArray, List.cons_append, List.nil_append] at hT
  subst hT
  have hta := ta_wrong w (.agg #[.int .i64 e])
  go_wp2_with fail
  have hb := below_alloc w (.cells #[.int .i64 e] 113)
  have hn := heap_alloc_new w (.cells #[.int .i64 e] 113)
  have he1 := (hb.block eb (row_lt he)).trans he
  have ha1 := (hb.block ab (row_lt ha)).trans ha
  have hw1 := cell_below hb hw
  have hp1 := cell_below hb hp
  have n1 : w.heap.size ≠ eb := by have := row_lt he; omega
  have n2 : w.heap.size ≠ ab := by have := row_lt ha; omega
  have HB := Lib.hid hb
  clear ce ca fe fa he ha hta hb hw hp
  generalize w.alloc (.cells #[.int .i64 e] 113) = w1 at *
  generalize w.heap.size = g at n1 n2 hn ⊢
  have ce := row_cell he1 0 rfl; have fe := row_free he1 0; have ca := row_cell ha1 0 rfl; have fa := row_free ha1 0
  have y0 := row_cell hn 0 rfl
  simp only [List.getElem_toArray, List.getElem_cons_zero] at ce ca y0
  have HE := Lib.hid he1; have HA := Lib.hid ha1
  clear he1 ha1 hn
  have n1' := Ne.symm n1; have n2' := Ne.symm n2; have hne' := Ne.symm hne
  go_region
  have k1 := (Keeps.refl (fun b => b ≠ eb) w1).setCell (a := ⟨eb, 0, none⟩) (by simp) (.int .i64 e)
  have r1 : (w1.setCell ⟨eb, 0, none⟩ (.int .i64 e)).heap[eb]? = some (.cells #[.int .i64 e] 38 (0, 0)) := by simpa using row_setCell HE.out 0 (.int .i64 e)
  have r2 := (k1.block ab (row_lt HA.out) hne').trans HA.out
  generalize w1.setCell ⟨eb, 0, none⟩ (.int .i64 e) = w2 at *
  have k2 := (Keeps.refl (fun b => b ≠ ab) w2).setCell (a := ⟨ab, 0, none⟩) (by simp) (.int .i64 a)
  have r3 : (w2.setCell ⟨ab, 0, none⟩ (.int .i64 a)).heap[ab]? = some (.cells #[.int .i64 a] 3 (0, 0)) := by simpa using row_setCell r2 0 (.int .i64 a)
  have r4 := (k2.block eb (row_lt r1) hne).trans r1
  generalize w2.setCell ⟨ab, 0, none⟩ (.int .i64 a) = w3 at *
  have hC : Wro eb ab e a w w3.drew := ⟨r4, r3, ((Keeps.all (fun b => b ≠ eb ∧ b ≠ ab) HB.out).trans ((k1.mono fun _ _ h => h.1).trans (k2.mono fun _ _ h => h.2))).drew⟩
  have hU := HU.out
  rw [← HQ.out]
  simp [bodyPostS, results, Tryd.results32, hC]
theorem walk1_idle (w : World) (x y z : Value) :
    CallsD Tryd.prog 32 #[x, y, z] .returning w fun r u' w' => r = .returned (.tuple #[]) ∧ u' = .returning ∧ w' = w := by
  refine callsD_of_wpS Tryd.func32 rfl fun c₀ cs hu => ?_
  apply wpS_seq
  apply wpS_region
  simp [wpOpsS, go_sem, recoverD, hu, Tryd.ntmps32, Exit.thenS]
  refine wpS_of_wp ?_
  have HU := Lib.hid hu
  clear hu
  generalize hQ : (fun (e_1 : Exit) (a' : Act) (w' : World) => bodyPostS Tryd.prog Tryd.f32 c₀ cs _ e_1 a' _ w') = Q
  have HQ := Lib.hid hQ
  clear hQ
  generalize hT : #[x, y, z] ++ ((Array.replicate 20 undef).setIfInBounds 3 _).setIfInBounds 0 _ = T
  simp only [Array.replicate, List.replicate, List.setIfInBounds_toArray, List.set_cons_succ, List.set_cons_zero, List.append_toArray, List.cons_append, List.nil_append] at hT
  subst hT
  go_wp2
  have hU := HU.out
  rw [← HQ.out]
  simp [bodyPostS, results, Tryd.results32]
  cases c₀
  simp_all
end Go.Proofs.YtfhkjahjenpbgaaDoor
