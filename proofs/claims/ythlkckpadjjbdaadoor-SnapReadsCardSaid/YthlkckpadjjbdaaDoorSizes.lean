/- Sizes (flagonref00.SizePages, SizeState): counted as the text counts them, up to a bound. -/
import Derived.Test.YthlkckpadjjbdaaDoorState
namespace Go.Proofs.YthlkckpadjjbdaaDoor
open Go Go.RowKit

/-- Counted on as long as the sum is not beyond the bound. -/
def szGo {α : Type} (f : α → Nat) : List α → Nat → Nat
  | [], n => n
  | x :: l, n => if n ≤ 2147483647 then szGo f l (n + f x) else n
theorem szGo_stop {α : Type} (f : α → Nat) (l : List α) (n : Nat) (h : ¬ n ≤ 2147483647) : szGo f l n = n := by
  cases l with
  | nil => rfl
  | cons x l => rw [szGo, if_neg h]
theorem szGo_step {α : Type} {f : α → Nat} {l : List α} {k n : Nat} (hk : k < l.length) (h : n ≤ 2147483647) : szGo f (l.drop k) n = szGo f (l.drop (k + 1)) (n + f l[k]) := by
  rw [List.drop_eq_getElem_cons hk, szGo, if_pos h]
theorem szGo_le {α : Type} (f : α → Nat) (M : Nat) : ∀ (l : List α) (n : Nat), (∀ x ∈ l, f x ≤ M) → szGo f l n ≤ max n (2147483647 + M) := by
  intro l
  induction l with
  | nil => intro n _; rw [szGo]; omega
  | cons x l ih =>
    intro n h
    rw [szGo]
    have hx := h x (by simp)
    split
    · have := ih (n + f x) (fun y hy => h y (by simp [hy])); omega
    · omega
def szPages (l : List (List Int)) : Nat := szGo List.length l l.length
def szState (s : StateD) : Nat := szGo (fun f : FrameD => f.loc.length + f.stk.length) s.frames (s.frames.length + s.globals.length + s.results.length + szPages s.pages)

set_option maxRecDepth 100000 in
set_option maxHeartbeats 400000 in
theorem sizePages (w : World) (S) (v : Value) (l : List (List Int)) (h : RdLL .u8 S w v l) :
    Calls Tryd.prog 21 #[v] w fun e w' => e = .returned (.int .i64 (szPages l)) ∧ w' = w := by
  obtain ⟨a, c, rfl, hc, hm, r⟩ := h
  have H := Lib.hid r; clear r
  go_enter Tryd.func21, Tryd.ntmps21
  go_wp2
  go_loop [3, 4] (fun s i => ∃ k n : Nat, k ≤ l.length ∧ i = .int .i64 k ∧ s = .int .i64 n ∧ n ≤ 281474976710656 ∧ Hid (szGo List.length (l.drop k) n = szPages l)) (fun _ i => l.length - (intOf i).toNat)
  case atStart => exact ⟨0, l.length, by omega, rfl, rfl, by omega, rfl⟩
  case round =>
    obtain ⟨k, n, hk, rfl, rfl, hn, HS⟩ := hrel
    by_cases hlt : k < l.length
    · by_cases hb : n ≤ 2147483647
      · obtain ⟨b, o, cs, rfl, _, hn1, hcell, v0, rfl, hr⟩ := H.out k hlt
        obtain ⟨a0, c0, rfl, hl0⟩ := hr.len
        have e0 := hcell 0 (by omega)
        simp at e0
        clear hcell hn1
        have E := Lib.hid ((szGo_step hlt hb).symm.trans HS.out)
        generalize l[k].length = m at *
        go_wp2
        go_round
        case rel => exact ⟨k + 1, n + m, by omega, by go_num, by go_num, by omega, E⟩
        case measure => simp [intOf]; omega
      · have E := Lib.hid ((szGo_stop List.length (l.drop k) n hb).symm.trans HS.out)
        go_wp2
        go_ret
        exact ⟨ret_int (by rw [E.out]), rfl⟩
    · have E : Hid (n = szPages l) := by have := HS.out; rw [List.drop_of_length_le (by omega)] at this; exact this
      go_wp2
      go_ret
      exact ⟨ret_int (by rw [E.out]), rfl⟩

theorem sizePagesZ (w : World) (S) (v : Value) (l : List (List Int)) (z : Nat) (hz : Hid (szPages l = z)) (h : RdLL .u8 S w v l) :
    Calls Tryd.prog 21 #[v] w fun e w' => e = .returned (.int .i64 z) ∧ w' = w := by rw [← hz.out]; exact sizePages w S v l h

set_option maxRecDepth 100000 in
set_option maxHeartbeats 800000 in
theorem sizeState (w : World) (S) (cs : List Value) (s : StateD) (h : RState S w cs s) :
    Calls Tryd.prog 6 #[.agg cs.toArray] w fun e w' => e = .returned (.int .i64 (szState s)) ∧ Below w.heap.size w w' := by
  obtain ⟨fv, gv, pv, rv, rfl, hf, hg, hp, hr⟩ := h
  obtain ⟨ga, gc, rfl, hg0⟩ := hg.len
  obtain ⟨ra, rc, rfl, hr0⟩ := hr.len
  have HP := Lib.hid hp
  have hpz : szPages s.pages ≤ 140739635838975 + 140737488355328 := by
    have := szGo_le List.length 140737488355328 s.pages s.pages.length (fun x hx => by
      obtain ⟨i, hi, rfl⟩ := List.getElem_of_mem hx
      obtain ⟨_, _, _, _, _, h3⟩ := hp
      obtain ⟨b, o, cs, _, _, _, _, v0, _, hr⟩ := h3 i hi
      obtain ⟨_, _, _, hl⟩ := hr.len
      exact hl)
    obtain ⟨_, _, _, hl⟩ := hp.len
    unfold szPages; omega
  obtain ⟨fa, fc, rfl, hfc, hf0, r⟩ := hf
  have H := Lib.hid r; clear r hg hp hr
  have HSZ : Hid (szState s = szGo (fun f : FrameD => f.loc.length + f.stk.length) s.frames (s.frames.length + s.globals.length + s.results.length + szPages s.pages)) := rfl
  generalize hz : szPages s.pages = z at *
  have HZ := Lib.hid hz; clear hz
  go_enter Tryd.func6, Tryd.ntmps6
  go_wp2
  have E1 : IntKind.i64.wrap ((s.frames.length : Int) + s.globals.length) = ((s.frames.length + s.globals.length : Nat) : Int) := by rw [IntWalk.i64_in _ ⟨by omega, by omega⟩]; push_cast; rfl
  have E2 : IntKind.i64.wrap (((s.frames.length + s.globals.length : Nat) : Int) + s.results.length) = ((s.frames.length + s.globals.length + s.results.length : Nat) : Int) := by rw [IntWalk.i64_in _ ⟨by omega, by omega⟩]; push_cast; rfl
  have E3 : IntKind.i64.wrap (((s.frames.length + s.globals.length + s.results.length : Nat) : Int) + z) = ((s.frames.length + s.globals.length + s.results.length + z : Nat) : Int) := by rw [IntWalk.i64_in _ ⟨by omega, by omega⟩]; push_cast; rfl
  go_quiet ((go_at_call 21; exact Calls.quiet_of_same (sizePagesZ _ S pv s.pages z HZ (HP.out.keeps (Keeps.drewN ((Keeps.refl S w).alloc _) _)))))
  go_wp2
  go_loopw [3, 4] (fun u i wr => ∃ k n d : Nat, k ≤ s.frames.length ∧ i = .int .i64 k ∧ u = .int .i64 n ∧ n ≤ 4503599627370496 ∧ Hid (szGo (fun f : FrameD => f.loc.length + f.stk.length) (s.frames.drop k) n = szState s) ∧ wr = (w.alloc (Obj.cells #[.slice fa s.frames.length fc, .slice ga s.globals.length gc, pv, .int .i64 s.replies, .int .i8 s.ends, .slice ra s.results.length rc, .int .i8 s.trap, .int .i64 s.used] 27)).drewN d) (fun _ i _ => s.frames.length - (intOf i).toNat)
  case atStart => exact ⟨0, s.frames.length + s.globals.length + s.results.length + z, _, by omega, rfl, by go_num, by omega, HSZ.out.symm, rfl⟩
  case round =>
    obtain ⟨k, n, d, hk, rfl, rfl, hn, HS, rfl⟩ := hrel
    by_cases hlt : k < s.frames.length
    · by_cases hb : n ≤ 2147483647
      · obtain ⟨b, o, cs, rfl, _, hn1, hcell, lv, sv, rfl, hl, hs⟩ := H.out k hlt
        obtain ⟨la, lc, rfl, hl0⟩ := hl.len
        obtain ⟨sa, sc, rfl, hs0⟩ := hs.len
        have e2 := cell_below (below_alloc w (Obj.cells #[.slice (some ⟨b, o, none⟩) s.frames.length fc, .slice ga s.globals.length gc, pv, .int .i64 s.replies, .int .i8 s.ends, .slice ra s.results.length rc, .int .i8 s.trap, .int .i64 s.used] 27)) (hcell 2 (by omega))
        have e3 := cell_below (below_alloc w (Obj.cells #[.slice (some ⟨b, o, none⟩) s.frames.length fc, .slice ga s.globals.length gc, pv, .int .i64 s.replies, .int .i8 s.ends, .slice ra s.results.length rc, .int .i8 s.trap, .int .i64 s.used] 27)) (hcell 3 (by omega))
        clear hcell hn1 hl hs
        have E := Lib.hid ((szGo_step hlt hb).symm.trans HS.out)
        generalize s.frames[k].loc.length = m1 at *
        generalize s.frames[k].stk.length = m2 at *
        have F1 : IntKind.i64.wrap ((n : Int) + m1) = ((n + m1 : Nat) : Int) := by rw [IntWalk.i64_in _ ⟨by omega, by omega⟩]; push_cast; rfl
        have F2 : IntKind.i64.wrap (((n + m1 : Nat) : Int) + m2) = ((n + m1 + m2 : Nat) : Int) := by rw [IntWalk.i64_in _ ⟨by omega, by omega⟩]; push_cast; rfl
        go_wp2
        go_quiet (fail)
        clear F1 F2 e2 e3
        go_wp2
        go_roundw
        case rel => exact ⟨k + 1, n + m1 + m2, _, by omega, by go_num, by go_num, by omega, by rw [Nat.add_assoc]; exact E, rfl⟩
        case measure => simp [intOf]; omega
      · have E := Lib.hid ((szGo_stop (fun f : FrameD => f.loc.length + f.stk.length) (s.frames.drop k) n hb).symm.trans HS.out)
        go_wp2
        go_ret
        exact ⟨ret_int (by rw [E.out]), below_drewN (below_alloc _ _) _⟩
    · have E : Hid (n = szState s) := by have := HS.out; rw [List.drop_of_length_le (by omega)] at this; exact this
      go_wp2
      go_ret
      exact ⟨ret_int (by rw [E.out]), below_drewN (below_alloc _ _) _⟩
end Go.Proofs.YthlkckpadjjbdaaDoor
