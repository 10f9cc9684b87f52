/- module's rules: twice, room, starts, named. module's rules: starts, named. module.named. -/
import Derived.Test.YtfhkjahjenpbgaaDoorMSmall
import Derived.Test.YtfhkjahjenpbgaaDoorMMod
import Derived.Deep.QuietTactic
import Derived.BigQuiet
namespace Go.Proofs.YtfhkjahjenpbgaaDoor
open Go Go.RowKit

/-- The rules at block p know the module at block q, whose cells are these. -/
structure Rl (w : World) (p q : Nat) (cs : Array Value) : Prop where
  ptr : w.cell? ⟨p, 0, none⟩ = some (.pointer (some ⟨q, 0, none⟩))
  row : w.heap[q]? = some (.cells cs 29 (0, 0))
theorem sg_at {S : Nat → Prop} {w : World} {a : Option Addr} {n c : Nat} {l : List SigD} (h : RdSigs S w (.slice a n c) l) {k : Nat} (hk : k < l.length) :
    ∃ b off, a = some ⟨b, off, none⟩ ∧ w.cell? ⟨b, off + k * 2, none⟩ = some (.string l[k].1) ∧ w.cell? ⟨b, off + k * 2 + 1, none⟩ = some (.string l[k].2) := by
  obtain ⟨a', c', e, _, _, h3⟩ := h
  simp only [Value.slice.injEq] at e
  obtain ⟨rfl, _, rfl⟩ := e
  obtain ⟨b, off, cs, e1, e2, e3, e4, e5⟩ := h3 k hk
  subst e5
  exact ⟨b, off, e1, e4 0 (by omega), e4 1 (by omega)⟩
theorem mod_room (w : World) (p q : Nat) (cs : Array Value) (S : Nat → Prop) (tv : Value) (ts : List SigD) (t : Nat) (ht : t < ts.length) (h : Rl w p q cs) (h0 : cs[0]? = some tv) (hr : RdSigs S w tv ts) (hs : ts[t].1.size ≤ 64) :
    Calls Tryd.prog 44 #[.pointer (some ⟨p, 0, none⟩), .int .i64 t] w fun r w' => r = .returned (.int .i64 (roomT ts t)) ∧ w' = w := by
  obtain ⟨a, c, rfl, hl⟩ := hr.len
  obtain ⟨b, off, rfl, c1, c2⟩ := sg_at hr ht
  have hp := h.ptr
  have hq := row_cell h.row 0 h0
  have HR := Lib.hid (show roomT ts t = 64 - ts[t].1.size by unfold roomT; simp [List.getD_eq_getElem?_getD, ht])
  clear h h0 hr
  generalize hx : ts[t].1 = x at *
  clear hx
  go_enter Tryd.func44, Tryd.ntmps44
  go_wp2
  go_ret
  refine ⟨?_, rfl⟩
  rw [HR.out]
  exact ret_int (by omega)
theorem ba_inj5 {a b : ByteArray} (h : a.toList = b.toList) : a = b := by
  rw [ByteArray.toList_eq, ByteArray.toList_eq] at h
  obtain ⟨⟨x⟩⟩ := a
  obtain ⟨⟨y⟩⟩ := b
  simp at h
  rw [h]
set_option maxRecDepth 100000 in
set_option maxHeartbeats 800000 in
theorem mod_twice (w : World) (p q : Nat) (cs : Array Value) (S : Nat → Prop) (tv : Value) (l : List SigD) (n : Nat) (hn : l.length = n + 1) (h : Rl w p q cs) (h0 : cs[0]? = some tv) (hr : RdSigs S w tv l) (at_ : Int) :
    Calls Tryd.prog 39 #[.pointer (some ⟨p, 0, none⟩), .int .i64 at_] w fun r w' =>
      ((∀ j (h : j < n), l[j] ≠ l[n]) ∧ r = .returned (.tuple #[]) ∧ Below w.heap.size w w') ∨ ((∃ j, ∃ h : j < n, l[j] = l[n]) ∧ r = .panicked (thrown 16 at_) ∧ Below w.heap.size w w') := by
  obtain ⟨a, c, rfl, hl⟩ := hr.len
  obtain ⟨b, off, rfl, d1, d2⟩ := sg_at hr (show n < l.length by omega)
  have hp := h.ptr
  have hq := row_cell h.row 0 h0
  have HR := Lib.hid hr; have HH := Lib.hid h
  have HN := Lib.hid hn
  have hc : n + 1 ≤ c := by obtain ⟨_, _, e, h1, _⟩ := hr; simp only [Value.slice.injEq] at e; omega
  rw [hn] at hq hl
  clear h h0 hr
  have hn' : (((n + 1 : Nat) : Int) - 1) = n := by omega
  go_enter Tryd.func39, Tryd.ntmps39
  go_wp2
  go_loopw [20] (fun i wr => ∃ k : Nat, k ≤ n ∧ i = .int .i64 k ∧ Hid (∀ j (h : j < l.length) (hn : n < l.length), j < k → l[j] ≠ l[n]) ∧ Below w.heap.size w wr) (fun i _ => n - (intOf i).toNat)
  case atStart => exact ⟨0, by omega, rfl, fun j h hn hj => absurd hj (by omega), Below.refl _ _⟩
  case round =>
    obtain ⟨k, hk, rfl, HT, hbel⟩ := hrel
    by_cases hlt : k < n
    · obtain ⟨b', off', e', c1, c2⟩ := sg_at HR.out (show k < l.length by rw [HN.out]; omega)
      simp only [Option.some.injEq, Addr.mk.injEq, and_true] at e'
      obtain ⟨rfl, rfl⟩ := e'
      have e1 := cell_below hbel c1; have e2 := cell_below hbel c2
      have x1 := cell_below hbel d1; have x2 := cell_below hbel d2
      clear c1 c2
      have hkl : k < l.length := by rw [HN.out]; omega
      have hnl : n < l.length := by rw [HN.out]; omega
      obtain ⟨y, hy⟩ : ∃ y, l[k] = y := ⟨_, rfl⟩
      obtain ⟨z, hz⟩ : ∃ z, l[n] = z := ⟨_, rfl⟩
      rw [hy] at e1 e2; rw [hz] at x1 x2
      have HY := Lib.hid hy; have HZ := Lib.hid hz
      clear hy hz
      obtain ⟨ya, yb⟩ := y
      obtain ⟨za, zb⟩ := z
      simp only at e1 e2 x1 x2
      have hb7 := below_alloc wr (.cells #[.string ya, .string yb] 48)
      have hr7 := heap_alloc_new wr (.cells #[.string ya, .string yb] 48)
      have HB7 := Lib.hid (below_step hbel (Nat.le_refl _) hb7)
      have y0 := row_cell hr7 0 rfl; have y1 := row_cell hr7 1 rfl
      simp only [List.getElem_toArray, List.getElem_cons_zero, List.getElem_cons_succ] at y0 y1
      have x1 := cell_below hb7 x1; have x2 := cell_below hb7 x2
      clear hb7 hr7 d1 d2
      go_wp2_with fail
      generalize wr.alloc (.cells #[.string ya, .string yb] 48) = w7 at *
      generalize wr.heap.size = g7 at *
      by_cases hA : ya.toList = za.toList
      · by_cases hB : yb.toList = zb.toList
        · have HE : Hid ((ya, yb) = (za, zb)) := Lib.hid (by rw [ba_inj5 hA, ba_inj5 hB])
          have hw : IntKind.i64.wrap (n : Int) = n := IntWalk.i64_in _ ⟨by omega, by omega⟩
          have hi0 : (0 : Int) ≤ n := by omega
          have hi1 : (n : Int) < n + 1 := by omega
          go_still_tail 9, (by kernel_rfl)
          clear hw
          go_wp2_with (go_at_call 30; refine (mod_ask _ _ _ _).mono ?_; rintro r w1 ⟨rfl, rfl⟩)
          exact ⟨rfl, .inr ⟨⟨k, hlt, by rw [HY.out, HZ.out]; exact HE.out⟩, rfl, below_step HB7.out (Nat.le_refl _) (Below.refl _ _).drew⟩⟩
        · have HNE : Hid ((ya, yb) ≠ (za, zb)) := Lib.hid (fun e => hB (by rw [(Prod.mk.inj e).2]))
          have hw : IntKind.i64.wrap (n : Int) = n := IntWalk.i64_in _ ⟨by omega, by omega⟩
          have hi0 : (0 : Int) ≤ n := by omega
          have hi1 : (n : Int) < n + 1 := by omega
          go_still_tail 9, (by kernel_rfl)
          clear hw
          go_wp2_with (go_at_call 30; refine (mod_ask _ _ _ _).mono ?_; rintro r w1 ⟨rfl, rfl⟩)
          go_roundw
          case rel =>
            refine ⟨k + 1, by omega, by go_num, fun j hj hnj hlt' => ?_, below_step HB7.out (Nat.le_refl _) (Below.refl _ _).drew⟩
            by_cases ej : j = k
            · subst ej; rw [HY.out, HZ.out]; exact HNE.out
            · exact HT.out j hj hnj (by omega)
          case measure => simp [intOf]; omega
      · have HNE : Hid ((ya, yb) ≠ (za, zb)) := Lib.hid (fun e => hA (by rw [(Prod.mk.inj e).1]))
        have hw : IntKind.i64.wrap (n : Int) = n := IntWalk.i64_in _ ⟨by omega, by omega⟩
        have hi0 : (0 : Int) ≤ n := by omega
        have hi1 : (n : Int) < n + 1 := by omega
        go_still_tail 9, (by kernel_rfl)
        clear hw
        go_wp2_with (go_at_call 30; refine (mod_ask _ _ _ _).mono ?_; rintro r w1 ⟨rfl, rfl⟩)
        go_roundw
        case rel =>
          refine ⟨k + 1, by omega, by go_num, fun j hj hnj hlt' => ?_, below_step HB7.out (Nat.le_refl _) (Below.refl _ _).drew⟩
          by_cases ej : j = k
          · subst ej; rw [HY.out, HZ.out]; exact HNE.out
          · exact HT.out j hj hnj (by omega)
        case measure => simp [intOf]; omega
    · obtain rfl : k = n := by omega
      go_wp2
      exact bodyPost_end (results_none rfl _ _ _) rfl (.inl ⟨fun j hj => HT.out j _ _ hj, rfl, hbel⟩)
end Go.Proofs.YtfhkjahjenpbgaaDoor
namespace Go.Proofs.YtfhkjahjenpbgaaDoor
open Go Go.RowKit

theorem da_at {S : Nat → Prop} {w : World} {a : Option Addr} {n c : Nat} {l : List DatD} (h : RdDats S w (.slice a n c) l) {k : Nat} (hk : k < l.length) :
    ∃ b off ba bc, a = some ⟨b, off, none⟩ ∧ w.cell? ⟨b, off + k * 2, none⟩ = some (.int .i64 l[k].at_) ∧ w.cell? ⟨b, off + k * 2 + 1, none⟩ = some (.slice ba l[k].b.length bc) ∧ RdI .u8 S w (.slice ba l[k].b.length bc) l[k].b := by
  obtain ⟨a', c', e, _, _, h3⟩ := h
  simp only [Value.slice.injEq] at e
  obtain ⟨rfl, _, rfl⟩ := e
  obtain ⟨b, off, cs, e1, e2, e3, e4, v, e5, e6⟩ := h3 k hk
  subst e5
  obtain ⟨ba, bc, rfl, _⟩ := e6.len
  exact ⟨b, off, ba, bc, e1, e4 0 (by omega), e4 1 (by omega), e6⟩
/-- Where data begin: the error. -/
def errSt (room : Int) (acc : List DatD) (x : Int) : Int := if x < 0 ∨ room < x then 17 else if x ≤ behindD acc then 18 else 0
theorem drew_bel (w : World) : Below w.heap.size w w.drew := (Below.refl _ _).drew
def TwoEnds (err : Int) (at_ : Int) (w : World) (r : Ending) (w' : World) : Prop :=
  (err = 0 ∧ r = .returned (.tuple #[]) ∧ Below w.heap.size w w') ∨ (err ≠ 0 ∧ r = .panicked (thrown err at_) ∧ Below w.heap.size w w')
set_option maxRecDepth 100000 in
set_option maxHeartbeats 800000 in
theorem mod_starts (w : World) (p q : Nat) (cs : Array Value) (S : Nat → Prop) (first R : Nat) (hf : first ≤ 64) (hfe : (first : Int) * 4096 = R) (h : Rl w p q cs) (h3 : cs[3]? = some (.int .i64 first)) (x : Int) (dv : Value) (acc : List DatD) (hr : RdDats S w dv acc)
    (hl : acc.length ≤ 1000000) (hend : -1 ≤ behindD acc ∧ behindD acc ≤ 281474976710656) (hat : ∀ d ∈ acc, 0 ≤ d.at_ ∧ d.at_ ≤ 281474976710656) (at_ : Int) :
    Calls Tryd.prog 47 #[.pointer (some ⟨p, 0, none⟩), .int .i64 x, dv, .int .i64 at_] w (TwoEnds (errSt (R : Int) acc x) at_ w) := by
  obtain ⟨a, c, rfl, _⟩ := hr.len
  have hp := h.ptr
  have hq := row_cell h.row 3 h3
  have hR := Lib.hid hr
  have hb0 := Below.refl w.heap.size w
  clear h h3 hr
  by_cases h0 : x < 0
  · have HE : Hid (errSt (R : Int) acc x = 17) := Lib.hid (by unfold errSt; rw [if_pos (.inl h0)])
    go_enter Tryd.func47, Tryd.ntmps47
    go_wp2_with (go_at_call 30; refine (mod_ask _ _ _ _).mono ?_; rintro r w1 ⟨rfl, rfl⟩)
    all_goals (first | exact ⟨rfl, .inr ⟨by rw [HE.out]; decide, by rw [HE.out], hb0⟩⟩ | (exfalso; simp_all; omega))
  by_cases h1 : (R : Int) < x
  · have HE : Hid (errSt (R : Int) acc x = 17) := Lib.hid (by unfold errSt; rw [if_pos (.inr h1)])
    go_enter Tryd.func47, Tryd.ntmps47
    go_wp2_with (go_at_call 30; refine (mod_ask _ _ _ _).mono ?_; rintro r w1 ⟨rfl, rfl⟩)
    all_goals (first | exact ⟨rfl, .inr ⟨by rw [HE.out]; decide, by rw [HE.out], hb0⟩⟩ | (exfalso; simp_all; omega))
  obtain ⟨X, rfl⟩ := Int.eq_ofNat_of_zero_le (show 0 ≤ x by omega)
  rcases List.eq_nil_or_concat acc with rfl | ⟨acc', d, rfl⟩
  · have HE : Hid (errSt (R : Int) [] X = 0) := Lib.hid (by unfold errSt; rw [if_neg (by omega), if_neg (by rw [behindD_nil]; omega)])
    go_enter Tryd.func47, Tryd.ntmps47
    go_wp2_with (go_at_call 30; refine (mod_ask _ _ _ _).mono ?_; rintro r w1 ⟨rfl, rfl⟩)
    all_goals (first | exact bodyPost_end (results_none rfl _ _ _) rfl (.inl ⟨HE.out, rfl, hb0⟩) | (exfalso; simp_all; omega) | trace_state)
  · rw [List.concat_eq_append] at *
    have hn : (acc' ++ [d]).length = acc'.length + 1 := by simp
    obtain ⟨b, off, ba, bc, rfl, c1, c2, hrb⟩ := da_at hR.out (show acc'.length < (acc' ++ [d]).length by simp)
    have hd := hat d (by simp)
    rw [behindD_snoc] at hend
    have hg : (acc' ++ [d])[acc'.length]'(by simp) = d := by simp
    rw [hg] at c1 c2
    have hbl : d.b.length ≤ 140737488355328 := by rw [hg] at hrb; obtain ⟨_, _, _, _, h, _⟩ := hrb; exact h
    clear hrb hg hat hR
    have hnl := hl
    rw [hn] at hnl
    rw [hn]
    clear hn
    obtain ⟨D, hD⟩ := Int.eq_ofNat_of_zero_le hd.1
    rw [hD] at c1 hd hend
    have e1 : errSt (R : Int) (acc' ++ [d]) X = if (X : Int) ≤ (D : Int) + d.b.length then 18 else 0 := by
      unfold errSt; rw [if_neg (by omega), behindD_snoc, hD]
    have HE := Lib.hid e1
    clear e1 hD hl
    have hn0 : acc'.length ≤ 1000000 := by have := hnl; omega
    clear hnl
    generalize acc'.length = n at *
    generalize d.b.length = L at *
    by_cases h2 : (X : Int) ≤ (D : Int) + L
    · have HF : Hid (errSt (R : Int) (acc' ++ [d]) X = 18) := Lib.hid (by rw [HE.out, if_pos h2])
      have hdec : decide ((D : Int) + L < X) = false := decide_eq_false (by omega)
      go_enter Tryd.func47, Tryd.ntmps47
      go_wp2_with (go_at_call 30; refine (mod_ask _ _ _ _).mono ?_; rintro r w1 ⟨rfl, rfl⟩)
      have hw : IntKind.i64.wrap (n : Int) = n := IntWalk.i64_in _ ⟨by omega, by omega⟩
      have hi0 : (0 : Int) ≤ n := by omega
      have hi1 : (n : Int) < n + 1 := by omega
      have hw2 : IntKind.i64.wrap ((D : Int) + L) = (D : Int) + L := IntWalk.i64_in _ ⟨by omega, by omega⟩
      go_still_tail 17, (by kernel_rfl)
      clear hw hw2
      go_wp2_with (go_at_call 30; refine (mod_ask _ _ _ _).mono ?_; rintro r w1 ⟨rfl, rfl⟩)
      all_goals exact ⟨rfl, .inr ⟨by rw [HF.out]; decide, by rw [HF.out], drew_bel _⟩⟩
    · have HF : Hid (errSt (R : Int) (acc' ++ [d]) X = 0) := Lib.hid (by rw [HE.out, if_neg h2])
      have hdec : decide ((D : Int) + L < X) = true := decide_eq_true (by omega)
      go_enter Tryd.func47, Tryd.ntmps47
      go_wp2_with (go_at_call 30; refine (mod_ask _ _ _ _).mono ?_; rintro r w1 ⟨rfl, rfl⟩)
      have hw : IntKind.i64.wrap (n : Int) = n := IntWalk.i64_in _ ⟨by omega, by omega⟩
      have hi0 : (0 : Int) ≤ n := by omega
      have hi1 : (n : Int) < n + 1 := by omega
      have hw2 : IntKind.i64.wrap ((D : Int) + L) = (D : Int) + L := IntWalk.i64_in _ ⟨by omega, by omega⟩
      go_still_tail 17, (by kernel_rfl)
      clear hw hw2
      go_wp2_with (go_at_call 30; refine (mod_ask _ _ _ _).mono ?_; rintro r w1 ⟨rfl, rfl⟩)
      all_goals exact bodyPost_end (results_none rfl _ _ _) rfl (.inl ⟨HF.out, rfl, drew_bel _⟩)
end Go.Proofs.YtfhkjahjenpbgaaDoor
namespace Go.Proofs.YtfhkjahjenpbgaaDoor
open Go Go.RowKit

theorem ex_at {S : Nat → Prop} {w : World} {a : Option Addr} {n c : Nat} {l : List ExpD} (h : RdExps S w (.slice a n c) l) {k : Nat} (hk : k < l.length) :
    ∃ b off, a = some ⟨b, off, none⟩ ∧ w.cell? ⟨b, off + k * 2, none⟩ = some (.string l[k].name) ∧ w.cell? ⟨b, off + k * 2 + 1, none⟩ = some (.int .i64 l[k].f) := by
  obtain ⟨a', c', e, _, _, h3⟩ := h
  simp only [Value.slice.injEq] at e
  obtain ⟨rfl, _, rfl⟩ := e
  obtain ⟨b, off, cs, e1, e2, e3, e4, e5⟩ := h3 k hk
  subst e5
  exact ⟨b, off, e1, e4 0 (by omega), e4 1 (by omega)⟩
def chOk (c : Nat) : Bool := decide (33 ≤ c ∧ c ≤ 126)
theorem bys_all (s : ByteArray) : (bys s).all (fun c => decide (33 ≤ c ∧ c ≤ 126)) = s.data.toList.all fun c => chOk c.toNat := by
  rw [bys, List.all_map]
  congr 1
  funext c
  simp only [Function.comp, chOk, decide_eq_decide]
  omega
theorem all_false {s : ByteArray} {k : Nat} (hk : k < s.size) (h : chOk s[k].toNat = false) : (bys s).all (fun c => decide (33 ≤ c ∧ c ≤ 126)) = false := by
  rw [bys_all, List.all_eq_false]
  exact ⟨s[k], by show s.data[k] ∈ _; simp, by rw [h]; simp⟩
theorem all_true {s : ByteArray} (h : ∀ j (hj : j < s.size), chOk s[j].toNat = true) : (bys s).all (fun c => decide (33 ≤ c ∧ c ≤ 126)) = true := by
  rw [bys_all, List.all_eq_true]
  intro x hx
  obtain ⟨j, hj, rfl⟩ := List.getElem_of_mem hx
  exact h j (by simpa using hj)
set_option maxRecDepth 100000 in
set_option maxHeartbeats 800000 in
theorem mod_named (w : World) (S : Nat → Prop) (s : ByteArray) (ev : Value) (acc : List ExpD) (hr : RdExps S w ev acc) (at_ : Int) :
    Calls Tryd.prog 48 #[.string s, ev, .int .i64 at_] w (TwoEnds (errName acc s) at_ w) := by
  obtain ⟨a, c, rfl, hal⟩ := hr.len
  have hR := Lib.hid hr
  have hb0 := Below.refl w.heap.size w
  obtain ⟨N, hN⟩ : ∃ N, acc.length = N := ⟨_, rfl⟩
  rw [hN] at hal ⊢
  have HN := Lib.hid hN
  clear hr hN
  by_cases h0 : 32 < s.size
  · have HE : Hid (errName acc s = 13) := Lib.hid (by unfold errName; rw [if_pos h0])
    have hd : decide ((s.size : Int) ≤ 32) = false := decide_eq_false (by omega)
    go_enter Tryd.func48, Tryd.ntmps48
    go_wp2_with (go_at_call 30; refine (mod_ask _ _ _ _).mono ?_; rintro r w1 ⟨rfl, rfl⟩)
    all_goals exact ⟨rfl, .inr ⟨by rw [HE.out]; decide, by rw [HE.out], hb0⟩⟩
  have hd : decide ((s.size : Int) ≤ 32) = true := decide_eq_true (by omega)
  by_cases h1 : s.size = 0
  · have HE : Hid (errName acc s = 23) := Lib.hid (by unfold errName; rw [if_neg h0, if_pos h1])
    obtain rfl : s = ⟨#[]⟩ := by obtain ⟨⟨l⟩⟩ := s; have : l = [] := List.eq_nil_of_length_eq_zero (by simpa [ByteArray.size] using h1); rw [this]
    clear h0 h1 hd
    go_enter Tryd.func48, Tryd.ntmps48
    go_wp2_with (go_at_call 30; refine (mod_ask _ _ _ _).mono ?_; rintro r w1 ⟨rfl, rfl⟩)
    all_goals exact ⟨rfl, .inr ⟨by rw [HE.out]; decide, by rw [HE.out], hb0⟩⟩
  have e1 : s.toList ≠ [] := fun e => h1 (by rw [ByteArray.toList_eq] at e; have := congrArg List.length e; simpa using this)
  have e2 : (!s.toList.isEmpty) = true := by cases h : s.toList with
    | nil => exact absurd h e1
    | cons x l => rfl
  go_enter Tryd.func48, Tryd.ntmps48
  go_wp2_with (go_at_call 30; refine (mod_ask _ _ _ _).mono ?_; rintro r w1 ⟨rfl, rfl⟩)
  have H0 := Lib.hid h0; have H1 := Lib.hid h1
  clear e1 e2 hd
  go_loop [18] (fun i => ∃ k : Nat, k ≤ s.size ∧ i = .int .i64 k ∧ Hid (∀ j (h : j < s.size), j < k → chOk s[j].toNat = true)) (fun i => s.size - (intOf i).toNat)
  case atStart => exact ⟨0, by omega, rfl, fun j h hj => absurd hj (by omega)⟩
  case round =>
    obtain ⟨k, hk, rfl, HT⟩ := hrel
    by_cases hlt : k < s.size
    · obtain ⟨ch, hc⟩ : ∃ ch, s[k].toNat = ch := ⟨_, rfl⟩
      have hix : s[k] = s[k]'hlt := rfl
      clear hix
      cases hok : chOk ch with
      | true =>
        have HC := Lib.hid (And.intro hc hok)
        have hb : 33 ≤ ch ∧ ch ≤ 126 := of_decide_eq_true hok
        clear hok
        go_wp2_with (go_at_call 30; refine (mod_ask _ _ _ _).mono ?_; rintro r w1 ⟨rfl, rfl⟩)
        go_round
        case rel =>
          refine ⟨k + 1, by omega, by go_num, fun j hj hj' => ?_⟩
          by_cases ej : j = k
          · subst ej; rw [HC.out.1]; exact HC.out.2
          · exact HT.out j hj (by omega)
        case measure => simp [intOf]; omega
      | false =>
        have hcl : ch < 256 := by rw [← hc]; exact s[k].toNat_lt
        have HE : Hid (errName acc s = 23) := Lib.hid (by unfold errName; rw [if_neg H0.out, if_neg H1.out, if_pos (all_false hlt (by rw [hc]; exact hok))])
        have hb : ch < 33 ∨ 126 < ch := by
          have h2 : ¬ (33 ≤ ch ∧ ch ≤ 126) := of_decide_eq_false hok
          omega
        clear hok
        rcases hb with hb | hb
        · have hx : decide ((32 : Int) < ch) = false := decide_eq_false (by omega)
          go_wp2_with (go_at_call 30; refine (mod_ask _ _ _ _).mono ?_; rintro r w1 ⟨rfl, rfl⟩)
          all_goals exact ⟨rfl, .inr ⟨by rw [HE.out]; decide, by rw [HE.out], hb0⟩⟩
        · have hx : decide ((ch : Int) < 127) = false := decide_eq_false (by omega)
          go_wp2_with (go_at_call 30; refine (mod_ask _ _ _ _).mono ?_; rintro r w1 ⟨rfl, rfl⟩)
          all_goals exact ⟨rfl, .inr ⟨by rw [HE.out]; decide, by rw [HE.out], hb0⟩⟩
    · obtain rfl : k = s.size := by omega
      have HAT := Lib.hid (all_true fun j hj => HT.out j hj hj)
      clear HT h0 h1
      rcases List.eq_nil_or_concat acc with rfl | ⟨acc', x, rfl⟩
      · have HE : Hid (errName [] s = 0) := Lib.hid (by unfold errName; rw [if_neg H0.out, if_neg H1.out, if_neg (by rw [HAT.out]; decide)]; rfl)
        obtain rfl : N = 0 := HN.out.symm
        go_wp2_with (go_at_call 30; refine (mod_ask _ _ _ _).mono ?_; rintro r w1 ⟨rfl, rfl⟩)
        all_goals exact bodyPost_end (results_none rfl _ _ _) rfl (.inl ⟨HE.out, rfl, hb0⟩)
      · rw [List.concat_eq_append] at *
        obtain ⟨n, rfl⟩ : ∃ n, N = n + 1 := ⟨acc'.length, by have := HN.out; simp at this; omega⟩
        have hn : acc'.length = n := by have := HN.out; simp at this; omega
        obtain ⟨b, off, rfl, c1, c1'⟩ := ex_at hR.out (show n < (acc' ++ [x]).length by simp; omega)
        have hg : (acc' ++ [x])[n]'(by simp; omega) = x := by subst hn; simp
        rw [hg] at c1
        have HE : Hid (errName (acc' ++ [x]) s = if leT s x.name then 18 else 0) := Lib.hid (by unfold errName; rw [if_neg H0.out, if_neg H1.out, if_neg (by rw [HAT.out]; decide)]; simp)
        clear hR c1' hg hn
        have HL : Hid (leT s x.name = (Op.bytesLess s.toList x.name.toList || s.toList == x.name.toList)) := Lib.hid rfl
        cases hb1 : Op.bytesLess s.toList x.name.toList with
        | true =>
          have HF : Hid (errName (acc' ++ [x]) s = 18) := Lib.hid (by rw [HE.out, HL.out, hb1]; rfl)
          go_wp2_with (go_at_call 30; refine (mod_ask _ _ _ _).mono ?_; rintro r w1 ⟨rfl, rfl⟩)
          all_goals exact ⟨rfl, .inr ⟨by rw [HF.out]; decide, by rw [HF.out], hb0⟩⟩
        | false =>
          cases hb2 : s.toList == x.name.toList with
          | true =>
            have HF : Hid (errName (acc' ++ [x]) s = 18) := Lib.hid (by rw [HE.out, HL.out, hb1, hb2]; rfl)
            go_wp2_with (go_at_call 30; refine (mod_ask _ _ _ _).mono ?_; rintro r w1 ⟨rfl, rfl⟩)
            all_goals exact ⟨rfl, .inr ⟨by rw [HF.out]; decide, by rw [HF.out], hb0⟩⟩
          | false =>
            have HF : Hid (errName (acc' ++ [x]) s = 0) := Lib.hid (by rw [HE.out, HL.out, hb1, hb2]; rfl)
            go_wp2_with (go_at_call 30; refine (mod_ask _ _ _ _).mono ?_; rintro r w1 ⟨rfl, rfl⟩)
            all_goals exact bodyPost_end (results_none rfl _ _ _) rfl (.inl ⟨HF.out, rfl, hb0⟩)
end Go.Proofs.YtfhkjahjenpbgaaDoor
