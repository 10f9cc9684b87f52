/- The small modules of works(), chapter 10, plain. flagonref00.EqTable, at tables that read alike. flagonlaw10.one, works. -/
import Derived.Test.YtebegkgechadlaaDoorMVw1
import Derived.Test.YtebegkgechadlaaDoorVw14
import Derived.Test.YtebegkgechadlaaDoorMCopy
import Derived.Test.YtebegkgechadlaaDoorVw16
namespace Go.Proofs.YtebegkgechadlaaDoor
open Go Go.RowKit

def oneV (l : List InsD) : ModD := ⟨[(tE, tWw)], [], [], 0, 0, [⟨0, tE, l⟩], [], []⟩
def code1 : List InsD := [⟨2, 0, []⟩, ⟨24, 1, []⟩, ⟨7, 0, []⟩, ⟨6, 0, []⟩, ⟨6, 0, []⟩]
def code2 : List InsD := [⟨24, 0, []⟩, ⟨24, 0, []⟩, ⟨6, 0, []⟩]
theorem enc_one1 : (encM (oneV code1)).2 = 0 := by decide +kernel
theorem enc_one2 : (encM (oneV code2)).2 = 0 := by decide +kernel
theorem fun_one1 : (funV (oneV code1) 0).2 = (0, 0) ∧ (funV (oneV code1) 0).1.shapes = [tE, tE, tWw, tWw, tWw] ∧ (funV (oneV code1) 0).1.high = 1 := by decide +kernel
theorem fun_one2 : (funV (oneV code2) 0).2 = (33, 2) := by decide +kernel
theorem val_one1 : (valM (oneV code1)).2 = (0, 0, 0) ∧ (valM (oneV code1)).1 = [(funV (oneV code1) 0).1] := by
  have h := fun_one1.1
  have h1 : (funV (oneV code1) 0).2.1 = 0 := by rw [h]
  unfold valM
  rw [if_neg (by rw [enc_one1]; simp)]
  have e : (oneV code1).funs.length = 0 + 1 := rfl
  rw [e, allV, if_neg (by simp [h1])]
  exact ⟨rfl, rfl⟩
theorem val_one2 : (valM (oneV code2)).2 = (33, 0, 2) := by
  have h := fun_one2
  have h1 : (funV (oneV code2) 0).2.1 = 33 := by rw [h]
  have h2 : (funV (oneV code2) 0).2.2 = 2 := by rw [h]
  unfold valM
  rw [if_neg (by rw [enc_one2]; simp)]
  have e : (oneV code2).funs.length = 0 + 1 := rfl
  rw [e, allV, if_pos (by rw [h1]; simp), h1, h2]
  rfl
end Go.Proofs.YtebegkgechadlaaDoor
namespace Go.Proofs.YtebegkgechadlaaDoor
open Go Go.RowKit

theorem drewN_belowT (w : World) (n : Nat) : Below w.heap.size w (w.drewN n) := bel_drewV (Below.refl _ _) n
theorem RdI.drewNT {k : IntKind} {w : World} {v : Value} {l : List Int} (h : RdI k (· < w.heap.size) w v l) (n : Nat) : RdI k (· < (w.drewN n).heap.size) (w.drewN n) v l := h.bel (drewN_belowT w n)
/-- A table's four lists. -/
structure RTq (S : Nat → Prop) (w : World) (v0 v1 v2 v3 : Value) (sh : List ByteArray) (E L F : List Int) : Prop where
  sh : RdV S w v0 (texts sh)
  e : RdI .i64 S w v1 E
  l : RdI .i64 S w v2 L
  f : RdI .i64 S w v3 F
theorem RTq.bel {w w' : World} {v0 v1 v2 v3 : Value} {sh : List ByteArray} {E L F : List Int} (h : RTq (· < w.heap.size) w v0 v1 v2 v3 sh E L F) (hb : Below w.heap.size w w') : RTq (· < w'.heap.size) w' v0 v1 v2 v3 sh E L F :=
  ⟨h.sh.bel hb, h.e.bel hb, h.l.bel hb, h.f.bel hb⟩
set_option maxRecDepth 100000 in
set_option maxHeartbeats 3200000 in
/-- Two tables that read alike. -/
theorem eqTable (w : World) (cs ds : List Value) (t : TbD) (h1 : RTab (· < w.heap.size) w cs t) (h2 : RTab (· < w.heap.size) w ds t) :
    Calls Tryd.prog 10 #[.agg cs.toArray, .agg ds.toArray] w fun e w' => e = .returned (.bool true) ∧ Below w.heap.size w w' := by
  obtain ⟨v0, v1, v2, v3, rfl, s1, s2, s3, s4⟩ := h1
  obtain ⟨u0, u1, u2, u3, rfl, z1, z2, z3, z4⟩ := h2
  obtain ⟨sh, E, L, F, hi⟩ := t
  simp only at s1 s2 s3 s4 z1 z2 z3 z4 ⊢
  have h1 : RTq (· < w.heap.size) w v0 v1 v2 v3 sh E L F := ⟨s1, s2, s3, s4⟩
  have h2 : RTq (· < w.heap.size) w u0 u1 u2 u3 sh E L F := ⟨z1, z2, z3, z4⟩
  clear s1 s2 s3 s4 z1 z2 z3 z4
  have hb2 := below_alloc2 w (.cells #[v0, v1, v2, v3, .int .i64 hi] 38) (.cells #[u0, u1, u2, u3, .int .i64 hi] 38)
  have hc := boxes_cell (w := w) (a := #[v0, v1, v2, v3, .int .i64 hi]) (b := #[u0, u1, u2, u3, .int .i64 hi]) (ta := 38) (tb := 38) (Below.refl _ _)
  have H1 := Lib.hid (h1.bel hb2); have H2 := Lib.hid (h2.bel hb2)
  have HB2 := Lib.hid hb2; have HC := Lib.hid hc
  obtain ⟨a0, c0, rfl, _⟩ := h1.sh.lenc; obtain ⟨a1, c1, rfl, _⟩ := h1.e.lenc; obtain ⟨a2, c2, rfl, _⟩ := h1.l.lenc; obtain ⟨a3, c3, rfl, _⟩ := h1.f.lenc
  obtain ⟨b0, d0, rfl, _⟩ := h2.sh.lenc; obtain ⟨b1, d1, rfl, _⟩ := h2.e.lenc; obtain ⟨b2, d2, rfl, _⟩ := h2.l.lenc; obtain ⟨b3, d3, rfl, _⟩ := h2.f.lenc
  clear h1 h2 hb2 hc
  go_enter Tryd.func10, Tryd.ntmps10
  go_upto_region 1 with fail
  obtain ⟨W, hW⟩ : ∃ W, (w.alloc (.cells #[.slice a0 (texts sh).length c0, .slice a1 E.length c1, .slice a2 L.length c2, .slice a3 F.length c3, .int .i64 hi] 38)).alloc (.cells #[.slice b0 (texts sh).length d0, .slice b1 E.length d1, .slice b2 L.length d2, .slice b3 F.length d3, .int .i64 hi] 38) = W := ⟨_, rfl⟩
  rw [hW] at H1 H2 HB2 HC
  have hW2 : (w.alloc (.cells #[.slice a0 sh.length c0, .slice a1 E.length c1, .slice a2 L.length c2, .slice a3 F.length c3, .int .i64 hi] 38)).alloc (.cells #[.slice b0 sh.length d0, .slice b1 E.length d1, .slice b2 L.length d2, .slice b3 F.length d3, .int .i64 hi] 38) = W := by rw [← hW]; simp only [List.length_map]
  first | rw [hW2] | rw [hW]
  clear hW hW2
  simp only [List.length_map] at HC H1 H2
  have p0 := HC.out.1 0 _ rfl; have p1 := HC.out.1 1 _ rfl; have p2 := HC.out.1 2 _ rfl; have p3 := HC.out.1 3 _ rfl; have p4 := HC.out.1 4 _ rfl
  have q0 := HC.out.2 0 _ rfl; have q1 := HC.out.2 1 _ rfl; have q2 := HC.out.2 2 _ rfl; have q3 := HC.out.2 3 _ rfl; have q4 := HC.out.2 4 _ rfl
  clear HC
  go_wp2_with fail
  refine (eqTexts W _ _ _ _ sh sh (by simpa using H1.out.sh) (by simpa using H2.out.sh)).mono ?_
  rintro e w' ⟨rfl, n1, hw'⟩
  rw [decide_eq_true rfl]
  obtain rfl : w' = W.drewN n1 := hw'
  go_wp2_with fail
  refine (eqInts _ _ _ _ _ E E (H1.out.e.drewNT n1) (H2.out.e.drewNT n1)).mono ?_
  rintro e w' ⟨rfl, n2, hw'⟩
  rw [decide_eq_true rfl]
  obtain rfl : w' = (W.drewN n1).drewN n2 := hw'
  go_wp2_with fail
  refine (eqInts _ _ _ _ _ L L (H1.out.l.drewNT _) (H2.out.l.drewNT _)).mono ?_
  rintro e w' ⟨rfl, n3, hw'⟩
  rw [decide_eq_true rfl]
  subst hw'
  go_wp2_with fail
  refine (eqInts _ _ _ _ _ F F (H1.out.f.drewNT _) (H2.out.f.drewNT _)).mono ?_
  rintro e w' ⟨rfl, n4, hw'⟩
  rw [decide_eq_true rfl]
  have HB : Hid (Below w.heap.size w w') := Lib.hid (by rw [hw']; exact below_next HB2.out (drewN_belowT W _ |>.trans ((drewN_belowT _ _).mono (Nat.le_refl _))))
  clear hw'
  go_wp2
  go_ret
  exact ⟨rfl, HB.out⟩
end Go.Proofs.YtebegkgechadlaaDoor
namespace Go.Proofs.YtebegkgechadlaaDoor
open Go Go.RowKit

theorem one_results {a : Act} {w : World} (g : Nat) (cs : Array Value) (hrow : w.heap[g]? = some (.cells cs 29 (0, 0))) (hsz : cs.size = 8) (h2 : a.tmps.getD 2 undef = .pointer (some ⟨g, 0, none⟩)) :
    (results Tryd.f14 a.tmps).run Tryd.prog w = .ok (.agg cs) w := by
  have hl := run_loadVar_row (P := Tryd.prog) w g 29 29 cs (0, 0) _ hrow Tryd.underlying29 rfl (by rw [hsz]; kernel_rfl)
  have h2' : a.tmps[2]?.getD undef = .pointer (some ⟨g, 0, none⟩) := by simpa using h2
  simp [results, Tryd.results14, asAddr, h2', hl]
theorem flat_get {α : Type} {sz : Nat} {enc : α → List Value} (hz : ∀ x, (enc x).length = sz) {i : Nat} (hi : i < sz) : ∀ (l : List α) (k : Nat) (hk : k < l.length), (l.flatMap enc)[k * sz + i]? = (enc l[k])[i]?
  | [], k, hk => by simp at hk
  | y :: l, 0, hk => by rw [List.flatMap_cons, List.getElem?_append_left (by rw [hz]; omega)]; simp
  | y :: l, k + 1, hk => by
    have e0 : (k + 1) * sz = k * sz + sz := Nat.succ_mul k sz
    have e : (k + 1) * sz + i - (enc y).length = k * sz + i := by rw [hz]; omega
    rw [List.flatMap_cons, List.getElem?_append_right (by rw [hz]; omega), e, flat_get hz hi l k (by simpa using hk)]
    simp
def inC0 (x : InsD) : List Value := [.int .u8 x.op, .int .i64 x.a, .slice none 0 0]
/-- A code that has been written out. -/
theorem cd_lit {w : World} {g : Nat} {l : List InsD} {cs : Array Value} {T : Nat} (hr : w.heap[g]? = some (.cells cs T (0, 0))) (hc : cs.toList = l.flatMap inC0) (hl : l.length ≤ 1000) (hn : ∀ x ∈ l, x.l = []) : Cd w (.slice (some ⟨g, 0, none⟩) l.length l.length) l := by
  refine ⟨_, _, rfl, Nat.le_refl _, by omega, fun j hj => ⟨g, 0, inC0 l[j], rfl, row_lt hr, rfl, fun i hi => ?_, .slice none 0 0, rfl, ?_⟩⟩
  · have h1 := flat_get (enc := inC0) (fun _ => rfl) hi l j hj
    have h2 : (inC0 l[j])[i]? = some ((inC0 l[j])[i]'hi) := List.getElem?_eq_getElem hi
    rw [h2] at h1 ⊢
    rw [show (0 : Nat) + j * 3 + i = j * 3 + i by omega]
    refine row_cell hr _ ?_
    rw [← Array.getElem?_toList, hc]
    exact h1
  · rw [hn _ (List.getElem_mem hj)]; exact RdI.nil _ _ _
set_option maxRecDepth 100000 in
set_option maxHeartbeats 1600000 in
theorem law_one (w : World) (ca : Option Addr) (cc : Nat) (l : List InsD) (hc : Cd w (.slice ca l.length cc) l) :
    Calls Tryd.prog 14 #[.slice ca l.length cc] w fun e w' => ∃ cs, e = .returned (.agg cs.toArray) ∧ RMod (· < w'.heap.size) w' cs (oneV l) ∧ Below w.heap.size w w' := by
  have HC := Lib.hid hc
  clear hc
  go_enter Tryd.func14, Tryd.ntmps14
  go_wp2_with fail
  have b1 := below_alloc w (.cells #[.slice (some ⟨w.heap.size + 1, 0, none⟩) 1 1, .slice none 0 0, .slice none 0 0, .int .i64 0, .int .i64 0, .slice (some ⟨w.heap.size + 1 + 1, 0, none⟩) 1 1, .slice none 0 0, .slice none 0 0] 29)
  have r1 := heap_alloc_new w (.cells #[.slice (some ⟨w.heap.size + 1, 0, none⟩) 1 1, .slice none 0 0, .slice none 0 0, .int .i64 0, .int .i64 0, .slice (some ⟨w.heap.size + 1 + 1, 0, none⟩) 1 1, .slice none 0 0, .slice none 0 0] 29)
  have s1 : (w.alloc (.cells #[.slice (some ⟨w.heap.size + 1, 0, none⟩) 1 1, .slice none 0 0, .slice none 0 0, .int .i64 0, .int .i64 0, .slice (some ⟨w.heap.size + 1 + 1, 0, none⟩) 1 1, .slice none 0 0, .slice none 0 0] 29)).heap.size = w.heap.size + 1 := World.size_alloc ..
  generalize w.alloc (.cells #[.slice (some ⟨w.heap.size + 1, 0, none⟩) 1 1, .slice none 0 0, .slice none 0 0, .int .i64 0, .int .i64 0, .slice (some ⟨w.heap.size + 1 + 1, 0, none⟩) 1 1, .slice none 0 0, .slice none 0 0] 29) = w1 at *
  have b2 := below_alloc w1 (.cells #[.string ⟨#[]⟩, .string ⟨#[119]⟩] 54)
  have r2 := heap_alloc_new w1 (.cells #[.string ⟨#[]⟩, .string ⟨#[119]⟩] 54)
  have s2 : (w1.alloc (.cells #[.string ⟨#[]⟩, .string ⟨#[119]⟩] 54)).heap.size = w1.heap.size + 1 := World.size_alloc ..
  generalize w1.alloc (.cells #[.string ⟨#[]⟩, .string ⟨#[119]⟩] 54) = w2 at *
  have b3 := below_alloc w2 (.cells #[.int .i64 0, .string ⟨#[]⟩, .slice ca l.length cc] 46)
  have r3 := heap_alloc_new w2 (.cells #[.int .i64 0, .string ⟨#[]⟩, .slice ca l.length cc] 46)
  generalize w2.alloc (.cells #[.int .i64 0, .string ⟨#[]⟩, .slice ca l.length cc] 46) = w3 at *
  rw [s1] at r2
  rw [s2, s1] at r3
  have hb := below_next b1 (below_next b2 b3)
  have q1 := ((below_next b2 b3).block _ (row_lt r1)).trans r1
  have q2 := (b3.block _ (row_lt r2)).trans r2
  refine bodyPost_ret (one_results w.heap.size #[.slice (some ⟨w.heap.size + 1, 0, none⟩) 1 1, .slice none 0 0, .slice none 0 0, .int .i64 0, .int .i64 0, .slice (some ⟨w.heap.size + 1 + 1, 0, none⟩) 1 1, .slice none 0 0, .slice none 0 0] q1 rfl rfl) rfl ⟨[.slice (some ⟨w.heap.size + 1, 0, none⟩) 1 1, .slice none 0 0, .slice none 0 0, .int .i64 0, .int .i64 0, .slice (some ⟨w.heap.size + 1 + 1, 0, none⟩) 1 1, .slice none 0 0, .slice none 0 0], rfl, ?_, hb⟩
  refine ⟨_, _, _, _, _, _, rfl, ?_, RdI.nil .., RdL.nil .., ?_, RdL.nil .., RdL.nil ..⟩
  · refine ⟨_, 1, rfl, Nat.le_refl _, (by show 1 ≤ 140737488355328; decide), fun j hj => ?_⟩
    have hj1 : j < 1 := hj
    obtain rfl : j = 0 := by omega
    refine ⟨w.heap.size + 1, 0, [.string tE, .string tWw], rfl, row_lt q2, rfl, fun i hi => ?_, rfl⟩
    match i, hi with
    | 0, _ => exact row_cell q2 0 rfl
    | 1, _ => exact row_cell q2 1 rfl
  · refine ⟨_, 1, rfl, Nat.le_refl _, (by show 1 ≤ 140737488355328; decide), fun j hj => ?_⟩
    have hj1 : j < 1 := hj
    obtain rfl : j = 0 := by omega
    refine ⟨w.heap.size + 1 + 1, 0, [.int .i64 0, .string tE, .slice ca l.length cc], rfl, row_lt r3, rfl, fun i hi => ?_, .slice ca l.length cc, rfl, Cd.bel HC.out hb⟩
    match i, hi with
    | 0, _ => exact row_cell r3 0 rfl
    | 1, _ => exact row_cell r3 1 rfl
    | 2, _ => exact row_cell r3 2 rfl
theorem sm_one (l : List InsD) : SmM (oneV l) := by
  refine ⟨fun x hx => ?_, fun f hf => ?_, fun e he => by simp [oneV] at he, fun n hn => by simp [oneV] at hn, fun f hf => ?_, fun d hd => by simp [oneV] at hd, fun e he => by simp [oneV] at he, (by show i64P 0; unfold i64P; decide), (by show i64P 0; unfold i64P; decide), fun g hg => by simp [oneV] at hg⟩
  · simp only [oneV, List.mem_singleton] at hx; subst hx; exact ⟨by decide, by decide⟩
  · simp only [oneV, List.mem_singleton] at hf; subst hf; show (⟨#[]⟩ : ByteArray).size ≤ _; decide
  · simp only [oneV, List.mem_singleton] at hf; subst hf; show i64P 0; unfold i64P; decide
theorem wf_one {l : List InsD} (h : ∀ x ∈ l, WfIns x) : WfM (oneV l) := by
  refine ⟨fun g hg => by simp [oneV] at hg, fun f hf i hi => ?_, fun d hd => by simp [oneV] at hd⟩
  simp only [oneV, List.mem_singleton] at hf; subst hf; exact h i hi
theorem wf_code1 : ∀ x ∈ code1, WfIns x := by
  intro x hx
  simp only [code1, List.mem_cons, List.not_mem_nil, or_false] at hx
  rcases hx with rfl | rfl | rfl | rfl | rfl <;> exact ⟨by decide, by unfold i64P; decide, fun n hn => by simp at hn⟩
theorem wf_code2 : ∀ x ∈ code2, WfIns x := by
  intro x hx
  simp only [code2, List.mem_cons, List.not_mem_nil, or_false] at hx
  rcases hx with rfl | rfl | rfl <;> exact ⟨by decide, by unfold i64P; decide, fun n hn => by simp at hn⟩
theorem mod_one1 (w : World) (cs : List Value) (hm : RMod (· < w.heap.size) w cs (oneV code1)) (htb : Tb w) :
    Calls Tryd.prog 7 #[.agg cs.toArray] w fun r w' => ∃ b o c sa sc, r = .returned (.tuple #[.slice (some ⟨b, o, none⟩) 1 c, .int .i64 0, .int .i64 0, .int .i64 0]) ∧ w'.cell? ⟨b, o, none⟩ = some (.slice sa 5 sc) ∧ w'.cell? ⟨b, o + 4, none⟩ = some (.int .i64 1) ∧ RdV (· < w'.heap.size) w' (.slice sa 5 sc) (texts [tE, tE, tWw, tWw, tWw]) ∧ Below w.heap.size w w' := by
  refine (val_Module w _ (fun b h => h) (oneV code1) cs hm (sm_one _) (wf_one wf_code1) htb).mono ?_
  rintro r w' ⟨lv, rfl, hrd, hb⟩
  have hv := val_one1
  have hs := fun_one1.2.1
  have hh := fun_one1.2.2
  generalize valM (oneV code1) = V at hv hrd ⊢
  generalize (funV (oneV code1) 0).1 = T at hv hs hh
  obtain ⟨V1, V2, V3, V4⟩ := V
  simp only [Prod.mk.injEq] at hv
  obtain ⟨⟨rfl, rfl, rfl⟩, rfl⟩ := hv
  obtain ⟨la, lc, rfl, hc1, hc2, h3⟩ := hrd
  obtain ⟨b, o, cs2, rfl, _, _, hcell, hrt⟩ := h3 0 (Nat.zero_lt_one)
  obtain ⟨sv, ev, lv2, fv, hcs, q1, -, -, -⟩ := hrt
  simp only [List.getElem_cons_zero] at hcs q1
  subst hcs
  rw [hs] at q1
  rw [hh] at hcell
  obtain ⟨sa, sc, rfl, -⟩ := q1.lenc
  have k0 := hcell 0 (by omega); have k4 := hcell 4 (by omega)
  simp only [List.getElem?_cons_zero, List.getElem?_cons_succ, Nat.zero_mul, Nat.add_zero] at k0 k4
  exact ⟨b, o, lc, sa, sc, rfl, k0, k4, q1, hb⟩
theorem mod_one2 (w : World) (cs : List Value) (hm : RMod (· < w.heap.size) w cs (oneV code2)) (htb : Tb w) :
    Calls Tryd.prog 7 #[.agg cs.toArray] w fun r w' => ∃ lv, r = .returned (.tuple #[lv, .int .i64 33, .int .i64 0, .int .i64 2]) ∧ Below w.heap.size w w' := by
  refine (val_Module w _ (fun b h => h) (oneV code2) cs hm (sm_one _) (wf_one wf_code2) htb).mono ?_
  rintro r w' ⟨lv, rfl, -, hb⟩
  have hv := val_one2
  generalize valM (oneV code2) = V at hv ⊢
  obtain ⟨V1, V2, V3, V4⟩ := V
  simp only [Prod.mk.injEq] at hv
  obtain ⟨rfl, rfl, rfl⟩ := hv
  exact ⟨lv, rfl, hb⟩
set_option maxRecDepth 100000 in
set_option maxHeartbeats 3200000 in
theorem law_works (w : World) (htb : Tb w) :
    Calls Tryd.prog 5 #[] w fun e w' => e = .returned (.bool true) ∧ Below w.heap.size w w' := by
  have HT := Lib.hid htb
  have hb1 := below_alloc w (.cells #[.int .u8 2, .int .i64 0, .slice none 0 0, .int .u8 24, .int .i64 1, .slice none 0 0, .int .u8 7, .int .i64 0, .slice none 0 0, .int .u8 6, .int .i64 0, .slice none 0 0, .int .u8 6, .int .i64 0, .slice none 0 0] 43)
  have HO1 : Hid (Calls Tryd.prog 14 #[.slice (some ⟨w.heap.size, 0, none⟩) 5 5] (w.alloc (.cells #[.int .u8 2, .int .i64 0, .slice none 0 0, .int .u8 24, .int .i64 1, .slice none 0 0, .int .u8 7, .int .i64 0, .slice none 0 0, .int .u8 6, .int .i64 0, .slice none 0 0, .int .u8 6, .int .i64 0, .slice none 0 0] 43)) _) := Lib.hid (law_one _ (some ⟨w.heap.size, 0, none⟩) 5 code1 (cd_lit (heap_alloc_new w (.cells #[.int .u8 2, .int .i64 0, .slice none 0 0, .int .u8 24, .int .i64 1, .slice none 0 0, .int .u8 7, .int .i64 0, .slice none 0 0, .int .u8 6, .int .i64 0, .slice none 0 0, .int .u8 6, .int .i64 0, .slice none 0 0] 43)) rfl (by decide) (by intro x hx; simp only [code1, List.mem_cons, List.not_mem_nil, or_false] at hx; rcases hx with rfl | rfl | rfl | rfl | rfl <;> rfl)))
  have HB1 := Lib.hid hb1
  clear htb hb1
  go_enter Tryd.func5, Tryd.ntmps5
  go_wp2_with fail
  refine HO1.out.mono ?_
  rintro e w2 ⟨cs1, rfl, hm1, hb2⟩
  have HB2 := Lib.hid (below_next HB1.out hb2)
  have HM1 := Lib.hid (mod_one1 w2 cs1 hm1 (HT.out.bel HB2.out))
  clear hm1 hb2 HO1 HB1
  go_wp2_with fail
  refine HM1.out.mono ?_
  rintro r w3 ⟨bt, ot, lc, sa, sc, rfl, k0, k4, q1, hb3⟩
  have HB3 := Lib.hid (below_next HB2.out hb3)
  have hb4 := below_alloc w3 (.cells #[.int .u8 24, .int .i64 0, .slice none 0 0, .int .u8 24, .int .i64 0, .slice none 0 0, .int .u8 6, .int .i64 0, .slice none 0 0] 43)
  have HO2 : Hid (Calls Tryd.prog 14 #[.slice (some ⟨w3.heap.size, 0, none⟩) 3 3] (w3.alloc (.cells #[.int .u8 24, .int .i64 0, .slice none 0 0, .int .u8 24, .int .i64 0, .slice none 0 0, .int .u8 6, .int .i64 0, .slice none 0 0] 43)) _) := Lib.hid (law_one _ (some ⟨w3.heap.size, 0, none⟩) 3 code2 (cd_lit (heap_alloc_new w3 (.cells #[.int .u8 24, .int .i64 0, .slice none 0 0, .int .u8 24, .int .i64 0, .slice none 0 0, .int .u8 6, .int .i64 0, .slice none 0 0] 43)) rfl (by decide) (by intro x hx; simp only [code2, List.mem_cons, List.not_mem_nil, or_false] at hx; rcases hx with rfl | rfl | rfl <;> rfl)))
  have HQ1 := Lib.hid q1
  have HB4 := Lib.hid hb4
  have HK := Lib.hid (And.intro k0 k4)
  clear q1 hb3 hb4 HM1 HB2 k0 k4
  go_wp2_with fail
  refine HO2.out.mono ?_
  rintro e w5 ⟨cs2, rfl, hm2, hb5⟩
  have HB5 := Lib.hid (below_next HB4.out hb5)
  have HB5' := Lib.hid (below_next HB3.out HB5.out)
  have HM2 := Lib.hid (mod_one2 w5 cs2 hm2 (HT.out.bel HB5'.out))
  clear hm2 hb5 HO2 HB4
  go_wp2_with fail
  refine HM2.out.mono ?_
  rintro r w6 ⟨lv6, rfl, hb6⟩
  have HB6 := Lib.hid (below_next HB5.out hb6)
  have HB7 := Lib.hid (below_next HB5'.out hb6)
  have k0 := cell_below HB6.out HK.out.1
  have hb8 := below_alloc w6 (.cells #[.string ⟨#[]⟩, .string ⟨#[]⟩, .string ⟨#[119]⟩, .string ⟨#[119]⟩, .string ⟨#[119]⟩] 9)
  have k4 := cell_below hb8 (cell_below HB6.out HK.out.2)
  have HQ8 := Lib.hid ((HQ1.out.bel HB6.out).bel hb8)
  have hr8 := heap_alloc_new w6 (.cells #[.string ⟨#[]⟩, .string ⟨#[]⟩, .string ⟨#[119]⟩, .string ⟨#[119]⟩, .string ⟨#[119]⟩] 9)
  have HL8 : Hid (RdV (· < (w6.alloc (.cells #[.string ⟨#[]⟩, .string ⟨#[]⟩, .string ⟨#[119]⟩, .string ⟨#[119]⟩, .string ⟨#[119]⟩] 9)).heap.size) (w6.alloc (.cells #[.string ⟨#[]⟩, .string ⟨#[]⟩, .string ⟨#[119]⟩, .string ⟨#[119]⟩, .string ⟨#[119]⟩] 9)) (.slice (some ⟨w6.heap.size, 0, none⟩) 5 5) (texts [tE, tE, tWw, tWw, tWw])) := Lib.hid (by
    refine ⟨_, 5, rfl, by decide, by decide, fun j hj => ⟨w6.heap.size, 0, rfl, row_lt hr8, ?_⟩⟩
    have hj5 : j < 5 := hj
    rw [Nat.zero_add]
    match j, hj5 with
    | 0, _ => exact row_cell hr8 0 rfl
    | 1, _ => exact row_cell hr8 1 rfl
    | 2, _ => exact row_cell hr8 2 rfl
    | 3, _ => exact row_cell hr8 3 rfl
    | 4, _ => exact row_cell hr8 4 rfl)
  have HB8 := Lib.hid (below_next HB7.out hb8)
  have HE := Lib.hid (eqTexts (w6.alloc (.cells #[.string ⟨#[]⟩, .string ⟨#[]⟩, .string ⟨#[119]⟩, .string ⟨#[119]⟩, .string ⟨#[119]⟩] 9)) _ _ _ _ _ _ HQ8.out HL8.out)
  clear hb6 HM2 HB5 HB6 hb8 hr8 HK HQ1
  go_wp2_with fail
  refine HE.out.mono ?_
  rintro e w9 ⟨rfl, nq, rfl⟩
  simp only [decide_true]
  have k4' : ((w6.alloc (.cells #[.string ⟨#[]⟩, .string ⟨#[]⟩, .string ⟨#[119]⟩, .string ⟨#[119]⟩, .string ⟨#[119]⟩] 9)).drewN nq).cell? _ = _ := k4
  go_wp2_with fail
  go_ret
  exact ⟨rfl, bel_drewV HB8.out _⟩
end Go.Proofs.YtebegkgechadlaaDoor
