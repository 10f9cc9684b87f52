/- ValidateAlone, plain: a function's table does not hang on what other functions do. How long a module's bytes are, by its size: plain. ValidateAlone, plain: a module in which one function only stops may still be written. The validator, plain: what a module that may be written gives its walk; how long the lists get. -/
import Derived.Test.YtfhkjahjenpbgaaDoorMVw1
import Derived.Test.YtfhkjahjenpbgaaDoorMMod
import Derived.Test.YtfhkjahjenpbgaaDoorMInstr4
import Derived.Test.YtfhkjahjenpbgaaDoorMVw8
namespace Go.Proofs.YtfhkjahjenpbgaaDoor
open Go Go.RowKit

/-- A code that only stops. -/
def stopL : List InsD := [⟨0, 0, []⟩, ⟨6, 0, []⟩]
def stopF (f : FunD) : FunD := ⟨f.t, tE, stopL⟩
/-- The module in which function g only stops. -/
def aloneM (m : ModD) (g : Nat) : ModD := { m with funs := m.funs.set g (stopF (m.funs.getD g funZ)) }
section
variable {m : ModD} {f g : Nat}
theorem alone_len : (aloneM m g).funs.length = m.funs.length := by simp [aloneM]
theorem alone_ne (h : f ≠ g) : (aloneM m g).funs.getD f funZ = m.funs.getD f funZ := by
  simp [aloneM, Ne.symm h]
theorem alone_at (h : g < m.funs.length) : (aloneM m g).funs.getD g funZ = stopF (m.funs.getD g funZ) := by
  simp [aloneM, h]
theorem alone_ft : (aloneM m g).funs.map (·.t) = m.funs.map (·.t) := by
  apply List.ext_getElem?
  intro i
  simp only [aloneM, List.getElem?_map, List.getElem?_set]
  by_cases h : g = i
  · subst h
    by_cases hl : g < m.funs.length
    · simp [hl, stopF, List.getD_eq_getElem?_getD]
    · simp [hl]
  · simp [h]
theorem alone_ctx (x : FunD) (e : List Int) : ctxV (aloneM m g) x e = ctxV m x e := by
  unfold ctxV
  rw [alone_ft]
  rfl
theorem alone_fun (h : f ≠ g) : funV (aloneM m g) f = funV m f := by
  unfold funV
  rw [alone_ne h, alone_ctx]
  rfl
theorem hasSuf_nil (s : ByteArray) : hasSuf s tE = true := by
  unfold hasSuf tE
  simp [Lib.hasSuffix]
/-- The function that only stops is well. -/
theorem alone_stop (hg : g < m.funs.length) (hr : (sigAt m.types (m.funs.getD g funZ).t).2.size ≤ 256) : (funV (aloneM m g) g).2.1 = 0 := by
  have hc : (stopF (m.funs.getD g funZ)).code = stopL := rfl
  have hm : mapP (opsOf stopL) = ([-1, -1], [-1, -1], [-1, -1], 0, 0) := by decide
  unfold funV
  rw [alone_at hg, hc, hm, if_neg (by simp)]
  have ht : (stopF (m.funs.getD g funZ)).t = (m.funs.getD g funZ).t := rfl
  have hty : (aloneM m g).types = m.types := rfl
  rw [ht, hty]
  generalize (sigAt m.types (m.funs.getD g funZ).t).2 = r at *
  generalize ctxV (aloneM m g) _ _ = c
  have he : tE ++ r = r := by
    apply ByteArray.ext
    simp [tE]
  simp [stopL, goV, stepV, aheadV, startV, andV, rowV, branchesV, VwD.top, he, hr, setS, endsV, justV]
end
end Go.Proofs.YtfhkjahjenpbgaaDoor
namespace Go.Proofs.YtfhkjahjenpbgaaDoor
open Go Go.RowKit

theorem okL_eachP {α : Type} {ok : List α → α → Prop} {P : α → Prop} (hP : ∀ a x, ok a x → P x) : ∀ (l acc : List α), okL ok acc l → ∀ x ∈ l, P x
  | [], _, _, x, hx => absurd hx (by simp)
  | y :: l, acc, h, x, hx => by
    rw [okL] at h
    rcases List.mem_cons.1 hx with rfl | hx
    · exact hP _ _ h.1
    · exact okL_eachP hP l _ h.2 x hx
/-- The size of a code, of a module: as flagonref00 counts it. -/
def totC (l : List InsD) : Nat := l.length + (l.map fun x => x.l.length).sum
def totF (f : FunD) : Nat := f.locals.size + totC f.code
def totM (m : ModD) : Nat := m.types.length + m.hosts.length + m.globals.length + m.funs.length + m.datas.length + m.exps.length + (m.types.map fun x => x.1.size + x.2.size).sum + (m.funs.map totF).sum + (m.datas.map fun x => x.b.length).sum + (m.exps.map fun x => x.name.size).sum
theorem uv_5 {n : Nat} (h : n < 34359738368) : (uv n).length ≤ 5 := by
  have := uv_le 5 n (by have : (128 : Nat) ^ 5 = 34359738368 := by decide
                        omega)
  omega
/-- What each thing takes, all take. -/
theorem flat_le {α : Type} {enc : α → List Int} {c : α → Nat} : ∀ (l : List α), (∀ x ∈ l, (enc x).length ≤ c x) → (l.flatMap enc).length ≤ (l.map c).sum
  | [], _ => by simp
  | x :: l, h => by
    simp only [List.flatMap_cons, List.length_append, List.map_cons, List.sum_cons]
    have h1 := h x List.mem_cons_self
    have h2 := flat_le (enc := enc) (c := c) l fun y hy => h y (List.mem_cons_of_mem _ hy)
    omega
theorem sum_lin {α : Type} (a : Nat) (c : α → Nat) : ∀ l : List α, (l.map fun x => a + c x).sum = a * l.length + (l.map c).sum
  | [] => by simp
  | x :: l => by simp only [List.map_cons, List.sum_cons, sum_lin a c l, List.length_cons]; rw [Nat.mul_add]; omega
theorem sum_mul {α : Type} (a : Nat) (c : α → Nat) : ∀ l : List α, (l.map fun x => a * c x).sum = a * (l.map c).sum
  | [] => by simp
  | x :: l => by simp only [List.map_cons, List.sum_cons, sum_mul a c l, Nat.mul_add]
theorem encI_small {x : InsD} (wf : WfIns x) (hc : checkI x = 0) : (encI x).length ≤ 12 + 10 * x.l.length := by
  have ha : i64P x.a := wf.a
  have hz := zig_le ha
  unfold encI
  rw [if_pos hc]
  simp only [List.length_cons]
  unfold tailI
  split
  · rename_i h3
    have hl : x.l.length ≤ 16 := by
      unfold checkI at hc
      split at hc
      · exact absurd hc (by decide)
      split at hc
      · exact absurd hc (by decide)
      rw [if_neg (by simp [h3])] at hc
      split at hc
      · exact absurd hc (by decide)
      · omega
    have h1 := uv_5 (n := x.l.length) (by omega)
    have h2 := flat_le (enc := fun n : Int => uv n.toNat) (c := fun _ => 10) x.l fun n hn => by
      refine uv_len10 ?_
      have := wf.l n hn
      unfold i64P at this
      omega
    rw [List.length_append]
    have h3 : (x.l.map fun _ => 10).sum = 10 * x.l.length := by simp [List.map_const', Nat.mul_comm]
    unfold uvs
    omega
  · split
    · have := uv_len10 (n := zig x.a) hz
      omega
    · split
      · have := uv_len10 (n := x.a.toNat) (by unfold i64P at ha; omega)
        omega
      · simp
        omega
theorem enc_many_le {α : Type} {enc : α → List Int} {c : α → Nat} {l : List α} (hl : l.length < 34359738368) (h : ∀ x ∈ l, (enc x).length ≤ c x) : (encMany enc l).length ≤ 5 + (l.map c).sum := by
  unfold encMany
  rw [List.length_append]
  have := uv_5 hl
  have := flat_le l h
  omega
theorem encT_le {s : ByteArray} (h : s.size < 34359738368) : (encT s).length ≤ 5 + s.size := by
  unfold encT
  rw [List.length_append, bys_len]
  have := uv_5 h
  omega
theorem code_le {l : List InsD} (hw : ∀ i ∈ l, WfIns i) (hc : ∀ i ∈ l, checkI i = 0) : (l.flatMap encI).length ≤ 16 * totC l := by
  have h1 := flat_le (enc := encI) (c := fun x => 12 + 10 * x.l.length) l fun x hx => encI_small (hw x hx) (hc x hx)
  have h2 := sum_lin 12 (fun x : InsD => 10 * x.l.length) l
  have h3 := sum_mul 10 (fun x : InsD => x.l.length) l
  unfold totC
  omega
/-- A module's bytes are not longer than its size lets them be. -/
theorem laid_le {m : ModD} (wf : WfM m) (h : partsM m = 0) : (laidM m).length ≤ 16 * totM m + 100 := by
  unfold partsM at h
  simp only [thenE_0, errMany_0] at h
  obtain ⟨h1, h2, h3, h4, h5, h6, h7, h8⟩ := h
  have f1 : 0 ≤ m.first ∧ m.first ≤ 64 := by unfold errFirst at h4; split at h4 <;> omega
  have f2 : 0 ≤ m.most ∧ m.most ≤ 64 := by unfold errMost at h5; split at h5 <;> omega
  have s1 := okL_eachP (P := fun x : SigD => x.1.size ≤ 8 ∧ x.2.size ≤ 8) (fun a x hx => by unfold errS at hx; rw [thenE_0, thenE_0, errT_0, errT_0] at hx; exact ⟨hx.1.1, hx.2.1.1⟩) _ _ h1.2
  have s2 := okL_eachP (P := fun x : Int => 0 ≤ x ∧ x < m.types.length) (fun a x hx => errI_0.1 hx) _ _ h2.2
  have s6 := okL_eachP (P := fun x : FunD => (0 ≤ x.t ∧ x.t < m.types.length) ∧ x.locals.size ≤ 64 ∧ x.code.length ≤ 2048 ∧ ∀ i ∈ x.code, checkI i = 0) (fun a x hx => by
    unfold errF at hx
    rw [thenE_0, thenE_0, errT_0] at hx
    have h := hx.2.2
    split at h
    · exact absurd h (by decide)
    split at h
    · exact absurd h (by decide)
    exact ⟨errI_0.1 hx.1, by have := hx.2.1.1; have := roomT_le m.types x.t; omega, by omega, okL_eachP (P := fun i : InsD => checkI i = 0) (fun _ i hi => hi) _ _ ((errL_0 _ _).1 h)⟩) _ _ h6.2
  have s7 := okL_eachP (P := fun x : DatD => (0 ≤ x.at_ ∧ x.at_ ≤ 262144) ∧ x.b.length ≤ 262144) (fun a x hx => by have := errD_end hx; omega) _ _ h7.2
  have s8 := okL_eachP (P := fun x : ExpD => x.name.size ≤ 32 ∧ (0 ≤ x.f ∧ x.f < m.funs.length)) (fun a x hx => by
    unfold errE at hx
    rw [thenE_0] at hx
    exact ⟨errName_32 hx.1, errI_0.1 hx.2⟩) _ _ h8.2
  have c1 := enc_many_le (enc := encS) (c := fun x => 10 + (x.1.size + x.2.size)) (l := m.types) (by omega) fun x hx => by
    have := s1 x hx
    have := encT_le (s := x.1) (by omega); have := encT_le (s := x.2) (by omega)
    unfold encS; rw [List.length_append]; omega
  have c2 := enc_many_le (enc := encN) (c := fun _ => 5 + 0) (l := m.hosts) (by omega) fun x hx => by
    have := s2 x hx
    exact uv_5 (by omega)
  have c3 := enc_many_le (enc := encG) (c := fun _ => 12 + 0) (l := m.globals) (by omega) fun x hx => by
    have hv := wf.globals x hx
    have hf := okL_eachP (P := fun x : GlobD => x.letter = 119 → x.v < 4294967296) (fun a y hy => by
      unfold errG at hy
      split at hy
      · exact absurd hy (by decide)
      split at hy
      · exact absurd hy (by decide)
      · rename_i h1 h2
        intro h3
        simp [fitsD, h3] at h2
        exact h2) _ _ h3.2 x hx
    have hs : i64P (signedD x) := by
      unfold signedD i64P
      split
      · rename_i h3
        have := hf h3
        split <;> omega
      · split <;> omega
    have := uv_len10 (n := zig (signedD x)) (zig_le hs)
    unfold encG
    simp only [List.length_cons]
    omega
  have c6 := enc_many_le (enc := encF) (c := fun x => 15 + 16 * totF x) (l := m.funs) (by omega) fun x hx => by
    have := s6 x hx
    have a1 : (encN x.t).length ≤ 5 := uv_5 (by omega)
    have a2 := encT_le (s := x.locals) (by omega)
    have a3 := uv_5 (n := x.code.length) (by omega)
    have a4 := code_le (wf.code x hx) this.2.2.2
    unfold encF totF
    simp only [List.length_append]
    omega
  have c7 := enc_many_le (enc := encD) (c := fun x => 10 + x.b.length) (l := m.datas) (by omega) fun x hx => by
    have := s7 x hx
    have a1 : (encN x.at_).length ≤ 5 := uv_5 (by omega)
    have a3 := uv_5 (n := x.b.length) (by omega)
    unfold encD
    simp only [List.length_append]
    omega
  have c8 := enc_many_le (enc := encE) (c := fun x => 10 + x.name.size) (l := m.exps) (by omega) fun x hx => by
    have := s8 x hx
    have a1 : (encN x.f).length ≤ 5 := uv_5 (by omega)
    have a2 := encT_le (s := x.name) (by omega)
    unfold encE
    simp only [List.length_append]
    omega
  have n1 : (encN m.first).length ≤ 5 := uv_5 (by omega)
  have n2 : (encN m.most).length ≤ 5 := uv_5 (by omega)
  rw [sum_lin] at c1 c2 c3 c6 c7 c8
  rw [sum_mul] at c6
  have z : ∀ {α : Type} (l : List α), (l.map fun _ => 0).sum = 0 := fun l => by induction l with
    | nil => rfl
    | cons x l ih => simpa using ih
  rw [z] at c2 c3
  unfold laidM bodyM magicM totM
  simp only [List.length_append, List.length_cons, List.length_nil]
  omega
end Go.Proofs.YtfhkjahjenpbgaaDoor
namespace Go.Proofs.YtfhkjahjenpbgaaDoor
open Go Go.RowKit

/-- What is asked of a function by itself. -/
structure StF (ts : List SigD) (x : FunD) : Prop where
  t : errI ts.length x.t = 0
  loc : errT (roomT ts x.t) x.locals = 0
  len : x.code.length ≤ 2048
  code : errL (fun _ => checkI) [] x.code = 0
theorem errF_iff {ts : List SigD} {acc : List FunD} {x : FunD} : errF ts acc x = 0 ↔ StF ts x ∧ allOf acc + x.code.length ≤ 16384 := by
  unfold errF
  rw [thenE_0, thenE_0]
  constructor
  · rintro ⟨h1, h2, h⟩
    split at h
    · exact absurd h (by decide)
    split at h
    · exact absurd h (by decide)
    exact ⟨⟨h1, h2, by omega, h⟩, by omega⟩
  · rintro ⟨⟨h1, h2, h3, h4⟩, h5⟩
    refine ⟨h1, h2, ?_⟩
    rw [if_neg (by omega), if_neg (by omega)]
    exact h4
theorem allOf_cons (x : FunD) (l : List FunD) : allOf (x :: l) = x.code.length + allOf l := by simp [allOf]
theorem allOf_app (l k : List FunD) : allOf (l ++ k) = allOf l + allOf k := by simp [allOf]
theorem okF_of {ts : List SigD} : ∀ (l acc : List FunD), (∀ x ∈ l, StF ts x) → allOf acc + allOf l ≤ 16384 → okL (fun a x => errF ts a x = 0) acc l
  | [], _, _, _ => trivial
  | x :: l, acc, h, ha => by
    rw [allOf_cons] at ha
    exact ⟨errF_iff.2 ⟨h x List.mem_cons_self, by omega⟩, okF_of l _ (fun y hy => h y (List.mem_cons_of_mem _ hy)) (by rw [allOf_app, allOf_cons]; simp only [allOf, List.map_nil, List.sum_nil]; show allOf acc + _ + allOf l ≤ _; omega)⟩
theorem sum_set {α : Type} (c : α → Nat) (y : α) : ∀ (l : List α) (g : Nat), ((l.set g y).map c).sum ≤ (l.map c).sum + c y
  | [], _ => by simp
  | x :: l, 0 => by simp; omega
  | x :: l, g + 1 => by
    simp only [List.set_cons_succ, List.map_cons, List.sum_cons]
    have := sum_set c y l g
    omega
theorem sum_le_map {α : Type} {c d : α → Nat} : ∀ (l : List α), (∀ x, c x ≤ d x) → (l.map c).sum ≤ (l.map d).sum
  | [], _ => by simp
  | x :: l, h => by
    simp only [List.map_cons, List.sum_cons]
    have := h x
    have := sum_le_map l h
    omega
theorem stop_ok : checkI ⟨0, 0, []⟩ = 0 ∧ checkI ⟨6, 0, []⟩ = 0 := by decide +kernel
section
variable {m : ModD} {g : Nat}
theorem alone_tot : totM (aloneM m g) ≤ totM m + 2 := by
  have h := sum_set totF (stopF (m.funs.getD g funZ)) m.funs g
  have h2 : totF (stopF (m.funs.getD g funZ)) = 2 := rfl
  unfold totM
  rw [alone_len]
  have e : (aloneM m g).funs = m.funs.set g (stopF (m.funs.getD g funZ)) := rfl
  have e1 : (aloneM m g).types = m.types := rfl
  have e2 : (aloneM m g).hosts = m.hosts := rfl
  have e3 : (aloneM m g).globals = m.globals := rfl
  have e4 : (aloneM m g).datas = m.datas := rfl
  have e5 : (aloneM m g).exps = m.exps := rfl
  rw [e, e1, e2, e3, e4, e5]
  omega
theorem allOf_tot (l : ModD) : allOf l.funs ≤ totM l := by
  have h := sum_le_map (c := fun f : FunD => f.code.length) (d := totF) l.funs fun x => by unfold totF totC; omega
  unfold allOf totM
  omega
theorem alone_wf (h : WfM m) : WfM (aloneM m g) := by
  refine ⟨h.globals, fun f hf i hi => ?_, h.datas⟩
  rcases List.mem_or_eq_of_mem_set hf with hf | rfl
  · exact h.code f hf i hi
  · simp only [stopF, stopL, List.mem_cons, List.not_mem_nil, or_false] at hi
    rcases hi with rfl | rfl <;> exact ⟨by decide, by unfold i64P; decide, fun n hn => by simp at hn⟩
theorem alone_parts (hg : g < m.funs.length) (h : partsM m = 0) (ht : totM m ≤ 4000) : partsM (aloneM m g) = 0 := by
  have hta := alone_tot (m := m) (g := g)
  have hal := allOf_tot (aloneM m g)
  unfold partsM at h ⊢
  simp only [thenE_0, errMany_0] at h ⊢
  obtain ⟨h1, h2, h3, h4, h5, h6, h7, h8⟩ := h
  refine ⟨h1, h2, h3, h4, h5, ⟨by rw [alone_len]; exact h6.1, okF_of _ _ (fun x hx => ?_) (by simp only [allOf, List.map_nil, List.sum_nil]; show 0 + allOf (aloneM m g).funs ≤ _; omega)⟩, h7, by rw [alone_len]; exact h8⟩
  have hs := okL_eachP (P := StF m.types) (fun a x hx => (errF_iff.1 hx).1) _ _ h6.2
  rcases List.mem_or_eq_of_mem_set hx with hx | rfl
  · exact hs x hx
  · have hgm : m.funs.getD g funZ ∈ m.funs := by rw [List.getD_eq_getElem?_getD, List.getElem?_eq_getElem hg]; exact List.getElem_mem hg
    have hsg := hs _ hgm
    refine ⟨hsg.t, ?_, by simp [stopF, stopL], ?_⟩
    · show errT _ tE = 0
      unfold errT
      rw [if_neg (by show ¬ _ < 0; omega), if_pos (show lettersT tE = true from rfl)]
    · show errL (fun _ => checkI) [] stopL = 0
      simp [stopL, errL, thenE, stop_ok.1, stop_ok.2]
theorem alone_enc (wf : WfM m) (hg : g < m.funs.length) (h : (encM m).2 = 0) (ht : totM m ≤ 4000) : (encM (aloneM m g)).2 = 0 := by
  have hp := alone_parts hg (enc_good h).2.1 ht
  have hl := laid_le (alone_wf (g := g) wf) hp
  have hta := alone_tot (m := m) (g := g)
  unfold encM
  rw [if_neg (by rw [hp]; simp), if_neg (by omega)]
/-- THE LAW, plain. -/
theorem law_alone (wf : WfM m) (ht : totM m ≤ 4000) (hv : (valM m).2.1 = 0) {f : Nat} (hf : f < m.funs.length) (hg : g < m.funs.length) (hne : f ≠ g) :
    (valF m f).2.1 = 0 ∧ (valF (aloneM m g) f).2.1 = 0 ∧ (valM (aloneM m g)).2.1 = 0 ∧ (valF m f).1 = (valF (aloneM m g) f).1 := by
  obtain ⟨he, hall⟩ := valM_ok.1 hv
  have hea := alone_enc wf hg he ht
  have v1 : valF m f = funV m f := by
    unfold valF
    rw [if_neg (by simp [he]), if_neg (by omega)]; rfl
  have v2 : valF (aloneM m g) f = funV (aloneM m g) f := by
    unfold valF
    rw [if_neg (by simp [hea]), if_neg (by rw [alone_len]; omega)]; rfl
  rw [v1, v2, alone_fun hne]
  refine ⟨hall f hf, hall f hf, valM_ok.2 ⟨hea, fun j hj => ?_⟩, rfl⟩
  rw [alone_len] at hj
  by_cases e : j = g
  · subst e
    refine alone_stop hg ?_
    have hp := (enc_good he).2.1
    unfold partsM at hp
    simp only [thenE_0, errMany_0] at hp
    have s1 := okL_eachP (P := fun x : SigD => x.2.size ≤ 8) (fun a x hx => by unfold errS at hx; rw [thenE_0, thenE_0, errT_0, errT_0] at hx; exact hx.2.1.1) _ _ hp.1.2
    unfold sigAt
    rw [List.getD_eq_getElem?_getD]
    cases hq : m.types[(m.funs.getD j funZ).t.toNat]? with
    | none => show (0 : Nat) ≤ 256; omega
    | some y => have := s1 y (List.mem_of_getElem? hq); simp; omega
  · rw [alone_fun e]
    exact hall j hj
end
end Go.Proofs.YtfhkjahjenpbgaaDoor
namespace Go.Proofs.YtfhkjahjenpbgaaDoor
open Go Go.RowKit

/-- What the validator needs of a module that may be written. -/
structure GdM (m : ModD) : Prop where
  ok : MOk m
  fun_ : ∀ f ∈ m.funs, f.code.length ≤ 2048 ∧ f.locals.size ≤ 64 ∧ (∀ x ∈ f.code, x.op < 256 ∧ i64P x.a ∧ (∀ n ∈ x.l, i64P n) ∧ (x.op = 9 → 0 < x.l.length))
  ln : m.funs.length ≤ 128
theorem check_l {x : InsD} (h : checkI x = 0) (h9 : x.op = 9) : 0 < x.l.length := by
  have t9 : takesP 9 = 3 := by decide
  obtain ⟨op, a, l⟩ := x
  simp only at h9
  subst h9
  unfold checkI at h
  simp only [t9] at h
  split at h
  · exact absurd h (by decide)
  split at h
  · exact absurd h (by decide)
  rw [if_neg (by simp)] at h
  split at h
  · exact absurd h (by decide)
  · simp only; omega
theorem gd_of {m : ModD} (h : (encM m).2 = 0) (wf : WfM m) : GdM m := by
  have hp := (enc_good h).2.1
  unfold partsM at hp
  simp only [thenE_0, errMany_0] at hp
  obtain ⟨h1, h2, h3, h4, h5, h6, h7, h8⟩ := hp
  have hf := okL_eachP (P := StF m.types) (fun a x hx => (errF_iff.1 hx).1) _ _ h6.2
  refine ⟨⟨fun f hm => errI_0.1 (hf f hm).t, fun t ht => ?_, fun s hs => ?_, fun g hg => ?_⟩, fun f hm => ⟨(hf f hm).len, ?_, fun x hx => ?_⟩, h6.1⟩
  · exact okL_eachP (P := fun t : Int => 0 ≤ t ∧ t < m.types.length) (fun a x hx => errI_0.1 hx) _ _ h2.2 t ht
  · exact okL_eachP (P := fun x : SigD => x.1.size ≤ 8 ∧ x.2.size ≤ 8) (fun a x hx => by unfold errS at hx; rw [thenE_0, thenE_0, errT_0, errT_0] at hx; exact ⟨hx.1.1, hx.2.1.1⟩) _ _ h1.2 s hs
  · refine okL_eachP (P := fun g : GlobD => g.letter < 128) (fun a x hx => ?_) _ _ h3.2 g hg
    unfold errG at hx
    split at hx
    · exact absurd hx (by decide)
    · rename_i hl
      unfold isLet at hl
      simp at hl
      by_cases e : x.letter = 119
      · omega
      · have := hl e; omega
  · have := (hf f hm).loc
    rw [errT_0] at this
    exact Nat.le_trans this.1 (roomT_le _ _)
  · have hw := wf.code f hm x hx
    have hc := (hf f hm).code
    rw [errL_0] at hc
    have hx0 := okL_eachP (P := fun i : InsD => checkI i = 0) (fun a x hx => hx) _ _ hc x hx
    exact ⟨hw.op, hw.a, hw.l, check_l hx0⟩
theorem andV_err {α β : Type} {r : Except Int α} {k : α → Except Int β} {e : Int} (h : andV r k = .error e) : r = .error e ∨ ∃ a, r = .ok a ∧ k a = .error e := by
  cases r with
  | error e1 => exact .inl (by simpa [andV] using h)
  | ok a => exact .inr ⟨a, rfl, h⟩
section
variable {c : VcD} {v : VwD} {x : InsD} {s t : ByteArray} {e : Int} {at_ n : Nat}
theorem pops_ne (h : popsV v s = .error e) : e ≠ 0 := by
  unfold popsV at h; split at h
  · exact absurd h (by simp)
  · simp only [Except.error.injEq] at h; omega
theorem pushes_ne (h : pushesV v s = .error e) : e ≠ 0 := by
  unfold pushesV at h; split at h
  · exact absurd h (by simp)
  · simp only [Except.error.injEq] at h; omega
theorem index_ne {a : Int} (h : indexV a n = .error e) : e ≠ 0 := by
  unfold indexV at h; split at h
  · exact absurd h (by simp)
  · simp only [Except.error.injEq] at h; omega
theorem label_ne {a : Int} (h : labelV v a = .error e) : e ≠ 0 := by
  unfold labelV at h; split at h
  · exact absurd h (by simp)
  · simp only [Except.error.injEq] at h; omega
theorem labels_ne : ∀ (l : List Int), labelsV v l = .error e → e ≠ 0
  | [], h => absurd h (by simp [labelsV])
  | n :: l, h => by
    rcases andV_err h with h | ⟨_, _, h⟩
    · exact label_ne h
    · exact labels_ne l h
theorem same_ne : ∀ (l : List Int), sameV v s l = .error e → e ≠ 0
  | [], h => absurd h (by simp [sameV])
  | n :: l, h => by
    rcases andV_err h with h | ⟨o, _, h⟩
    · exact label_ne h
    · split at h
      · exact same_ne l h
      · simp only [Except.error.injEq] at h; omega
theorem pp_ne (h : andV (popsV v s) (fun v1 => pushesV v1 t) = .error e) : e ≠ 0 := by
  rcases andV_err h with h | ⟨_, _, h⟩
  · exact pops_ne h
  · exact pushes_ne h
theorem ends_ne (h : endsV c v x = .error e) : e ≠ 0 := by
  unfold endsV at h
  rcases andV_err h with h | ⟨_, _, h⟩
  · unfold justV at h
    by_cases h1 : (if v.dead then v.top.base ++ v.top.res else v.shape) = v.top.base ++ v.top.res
    · rw [if_pos h1] at h; exact absurd h (by simp)
    · rw [if_neg h1] at h; simp only [Except.error.injEq] at h; omega
  · split at h
    · exact absurd h (by simp)
    · split at h
      · simp only [Except.error.injEq] at h; omega
      · exact absurd h (by simp)
theorem rowV_ne (h : rowV c v at_ x = .error e) : e ≠ 0 := by
  unfold rowV at h
  split at h
  · unfold opensV at h
    rcases andV_err h with h | ⟨_, _, h⟩
    · exact index_ne h
    rcases andV_err h with h | ⟨_, _, h⟩
    · exact pops_ne h
    rcases andV_err h with h | ⟨_, _, h⟩
    · exact pushes_ne h
    · exact absurd h (by simp)
  split at h
  · exact ends_ne h
  split at h
  · unfold branchesV at h
    split at h
    · rcases andV_err h with h | ⟨_, _, h⟩
      · exact label_ne h
      rcases andV_err h with h | ⟨_, _, h⟩
      · exact pops_ne h
      · exact absurd h (by simp)
    split at h
    · rcases andV_err h with h | ⟨_, _, h⟩
      · exact label_ne h
      rcases andV_err h with h | ⟨_, _, h⟩
      · exact pops_ne h
      · exact absurd h (by simp)
    split at h
    · rcases andV_err h with h | ⟨_, _, h⟩
      · exact labels_ne _ h
      rcases andV_err h with h | ⟨_, _, h⟩
      · exact label_ne h
      rcases andV_err h with h | ⟨_, _, h⟩
      · exact same_ne _ h
      rcases andV_err h with h | ⟨_, _, h⟩
      · exact pops_ne h
      · exact absurd h (by simp)
    split at h
    · rcases andV_err h with h | ⟨_, _, h⟩
      · exact pops_ne h
      · exact absurd h (by simp)
    · exact absurd h (by simp)
  split at h
  · unfold callsV at h
    rcases andV_err h with h | ⟨_, _, h⟩
    · split at h
      · rcases andV_err h with h | ⟨_, _, h⟩
        · exact index_ne h
        · exact absurd h (by simp)
      · rcases andV_err h with h | ⟨_, _, h⟩
        · exact index_ne h
        · exact absurd h (by simp)
    · exact pp_ne h
  split at h
  · unfold picksV at h
    split at h
    · split at h
      · simp only [Except.error.injEq] at h; omega
      · exact absurd h (by simp)
    · split at h
      · simp only [Except.error.injEq] at h; omega
      · exact pp_ne h
  split at h
  · unfold namesV at h
    rcases andV_err h with h | ⟨_, _, h⟩
    · unfold letterV at h
      split at h
      · rcases andV_err h with h | ⟨_, _, h⟩
        · exact index_ne h
        · split at h
          · exact absurd h (by simp)
          · simp only [Except.error.injEq] at h; omega
      · rcases andV_err h with h | ⟨_, _, h⟩
        · exact index_ne h
        · exact absurd h (by simp)
    · rcases andV_err h with h | ⟨_, _, h⟩
      · split at h
        · exact pops_ne h
        · exact absurd h (by simp)
      · split at h
        · exact pushes_ne h
        · exact absurd h (by simp)
  · exact pp_ne h
theorem step_ne (h : stepV c v at_ x = .error e) : e ≠ 0 := by
  unfold stepV at h
  rcases andV_err h with h | ⟨_, _, h⟩
  · unfold aheadV at h
    split at h
    · simp only [Except.error.injEq] at h; omega
    · rcases andV_err h with h | ⟨_, _, h⟩
      · split at h
        · split at h
          · exact absurd h (by simp)
          · simp only [Except.error.injEq] at h; omega
        · exact absurd h (by simp)
      · exact absurd h (by simp)
  · exact rowV_ne h
theorem goV_ne : ∀ (l : List InsD) (at_ : Nat) (v : VwD) (z : Int × Nat), goV c l at_ v = .error z → z.1 ≠ 0
  | [], _, _, _, h => absurd h (by simp [goV])
  | x :: l, at_, v, z, h => by
    rw [goV] at h
    split at h
    · rename_i e he
      simp only [Except.error.injEq] at h
      rw [← h]; exact step_ne he
    · exact goV_ne l _ _ z h
end
section
variable {c : VcD} {code : List InsD}
/-- A walk that ends well has told each instruction's shape and floor. -/
theorem goV_len (hc : SzC c) : ∀ (l : List InsD) (pc : Nat) (v v' : VwD), code.drop pc = l → pc ≤ code.length → VL (opsOf code) v pc → v.shapes.length = pc → v.floors.length = pc → goV c l pc v = .ok v' → v'.shapes.length = code.length ∧ v'.floors.length = code.length
  | [], pc, v, v', hl, hpc, _, hs, hf, h => by
    have : code.length ≤ pc := List.drop_eq_nil_iff.1 hl
    rw [goV] at h
    simp only [Except.ok.injEq] at h
    subst h
    exact ⟨by omega, by omega⟩
  | x :: l, pc, v, v', hl, hpc, hv, hs, hf, h => by
    have hlt : pc < code.length := by
      have := congrArg List.length hl
      rw [List.length_drop, List.length_cons] at this; omega
    have hx : code[pc] = x := by
      have := List.drop_eq_getElem_cons hlt
      rw [hl] at this
      exact (List.cons.inj this).1.symm
    have hl2 : code.drop (pc + 1) = l := by
      have := List.drop_eq_getElem_cons hlt
      rw [hl] at this
      exact (List.cons.inj this).2.symm
    rw [goV] at h
    cases hst : stepV c v pc x with
    | error e => rw [hst] at h; simp at h
    | ok v2 =>
      rw [hst] at h
      simp only at h
      unfold stepV at hst
      obtain ⟨v1, h1, h2⟩ := andV_ok hst
      have hpo : pc < (opsOf code).length := by rw [opsOf_len]; exact hlt
      have hvr := hv.row hpo h1
      obtain ⟨ms, _, hi⟩ := hv hpo
      obtain ⟨j1, o1, f1, _, d1, s1⟩ := ahead_ok hi.j h1
      have k := row_rk j1 hc hpo hvr.ne d1 h2
      exact goV_len hc l (pc + 1) v2 v' hl2 (by omega) (hv.next hc hpo (x := x) (by rw [opsOf_at hlt, hx]) h1 h2) (by rw [k.sh, s1]; simp [hs]) (by rw [k.fl, f1]; simp [hf]) h
end
end Go.Proofs.YtfhkjahjenpbgaaDoor
