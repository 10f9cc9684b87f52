/- Reading arguments: what is read as a datum, within the reach, meets the relations of Lib. No program in sight. Reading codes. Reading modules. -/
import Derived.Test.YtfhkjahjenpbgaaDoorMLib
import Derived.SizedLaws
import Derived.Deep.Slices
import Derived.OpenShut
import Derived.Test.YtfhkjahjenpbgaaDoorMMod
import Derived.Test.YtfhkjahjenpbgaaDoorHead5
namespace Go.Proofs.YtfhkjahjenpbgaaDoor
open Go Go.RowKit Go.Deep

section
variable {H : Type} {enc : TypeId × Value → H} {P : Program} {W : World}

/-- Whatever is read at the type t, within the reach, meets R. -/
def Opens (enc : TypeId × Value → H) (P : Program) (W : World) (t : TypeId) {α : Type} (R : World → List Value → α → Prop) : Prop :=
  ∀ fuel cs x, DataW.trod enc P W 0 (fun _ => true) true fuel t cs = some x → (x.1.weights P t).all (· ≤ reachBytes) = true → ∃ a, R W cs a
theorem Opens.mono {t : TypeId} {α β : Type} {R : World → List Value → α → Prop} {R' : World → List Value → β → Prop} (h : Opens enc P W t R) (hR : ∀ cs a, R W cs a → ∃ b, R' W cs b) : Opens enc P W t R' := by
  intro fuel cs x hx hw
  obtain ⟨a, ha⟩ := h fuel cs x hx hw
  exact hR cs a ha

/-- A number in one cell. -/
def RInt (k : IntKind) : World → List Value → Int → Prop := fun _ cs n => cs = [.int k n] ∧ (Lit.int k n).wf = true
theorem opens_int {t : TypeId} {k : IntKind} (ht : P.underlying t = some (.int k)) : Opens enc P W t (RInt k) := by
  intro fuel cs x h _
  obtain ⟨n, rfl, _, hw⟩ := DataW.trod_int ht h
  exact ⟨n, rfl, hw⟩
def RBool : World → List Value → Bool → Prop := fun _ cs b => cs = [.bool b]
theorem opens_bool {t : TypeId} (ht : P.underlying t = some .bool) : Opens enc P W t RBool := by
  intro fuel cs x h _
  obtain ⟨b, rfl, _⟩ := DataW.trod_bool ht h
  exact ⟨b, rfl⟩
/-- A text in one cell. -/
def RStr : World → List Value → ByteArray → Prop := fun _ cs s => cs = [.string s] ∧ s.size ≤ 140737488355328
theorem opens_string {t : TypeId} (ht : P.underlying t = some .string) : Opens enc P W t RStr := by
  intro fuel cs x h hw
  obtain ⟨s, rfl, hx, _⟩ := DataW.trod_string ht h
  refine ⟨s, rfl, ?_⟩
  rw [hx] at hw
  have h2 : s.data.toList.length ≤ reachBytes := by
    have := List.all_eq_true.1 hw s.data.toList.length (by simp [DataW.weights])
    exact of_decide_eq_true this
  have h3 : reachBytes ≤ 140737488355328 := by decide
  have h4 : s.data.toList.length = s.size := rfl
  omega

theorem weightsAll_mem {e : TypeId} : ∀ {l : List (DataW H)} {d : DataW H} {m : Nat}, d ∈ l → m ∈ d.weights P e → m ∈ DataW.weightsAll P e l
  | d0 :: l, d, m, hd, hm => by
    simp only [DataW.weightsAll, List.mem_append]
    rcases List.mem_cons.1 hd with rfl | hd
    · exact .inl hm
    · exact .inr (weightsAll_mem hd hm)
  | [], _, _, hd, _ => by simp at hd

/-- A slice whose elements are opened. -/
theorem opens_slice {t e : TypeId} {α : Type} {R : World → List Value → α → Prop} {n : Nat} (ht : P.underlying t = some (.slice e)) (hc : P.cellsOf e = n) (hn : 0 < n) (hb : 1 ≤ P.bytesOf e) (he : Opens enc P W e R) :
    Opens enc P W t (R1 fun w v xs => RdL n R (· < W.heap.size) w v xs) := by
  intro fuel cs x h hw
  rcases open_slice ht h with ⟨rfl, _⟩ | ⟨a, len, cap, m, k, D, Pl, rfl, _, hlc, _, hm, rfl, hx⟩
  · exact ⟨[], _, rfl, RdL.nil _ _ _ _⟩
  · simp only [if_true] at hm
    subst hm
    simp only [DataW.weights, ht] at hw
    have hcap : m ≤ reachBytes := by
      have h1 := List.all_eq_true.1 hw ((((List.range len).map D).length + ((List.range (m - len)).map fun j => D (len + j)).length) * P.bytesOf e) (List.mem_cons_self ..)
      simp only [List.length_map, List.length_range, decide_eq_true_eq] at h1
      have h2 : (len + (m - len)) * 1 ≤ (len + (m - len)) * P.bytesOf e := Nat.mul_le_mul_left _ hb
      omega
    have hel : ∀ i, i < len → ∃ y : α, (∃ cs', cs'.length = n ∧ (∀ j, j < n → W.cell? (a.add (i * n) |>.add j) = cs'[j]?) ∧ R W cs' y) := by
      intro i hi
      obtain ⟨cs', h1, h2⟩ := hx i (by omega)
      rw [hc] at h1
      obtain ⟨_, h3, h4⟩ := World.cells?_some h1
      obtain ⟨y, hy⟩ := he _ _ _ h2 (by
        refine List.all_eq_true.2 fun q hq => List.all_eq_true.1 hw q (List.mem_cons_of_mem _ (List.mem_append_left _ (weightsAll_mem (d := D i) ?_ hq)))
        exact List.mem_map.2 ⟨i, List.mem_range.2 hi, rfl⟩)
      exact ⟨y, cs', h3, h4, hy⟩
    have hd : ∃ xs : List α, xs.length = len ∧ ∀ i (h : i < xs.length), ∃ cs', cs'.length = n ∧ (∀ j, j < n → W.cell? (a.add (i * n) |>.add j) = cs'[j]?) ∧ R W cs' xs[i] := by
      clear hw hx hlc hcap h
      induction len with
      | zero => exact ⟨[], rfl, fun i h => absurd h (by simp)⟩
      | succ len ih =>
        obtain ⟨xs, hl, h⟩ := ih fun i hi => hel i (by omega)
        obtain ⟨y, hy⟩ := hel len (by omega)
        refine ⟨xs ++ [y], by simp [hl], fun i hi => ?_⟩
        by_cases hil : i < xs.length
        · rw [List.getElem_append_left hil]; exact h i hil
        · obtain rfl : i = len := by simp at hi; omega
          rw [List.getElem_append_right (by omega)]
          simpa using hy
    obtain ⟨xs, rfl, hxs⟩ := hd
    refine ⟨xs, _, rfl, some a, m, rfl, hlc, ?_, fun i hi => ?_⟩
    · have : reachBytes ≤ 140737488355328 := by decide
      omega
    · obtain ⟨cs0, g1, g2, _⟩ := hxs 0 (by omega)
      have g0 := g2 0 hn
      rw [List.getElem?_eq_getElem (by omega), add_add] at g0
      simp only [Nat.zero_mul, Nat.add_zero] at g0
      obtain ⟨cs', h1, h2, h3⟩ := hxs i hi
      have h0 := h2 0 hn
      rw [List.getElem?_eq_getElem (by omega), add_add] at h0
      obtain ⟨b, off, spot⟩ := a
      have hspot : spot = none := by
        have := World.cell?_spot g0
        simpa [Addr.add] using this
      subst hspot
      rw [Go.WideShapes.add_plain] at h0
      refine ⟨b, off, cs', rfl, World.block_lt_of_cell? W _ h0, h1, fun j hj => ?_, h3⟩
      have h4 := h2 j hj
      rw [add_add, Go.WideShapes.add_plain] at h4
      rw [← h4, Nat.add_assoc]

/-- A slice of numbers. -/
theorem RdI.of_RdL {k : IntKind} {S : Nat → Prop} {w : World} {v : Value} {xs : List Int} (h : RdL 1 (RInt k) S w v xs) : RdI k S w v xs ∧ ∀ x ∈ xs, (Lit.int k x).wf = true := by
  obtain ⟨a, cap, e, h1, h2, h3⟩ := h
  refine ⟨⟨a, cap, e, h1, h2, fun j hj => ?_⟩, fun x hx => ?_⟩
  · obtain ⟨b, off, cs, ha, hb, hl, hc, hr, _⟩ := h3 j hj
    refine ⟨b, off, ha, hb, ?_⟩
    have := hc 0 (by omega)
    rw [hr] at this
    simpa using this
  · obtain ⟨j, hj, rfl⟩ := List.getElem_of_mem hx
    obtain ⟨b, off, cs, ha, hb, hl, hc, hr, hw⟩ := h3 j hj
    exact hw
theorem opens_ints {t e : TypeId} {k : IntKind} (ht : P.underlying t = some (.slice e)) (hc : P.cellsOf e = 1) (hb : 1 ≤ P.bytesOf e) (he : P.underlying e = some (.int k)) :
    Opens enc P W t (R1 fun w v xs => RdI k (· < W.heap.size) w v xs ∧ ∀ x ∈ xs, (Lit.int k x).wf = true) :=
  (opens_slice ht hc (by omega) hb (opens_int he)).mono fun _ a ⟨v, e, h⟩ => ⟨a, v, e, RdI.of_RdL h⟩

/-- What holds of each element, apart from how it is read. -/
theorem RdL.split {α : Type} {n : Nat} {R R' : World → List Value → α → Prop} {p : α → Prop} {S : Nat → Prop} {w : World} {v : Value} {xs : List α} (h : RdL n R S w v xs)
    (hR : ∀ cs x, R w cs x → R' w cs x ∧ p x) : RdL n R' S w v xs ∧ ∀ x ∈ xs, p x := by
  obtain ⟨a, cap, e, h1, h2, h3⟩ := h
  refine ⟨⟨a, cap, e, h1, h2, fun j hj => ?_⟩, fun x hx => ?_⟩
  · obtain ⟨b, off, cs, ha, hb, hl, hc, hr⟩ := h3 j hj
    exact ⟨b, off, cs, ha, hb, hl, hc, (hR _ _ hr).1⟩
  · obtain ⟨j, hj, rfl⟩ := List.getElem_of_mem hx
    obtain ⟨b, off, cs, ha, hb, hl, hc, hr⟩ := h3 j hj
    exact (hR _ _ hr).2

/-- A struct's fields, opened one by one. -/
theorem opens_struct {t : TypeId} {fs : Array Field} (ht : P.underlying t = some (.struct fs)) {fuel : Nat} {cs : List Value} {x : DataW H × List MemPlace}
    (h : DataW.trod enc P W 0 (fun _ => true) true fuel t cs = some x) (hw : (x.1.weights P t).all (· ≤ reachBytes) = true) :
    cs.length = P.cellsOf t ∧ ∀ (i : Nat) (ty : TypeId) (off n : Nat), (fs[i]?).map (fun f => (f.type, f.offset)) = some (ty, off) → P.cellsOf ty = n → ∀ {α : Type} {R : World → List Value → α → Prop}, Opens enc P W ty R → ∃ a, R W ((cs.drop off).take n) a := by
  obtain ⟨xs, n, _, rfl, hl, hxl, hf⟩ := DataW.trod_struct ht h
  refine ⟨hl, fun i ty off n hi0 hn α R ho => ?_⟩
  obtain ⟨f, hi, e⟩ := Option.map_eq_some_iff.1 hi0
  simp only [Prod.mk.injEq] at e
  obtain ⟨rfl, rfl⟩ := e
  subst hn
  have hlt : i < xs.length := by rw [hxl]; exact (Array.getElem?_eq_some_iff.1 hi).1
  have h1 := hf i f hi
  rw [List.getElem?_eq_getElem hlt] at h1
  refine ho _ _ _ h1 (List.all_eq_true.2 fun q hq => ?_)
  simp only [DataW.weights, ht] at hw
  refine List.all_eq_true.1 hw q (DataW.weights_mem_each (j := i) (t := f.type) (d := (xs[i]).1) ?_ ?_ q hq)
  · simp only [List.getElem?_map]
    rw [show fs.toList[i]? = some f by simpa using hi]; rfl
  · simp [hlt]

/-- An argument, opened. -/
theorem opens_arg {ts : List TypeId} {ds : List (DataW H)} {t : TypeId} {v : Value} {d : DataW H} {p : List MemPlace} {α : Type} {R : World → List Value → α → Prop}
    (hr : (DataW.weightsEach P ts ds).all (· ≤ reachBytes) = true) (j : Nat) (ht : ts[j]? = some t) (hd : ds[j]? = some d) (h : DataW.Trod enc P W 0 (fun _ => true) true t v d p) (ho : Opens enc P W t R) :
    ∃ a, R W v.cells.toList a := by
  obtain ⟨fuel, hf⟩ := h
  exact ho fuel _ _ hf (List.all_eq_true.2 fun q hq => List.all_eq_true.1 hr q (DataW.weights_mem_each ht hd q hq))
end
end Go.Proofs.YtfhkjahjenpbgaaDoor
namespace Go.Proofs.YtfhkjahjenpbgaaDoor
open Go Go.RowKit Go.Deep

theorem Tryd.kU8 : Tryd.prog.cellsOf 5 = 1 := by kernel_rfl
theorem Tryd.kInt : Tryd.prog.cellsOf 3 = 1 := by kernel_rfl
theorem Tryd.kI64 : Tryd.prog.cellsOf 2 = 1 := by kernel_rfl
theorem Tryd.kLInt : Tryd.prog.cellsOf 23 = 1 := by kernel_rfl
theorem Tryd.kbInt : Tryd.prog.bytesOf 3 = 8 := by kernel_rfl
theorem Tryd.kbIns : Tryd.prog.bytesOf 68 = 40 := by kernel_rfl
section
variable {H : Type} {enc : TypeId × Value → H} {W : World}
theorem opens_intl : Opens enc Tryd.prog W 23 (R1 fun w v xs => RdI .i64 (· < W.heap.size) w v xs ∧ ∀ x ∈ xs, i64P x) :=
  (opens_ints Tryd.underlying23 Tryd.kInt (by rw [Tryd.kbInt]; omega) Tryd.underlying3).mono fun _ a ⟨v, e, h, hw⟩ => ⟨a, v, e, h, fun x hx => bounds_i64 (hw x hx)⟩
theorem len3 {l : List Value} (h : l.length = 3) : ∃ a b c, l = [a, b, c] := by
  match l, h with
  | [a, b, c], _ => exact ⟨a, b, c, rfl⟩
theorem opens_ins : Opens enc Tryd.prog W 68 (fun w cs x => RIns (· < W.heap.size) w cs x ∧ WfIns x) := by
  intro fuel cs x h hw
  obtain ⟨hl, hf⟩ := opens_struct Tryd.underlying68 h hw
  rw [Tryd.cIns] at hl
  obtain ⟨a, b, c, rfl⟩ := len3 hl
  have f0 := hf 0 5 0 1 rfl Tryd.kU8 (opens_int (k := .u8) Tryd.underlying5)
  have f1 := hf 1 2 1 1 rfl Tryd.kI64 (opens_int (k := .i64) Tryd.underlying2)
  have f2 := hf 2 23 2 1 rfl Tryd.kLInt opens_intl
  obtain ⟨n0, e0, w0⟩ := f0
  obtain ⟨n1, e1, w1⟩ := f1
  obtain ⟨l2, v2, e2, r2, w2⟩ := f2
  simp at e0 e1 e2
  subst e0 e1 e2
  have hb := bounds_u8 w0
  obtain ⟨m, rfl⟩ := Int.eq_ofNat_of_zero_le hb.1
  exact ⟨⟨m, n1, l2⟩, ⟨_, rfl, r2⟩, ⟨by simp only; omega, bounds_i64 w1, w2⟩⟩
theorem opens_code : Opens enc Tryd.prog W 54 (R1 fun w v xs => RdL 3 (RIns (· < W.heap.size)) (· < W.heap.size) w v xs ∧ ∀ x ∈ xs, WfIns x) :=
  (opens_slice Tryd.underlying54 Tryd.cIns (by omega) (by rw [Tryd.kbIns]; omega) opens_ins).mono fun _ a ⟨v, e, h⟩ => ⟨a, v, e, RdL.split h fun _ _ h => h⟩
end
end Go.Proofs.YtfhkjahjenpbgaaDoor
namespace Go.Proofs.YtfhkjahjenpbgaaDoor
open Go Go.RowKit Go.Deep

theorem Tryd.kStr : Tryd.prog.cellsOf 9 = 1 := by kernel_rfl
theorem Tryd.kBool : Tryd.prog.cellsOf 4 = 1 := by kernel_rfl
theorem Tryd.kU64 : Tryd.prog.cellsOf 46 = 1 := by kernel_rfl
theorem Tryd.kLBy : Tryd.prog.cellsOf 41 = 1 := by kernel_rfl
theorem Tryd.kbU8 : Tryd.prog.bytesOf 5 = 1 := by kernel_rfl
theorem Tryd.kSig : Tryd.prog.cellsOf 48 = 2 := by kernel_rfl
theorem Tryd.kGlob : Tryd.prog.cellsOf 66 = 3 := by kernel_rfl
theorem Tryd.kFunc : Tryd.prog.cellsOf 56 = 3 := by kernel_rfl
theorem Tryd.kData : Tryd.prog.cellsOf 43 = 2 := by kernel_rfl
theorem Tryd.kExpo : Tryd.prog.cellsOf 59 = 2 := by kernel_rfl
theorem Tryd.kModu : Tryd.prog.cellsOf 29 = 8 := by kernel_rfl
theorem Tryd.kbSig : Tryd.prog.bytesOf 48 = 32 := by kernel_rfl
theorem Tryd.kbGlob : Tryd.prog.bytesOf 66 = 16 := by kernel_rfl
theorem Tryd.kbFunc : Tryd.prog.bytesOf 56 = 48 := by kernel_rfl
theorem Tryd.kbData : Tryd.prog.bytesOf 43 = 32 := by kernel_rfl
theorem Tryd.kbExpo : Tryd.prog.bytesOf 59 = 24 := by kernel_rfl
theorem Tryd.kLCode : Tryd.prog.cellsOf 54 = 1 := by kernel_rfl
theorem Tryd.kLSig : Tryd.prog.cellsOf 22 = 1 := by kernel_rfl
theorem Tryd.kLGlob : Tryd.prog.cellsOf 24 = 1 := by kernel_rfl
theorem Tryd.kLFunc : Tryd.prog.cellsOf 25 = 1 := by kernel_rfl
theorem Tryd.kLData : Tryd.prog.cellsOf 26 = 1 := by kernel_rfl
theorem Tryd.kLExpo : Tryd.prog.cellsOf 27 = 1 := by kernel_rfl
theorem len2m {l : List Value} (h : l.length = 2) : ∃ a b, l = [a, b] := by
  match l, h with
  | [a, b], _ => exact ⟨a, b, rfl⟩
theorem len8m {l : List Value} (h : l.length = 8) : ∃ a b c d e f g k, l = [a, b, c, d, e, f, g, k] := by
  match l, h with
  | [a, b, c, d, e, f, g, k], _ => exact ⟨a, b, c, d, e, f, g, k, rfl⟩
section
variable {H : Type} {enc : TypeId × Value → H} {W : World}
theorem opens_bytes5 : Opens enc Tryd.prog W 41 (R1 fun w v xs => RdI .u8 (· < W.heap.size) w v xs ∧ ∀ x ∈ xs, 0 ≤ x ∧ x ≤ 255) :=
  (opens_ints Tryd.underlying41 Tryd.kU8 (by rw [Tryd.kbU8]; omega) Tryd.underlying5).mono fun _ a ⟨v, e, h, hw⟩ => ⟨a, v, e, h, fun x hx => bounds_u8 (hw x hx)⟩
theorem opens_sig : Opens enc Tryd.prog W 48 (fun w cs (x : SigD) => RSig w cs x ∧ (x.1.size ≤ 140737488355328 ∧ x.2.size ≤ 140737488355328)) := by
  intro fuel cs x h hw
  obtain ⟨hl, hf⟩ := opens_struct Tryd.underlying48 h hw
  rw [Tryd.kSig] at hl
  obtain ⟨a, b, rfl⟩ := len2m hl
  obtain ⟨s0, e0, w0⟩ := hf 0 9 0 1 rfl Tryd.kStr (opens_string Tryd.underlying9)
  obtain ⟨s1, e1, w1⟩ := hf 1 9 1 1 rfl Tryd.kStr (opens_string Tryd.underlying9)
  simp at e0 e1
  subst e0 e1
  exact ⟨(s0, s1), rfl, w0, w1⟩
theorem opens_glob : Opens enc Tryd.prog W 66 (fun w cs (x : GlobD) => RGlob w cs x ∧ (x.letter < 256 ∧ x.v < 18446744073709551616)) := by
  intro fuel cs x h hw
  obtain ⟨hl, hf⟩ := opens_struct Tryd.underlying66 h hw
  rw [Tryd.kGlob] at hl
  obtain ⟨a, b, c, rfl⟩ := len3 hl
  obtain ⟨n0, e0, w0⟩ := hf 0 5 0 1 rfl Tryd.kU8 (opens_int (k := .u8) Tryd.underlying5)
  obtain ⟨b1, e1⟩ := hf 1 4 1 1 rfl Tryd.kBool (opens_bool Tryd.underlying4)
  obtain ⟨n2, e2, w2⟩ := hf 2 46 2 1 rfl Tryd.kU64 (opens_int (k := .u64) Tryd.underlying46)
  simp [RBool] at e0 e1 e2
  subst e0 e1 e2
  have h0 := bounds_u8 w0
  have h2 := bounds_u64 w2
  obtain ⟨m0, rfl⟩ := Int.eq_ofNat_of_zero_le h0.1
  obtain ⟨m2, rfl⟩ := Int.eq_ofNat_of_zero_le h2.1
  exact ⟨⟨m0, b1, m2⟩, rfl, by simp only; omega, by simp only; omega⟩
theorem opens_fun : Opens enc Tryd.prog W 56 (fun w cs (x : FunD) => RFun (· < W.heap.size) w cs x ∧ (i64P x.t ∧ x.locals.size ≤ 140737488355328 ∧ ∀ i ∈ x.code, WfIns i)) := by
  intro fuel cs x h hw
  obtain ⟨hl, hf⟩ := opens_struct Tryd.underlying56 h hw
  rw [Tryd.kFunc] at hl
  obtain ⟨a, b, c, rfl⟩ := len3 hl
  obtain ⟨n0, e0, w0⟩ := hf 0 3 0 1 rfl Tryd.kInt (opens_int (k := .i64) Tryd.underlying3)
  obtain ⟨s1, e1, w1⟩ := hf 1 9 1 1 rfl Tryd.kStr (opens_string Tryd.underlying9)
  obtain ⟨l2, v2, e2, r2, w2⟩ := hf 2 54 2 1 rfl Tryd.kLCode opens_code
  simp at e0 e1 e2
  subst e0 e1 e2
  exact ⟨⟨n0, s1, l2⟩, ⟨_, rfl, r2⟩, bounds_i64 w0, w1, w2⟩
theorem opens_data : Opens enc Tryd.prog W 43 (fun w cs (x : DatD) => RDat (· < W.heap.size) w cs x ∧ (i64P x.at_ ∧ Bytes x.b)) := by
  intro fuel cs x h hw
  obtain ⟨hl, hf⟩ := opens_struct Tryd.underlying43 h hw
  rw [Tryd.kData] at hl
  obtain ⟨a, b, rfl⟩ := len2m hl
  obtain ⟨n0, e0, w0⟩ := hf 0 3 0 1 rfl Tryd.kInt (opens_int (k := .i64) Tryd.underlying3)
  obtain ⟨l1, v1, e1, r1, w1⟩ := hf 1 41 1 1 rfl Tryd.kLBy (opens_ints (k := .u8) Tryd.underlying41 Tryd.kU8 (by rw [Tryd.kbU8]; omega) Tryd.underlying5)
  simp at e0 e1
  subst e0 e1
  exact ⟨⟨n0, l1⟩, ⟨_, rfl, r1⟩, bounds_i64 w0, fun y hy => bounds_u8 (w1 y hy)⟩
theorem opens_expo : Opens enc Tryd.prog W 59 (fun w cs (x : ExpD) => RExp w cs x ∧ (x.name.size ≤ 140737488355328 ∧ i64P x.f)) := by
  intro fuel cs x h hw
  obtain ⟨hl, hf⟩ := opens_struct Tryd.underlying59 h hw
  rw [Tryd.kExpo] at hl
  obtain ⟨a, b, rfl⟩ := len2m hl
  obtain ⟨s0, e0, w0⟩ := hf 0 9 0 1 rfl Tryd.kStr (opens_string Tryd.underlying9)
  obtain ⟨n1, e1, w1⟩ := hf 1 3 1 1 rfl Tryd.kInt (opens_int (k := .i64) Tryd.underlying3)
  simp at e0 e1
  subst e0 e1
  exact ⟨⟨s0, n1⟩, rfl, w0, bounds_i64 w1⟩
theorem opens_mod : Opens enc Tryd.prog W 29 (fun w cs (m : ModD) => RMod (· < W.heap.size) w cs m ∧ WfM m ∧ SmM m) := by
  intro fuel cs x h hw
  obtain ⟨hl, hf⟩ := opens_struct Tryd.underlying29 h hw
  rw [Tryd.kModu] at hl
  obtain ⟨a, b, c, d, e, f, g, k, rfl⟩ := len8m hl
  obtain ⟨l0, v0, e0, r0⟩ := hf 0 22 0 1 rfl Tryd.kLSig (opens_slice Tryd.underlying22 Tryd.kSig (by omega) (by rw [Tryd.kbSig]; omega) opens_sig)
  obtain ⟨l1, v1, e1, r1, w1⟩ := hf 1 23 1 1 rfl Tryd.kLInt opens_intl
  obtain ⟨l2, v2, e2, r2⟩ := hf 2 24 2 1 rfl Tryd.kLGlob (opens_slice Tryd.underlying24 Tryd.kGlob (by omega) (by rw [Tryd.kbGlob]; omega) opens_glob)
  obtain ⟨n3, e3, w3⟩ := hf 3 3 3 1 rfl Tryd.kInt (opens_int (k := .i64) Tryd.underlying3)
  obtain ⟨n4, e4, w4⟩ := hf 4 3 4 1 rfl Tryd.kInt (opens_int (k := .i64) Tryd.underlying3)
  obtain ⟨l5, v5, e5, r5⟩ := hf 5 25 5 1 rfl Tryd.kLFunc (opens_slice Tryd.underlying25 Tryd.kFunc (by omega) (by rw [Tryd.kbFunc]; omega) opens_fun)
  obtain ⟨l6, v6, e6, r6⟩ := hf 6 26 6 1 rfl Tryd.kLData (opens_slice Tryd.underlying26 Tryd.kData (by omega) (by rw [Tryd.kbData]; omega) opens_data)
  obtain ⟨l7, v7, e7, r7⟩ := hf 7 27 7 1 rfl Tryd.kLExpo (opens_slice Tryd.underlying27 Tryd.kExpo (by omega) (by rw [Tryd.kbExpo]; omega) opens_expo)
  simp at e0 e1 e2 e3 e4 e5 e6 e7
  subst e0 e1 e2 e3 e4 e5 e6 e7
  have s0 := RdL.split (R' := RSig) r0 fun _ _ h => h
  have s2 := RdL.split (R' := RGlob) r2 fun _ _ h => h
  have s5 := RdL.split (R' := RFun (· < W.heap.size)) r5 fun _ _ h => h
  have s6 := RdL.split (R' := RDat (· < W.heap.size)) r6 fun _ _ h => h
  have s7 := RdL.split (R' := RExp) r7 fun _ _ h => h
  exact ⟨⟨l0, l1, l2, n3, n4, l5, l6, l7⟩, ⟨_, _, _, _, _, _, rfl, s0.1, r1, s2.1, s5.1, s6.1, s7.1⟩,
    ⟨fun x hx => (s2.2 x hx).2, fun x hx => (s5.2 x hx).2.2, fun x hx => (s6.2 x hx).2⟩,
    ⟨s0.2, fun x hx => (s5.2 x hx).2.1, fun x hx => (s7.2 x hx).1, w1, fun x hx => (s5.2 x hx).1, fun x hx => (s6.2 x hx).1, fun x hx => (s7.2 x hx).2, bounds_i64 w3, bounds_i64 w4, fun x hx => (s2.2 x hx).1⟩⟩
end
end Go.Proofs.YtfhkjahjenpbgaaDoor
