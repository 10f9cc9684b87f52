/- Readers and writers of bytes that belong together: plain. Modules as data, and as bytes: the plain law. Modules as data, and as bytes: the plain law, functions to the end. Modules as data, and as bytes: the plain law, whole. A module's bytes are bytes: plain. The small module of works(): plain. Lists written and read round by round: plain. What is asked of a thing looks at the last one ahead: plain. What the laws of chapter 05 ask, of the plain functions. Modules as they lie in memory. Lists of functions, of data: an element's cells. -/
import Derived.Test.YtfhkjahjenpbgaaDoorMRuv
import Derived.Test.YtfhkjahjenpbgaaDoorIns
namespace Go.Proofs.YtfhkjahjenpbgaaDoor
open Go Go.RowKit

/-- A reader: of bytes, at a place; what it read and where it ends, or an error and its place. -/
abbrev RdM (α : Type) := List Int → Nat → Except (Int × Nat) (α × Nat)
/-- A reader reads what a writer wrote, and nothing else. -/
structure Codec {α : Type} (r : RdM α) (enc : α → List Int) (ok : α → Prop) : Prop where
  fwd : ∀ (b : List Int) (p : Nat) (x : α) (rest : List Int), Bytes b → ok x → b.drop p = enc x ++ rest → r b p = .ok (x, p + (enc x).length)
  inv : ∀ (b : List Int) (p : Nat) (x : α) (q : Nat), Bytes b → p ≤ b.length → r b p = .ok (x, q) → ok x ∧ b.drop p = enc x ++ b.drop q ∧ q = p + (enc x).length ∧ q ≤ b.length
theorem drop_lenR {b x rest : List Int} {p : Nat} (h : b.drop p = x ++ rest) (hp : p ≤ b.length) : p + x.length ≤ b.length := by
  have := congrArg List.length h
  simp only [List.length_drop, List.length_append] at this
  omega
/-- One reader behind another. -/
def RdM.bind {α β : Type} (r : RdM α) (k : α → RdM β) : RdM (α × β) := fun b p =>
  match r b p with
  | .error e => .error e
  | .ok (x, q) => match k x b q with
    | .error e => .error e
    | .ok (y, q') => .ok ((x, y), q')
theorem Codec.bind {α β : Type} {r : RdM α} {k : α → RdM β} {e1 : α → List Int} {e2 : α → β → List Int} {o1 : α → Prop} {o2 : α → β → Prop} (h1 : Codec r e1 o1) (h2 : ∀ x, o1 x → Codec (k x) (e2 x) (o2 x)) :
    Codec (r.bind k) (fun z => e1 z.1 ++ e2 z.1 z.2) (fun z => o1 z.1 ∧ o2 z.1 z.2) := by
  constructor
  · rintro b p ⟨x, y⟩ rest hb ⟨ho1, ho2⟩ hd
    simp only at ho1 ho2 hd ⊢
    rw [List.append_assoc] at hd
    unfold RdM.bind
    rw [h1.fwd b p x _ hb ho1 hd]
    simp only
    rw [(h2 x ho1).fwd b _ y rest hb ho2 (drop_more hd)]
    simp only [List.length_append, Nat.add_assoc]
  · rintro b p ⟨x, y⟩ q hb hp h
    unfold RdM.bind at h
    cases h3 : r b p with
    | error e => rw [h3] at h; exact absurd h (by simp)
    | ok z =>
      obtain ⟨x', q1⟩ := z
      rw [h3] at h
      simp only at h
      cases h4 : k x' b q1 with
      | error e => rw [h4] at h; exact absurd h (by simp)
      | ok z2 =>
        obtain ⟨y', q2⟩ := z2
        rw [h4] at h
        simp only [Except.ok.injEq, Prod.mk.injEq] at h
        obtain ⟨⟨rfl, rfl⟩, rfl⟩ := h
        obtain ⟨a1, a2, a3, a4⟩ := h1.inv b p _ _ hb hp h3
        obtain ⟨b1, b2, b3, b4⟩ := (h2 _ a1).inv b q1 _ _ hb a4 h4
        refine ⟨⟨a1, b1⟩, ?_, ?_, b4⟩
        · simp only; rw [a2, b2, List.append_assoc]
        · simp only [List.length_append]; omega
/-- What is read, told in another way. -/
def RdM.map {α β : Type} (r : RdM α) (f : α → β) : RdM β := fun b p =>
  match r b p with
  | .error e => .error e
  | .ok (x, q) => .ok (f x, q)
theorem Codec.map {α β : Type} {r : RdM α} {enc : α → List Int} {ok : α → Prop} (h : Codec r enc ok) (f : α → β) (g : β → α) (ok' : β → Prop) (hg : ∀ x, ok x → ok' (f x) ∧ g (f x) = x) (hf : ∀ y, ok' y → ok (g y) ∧ f (g y) = y) :
    Codec (r.map f) (fun y => enc (g y)) ok' := by
  constructor
  · intro b p y rest hb ho hd
    unfold RdM.map
    rw [h.fwd b p _ rest hb (hf y ho).1 hd]
    simp only [(hf y ho).2]
  · intro b p y q hb hp hr
    unfold RdM.map at hr
    cases h3 : r b p with
    | error e => rw [h3] at hr; exact absurd hr (by simp)
    | ok z =>
      obtain ⟨x, q1⟩ := z
      rw [h3] at hr
      simp only [Except.ok.injEq, Prod.mk.injEq] at hr
      obtain ⟨rfl, rfl⟩ := hr
      obtain ⟨a1, a2, a3, a4⟩ := h.inv b p _ _ hb hp h3
      obtain ⟨c1, c2⟩ := hg x a1
      rw [← c2] at a2 a3
      exact ⟨c1, by rw [c2] at a2 ⊢; exact a2, by rw [c2] at a3 ⊢; exact a3, a4⟩
/-- What is read is asked, at the place where it began. -/
def RdM.ask {α : Type} (r : RdM α) (t : α → Int) : RdM α := fun b p =>
  match r b p with
  | .error e => .error e
  | .ok (x, q) => if t x = 0 then .ok (x, q) else .error (t x, p)
theorem Codec.ask {α : Type} {r : RdM α} {enc : α → List Int} {ok : α → Prop} (h : Codec r enc ok) (t : α → Int) :
    Codec (r.ask t) enc (fun x => ok x ∧ t x = 0) := by
  constructor
  · intro b p y rest hb ho hd
    unfold RdM.ask
    rw [h.fwd b p _ rest hb ho.1 hd]
    simp only [if_pos ho.2]
  · intro b p y q hb hp hr
    unfold RdM.ask at hr
    cases h3 : r b p with
    | error e => rw [h3] at hr; exact absurd hr (by simp)
    | ok z =>
      obtain ⟨x, q1⟩ := z
      rw [h3] at hr
      simp only at hr
      split at hr
      · rename_i h0
        simp only [Except.ok.injEq, Prod.mk.injEq] at hr
        obtain ⟨rfl, rfl⟩ := hr
        obtain ⟨a1, a2, a3, a4⟩ := h.inv b p _ _ hb hp h3
        exact ⟨⟨a1, h0⟩, a2, a3, a4⟩
      · exact absurd hr (by simp)
/-- So many, each asked with those ahead. -/
def RdM.rep {α : Type} (step : List α → RdM α) : Nat → List α → RdM (List α)
  | 0, _ => fun _ p => .ok ([], p)
  | n + 1, acc => fun b p =>
    match step acc b p with
    | .error e => .error e
    | .ok (x, q) => match RdM.rep step n (acc ++ [x]) b q with
      | .error e => .error e
      | .ok (l, q') => .ok (x :: l, q')
def okL {α : Type} (ok : List α → α → Prop) : List α → List α → Prop
  | _, [] => True
  | acc, x :: l => ok acc x ∧ okL ok (acc ++ [x]) l
theorem Codec.rep {α : Type} {step : List α → RdM α} {enc : α → List Int} {ok : List α → α → Prop} (h : ∀ acc, Codec (step acc) enc (ok acc)) :
    ∀ (n : Nat) (acc : List α), Codec (RdM.rep step n acc) (fun l => l.flatMap enc) (fun l => l.length = n ∧ okL ok acc l)
  | 0, acc => by
    constructor
    · rintro b p x rest hb ⟨hl, _⟩ hd
      obtain rfl := List.eq_nil_of_length_eq_zero hl
      rfl
    · rintro b p x q hb hp hr
      simp only [RdM.rep, Except.ok.injEq, Prod.mk.injEq] at hr
      obtain ⟨rfl, rfl⟩ := hr
      exact ⟨⟨rfl, trivial⟩, rfl, rfl, hp⟩
  | n + 1, acc => by
    have ih := fun acc => Codec.rep h n acc
    have hs := h acc
    constructor
    · rintro b p x rest hb ⟨hl, ho⟩ hd
      cases x with
      | nil => simp at hl
      | cons x l =>
        rw [List.flatMap_cons, List.append_assoc] at hd
        simp only [RdM.rep]
        rw [hs.fwd b p x _ hb ho.1 hd]
        simp only
        rw [(ih (acc ++ [x])).fwd b _ l rest hb ⟨by simpa using hl, ho.2⟩ (drop_more hd)]
        simp only [List.flatMap_cons, List.length_append, Nat.add_assoc]
    · rintro b p x q hb hp hr
      simp only [RdM.rep] at hr
      cases h3 : step acc b p with
      | error e => rw [h3] at hr; exact absurd hr (by simp)
      | ok z =>
        obtain ⟨y, q1⟩ := z
        rw [h3] at hr
        simp only at hr
        cases h4 : RdM.rep step n (acc ++ [y]) b q1 with
        | error e => rw [h4] at hr; exact absurd hr (by simp)
        | ok z2 =>
          obtain ⟨l, q2⟩ := z2
          rw [h4] at hr
          simp only [Except.ok.injEq, Prod.mk.injEq] at hr
          obtain ⟨rfl, rfl⟩ := hr
          obtain ⟨a1, a2, a3, a4⟩ := hs.inv b p _ _ hb hp h3
          obtain ⟨⟨b0, b1⟩, b2, b3, b4⟩ := (ih _).inv b q1 _ _ hb a4 h4
          refine ⟨⟨by simp [b0], a1, b1⟩, ?_, ?_, b4⟩
          · simp only [List.flatMap_cons]; rw [a2, b2, List.append_assoc]
          · simp only [List.flatMap_cons, List.length_append]; omega
/-- A number, at most so great. -/
def rnum (most : Nat) (err : Int) : RdM Nat := fun b p =>
  if (ruv b p).2.2 ≠ 0 then .error ((ruv b p).2.2, p)
  else if most < (ruv b p).1 then .error (err, p)
  else .ok ((ruv b p).1, (ruv b p).2.1)
theorem codec_rnum {most : Nat} {err : Int} (hm : most ≤ 18446744073709551615) : Codec (rnum most err) (fun n => uv n) (fun n => n ≤ most) := by
  constructor
  · intro b p x rest hb ho hd
    unfold rnum
    rw [ruv_uv hd (by omega)]
    simp [Nat.not_lt.2 ho]
  · intro b p x q hb hp hr
    unfold rnum at hr
    split at hr; · exact absurd hr (by simp)
    rename_i h1
    split at hr; · exact absurd hr (by simp)
    rename_i h2
    simp only [Except.ok.injEq, Prod.mk.injEq] at hr
    obtain ⟨rfl, rfl⟩ := hr
    obtain ⟨a1, a2⟩ := ruv_inv hb (show ruv b p = ((ruv b p).1, (ruv b p).2.1, 0) by rw [← Decidable.not_not.1 h1])
    exact ⟨by omega, a1, a2, ruv_le (Decidable.not_not.1 h1)⟩
/-- A count and so many. -/
def rmany {α : Type} (most : Nat) (step : List α → RdM α) : RdM (List α) :=
  ((rnum most 20).bind fun n => RdM.rep step n []).map Prod.snd
theorem codec_rmany {α : Type} {most : Nat} {step : List α → RdM α} {enc : α → List Int} {ok : List α → α → Prop} (hm : most ≤ 18446744073709551615) (h : ∀ acc, Codec (step acc) enc (ok acc)) :
    Codec (rmany most step) (fun l => uv l.length ++ l.flatMap enc) (fun l => l.length ≤ most ∧ okL ok [] l) :=
  ((codec_rnum hm).bind fun n _ => Codec.rep h n []).map Prod.snd (fun l => (l.length, l)) _
    (fun x hx => ⟨⟨by have h1 := hx.1; have h2 := hx.2.1; omega, hx.2.2⟩, by obtain ⟨n, l⟩ := x; exact congrArg (·, l) hx.2.1⟩)
    (fun y hy => ⟨⟨hy.1, rfl, hy.2⟩, rfl⟩)
end Go.Proofs.YtfhkjahjenpbgaaDoor
namespace Go.Proofs.YtfhkjahjenpbgaaDoor
open Go Go.RowKit

/-- A text's bytes. -/
def bys (s : ByteArray) : List Int := s.data.toList.map fun c => (c.toNat : Int)
/-- The text of bytes. -/
def tx (l : List Int) : ByteArray := ⟨(l.map fun n => UInt8.ofNat n.toNat).toArray⟩
theorem bys_len (s : ByteArray) : (bys s).length = s.size := by simp [bys]
theorem tx_bys (s : ByteArray) : tx (bys s) = s := by
  obtain ⟨⟨l⟩⟩ := s
  simp [tx, bys, Function.comp_def]
theorem bys_tx {l : List Int} (h : Bytes l) : bys (tx l) = l := by
  simp only [bys, tx, List.map_map]
  conv => rhs; rw [← List.map_id l]
  refine List.map_congr_left fun x hx => ?_
  have := h x hx
  simp only [Function.comp_def, id, UInt8.toNat_ofNat']
  omega
theorem bys_ok (s : ByteArray) : Bytes (bys s) := by
  intro x hx
  simp only [bys, List.mem_map] at hx
  obtain ⟨c, _, rfl⟩ := hx
  have := c.toNat_lt
  omega
theorem tx_size (l : List Int) : (tx l).size = l.length := by show (tx l).data.size = _; simp [tx]

/-- A text of at most so many bytes. -/
def rtext (most : Nat) : RdM ByteArray := fun b p =>
  match rnum most 13 b p with
  | .error e => .error e
  | .ok (n, q) => if b.length - q < n then .error (10, p) else .ok (tx ((b.drop q).take n), q + n)
theorem codec_rtext {most : Nat} (hm : most ≤ 18446744073709551615) : Codec (rtext most) (fun s => uv s.size ++ bys s) (fun s => s.size ≤ most) := by
  constructor
  · intro b p x rest hb ho hd
    rw [List.append_assoc] at hd
    unfold rtext
    rw [(codec_rnum (err := 13) hm).fwd b p x.size _ hb ho hd]
    have h2 := drop_more hd
    have h3 : (b.drop (p + (uv x.size).length)).length = x.size + rest.length := by rw [h2, List.length_append, bys_len]
    rw [List.length_drop] at h3
    simp only
    rw [if_neg (by omega), h2, ← bys_len, List.take_left, tx_bys]
    simp only [List.length_append, Nat.add_assoc]
  · intro b p x q hb hp hr
    unfold rtext at hr
    cases h3 : rnum most 13 b p with
    | error e => rw [h3] at hr; exact absurd hr (by simp)
    | ok z =>
      obtain ⟨n, q1⟩ := z
      rw [h3] at hr
      simp only at hr
      split at hr; · exact absurd hr (by simp)
      rename_i h4
      simp only [Except.ok.injEq, Prod.mk.injEq] at hr
      obtain ⟨rfl, rfl⟩ := hr
      obtain ⟨a1, a2, a3, a4⟩ := (codec_rnum (err := 13) hm).inv b p _ _ hb hp h3
      have hb2 : Bytes ((b.drop q1).take n) := fun x hx => hb x (List.mem_of_mem_drop (List.mem_of_mem_take hx))
      have hl : ((b.drop q1).take n).length = n := by rw [List.length_take, List.length_drop]; omega
      simp only [tx_size, bys_tx hb2, hl, List.length_append]
      refine ⟨a1, ?_, by omega, by omega⟩
      rw [a2, List.append_assoc]
      conv => lhs; rw [← List.take_append_drop n (b.drop q1), List.drop_drop]
/-- Letters alone. -/
def lettersT (s : ByteArray) : Bool := s.data.toList.all fun c => c == 119 || c == 108
def rlett (most : Nat) : RdM ByteArray := (rtext most).ask fun s => if lettersT s then 0 else 15
def encT (s : ByteArray) : List Int := uv s.size ++ bys s
theorem codec_rlett {most : Nat} (hm : most ≤ 18446744073709551615) : Codec (rlett most) encT (fun s => s.size ≤ most ∧ (if lettersT s then (0 : Int) else 15) = 0) := (codec_rtext hm).ask _
instance decEqBA : DecidableEq ByteArray := fun a b => decidable_of_iff (a.data = b.data) ⟨fun h => by cases a; cases b; exact congrArg _ h, fun h => congrArg _ h⟩
/-- A signature: parameters, results. -/
abbrev SigD := ByteArray × ByteArray
def rsig (acc : List SigD) : RdM SigD := ((rlett 8).bind fun _ => rlett 8).ask fun x => if acc.any (fun y => decide (y = x)) then 16 else 0
def encS (x : SigD) : List Int := encT x.1 ++ encT x.2
/-- A text of letters, asked. -/
def errT (most : Nat) (s : ByteArray) : Int := if most < s.size then 13 else if lettersT s then 0 else 15
/-- One thing asked, then the other. -/
def thenE (a b : Int) : Int := if a = 0 then b else a
theorem thenE_0 {a b : Int} : thenE a b = 0 ↔ a = 0 ∧ b = 0 := by unfold thenE; split <;> simp_all
theorem errT_0 {most : Nat} {s : ByteArray} : errT most s = 0 ↔ s.size ≤ most ∧ (if lettersT s then (0 : Int) else 15) = 0 := by
  unfold errT
  split
  · simp; omega
  · simp; omega
theorem Codec.iff {α : Type} {r : RdM α} {enc : α → List Int} {ok ok' : α → Prop} (h : Codec r enc ok) (hk : ∀ x, ok' x ↔ ok x) : Codec r enc ok' :=
  ⟨fun b p x rest hb ho hd => h.fwd b p x rest hb ((hk x).1 ho) hd, fun b p x q hb hp hr => by obtain ⟨a, c⟩ := h.inv b p x q hb hp hr; exact ⟨(hk x).2 a, c⟩⟩
def errS (acc : List SigD) (x : SigD) : Int := thenE (errT 8 x.1) (thenE (errT 8 x.2) (if acc.any (fun y => decide (y = x)) then 16 else 0))
theorem codec_rsig (acc : List SigD) : Codec (rsig acc) encS (fun x => errS acc x = 0) :=
  (((codec_rlett (most := 8) (by omega)).bind fun _ _ => codec_rlett (most := 8) (by omega)).ask _).iff fun x => by
    unfold errS
    rw [thenE_0, thenE_0, errT_0, errT_0]
    simp only [and_assoc]
/-- A number below a count. -/
def ridx (below : Nat) : RdM Int := ((rnum 18446744073709551615 30).ask fun n => if n < below then 0 else 30).map fun n => (n : Int)
def errI (below : Nat) (n : Int) : Int := if 0 ≤ n ∧ n < below then 0 else 30
def encN (n : Int) : List Int := uv n.toNat
theorem errI_0 {below : Nat} {n : Int} : errI below n = 0 ↔ 0 ≤ n ∧ n < below := by unfold errI; split <;> simp_all
theorem codec_ridx {below : Nat} (hm : below ≤ 18446744073709551615) : Codec (ridx below) encN (fun n => errI below n = 0) :=
  ((codec_rnum (err := 30) (Nat.le_refl _)).ask fun n => if n < below then 0 else 30).map _ Int.toNat _
    (fun x hx => by
      obtain ⟨_, h⟩ := hx
      rw [errI_0]
      split at h <;> simp_all)
    (fun y hy => by
      rw [errI_0] at hy
      refine ⟨⟨by omega, ?_⟩, by omega⟩
      rw [if_pos (by omega)])
/-- A byte. -/
def roct : RdM Nat := fun b p => if p < b.length then .ok ((b.getD p 0).toNat, p + 1) else .error (10, p)
theorem codec_roct : Codec roct (fun c => [(c : Int)]) (fun c => c < 256) := by
  constructor
  · intro b p x rest hb ho hd
    obtain ⟨h1, h2, h3⟩ := drop_head (by simpa using hd)
    unfold roct
    rw [if_pos h1, h2]; rfl
  · intro b p x q hb hp hr
    unfold roct at hr
    split at hr
    · rename_i h1
      simp only [Except.ok.injEq, Prod.mk.injEq] at hr
      obtain ⟨rfl, rfl⟩ := hr
      have hx := hb (b.getD p 0) (by rw [List.getD_eq_getElem?_getD, List.getElem?_eq_getElem h1]; exact List.getElem_mem h1)
      refine ⟨by omega, ?_, rfl, h1⟩
      rw [drop_at h1, Int.toNat_of_nonneg hx.1]; rfl
    · exact absurd hr (by simp)
/-- A number with a sign. -/
def rsvar : RdM Int := ((rnum 18446744073709551615 17).map zag)
theorem codec_rsvar : Codec rsvar (fun v => uv (zig v)) i64P :=
  (codec_rnum (err := 17) (Nat.le_refl _)).map zag zig _ (fun x hx => ⟨zag_i64 hx, zig_zag x⟩) (fun y hy => ⟨zig_le hy, zag_zig y⟩)
/-- A global. -/
structure GlobD where
  letter : Nat
  mu : Bool
  v : Nat
deriving DecidableEq
def fitsD (v letter : Nat) : Bool := letter == 108 || (letter == 119 && decide (v < 4294967296))
def signedD (x : GlobD) : Int :=
  if x.letter = 119 then (if 2147483648 ≤ x.v then (x.v : Int) - 4294967296 else x.v)
  else (if 9223372036854775808 ≤ x.v then (x.v : Int) - 18446744073709551616 else x.v)
def isLet (c : Nat) : Bool := c == 119 || c == 108
def encG (x : GlobD) : List Int := (x.letter : Int) :: (if x.mu then 1 else 0) :: uv (zig (signedD x))
def errG (x : GlobD) : Int := if isLet x.letter = false then 15 else if fitsD x.v x.letter = false then 17 else 0
def globOf (z : (Nat × Nat) × Int) : GlobD := ⟨z.1.1, z.1.2 == 1, if z.1.1 = 119 then (z.2 % 4294967296).toNat else (z.2 % 18446744073709551616).toNat⟩
def rglob : RdM GlobD :=
  (((roct.ask fun c => if isLet c then 0 else 15).bind fun _ => roct.ask fun c => if c ≤ 1 then 0 else 17).bind fun z =>
    rsvar.ask fun v => if z.1 = 119 ∧ ¬(-2147483648 ≤ v ∧ v ≤ 2147483647) then 17 else 0).map globOf
theorem Codec.enc {α : Type} {r : RdM α} {enc enc' : α → List Int} {ok : α → Prop} (h : Codec r enc ok) (hk : ∀ x, enc' x = enc x) : Codec r enc' ok := by
  rw [show enc' = enc from funext hk]; exact h
theorem Codec.enc2 {α : Type} {r : RdM α} {enc enc' : α → List Int} {ok : α → Prop} (h : Codec r enc ok) (hk : ∀ x, ok x → enc' x = enc x) : Codec r enc' ok :=
  ⟨fun b p x rest hb ho hd => by rw [hk x ho] at hd ⊢; exact h.fwd b p x rest hb ho hd,
    fun b p x q hb hp hr => by obtain ⟨a, c, d, e⟩ := h.inv b p x q hb hp hr; rw [hk x a]; exact ⟨a, c, d, e⟩⟩
theorem glob_w1 {v : Int} (h : -2147483648 ≤ v ∧ v ≤ 2147483647) : (v % 4294967296).toNat < 4294967296 ∧ (if 2147483648 ≤ (v % 4294967296).toNat then (((v % 4294967296).toNat : Nat) : Int) - 4294967296 else (((v % 4294967296).toNat : Nat) : Int)) = v := by
  split <;> omega
theorem glob_l1 {v : Int} (h : i64P v) : (v % 18446744073709551616).toNat < 18446744073709551616 ∧ (if 9223372036854775808 ≤ (v % 18446744073709551616).toNat then (((v % 18446744073709551616).toNat : Nat) : Int) - 18446744073709551616 else (((v % 18446744073709551616).toNat : Nat) : Int)) = v := by
  unfold i64P at h
  split <;> omega
theorem glob_w2 {n : Nat} (h : n < 4294967296) : (-2147483648 ≤ (if 2147483648 ≤ n then (n : Int) - 4294967296 else n) ∧ (if 2147483648 ≤ n then (n : Int) - 4294967296 else n) ≤ 2147483647) ∧ ((if 2147483648 ≤ n then (n : Int) - 4294967296 else n) % 4294967296).toNat = n := by
  split <;> omega
theorem glob_l2 {n : Nat} (h : n < 18446744073709551616) : i64P (if 9223372036854775808 ≤ n then (n : Int) - 18446744073709551616 else n) ∧ ((if 9223372036854775808 ≤ n then (n : Int) - 18446744073709551616 else n) % 18446744073709551616).toNat = n := by
  unfold i64P
  split <;> omega
theorem codec_rglob : Codec rglob encG (fun x => x.v < 18446744073709551616 ∧ errG x = 0) :=
  Codec.enc ((((codec_roct.ask fun c => if isLet c then 0 else 15).bind fun _ _ => codec_roct.ask fun c => if c ≤ 1 then 0 else 17).bind fun z _ =>
    codec_rsvar.ask fun v => if z.1 = 119 ∧ ¬(-2147483648 ≤ v ∧ v ≤ 2147483647) then 17 else 0).map globOf (fun x => ((x.letter, if x.mu then 1 else 0), signedD x)) (fun x => x.v < 18446744073709551616 ∧ errG x = 0)
    (fun x hx => by
      obtain ⟨⟨c, d⟩, v⟩ := x
      obtain ⟨⟨⟨h1, h2⟩, h3, h4⟩, h5, h6⟩ := hx
      simp only at h1 h2 h3 h4 h5 h6
      have hc : c = 119 ∨ c = 108 := by simp [isLet] at h2; omega
      have hd : d = 0 ∨ d = 1 := by split at h4 <;> omega
      have hl := glob_l1 h5
      simp only [globOf, errG, signedD, fitsD, isLet]
      rcases hc with rfl | rfl
      · have hw := glob_w1 (v := v) (by split at h6 <;> simp_all)
        rcases hd with rfl | rfl <;> simp [hw.1] <;> omega
      · unfold i64P at h5
        rcases hd with rfl | rfl <;> simp [hl.1] <;> split <;> omega)
    (fun y hy => by
      obtain ⟨c, d, v⟩ := y
      obtain ⟨h1, h2⟩ := hy
      simp only at h1
      have hl := glob_l2 h1
      simp only [errG] at h2
      have hc : c = 119 ∨ c = 108 := by
        by_cases h3 : isLet c = true
        · simpa [isLet] using h3
        · rw [if_pos (Bool.eq_false_iff.2 h3)] at h2
          exact absurd h2 (by decide)
      simp only [fitsD, isLet] at h2
      rcases hc with rfl | rfl
      · have h3 : v < 4294967296 := by simpa using h2
        have hw := glob_w2 h3
        have hi : i64P (if 2147483648 ≤ v then (v : Int) - 4294967296 else v) := by unfold i64P; omega
        cases d <;> simp [globOf, signedD, isLet, hw.1, hw.2, hi]
      · cases d <;> simp [globOf, signedD, isLet, hl.1, hl.2])) fun x => by
    simp only [encG, List.cons_append, List.nil_append]
    cases x.mu <;> rfl
end Go.Proofs.YtfhkjahjenpbgaaDoor
namespace Go.Proofs.YtfhkjahjenpbgaaDoor
open Go Go.RowKit

/-- An instruction. -/
def rins : RdM InsD := fun b p => if (decI b p).2.2 = 0 then .ok ((decI b p).1, (decI b p).2.1) else .error ((decI b p).2.2, p)
theorem codec_rins : Codec rins encI (fun x => WfIns x ∧ checkI x = 0) := by
  constructor
  · intro b p x rest hb ho hd
    by_cases hp : p ≤ b.length
    · have h := decI_encI x ho.1 ho.2 (b.take p) rest
      rw [← hd, List.take_append_drop, List.length_take, Nat.min_eq_left hp] at h
      unfold rins
      rw [h]; rfl
    · rw [List.drop_eq_nil_of_le (by omega)] at hd
      have := decI_encI x ho.1 ho.2 [] []
      have he : encI x = [] := (List.append_eq_nil_iff.1 hd.symm).1
      have h2 := decI_inv (b := []) (p := 0) (fun y hy => by simp at hy) (by rw [he] at this; simpa using congrArg (fun z => z.2.2) this)
      obtain ⟨q, h3, _, _, h4, h5, _⟩ := h2
      simp only [List.length_nil] at h5
      omega
  · intro b p x q hb hp hr
    unfold rins at hr
    split at hr
    · rename_i h0
      simp only [Except.ok.injEq, Prod.mk.injEq] at hr
      obtain ⟨rfl, rfl⟩ := hr
      obtain ⟨q, h1, h2, h3, h4, h5, h6, h7⟩ := decI_inv hb h0
      obtain rfl : p = q := by omega
      exact ⟨⟨h3, h2⟩, h6, h7, h5⟩
    · exact absurd hr (by simp)
/-- A function. -/
structure FunD where
  t : Int
  locals : ByteArray
  code : List InsD
deriving DecidableEq
/-- How many locals there may be behind the parameters. -/
def roomT (ts : List SigD) (t : Int) : Nat := 64 - (ts.getD t.toNat (⟨#[]⟩, ⟨#[]⟩)).1.size
def allOf (l : List FunD) : Nat := (l.map fun f => f.code.length).sum
def rfun (ts : List SigD) (acc : List FunD) : RdM FunD :=
  (((ridx ts.length).bind fun t => rlett (roomT ts t)).bind fun _ =>
    (((rnum 2048 20).ask fun n => if 16384 < allOf acc + n then 20 else 0).bind fun n => RdM.rep (fun _ => rins) n []).map Prod.snd).map
    fun z => ⟨z.1.1, z.1.2, z.2⟩
def encF (x : FunD) : List Int := encN x.t ++ encT x.locals ++ (uv x.code.length ++ x.code.flatMap encI)
/-- The first error of a list whose things are asked one by one. -/
def errL {α : Type} (e : List α → α → Int) : List α → List α → Int
  | _, [] => 0
  | acc, x :: l => thenE (e acc x) (errL e (acc ++ [x]) l)
theorem errL_0 {α : Type} {e : List α → α → Int} : ∀ (l acc : List α), errL e acc l = 0 ↔ okL (fun a x => e a x = 0) acc l
  | [], _ => by simp [errL, okL]
  | x :: l, acc => by rw [errL, thenE_0, okL, errL_0 l]
theorem okL_and {α : Type} {o1 : α → Prop} {o2 : List α → α → Prop} : ∀ (l acc : List α), okL (fun a x => o1 x ∧ o2 a x) acc l ↔ (∀ x ∈ l, o1 x) ∧ okL o2 acc l
  | [], _ => by simp [okL]
  | x :: l, acc => by
    rw [okL, okL, okL_and l]
    simp only [List.mem_cons, forall_eq_or_imp]
    exact ⟨fun ⟨⟨a, b⟩, c, d⟩ => ⟨⟨a, c⟩, b, d⟩, fun ⟨⟨a, c⟩, b, d⟩ => ⟨⟨a, b⟩, c, d⟩⟩
def errF (ts : List SigD) (acc : List FunD) (x : FunD) : Int :=
  thenE (errI ts.length x.t) (thenE (errT (roomT ts x.t) x.locals)
    (if 2048 < x.code.length then 20 else if 16384 < allOf acc + x.code.length then 20 else errL (fun _ => checkI) [] x.code))
theorem roomT_le (ts : List SigD) (t : Int) : roomT ts t ≤ 64 := Nat.sub_le _ _
theorem codec_rfun (ts : List SigD) (ht : ts.length ≤ 64) (acc : List FunD) : Codec (rfun ts acc) encF (fun x => (∀ i ∈ x.code, WfIns i) ∧ errF ts acc x = 0) :=
  Codec.iff (Codec.enc ((((codec_ridx (below := ts.length) (by omega)).bind fun t _ => codec_rlett (most := roomT ts t) (by have := roomT_le ts t; omega)).bind fun _ _ =>
    ((((codec_rnum (most := 2048) (err := 20) (by omega)).ask fun n => if 16384 < allOf acc + n then 20 else 0).bind fun n _ => Codec.rep (fun _ => codec_rins) n []).map Prod.snd
      (fun l => (l.length, l)) (fun l => (l.length ≤ 2048 ∧ (if 16384 < allOf acc + l.length then (20 : Int) else 0) = 0) ∧ okL (fun _ x => WfIns x ∧ checkI x = 0) [] l)
      (fun x hx => by
        obtain ⟨n, l⟩ := x
        obtain ⟨h1, h2, h3⟩ := hx
        simp only at h1 h2 h3
        subst h2
        exact ⟨⟨h1, h3⟩, rfl⟩)
      (fun y hy => ⟨⟨hy.1, rfl, hy.2⟩, rfl⟩))).map (fun z => (⟨z.1.1, z.1.2, z.2⟩ : FunD)) (fun x => ((x.t, x.locals), x.code))
    (fun x => (errI ts.length x.t = 0 ∧ (x.locals.size ≤ roomT ts x.t ∧ (if lettersT x.locals then (0 : Int) else 15) = 0)) ∧ (x.code.length ≤ 2048 ∧ (if 16384 < allOf acc + x.code.length then (20 : Int) else 0) = 0) ∧ okL (fun _ x => WfIns x ∧ checkI x = 0) [] x.code)
    (fun x hx => ⟨hx, rfl⟩) (fun y hy => ⟨hy, rfl⟩)) fun x => rfl) fun x => by
    rw [okL_and, ← errL_0, errF, thenE_0, thenE_0, errT_0]
    constructor
    · rintro ⟨h0, h1, h2, h3⟩
      split at h3; · exact absurd h3 (by decide)
      split at h3; · exact absurd h3 (by decide)
      rename_i h4 h5
      exact ⟨⟨h1, h2⟩, ⟨by omega, by rw [if_neg h5]⟩, h0, h3⟩
    · rintro ⟨⟨h1, h2⟩, ⟨h3, h4⟩, h0, h5⟩
      refine ⟨h0, h1, h2, ?_⟩
      rw [if_neg (by omega)]
      split at h4
      · exact absurd h4 (by decide)
      · rename_i h6
        rw [if_neg h6]; exact h5
/-- Data. -/
structure DatD where
  at_ : Int
  b : List Int
deriving DecidableEq
/-- Where the one ahead ends. -/
def behindD (acc : List DatD) : Int := match acc.getLast? with
  | none => -1
  | some d => d.at_ + d.b.length
def rdat (room : Nat) (acc : List DatD) : RdM DatD :=
  ((((rnum room 17).ask fun n => if (n : Int) ≤ behindD acc then 18 else 0).bind fun n => (rtext (room - n)).ask fun s => if s.size = 0 then 17 else 0)).map
    fun z => ⟨z.1, bys z.2⟩
def encD (x : DatD) : List Int := encN x.at_ ++ (uv x.b.length ++ x.b)
def errD (room : Nat) (acc : List DatD) (x : DatD) : Int :=
  if x.at_ < 0 ∨ (room : Int) < x.at_ then 17 else if x.at_ ≤ behindD acc then 18
  else if (room : Int) - x.at_ < x.b.length then 13 else if x.b.length = 0 then 17 else 0
theorem codec_rdat (room : Nat) (hr : room ≤ 1000000) (acc : List DatD) : Codec (rdat room acc) encD (fun x => Bytes x.b ∧ errD room acc x = 0) :=
  Codec.iff (((((codec_rnum (most := room) (err := 17) (by omega)).ask fun n => if (n : Int) ≤ behindD acc then 18 else 0).bind fun n _ =>
    (codec_rtext (most := room - n) (by omega)).ask fun s => if s.size = 0 then 17 else 0).map (fun z => (⟨z.1, bys z.2⟩ : DatD)) (fun x => (x.at_.toNat, tx x.b))
    (fun x => Bytes x.b ∧ errD room acc x = 0)
    (fun x hx => by
      obtain ⟨n, s⟩ := x
      obtain ⟨⟨h1, h2⟩, h3, h4⟩ := hx
      simp only at h1 h2 h3 h4
      refine ⟨⟨bys_ok s, ?_⟩, by simp only [Int.toNat_natCast, tx_bys]⟩
      split at h2; · exact absurd h2 (by decide)
      split at h4; · exact absurd h4 (by decide)
      simp only [errD, bys_len]
      rw [if_neg (by omega), if_neg (by omega), if_neg (by omega), if_neg (by omega)])
    (fun y hy => by
      obtain ⟨h0, h1⟩ := hy
      unfold errD at h1
      split at h1; · exact absurd h1 (by decide)
      split at h1; · exact absurd h1 (by decide)
      split at h1; · exact absurd h1 (by decide)
      split at h1; · exact absurd h1 (by decide)
      have e : ((y.at_.toNat : Nat) : Int) = y.at_ := by omega
      refine ⟨⟨⟨by simp only; omega, ?_⟩, ?_, ?_⟩, ?_⟩
      · simp only; rw [if_neg (by omega)]
      · simp only [tx_size]; omega
      · simp only [tx_size]; rw [if_neg (by omega)]
      · simp only [e, bys_tx h0])).enc2 fun x hx => by
        simp only [encD, encN, tx_size, bys_tx hx.1]) fun _ => Iff.rfl
end Go.Proofs.YtfhkjahjenpbgaaDoor
namespace Go.Proofs.YtfhkjahjenpbgaaDoor
open Go Go.RowKit

/-- An export. -/
structure ExpD where
  name : ByteArray
  f : Int
deriving DecidableEq
/-- Is a text no greater than another one? (As the model spells it.) -/
def leT (a b : ByteArray) : Bool := Op.bytesLess a.toList b.toList || a.toList == b.toList
def errName (acc : List ExpD) (s : ByteArray) : Int :=
  if 32 < s.size then 13 else if s.size = 0 then 23
  else if (bys s).all (fun c => decide (33 ≤ c ∧ c ≤ 126)) = false then 23
  else match acc.getLast? with
    | none => 0
    | some x => if leT s x.name then 18 else 0
theorem errName_32 {acc : List ExpD} {s : ByteArray} (h : errName acc s = 0) : s.size ≤ 32 := by
  unfold errName at h
  split at h
  · exact absurd h (by decide)
  · omega
def rexp (nf : Nat) (acc : List ExpD) : RdM ExpD := (((rtext 32).ask (errName acc)).bind fun _ => ridx nf).map fun z => ⟨z.1, z.2⟩
def encE (x : ExpD) : List Int := encT x.name ++ encN x.f
def errE (nf : Nat) (acc : List ExpD) (x : ExpD) : Int := thenE (errName acc x.name) (errI nf x.f)
theorem codec_rexp (nf : Nat) (hn : nf ≤ 128) (acc : List ExpD) : Codec (rexp nf acc) encE (fun x => errE nf acc x = 0) :=
  ((((codec_rtext (most := 32) (by omega)).ask (errName acc)).bind fun _ _ => codec_ridx (below := nf) (by omega)).map (fun z => (⟨z.1, z.2⟩ : ExpD)) (fun x => (x.name, x.f))
    (fun x => (x.name.size ≤ 32 ∧ errName acc x.name = 0) ∧ errI nf x.f = 0) (fun x hx => ⟨hx, rfl⟩) (fun y hy => ⟨hy, rfl⟩)).iff fun x => by
      rw [errE, thenE_0]
      exact ⟨fun ⟨a, b⟩ => ⟨⟨errName_32 a, a⟩, b⟩, fun ⟨⟨_, a⟩, b⟩ => ⟨a, b⟩⟩
/-- A module. -/
structure ModD where
  types : List SigD
  hosts : List Int
  globals : List GlobD
  first : Int
  most : Int
  funs : List FunD
  datas : List DatD
  exps : List ExpD
deriving DecidableEq
def modZ : ModD := ⟨[], [], [], 0, 0, [], [], []⟩
/-- A list of at most so many, asked one by one. -/
def errMany {α : Type} (most : Nat) (e : List α → α → Int) (l : List α) : Int := if most < l.length then 20 else errL e [] l
theorem errMany_0 {α : Type} {most : Nat} {e : List α → α → Int} {l : List α} : errMany most e l = 0 ↔ l.length ≤ most ∧ okL (fun a x => e a x = 0) [] l := by
  rw [errMany, ← errL_0]
  split
  · simp; omega
  · simp; omega
def errFirst (n : Int) : Int := if n < 0 ∨ 64 < n then 17 else 0
def errMost (first n : Int) : Int := if n < first ∨ 64 < n then 17 else 0
def partsM (m : ModD) : Int :=
  thenE (errMany 64 errS m.types) (thenE (errMany 32 (fun _ => errI m.types.length) m.hosts) (thenE (errMany 64 (fun _ => errG) m.globals)
    (thenE (errFirst m.first) (thenE (errMost m.first m.most) (thenE (errMany 128 (errF m.types) m.funs) (thenE (errMany 64 (errD (m.first * 4096).toNat) m.datas)
      (errMany 64 (errE m.funs.length) m.exps)))))))
structure WfM (m : ModD) : Prop where
  globals : ∀ g ∈ m.globals, g.v < 18446744073709551616
  code : ∀ f ∈ m.funs, ∀ i ∈ f.code, WfIns i
  datas : ∀ d ∈ m.datas, Bytes d.b
def encMany {α : Type} (enc : α → List Int) (l : List α) : List Int := uv l.length ++ l.flatMap enc
/-- A module's bytes, behind the magic. -/
def bodyM (m : ModD) : List Int :=
  encMany encS m.types ++ (encMany encN m.hosts ++ (encMany encG m.globals ++ (encN m.first ++ (encN m.most ++ (encMany encF m.funs ++ (encMany encD m.datas ++ encMany encE m.exps))))))
abbrev TupM := List SigD × List Int × List GlobD × Int × Int × List FunD × List DatD × List ExpD
def modOf (z : TupM) : ModD := ⟨z.1, z.2.1, z.2.2.1, z.2.2.2.1, z.2.2.2.2.1, z.2.2.2.2.2.1, z.2.2.2.2.2.2.1, z.2.2.2.2.2.2.2⟩
def tupOf (m : ModD) : TupM := (m.types, m.hosts, m.globals, m.first, m.most, m.funs, m.datas, m.exps)
def rint (most : Nat) (err : Int) : RdM Int := (rnum most err).map fun n => (n : Int)
theorem codec_rint {most : Nat} {err : Int} (hm : most ≤ 18446744073709551615) : Codec (rint most err) encN (fun n => 0 ≤ n ∧ n ≤ most) :=
  (codec_rnum hm).map _ Int.toNat _ (fun x hx => ⟨by omega, Int.toNat_natCast x⟩) (fun y hy => ⟨by omega, by omega⟩)
def rmod : RdM ModD :=
  ((rmany 64 rsig).bind fun ts => (rmany 32 fun _ => ridx ts.length).bind fun _ => (rmany 64 fun _ => rglob).bind fun _ => (rint 64 17).bind fun first =>
    ((rint 64 17).ask fun n => if n < first then 17 else 0).bind fun _ => (rmany 128 (rfun ts)).bind fun fs => (rmany 64 (rdat (first * 4096).toNat)).bind fun _ => rmany 64 (rexp fs.length)).map modOf
/-- What is asked of the parts, as the reader asks it. -/
def okT (z : TupM) : Prop :=
  (z.1.length ≤ 64 ∧ okL (fun a x => errS a x = 0) [] z.1) ∧ (z.2.1.length ≤ 32 ∧ okL (fun _ x => errI z.1.length x = 0) [] z.2.1) ∧
  (z.2.2.1.length ≤ 64 ∧ okL (fun _ x => x.v < 18446744073709551616 ∧ errG x = 0) [] z.2.2.1) ∧ (0 ≤ z.2.2.2.1 ∧ z.2.2.2.1 ≤ (64 : Nat)) ∧
  ((0 ≤ z.2.2.2.2.1 ∧ z.2.2.2.2.1 ≤ (64 : Nat)) ∧ (if z.2.2.2.2.1 < z.2.2.2.1 then (17 : Int) else 0) = 0) ∧
  (z.2.2.2.2.2.1.length ≤ 128 ∧ okL (fun a x => (∀ i ∈ x.code, WfIns i) ∧ errF z.1 a x = 0) [] z.2.2.2.2.2.1) ∧
  (z.2.2.2.2.2.2.1.length ≤ 64 ∧ okL (fun a x => Bytes x.b ∧ errD (z.2.2.2.1 * 4096).toNat a x = 0) [] z.2.2.2.2.2.2.1) ∧
  (z.2.2.2.2.2.2.2.length ≤ 64 ∧ okL (fun a x => errE z.2.2.2.2.2.1.length a x = 0) [] z.2.2.2.2.2.2.2)
theorem okT_iff (m : ModD) : (WfM m ∧ partsM m = 0) ↔ okT (tupOf m) := by
  unfold partsM okT tupOf
  simp only [thenE_0, errMany_0, okL_and]
  constructor
  · rintro ⟨⟨w1, w2, w3⟩, h1, h2, h3, h4, h5, h6, h7, h8⟩
    unfold errFirst at h4
    unfold errMost at h5
    split at h4; · exact absurd h4 (by decide)
    split at h5; · exact absurd h5 (by decide)
    exact ⟨h1, h2, ⟨h3.1, w1, h3.2⟩, ⟨by omega, by omega⟩, ⟨⟨by omega, by omega⟩, by rw [if_neg (by omega)]⟩, ⟨h6.1, w2, h6.2⟩, ⟨h7.1, w3, h7.2⟩, h8⟩
  · rintro ⟨h1, h2, ⟨h3, w1, h3'⟩, h4, ⟨h5, h5'⟩, ⟨h6, w2, h6'⟩, ⟨h7, w3, h7'⟩, h8⟩
    split at h5'; · exact absurd h5' (by decide)
    exact ⟨⟨w1, w2, w3⟩, h1, h2, ⟨h3, h3'⟩, by unfold errFirst; rw [if_neg (by omega)], by unfold errMost; rw [if_neg (by omega)], ⟨h6, h6'⟩, ⟨h7, h7'⟩, h8⟩
theorem codec_rmod : Codec rmod bodyM (fun m => WfM m ∧ partsM m = 0) :=
  (((codec_rmany (most := 64) (by omega) codec_rsig).bind fun ts hts => (codec_rmany (most := 32) (by omega) fun _ => codec_ridx (below := ts.length) (by omega)).bind fun _ _ =>
    (codec_rmany (most := 64) (by omega) fun _ => codec_rglob).bind fun _ _ => (codec_rint (most := 64) (err := 17) (by omega)).bind fun first hf =>
    ((codec_rint (most := 64) (err := 17) (by omega)).ask fun n => if n < first then 17 else 0).bind fun _ _ => (codec_rmany (most := 128) (by omega) (codec_rfun ts hts.1)).bind fun fs hfs =>
    (codec_rmany (most := 64) (by omega) (codec_rdat (first * 4096).toNat (by have := hf.1; have := hf.2; omega))).bind fun _ _ => codec_rmany (most := 64) (by omega) (codec_rexp fs.length hfs.1)).map
      modOf tupOf (fun m => okT (tupOf m)) (fun _ hx => ⟨hx, rfl⟩) (fun _ hy => ⟨hy, rfl⟩)).iff okT_iff
/-- "FLGN" and 1. -/
def magicM : List Int := [70, 76, 71, 78, 1]
def laidM (m : ModD) : List Int := magicM ++ bodyM m
/-- A module written. -/
def encM (m : ModD) : List Int × Int := if partsM m ≠ 0 then ([], partsM m) else if 65536 < (laidM m).length then ([], 13) else (laidM m, 0)
/-- A module read; the first error, its place. -/
def decM (b : List Int) : ModD × Int × Nat :=
  if 65536 < b.length then (modZ, 13, 0) else if b.take 5 ≠ magicM then (modZ, 14, 0)
  else match rmod b 5 with
    | .error (e, p) => (modZ, e, p)
    | .ok (m, q) => if q = b.length then (m, 0, 0) else (modZ, 19, q)
/-- No reader's error is 0. -/
def Errs {α : Type} (r : RdM α) : Prop := ∀ b p z, r b p = .error z → z.1 ≠ 0
theorem Errs.bind {α β : Type} {r : RdM α} {k : α → RdM β} (h1 : Errs r) (h2 : ∀ x, Errs (k x)) : Errs (r.bind k) := by
  intro b p z h
  unfold RdM.bind at h
  cases h3 : r b p with
  | error e => rw [h3] at h; simp only [Except.error.injEq] at h; exact h ▸ h1 b p e h3
  | ok y =>
    rw [h3] at h
    simp only at h
    cases h4 : k y.1 b y.2 with
    | error e => rw [h4] at h; simp only [Except.error.injEq] at h; exact h ▸ h2 _ b _ e h4
    | ok y2 => rw [h4] at h; exact absurd h (by simp)
theorem Errs.map {α β : Type} {r : RdM α} (f : α → β) (h1 : Errs r) : Errs (r.map f) := by
  intro b p z h
  unfold RdM.map at h
  cases h3 : r b p with
  | error e => rw [h3] at h; simp only [Except.error.injEq] at h; exact h ▸ h1 b p e h3
  | ok y => rw [h3] at h; exact absurd h (by simp)
theorem Errs.ask {α : Type} {r : RdM α} (t : α → Int) (h1 : Errs r) : Errs (r.ask t) := by
  intro b p z h
  unfold RdM.ask at h
  cases h3 : r b p with
  | error e => rw [h3] at h; simp only [Except.error.injEq] at h; exact h ▸ h1 b p e h3
  | ok y =>
    rw [h3] at h
    simp only at h
    split at h
    · exact absurd h (by simp)
    · rename_i h4
      simp only [Except.error.injEq] at h
      exact h ▸ h4
theorem Errs.rep {α : Type} {step : List α → RdM α} (h1 : ∀ acc, Errs (step acc)) : ∀ n acc, Errs (RdM.rep step n acc)
  | 0, acc => fun b p z h => by simp [RdM.rep] at h
  | n + 1, acc => by
    intro b p z h
    simp only [RdM.rep] at h
    cases h3 : step acc b p with
    | error e => rw [h3] at h; simp only [Except.error.injEq] at h; exact h ▸ h1 _ b p e h3
    | ok y =>
      rw [h3] at h
      simp only at h
      cases h4 : RdM.rep step n (acc ++ [y.1]) b y.2 with
      | error e => rw [h4] at h; simp only [Except.error.injEq] at h; exact h ▸ Errs.rep h1 n _ b _ e h4
      | ok y2 => rw [h4] at h; exact absurd h (by simp)
theorem errs_rnum {most : Nat} {err : Int} (he : err ≠ 0) : Errs (rnum most err) := by
  intro b p z h
  unfold rnum at h
  split at h
  · rename_i h1; simp only [Except.error.injEq] at h; exact h ▸ h1
  · split at h
    · simp only [Except.error.injEq] at h; exact h ▸ he
    · exact absurd h (by simp)
theorem errs_rtext (most : Nat) : Errs (rtext most) := by
  intro b p z h
  unfold rtext at h
  cases h3 : rnum most 13 b p with
  | error e => rw [h3] at h; simp only [Except.error.injEq] at h; exact h ▸ errs_rnum (by decide) b p e h3
  | ok y =>
    rw [h3] at h
    simp only at h
    split at h
    · simp only [Except.error.injEq] at h; exact h ▸ (show (10 : Int) ≠ 0 by decide)
    · exact absurd h (by simp)
theorem errs_roct : Errs roct := by
  intro b p z h
  unfold roct at h
  split at h
  · exact absurd h (by simp)
  · simp only [Except.error.injEq] at h; exact h ▸ (show (10 : Int) ≠ 0 by decide)
theorem errs_rins : Errs rins := by
  intro b p z h
  unfold rins at h
  split at h
  · exact absurd h (by simp)
  · rename_i h1; simp only [Except.error.injEq] at h; exact h ▸ h1
theorem errs_rmany {α : Type} {most : Nat} {step : List α → RdM α} (h : ∀ acc, Errs (step acc)) : Errs (rmany most step) :=
  ((errs_rnum (by decide)).bind fun n => Errs.rep h n []).map _
theorem errs_rlett (most : Nat) : Errs (rlett most) := (errs_rtext most).ask _
theorem errs_ridx (n : Nat) : Errs (ridx n) := ((errs_rnum (by decide)).ask _).map _
theorem errs_rmod : Errs rmod :=
  ((errs_rmany fun _ => ((errs_rlett 8).bind fun _ => errs_rlett 8).ask _).bind fun _ => (errs_rmany fun _ => errs_ridx _).bind fun _ =>
    (errs_rmany fun _ => (((errs_roct.ask _).bind fun _ => errs_roct.ask _).bind fun _ => ((errs_rnum (by decide)).map _).ask _).map _).bind fun _ => ((errs_rnum (by decide)).map _).bind fun _ =>
    (((errs_rnum (by decide)).map _).ask _).bind fun _ =>
    (errs_rmany fun _ => (((errs_ridx _).bind fun _ => errs_rlett _).bind fun _ => (((errs_rnum (by decide)).ask _).bind fun n => Errs.rep (fun _ => errs_rins) n []).map _).map _).bind fun _ =>
    (errs_rmany fun _ => (((errs_rnum (by decide)).ask _).bind fun _ => (errs_rtext _).ask _).map _).bind fun _ =>
    errs_rmany fun _ => (((errs_rtext 32).ask _).bind fun _ => errs_ridx _).map _).map _
theorem take_magic (l : List Int) : (magicM ++ l).take 5 = magicM ∧ (magicM ++ l).drop 5 = l := ⟨rfl, rfl⟩
theorem bytes_app_iff {l k : List Int} : Bytes (l ++ k) ↔ Bytes l ∧ Bytes k := by
  simp only [Bytes, List.mem_append]
  exact ⟨fun h => ⟨fun x hx => h x (.inl hx), fun x hx => h x (.inr hx)⟩, fun ⟨h, k⟩ x hx => hx.elim (h x) (k x)⟩
/-- What stands behind a module's bytes is not read. -/
theorem rmod_laid {m : ModD} (wf : WfM m) (h0 : partsM m = 0) {rest : List Int} (hb : Bytes (laidM m ++ rest)) : rmod (laidM m ++ rest) 5 = .ok (m, (laidM m).length) := by
  have h := codec_rmod.fwd (laidM m ++ rest) 5 m rest hb ⟨wf, h0⟩ (by rw [laidM, List.append_assoc]; exact (take_magic _).2)
  rw [h, laidM, List.length_append]; rfl
theorem dec_laid {m : ModD} (wf : WfM m) (h0 : partsM m = 0) (hb : Bytes (laidM m)) (hl : (laidM m).length ≤ 65536) : decM (laidM m) = (m, 0, 0) := by
  have h := rmod_laid wf h0 (rest := []) (by simpa using hb)
  rw [List.append_nil] at h
  unfold decM
  rw [if_neg (by omega), if_neg (by rw [laidM, (take_magic _).1]; simp), h]
  simp
/-- With something behind, it is no module. -/
theorem dec_more {m : ModD} (wf : WfM m) (h0 : partsM m = 0) {rest : List Int} (hr : rest ≠ []) (hb : Bytes (laidM m ++ rest)) (hl : (laidM m ++ rest).length ≤ 65536) :
    decM (laidM m ++ rest) = (modZ, 19, (laidM m).length) := by
  have h := rmod_laid wf h0 hb
  have h1 : 0 < rest.length := List.length_pos_iff.2 hr
  unfold decM
  rw [if_neg (by omega), if_neg (by rw [laidM, List.append_assoc, (take_magic _).1]; simp), h]
  simp only
  rw [if_neg (by rw [List.length_append]; omega)]
/-- What is read is written as the same bytes. -/
theorem dec_inv {b : List Int} (hb : Bytes b) (h : (decM b).2.1 = 0) : WfM (decM b).1 ∧ partsM (decM b).1 = 0 ∧ laidM (decM b).1 = b ∧ b.length ≤ 65536 ∧ (decM b).2.2 = 0 := by
  unfold decM at h ⊢
  split at h; · exact absurd h (by decide)
  rename_i h1
  rw [if_neg h1]
  split at h; · exact absurd h (by decide)
  rename_i h2
  rw [if_neg h2]
  have h5 : 5 ≤ b.length := by
    have := congrArg List.length (Decidable.not_not.1 h2)
    rw [List.length_take] at this
    simp only [magicM, List.length_cons, List.length_nil] at this
    omega
  cases hr : rmod b 5 with
  | error z =>
    exfalso
    rw [hr] at h
    simp only at h
    exact errs_rmod b 5 z hr h
  | ok z =>
    obtain ⟨m, q⟩ := z
    rw [hr] at h
    simp only at h ⊢
    split at h
    · rename_i h3
      rw [if_pos h3]
      obtain ⟨⟨a1, a2⟩, a3, a4, a5⟩ := codec_rmod.inv b 5 m q hb h5 hr
      rw [h3, List.drop_length, List.append_nil] at a3
      refine ⟨a1, a2, ?_, by omega, rfl⟩
      rw [laidM, ← a3]
      conv => rhs; rw [← List.take_append_drop 5 b, Decidable.not_not.1 h2]
    · exact absurd h (by simp)
/-- A beginning of a module's bytes is no module. -/
theorem dec_cut {m : ModD} (wf : WfM m) (h0 : partsM m = 0) (hb : Bytes (laidM m)) {n : Nat} (hn : n < (laidM m).length) : (decM ((laidM m).take n)).2.1 ≠ 0 := by
  intro h
  have ht : Bytes ((laidM m).take n) := fun x hx => hb x (List.mem_of_mem_take hx)
  obtain ⟨a1, a2, a3, _⟩ := dec_inv ht h
  generalize decM ((laidM m).take n) = z at *
  have e : laidM z.1 ++ (laidM m).drop n = laidM m := by rw [a3, List.take_append_drop]
  have h1 := rmod_laid a1 a2 (rest := (laidM m).drop n) (by rw [e]; exact hb)
  rw [e] at h1
  have h2 := rmod_laid wf h0 (rest := []) (by simpa using hb)
  rw [List.append_nil, h1] at h2
  simp only [Except.ok.injEq, Prod.mk.injEq] at h2
  have := congrArg List.length a3
  rw [List.length_take] at this
  omega
/-- Unlike modules have unlike bytes. -/
theorem laid_inj {m n : ModD} (wm : WfM m) (wn : WfM n) (hm : partsM m = 0) (hn : partsM n = 0) (hb : Bytes (laidM m)) (h : laidM m = laidM n) : m = n := by
  have h1 := rmod_laid wm hm (rest := []) (by simpa using hb)
  have h2 := rmod_laid wn hn (rest := []) (by rw [← h]; simpa using hb)
  rw [← h, h1] at h2
  simp only [Except.ok.injEq, Prod.mk.injEq] at h2
  exact h2.1
end Go.Proofs.YtfhkjahjenpbgaaDoor
namespace Go.Proofs.YtfhkjahjenpbgaaDoor
open Go Go.RowKit

theorem okL_mem {α : Type} {ok : List α → α → Prop} : ∀ {l acc : List α}, okL ok acc l → ∀ x ∈ l, ∃ a, ok a x
  | [], _, _, x, hx => by simp at hx
  | y :: l, acc, h, x, hx => by
    rcases List.mem_cons.1 hx with rfl | hx
    · exact ⟨acc, h.1⟩
    · exact okL_mem h.2 x hx
theorem mb_uv {n : Nat} (h : n ≤ 18446744073709551615) : Bytes (uv n) := fun x hx => uv_byte 10 n (Nat.lt_of_le_of_lt h (by decide)) x hx
theorem mb_app {a b : List Int} (ha : Bytes a) (hb : Bytes b) : Bytes (a ++ b) := bytes_app_iff.2 ⟨ha, hb⟩
theorem mb_flat {α : Type} {f : α → List Int} {l : List α} (h : ∀ y ∈ l, Bytes (f y)) : Bytes (l.flatMap f) := by
  intro x hx
  obtain ⟨y, hy, hx⟩ := List.mem_flatMap.1 hx
  exact h y hy x hx
theorem mb_T {n : Nat} {s : ByteArray} (h : errT n s = 0) (hn : n ≤ 18446744073709551615) : Bytes (encT s) :=
  mb_app (mb_uv (by have := (errT_0.1 h).1; omega)) (bys_ok s)
theorem mb_many {α : Type} {most : Nat} {e : List α → α → Int} {enc : α → List Int} {l : List α} (h : errMany most e l = 0) (hm : most ≤ 18446744073709551615) (hk : ∀ x ∈ l, ∀ a, e a x = 0 → Bytes (enc x)) : Bytes (encMany enc l) := by
  obtain ⟨h1, h2⟩ := errMany_0.1 h
  refine mb_app (mb_uv (by omega)) (mb_flat fun y hy => ?_)
  obtain ⟨a, ha⟩ := okL_mem h2 y hy
  exact hk y hy a ha
theorem mb_N {n : Int} (h : n ≤ 18446744073709551615) : Bytes (encN n) := mb_uv (by omega)
theorem mb_G {x : GlobD} (hv : x.v < 18446744073709551616) (h : errG x = 0) : Bytes (encG x) := by
  unfold errG at h
  split at h; · exact absurd h (by decide)
  rename_i h1
  split at h; · exact absurd h (by decide)
  rename_i h2
  have hc : x.letter = 119 ∨ x.letter = 108 := by simp [isLet] at h1; omega
  have hs : i64P (signedD x) := by
    unfold signedD
    split
    · rename_i h3
      simp [fitsD, h3] at h2
      unfold i64P
      split <;> omega
    · unfold i64P
      split <;> omega
  refine mb_app (a := [(x.letter : Int), if x.mu then 1 else 0]) (fun y hy => ?_) (mb_uv (zig_le hs))
  simp only [List.mem_cons, List.not_mem_nil, or_false] at hy
  rcases hy with rfl | rfl
  · omega
  · split <;> omega
theorem bytes_laid (henc : ∀ x, WfIns x → checkI x = 0 → Bytes (encI x)) {m : ModD} (wf : WfM m) (h : partsM m = 0) : Bytes (laidM m) := by
  unfold partsM at h
  simp only [thenE_0] at h
  obtain ⟨h1, h2, h3, h4, h5, h6, h7, h8⟩ := h
  have ht := (errMany_0.1 h1).1
  have hf := (errMany_0.1 h6).1
  unfold errFirst at h4
  unfold errMost at h5
  split at h4; · exact absurd h4 (by decide)
  split at h5; · exact absurd h5 (by decide)
  refine mb_app (fun x hx => by simp only [magicM, List.mem_cons, List.not_mem_nil, or_false] at hx; omega) ?_
  refine mb_app (mb_many h1 (by omega) fun x _ a he => ?_) (mb_app (mb_many h2 (by omega) fun x _ a he => ?_) (mb_app (mb_many h3 (by omega) fun x hx a he => mb_G (wf.globals x hx) he)
    (mb_app (mb_N (by omega)) (mb_app (mb_N (by omega)) (mb_app (mb_many h6 (by omega) fun x hx a he => ?_) (mb_app (mb_many h7 (by omega) fun x hx a he => ?_) (mb_many h8 (by omega) fun x _ a he => ?_)))))))
  · unfold errS at he
    simp only [thenE_0] at he
    exact mb_app (mb_T he.1 (by omega)) (mb_T he.2.1 (by omega))
  · have := errI_0.1 he
    exact mb_N (by omega)
  · unfold errF at he
    simp only [thenE_0] at he
    obtain ⟨e1, e2, e3⟩ := he
    have := errI_0.1 e1
    have hr := roomT_le m.types x.t
    split at e3; · exact absurd e3 (by decide)
    split at e3; · exact absurd e3 (by decide)
    refine mb_app (mb_app (mb_N (by omega)) (mb_T e2 (by omega))) (mb_app (mb_uv (by omega)) (mb_flat fun y hy => ?_))
    obtain ⟨_, hy2⟩ := okL_mem ((errL_0 _ _).1 e3) y hy
    exact henc y (wf.code x hx y hy) hy2
  · unfold errD at he
    split at he; · exact absurd he (by decide)
    split at he; · exact absurd he (by decide)
    split at he; · exact absurd he (by decide)
    exact mb_app (mb_N (by omega)) (mb_app (mb_uv (by omega)) (wf.datas x hx))
  · unfold errE at he
    simp only [thenE_0] at he
    have := errI_0.1 he.2
    have hn := errName_32 he.1
    exact mb_app (mb_app (mb_uv (by omega)) (bys_ok _)) (mb_N (by omega))
end Go.Proofs.YtfhkjahjenpbgaaDoor
namespace Go.Proofs.YtfhkjahjenpbgaaDoor
open Go Go.RowKit

def tW : ByteArray := ⟨#[119]⟩
def tNo : ByteArray := ⟨#[]⟩
def tF : ByteArray := ⟨#[102]⟩
theorem tW_size : tW.size = 1 := rfl
theorem tNo_size : tNo.size = 0 := rfl
theorem tF_size : tF.size = 1 := rfl
theorem tW_bys : bys tW = [119] := rfl
theorem tNo_bys : bys tNo = [] := rfl
theorem tF_bys : bys tF = [102] := rfl
theorem tNo_let : lettersT tNo = true := rfl
/-- The small module. -/
def oneM : ModD := ⟨[(tNo, tW)], [], [], 0, 0, [⟨0, tNo, [⟨24, 5, []⟩, ⟨6, 0, []⟩]⟩], [], [⟨tF, 0⟩]⟩
def oneB : List Int := [70, 76, 71, 78, 1, 1, 0, 1, 119, 0, 0, 0, 0, 1, 0, 0, 2, 24, 10, 6, 0, 1, 1, 102, 0]
def badB : List Int := [70, 76, 71, 78, 1, 1, 1, 120, 0]
theorem dec_badB : decM badB = (modZ, 15, 6) := by rfl
theorem one_wf : WfM oneM := by
  refine ⟨fun g hg => by simp [oneM] at hg, fun f hf i hi => ?_, fun d hd => by simp [oneM] at hd⟩
  simp only [oneM, List.mem_cons, List.not_mem_nil, or_false] at hf
  subst hf
  simp only [List.mem_cons, List.not_mem_nil, or_false] at hi
  rcases hi with rfl | rfl <;> exact ⟨by decide, by unfold i64P; decide, fun n hn => by simp at hn⟩
theorem one_parts (h1 : checkI ⟨24, 5, []⟩ = 0) (h2 : checkI ⟨6, 0, []⟩ = 0) : partsM oneM = 0 := by
  unfold partsM
  simp only [thenE_0]
  refine ⟨by rfl, by rfl, by rfl, by rfl, by rfl, ?_, by rfl, by rfl⟩
  simp [errMany, oneM, errL, errF, thenE, errI, errT, roomT, allOf, tNo_size, tNo_let, h1, h2]
theorem one_laid (h1 : encI ⟨24, 5, []⟩ = [24, 10]) (h2 : encI ⟨6, 0, []⟩ = [6]) : laidM oneM = oneB := by
  simp [laidM, bodyM, oneM, encMany, encS, encT, encN, encF, encE, uv_lo, tNo_size, tW_size, tF_size, tNo_bys, tW_bys, tF_bys, h1, h2, magicM, oneB]
end Go.Proofs.YtfhkjahjenpbgaaDoor
namespace Go.Proofs.YtfhkjahjenpbgaaDoor
open Go Go.RowKit

theorem errL_app {α : Type} {e : List α → α → Int} : ∀ (l acc : List α) (k : List α), errL e acc (l ++ k) = thenE (errL e acc l) (errL e (acc ++ l) k)
  | [], acc, k => by simp [errL, thenE]
  | x :: l, acc, k => by
    rw [List.cons_append, errL, errL, errL_app l]
    simp only [thenE, List.append_assoc, List.singleton_append]
    split <;> simp_all
theorem take_snoc {α : Type} {l : List α} {k : Nat} (h : k < l.length) : l.take (k + 1) = l.take k ++ [l[k]] := by
  rw [List.take_add_one]
  simp [h]
/-- No error so far, and the next one is asked. -/
theorem errL_good {α : Type} {e : List α → α → Int} {l : List α} {k : Nat} (h : k < l.length) (h0 : errL e [] (l.take k) = 0) (h1 : e (l.take k) l[k] = 0) : errL e [] (l.take (k + 1)) = 0 := by
  rw [take_snoc h, errL_app, h0]
  simp [thenE, errL, h1]
theorem errL_bad {α : Type} {e : List α → α → Int} {l : List α} {k : Nat} (h : k < l.length) (h0 : errL e [] (l.take k) = 0) (h1 : e (l.take k) l[k] ≠ 0) : errL e [] l = e (l.take k) l[k] := by
  conv => lhs; rw [← List.take_append_drop k l, List.drop_eq_getElem_cons h]
  rw [errL_app, h0]
  simp [thenE, errL, h1]
theorem flat_snoc {α : Type} {enc : α → List Int} {l : List α} {k : Nat} (h : k < l.length) : (l.take (k + 1)).flatMap enc = (l.take k).flatMap enc ++ enc l[k] := by
  rw [take_snoc h, List.flatMap_append]
  simp
def putAhead {α : Type} (acc : List α) : Except (Int × Nat) (List α × Nat) → Except (Int × Nat) (List α × Nat)
  | .error z => .error z
  | .ok (l, q) => .ok (acc ++ l, q)
/-- Where the reading of n things stands: some are read, those behind are to be read from q on. -/
def RepAt {α : Type} (step : List α → RdM α) (n : Nat) (b : List Int) (p : Nat) (acc : List α) (q : Nat) : Prop :=
  acc.length ≤ n ∧ RdM.rep step n [] b p = putAhead acc (RdM.rep step (n - acc.length) acc b q)
theorem RepAt.zero {α : Type} (step : List α → RdM α) (n : Nat) (b : List Int) (p : Nat) : RepAt step n b p [] p := by
  refine ⟨Nat.zero_le _, ?_⟩
  show _ = putAhead [] (RdM.rep step n [] b p)
  cases RdM.rep step n [] b p with
  | error z => rfl
  | ok y => rfl
theorem RepAt.bad {α : Type} {step : List α → RdM α} {n : Nat} {b : List Int} {p : Nat} {acc : List α} {q : Nat} (h : RepAt step n b p acc q) (hn : acc.length < n) {z : Int × Nat} (hs : step acc b q = .error z) : RdM.rep step n [] b p = .error z := by
  obtain ⟨m, hm⟩ : ∃ m, n - acc.length = m + 1 := ⟨n - acc.length - 1, by omega⟩
  rw [h.2, hm]
  simp only [RdM.rep, hs, putAhead]
theorem RepAt.good {α : Type} {step : List α → RdM α} {n : Nat} {b : List Int} {p : Nat} {acc : List α} {q : Nat} (h : RepAt step n b p acc q) (hn : acc.length < n) {x : α} {q1 : Nat} (hs : step acc b q = .ok (x, q1)) : RepAt step n b p (acc ++ [x]) q1 := by
  obtain ⟨m, hm⟩ : ∃ m, n - acc.length = m + 1 := ⟨n - acc.length - 1, by omega⟩
  refine ⟨by simp; omega, ?_⟩
  rw [h.2, hm, show n - (acc ++ [x]).length = m by simp; omega]
  simp only [RdM.rep, hs]
  cases RdM.rep step m (acc ++ [x]) b q1 with
  | error z => rfl
  | ok y => simp [putAhead]
theorem RepAt.done {α : Type} {step : List α → RdM α} {n : Nat} {b : List Int} {p : Nat} {acc : List α} {q : Nat} (h : RepAt step n b p acc q) (hn : acc.length = n) : RdM.rep step n [] b p = .ok (acc, q) := by
  rw [h.2, hn, Nat.sub_self]
  simp [RdM.rep, putAhead]
end Go.Proofs.YtfhkjahjenpbgaaDoor
namespace Go.Proofs.YtfhkjahjenpbgaaDoor
open Go Go.RowKit

theorem last_take {α : Type} {l : List α} {k : Nat} (h : k < l.length) : (l.take (k + 1)).getLast? = some l[k] := by
  rw [take_snoc h, List.getLast?_append]
  simp
theorem behindD_take {l : List DatD} {k : Nat} (h : k < l.length) : behindD (l.take (k + 1)) = l[k].at_ + l[k].b.length := by
  unfold behindD
  rw [last_take h]
theorem behindD_snoc (l : List DatD) (x : DatD) : behindD (l ++ [x]) = x.at_ + x.b.length := by simp [behindD]
theorem behindD_nil : behindD [] = -1 := rfl
theorem allOf_snoc (l : List FunD) (x : FunD) : allOf (l ++ [x]) = allOf l + x.code.length := by simp [allOf]
theorem allOf_take {l : List FunD} {k : Nat} (h : k < l.length) : allOf (l.take (k + 1)) = allOf (l.take k) + l[k].code.length := by
  rw [take_snoc h, allOf_snoc]
theorem errName_first (s : ByteArray) : errName [] s = if 32 < s.size then 13 else if s.size = 0 then 23 else if (bys s).all (fun c => decide (33 ≤ c ∧ c ≤ 126)) = false then 23 else 0 := rfl
theorem errName_take {l : List ExpD} {k : Nat} (h : k < l.length) (s : ByteArray) : errName (l.take (k + 1)) s =
    if 32 < s.size then 13 else if s.size = 0 then 23 else if (bys s).all (fun c => decide (33 ≤ c ∧ c ≤ 126)) = false then 23 else if leT s l[k].name then 18 else 0 := by
  unfold errName
  rw [last_take h]
/-- A function's error leaves the count of all instructions within its bound. -/
theorem errF_all {ts : List SigD} {acc : List FunD} {x : FunD} (h : errF ts acc x = 0) : allOf acc + x.code.length ≤ 16384 ∧ x.code.length ≤ 2048 := by
  unfold errF at h
  simp only [thenE_0] at h
  obtain ⟨_, _, h⟩ := h
  split at h; · exact absurd h (by decide)
  split at h; · exact absurd h (by decide)
  omega
theorem all_le {ts : List SigD} {l : List FunD} {k : Nat} (hk : k ≤ l.length) (h : errL (errF ts) [] (l.take k) = 0) : allOf (l.take k) ≤ 16384 := by
  cases k with
  | zero => simp [allOf]
  | succ k =>
    rw [take_snoc (show k < l.length by omega), errL_app, thenE_0] at h
    have h2 := h.2
    simp only [errL, List.nil_append, thenE_0] at h2
    rw [allOf_take (by omega)]
    exact (errF_all h2.1).1
/-- Data ahead end within the memory. -/
theorem errD_end {room : Nat} {acc : List DatD} {x : DatD} (h : errD room acc x = 0) : 0 ≤ x.at_ ∧ x.at_ + x.b.length ≤ room ∧ 0 < x.b.length := by
  unfold errD at h
  split at h; · exact absurd h (by decide)
  split at h; · exact absurd h (by decide)
  split at h; · exact absurd h (by decide)
  split at h; · exact absurd h (by decide)
  omega
theorem behindD_le {room : Nat} {l : List DatD} {k : Nat} (hk : k ≤ l.length) (h : errL (errD room) [] (l.take k) = 0) : -1 ≤ behindD (l.take k) ∧ behindD (l.take k) ≤ room := by
  cases k with
  | zero => simp [behindD]
  | succ k =>
    rw [take_snoc (show k < l.length by omega), errL_app, thenE_0] at h
    have h2 := h.2
    simp only [errL, List.nil_append, thenE_0] at h2
    have := errD_end h2.1
    rw [behindD_take (by omega)]
    omega
end Go.Proofs.YtfhkjahjenpbgaaDoor
namespace Go.Proofs.YtfhkjahjenpbgaaDoor
open Go Go.RowKit

section
variable (henc : ∀ x, WfIns x → checkI x = 0 → Bytes (encI x))
theorem enc_good {m : ModD} (h : (encM m).2 = 0) : encM m = (laidM m, 0) ∧ partsM m = 0 ∧ (laidM m).length ≤ 65536 := by
  unfold encM at h ⊢
  split at h
  · rename_i h1; exact absurd h h1
  · rename_i h1
    rw [if_neg h1]
    split at h
    · exact absurd h (by decide)
    · rename_i h2
      rw [if_neg h2]
      exact ⟨rfl, by omega, by omega⟩
theorem enc_none {m : ModD} (h : (encM m).2 ≠ 0) : (encM m).1 = [] := by
  unfold encM at h ⊢
  split
  · rfl
  · rename_i h1
    rw [if_neg h1] at h
    split
    · rfl
    · rename_i h2; rw [if_neg h2] at h; exact absurd rfl h
theorem laid_pos (m : ModD) : 5 ≤ (laidM m).length := by
  simp only [laidM, magicM, List.length_append, List.length_cons, List.length_nil]
  omega
theorem dec_none {b : List Int} (h : (decM b).2.1 ≠ 0) : (decM b).1 = modZ := by
  unfold decM at h ⊢
  split
  · rfl
  · rename_i h1
    rw [if_neg h1] at h
    split
    · rfl
    · rename_i h2
      rw [if_neg h2] at h
      cases hr : rmod b 5 with
      | error z => rfl
      | ok z =>
        rw [hr] at h
        simp only at h ⊢
        split
        · rename_i h3; rw [if_pos h3] at h; exact absurd rfl h
        · rfl
include henc
theorem law_unlike {m n : ModD} (wm : WfM m) (wn : WfM n) (hm : (encM m).2 = 0) (hn : (encM n).2 = 0) : decide ((encM m).1 = (encM n).1) = decide (m = n) := by
  obtain ⟨e1, p1, _⟩ := enc_good hm
  obtain ⟨e2, p2, _⟩ := enc_good hn
  rw [e1, e2, decide_eq_decide]
  exact ⟨laid_inj wm wn p1 p2 (bytes_laid henc wm p1), fun h => by rw [h]⟩
theorem law_back {m : ModD} (wm : WfM m) (hm : (encM m).2 = 0) : decM (encM m).1 = (m, 0, 0) ∧ (encM m).1.length ≤ 65536 := by
  obtain ⟨e1, p1, l1⟩ := enc_good hm
  rw [e1]
  exact ⟨dec_laid wm p1 (bytes_laid henc wm p1) l1, l1⟩
omit henc in
theorem law_forth {b : List Int} (hb : Bytes b) (h : (decM b).2.1 = 0) : encM (decM b).1 = (b, 0) ∧ WfM (decM b).1 := by
  obtain ⟨a1, a2, a3, a4, _⟩ := dec_inv hb h
  refine ⟨?_, a1⟩
  unfold encM
  rw [if_neg (by rw [a2]; simp), a3, if_neg (by omega)]
theorem law_cut {m : ModD} (wm : WfM m) (hm : (encM m).2 = 0) {n : Nat} (hn : n < (encM m).1.length) : (decM ((encM m).1.take n)).2.1 ≠ 0 := by
  obtain ⟨e1, p1, _⟩ := enc_good hm
  rw [e1] at hn ⊢
  exact dec_cut wm p1 (bytes_laid henc wm p1) hn
theorem law_more {m : ModD} (wm : WfM m) (hm : (encM m).2 = 0) {c : Int} (hc : 0 ≤ c ∧ c ≤ 255) :
    decM ((encM m).1 ++ [c]) = if (encM m).1.length = 65536 then (modZ, 13, 0) else (modZ, 19, (encM m).1.length) := by
  obtain ⟨e1, p1, l1⟩ := enc_good hm
  rw [e1]
  simp only
  split
  · unfold decM
    rw [if_pos (by rw [List.length_append, List.length_singleton]; omega)]
  · refine dec_more wm p1 (by simp) (bytes_app_iff.2 ⟨bytes_laid henc wm p1, fun x hx => ?_⟩) (by rw [List.length_append, List.length_singleton]; omega)
    obtain rfl := List.mem_singleton.1 hx
    exact hc
end
end Go.Proofs.YtfhkjahjenpbgaaDoor
namespace Go.Proofs.YtfhkjahjenpbgaaDoor
open Go Go.RowKit

def RSig (_ : World) (cs : List Value) (x : SigD) : Prop := cs = [.string x.1, .string x.2]
def RGlob (_ : World) (cs : List Value) (x : GlobD) : Prop := cs = [.int .u8 x.letter, .bool x.mu, .int .u64 x.v]
def RFun (S : Nat → Prop) (w : World) (cs : List Value) (x : FunD) : Prop := ∃ v, cs = [.int .i64 x.t, .string x.locals, v] ∧ CdS S w v x.code
def RDat (S : Nat → Prop) (w : World) (cs : List Value) (x : DatD) : Prop := ∃ v, cs = [.int .i64 x.at_, v] ∧ RdI .u8 S w v x.b
def RExp (_ : World) (cs : List Value) (x : ExpD) : Prop := cs = [.string x.name, .int .i64 x.f]
theorem RFun.keeps {S w w' cs x} (h : RFun S w cs x) (hk : Keeps S w w') : RFun S w' cs x := by
  obtain ⟨v, e, h1⟩ := h
  exact ⟨v, e, CdS.keeps h1 hk fun _ h => h⟩
theorem RFun.mono {S T : Nat → Prop} {w cs x} (h : RFun S w cs x) (hS : ∀ b, b < w.heap.size → S b → T b) : RFun T w cs x := by
  obtain ⟨v, e, h1⟩ := h
  exact ⟨v, e, RdL.mono h1 (by omega) hS fun _ _ hr => hr.mono hS⟩
theorem RDat.keeps {S w w' cs x} (h : RDat S w cs x) (hk : Keeps S w w') : RDat S w' cs x := by
  obtain ⟨v, e, h1⟩ := h
  exact ⟨v, e, h1.keeps hk⟩
theorem RDat.mono {S T : Nat → Prop} {w cs x} (h : RDat S w cs x) (hS : ∀ b, b < w.heap.size → S b → T b) : RDat T w cs x := by
  obtain ⟨v, e, h1⟩ := h
  exact ⟨v, e, h1.mono hS⟩
abbrev RdSigs (S : Nat → Prop) (w : World) (v : Value) (l : List SigD) : Prop := RdL 2 RSig S w v l
abbrev RdGlobs (S : Nat → Prop) (w : World) (v : Value) (l : List GlobD) : Prop := RdL 3 RGlob S w v l
abbrev RdFuns (S : Nat → Prop) (w : World) (v : Value) (l : List FunD) : Prop := RdL 3 (RFun S) S w v l
abbrev RdDats (S : Nat → Prop) (w : World) (v : Value) (l : List DatD) : Prop := RdL 2 (RDat S) S w v l
abbrev RdExps (S : Nat → Prop) (w : World) (v : Value) (l : List ExpD) : Prop := RdL 2 RExp S w v l
/-- A module's eight cells. -/
def RMod (S : Nat → Prop) (w : World) (cs : List Value) (m : ModD) : Prop :=
  ∃ tv hv gv fv dv ev, cs = [tv, hv, gv, .int .i64 m.first, .int .i64 m.most, fv, dv, ev] ∧
    RdSigs S w tv m.types ∧ RdI .i64 S w hv m.hosts ∧ RdGlobs S w gv m.globals ∧ RdFuns S w fv m.funs ∧ RdDats S w dv m.datas ∧ RdExps S w ev m.exps
theorem RMod.keeps {S w w' cs m} (h : RMod S w cs m) (hk : Keeps S w w') : RMod S w' cs m := by
  obtain ⟨tv, hv, gv, fv, dv, ev, e, h1, h2, h3, h4, h5, h6⟩ := h
  exact ⟨tv, hv, gv, fv, dv, ev, e, RdL.map h1 hk (fun _ h => h) (fun _ _ h => h), h2.keeps hk, RdL.map h3 hk (fun _ h => h) (fun _ _ h => h),
    RdL.map h4 hk (fun _ h => h) (fun _ _ h => h.keeps hk), RdL.map h5 hk (fun _ h => h) (fun _ _ h => h.keeps hk), RdL.map h6 hk (fun _ h => h) (fun _ _ h => h)⟩
theorem RMod.mono {S T : Nat → Prop} {w cs m} (h : RMod S w cs m) (hS : ∀ b, b < w.heap.size → S b → T b) : RMod T w cs m := by
  obtain ⟨tv, hv, gv, fv, dv, ev, e, h1, h2, h3, h4, h5, h6⟩ := h
  exact ⟨tv, hv, gv, fv, dv, ev, e, h1.mono (by omega) hS (fun _ _ h => h), h2.mono hS, h3.mono (by omega) hS (fun _ _ h => h),
    h4.mono (by omega) hS (fun _ _ h => h.mono hS), h5.mono (by omega) hS (fun _ _ h => h.mono hS), h6.mono (by omega) hS (fun _ _ h => h)⟩
theorem RMod.zero (S : Nat → Prop) (w : World) : RMod S w [.slice none 0 0, .slice none 0 0, .slice none 0 0, .int .i64 0, .int .i64 0, .slice none 0 0, .slice none 0 0, .slice none 0 0] modZ :=
  ⟨_, _, _, _, _, _, rfl, RdL.nil .., RdI.nil .., RdL.nil .., RdL.nil .., RdL.nil .., RdL.nil ..⟩
end Go.Proofs.YtfhkjahjenpbgaaDoor
namespace Go.Proofs.YtfhkjahjenpbgaaDoor
open Go Go.RowKit

theorem RdFuns.at_ {S : Nat → Prop} {w : World} {a : Option Addr} {n c : Nat} {l : List FunD} (h : RdFuns S w (.slice a n c) l) {k : Nat} (hk : k < l.length) :
    ∃ b off v, a = some ⟨b, off, none⟩ ∧ w.cell? ⟨b, off + k * 3, none⟩ = some (.int .i64 l[k].t) ∧ w.cell? ⟨b, off + k * 3 + 1, none⟩ = some (.string l[k].locals) ∧ w.cell? ⟨b, off + k * 3 + 2, none⟩ = some v ∧ CdS S w v l[k].code := by
  obtain ⟨a', c', e, _, _, h3⟩ := h
  simp only [Value.slice.injEq] at e
  obtain ⟨rfl, _, rfl⟩ := e
  obtain ⟨b, off, cs, e1, e2, e3, e4, v, e5, e6⟩ := h3 k hk
  subst e5
  exact ⟨b, off, v, e1, e4 0 (by omega), e4 1 (by omega), e4 2 (by omega), e6⟩
theorem RdDats.at_ {S : Nat → Prop} {w : World} {a : Option Addr} {n c : Nat} {l : List DatD} (h : RdDats S w (.slice a n c) l) {k : Nat} (hk : k < l.length) :
    ∃ b off v, a = some ⟨b, off, none⟩ ∧ w.cell? ⟨b, off + k * 2, none⟩ = some (.int .i64 l[k].at_) ∧ w.cell? ⟨b, off + k * 2 + 1, none⟩ = some v ∧ RdI .u8 S w v l[k].b := by
  obtain ⟨a', c', e, _, _, h3⟩ := h
  simp only [Value.slice.injEq] at e
  obtain ⟨rfl, _, rfl⟩ := e
  obtain ⟨b, off, cs, e1, e2, e3, e4, v, e5, e6⟩ := h3 k hk
  subst e5
  exact ⟨b, off, v, e1, e4 0 (by omega), e4 1 (by omega), e6⟩
theorem RdFuns.bel {w w' : World} {v : Value} {l : List FunD} (h : RdFuns (· < w.heap.size) w v l) (hb : Below w.heap.size w w') : RdFuns (· < w'.heap.size) w' v l :=
  RdL.map h (Keeps.all _ hb) (fun _ hb' => Nat.lt_of_lt_of_le hb' hb.size) fun _ _ hr => (hr.keeps (Keeps.all _ hb)).mono fun _ _ hb' => Nat.lt_of_lt_of_le hb' hb.size
theorem RdDats.bel {w w' : World} {v : Value} {l : List DatD} (h : RdDats (· < w.heap.size) w v l) (hb : Below w.heap.size w w') : RdDats (· < w'.heap.size) w' v l :=
  RdL.map h (Keeps.all _ hb) (fun _ hb' => Nat.lt_of_lt_of_le hb' hb.size) fun _ _ hr => (hr.keeps (Keeps.all _ hb)).mono fun _ _ hb' => Nat.lt_of_lt_of_le hb' hb.size
end Go.Proofs.YtfhkjahjenpbgaaDoor
