/- Instructions as bytes: the plain law: what is encoded is decoded as itself, and what is decoded is encoded as the same bytes. -/
import Derived.Test.YtfhkjahjenpbgaaDoorMRuv
import Derived.Test.YtfhkjahjenpbgaaDoorMLib
import Derived.Test.YtfhkjahjenpbgaaDoorMOps4
namespace Go.Proofs.YtfhkjahjenpbgaaDoor
open Go Go.RowKit

/-- An instruction with a number that is no list. -/
def isU (t : Int) : Bool := decide (t = 1 ∨ t = 2 ∨ t = 4 ∨ t = 5 ∨ t = 6 ∨ t = 7 ∨ t = 9)
def boundsI (op : Nat) : Int × Int :=
  if takesP op = 1 ∨ takesP op = 2 ∨ takesP op = 4 ∨ takesP op = 5 ∨ takesP op = 6 ∨ takesP op = 7 then (0, 2147483647)
  else if takesP op = 9 then (0, 4294967295)
  else if takesP op = 8 then (if op = 24 then (-2147483648, 2147483647) else (-9223372036854775808, 9223372036854775807))
  else (0, 0)
def inI (op : Nat) (n : Int) : Bool := decide ((boundsI op).1 ≤ n ∧ n ≤ (boundsI op).2)
def smallI (n : Int) : Bool := decide (0 ≤ n ∧ n ≤ 2147483647)
def checkI (x : InsD) : Int :=
  if isOp x.op = false then 21
  else if inI x.op x.a = false then 17
  else if takesP x.op ≠ 3 then (if 0 < x.l.length then 17 else 0)
  else if x.l.length < 1 ∨ 16 < x.l.length then 17
  else if x.l.all smallI then 0 else 17
/-- A number with a sign as one without. -/
def zig (v : Int) : Nat := if 0 ≤ v then (2 * v).toNat else (-2 * v - 1).toNat
def zag (u : Nat) : Int := if u % 2 = 0 then ((u / 2 : Nat) : Int) else -((u / 2 : Nat) : Int) - 1
theorem zag_zig (v : Int) : zag (zig v) = v := by unfold zag zig; split <;> split <;> omega
theorem zig_zag (u : Nat) : zig (zag u) = u := by unfold zag zig; split <;> split <;> omega
theorem zig_le {v : Int} (h : i64P v) : zig v ≤ 18446744073709551615 := by unfold i64P at h; unfold zig; split <;> omega
theorem zag_i64 {u : Nat} (h : u ≤ 18446744073709551615) : i64P (zag u) := by unfold i64P zag; split <;> omega
def uvs (l : List Int) : List Int := l.flatMap fun n => uv n.toNat
def tailI (x : InsD) : List Int :=
  if takesP x.op = 3 then uv x.l.length ++ uvs x.l
  else if takesP x.op = 8 then uv (zig x.a)
  else if isU (takesP x.op) then uv x.a.toNat
  else []
def encI (x : InsD) : List Int := if checkI x = 0 then (x.op : Int) :: tailI x else []
/-- How instr's reader stands: place, error. -/
structure IR where
  at_ : Nat
  e : Int
/-- A number from least to most. -/
def rnumI (b : List Int) (r : IR) (least most : Nat) : Nat × IR :=
  if r.e ≠ 0 then (0, r)
  else if (ruv b r.at_).2.2 ≠ 0 then (0, { r with e := (ruv b r.at_).2.2 })
  else if (ruv b r.at_).1 < least ∨ most < (ruv b r.at_).1 then (0, { r with e := 17 })
  else ((ruv b r.at_).1, { r with at_ := (ruv b r.at_).2.1 })
def rlistI (b : List Int) : Nat → IR → List Int × IR
  | 0, r => ([], r)
  | n + 1, r => (((rnumI b r 0 2147483647).1 : Int) :: (rlistI b n (rnumI b r 0 2147483647).2).1, (rlistI b n (rnumI b r 0 2147483647).2).2)
/-- A number with a sign that a row lets be. -/
def rsigI (b : List Int) (r : IR) (op : Nat) : Int × IR :=
  (zag (ruv b r.at_).1, ⟨(ruv b r.at_).2.1, if (ruv b r.at_).2.2 = 0 ∧ inI op (zag (ruv b r.at_).1) = false then 17 else (ruv b r.at_).2.2⟩)
/-- What an instruction's numbers are, read behind its opcode. -/
def rbodyI (b : List Int) (p : Nat) (op : Nat) : InsD × IR :=
  if takesP op = 3 then (⟨op, 0, (rlistI b (rnumI b ⟨p, 0⟩ 1 16).1 (rnumI b ⟨p, 0⟩ 1 16).2).1⟩, (rlistI b (rnumI b ⟨p, 0⟩ 1 16).1 (rnumI b ⟨p, 0⟩ 1 16).2).2)
  else if takesP op = 8 then (⟨op, (rsigI b ⟨p, 0⟩ op).1, []⟩, (rsigI b ⟨p, 0⟩ op).2)
  else if isU (takesP op) then (⟨op, ((rnumI b ⟨p, 0⟩ 0 (boundsI op).2.toNat).1 : Int), []⟩, (rnumI b ⟨p, 0⟩ 0 (boundsI op).2.toNat).2)
  else (⟨op, 0, []⟩, ⟨p, 0⟩)
def decI (b : List Int) (p : Int) : InsD × Nat × Int :=
  if p < 0 ∨ (b.length : Int) < p then (insZ, 0, 1)
  else if p = b.length then (insZ, 0, 10)
  else if isOp (b.getD p.toNat 0).toNat = false then (insZ, 0, 21)
  else if (rbodyI b (p.toNat + 1) (b.getD p.toNat 0).toNat).2.e ≠ 0 then (insZ, 0, (rbodyI b (p.toNat + 1) (b.getD p.toNat 0).toNat).2.e)
  else ((rbodyI b (p.toNat + 1) (b.getD p.toNat 0).toNat).1, (rbodyI b (p.toNat + 1) (b.getD p.toNat 0).toNat).2.at_, 0)

theorem takes_cases : ∀ op : Fin 256, takesP op.val = 3 ∨ takesP op.val = 8 ∨ isU (takesP op.val) = true ∨ takesP op.val = 0 := by decide +kernel
theorem isU_not {t : Int} (h : isU t = true) : t ≠ 3 ∧ t ≠ 8 ∧ t ≠ 0 := by simp [isU] at h; omega
theorem bounds_u {op : Nat} (h : isU (takesP op) = true) : (boundsI op).1 = 0 ∧ 0 ≤ (boundsI op).2 ∧ (boundsI op).2 ≤ 4294967295 := by
  simp only [isU, decide_eq_true_eq] at h
  unfold boundsI
  by_cases h9 : takesP op = 9
  · rw [if_neg (by omega), if_pos h9]; omega
  · rw [if_pos (by omega)]; omega
theorem bounds_3 {op : Nat} (h : takesP op = 3) : boundsI op = (0, 0) := by unfold boundsI; rw [if_neg (by omega), if_neg (by omega), if_neg (by omega)]
theorem bounds_0 {op : Nat} (h : takesP op = 0) : boundsI op = (0, 0) := by unfold boundsI; rw [if_neg (by omega), if_neg (by omega), if_neg (by omega)]

section
variable {b : List Int}
theorem rnumI_fwd {r : IR} {n least most : Nat} {rest : List Int} (h : r.e = 0) (hd : b.drop r.at_ = uv n ++ rest) (h1 : least ≤ n) (h2 : n ≤ most) (hm : most ≤ 18446744073709551615) :
    rnumI b r least most = (n, ⟨r.at_ + (uv n).length, 0⟩) := by
  have e := ruv_uv (b := b) (p := r.at_) (n := n) (rest := rest) hd (by omega)
  rw [rnumI, if_neg (by simp [h]), e, if_neg (by simp), if_neg (by simp; omega)]
  simp [h]
theorem rnumI_inv (hb : Bytes b) {r : IR} {least most : Nat} (h : (rnumI b r least most).2.e = 0) :
    r.e = 0 ∧ least ≤ (rnumI b r least most).1 ∧ (rnumI b r least most).1 ≤ most ∧ b.drop r.at_ = uv (rnumI b r least most).1 ++ b.drop (rnumI b r least most).2.at_ ∧ (rnumI b r least most).2.at_ = r.at_ + (uv (rnumI b r least most).1).length ∧ (rnumI b r least most).2.at_ ≤ b.length := by
  unfold rnumI at h ⊢
  split at h
  · rename_i h0; exact absurd h h0
  rename_i h0
  rw [if_neg h0]
  have h0' : r.e = 0 := by simpa using h0
  split at h
  · rename_i h1; exact absurd h h1
  rename_i h1
  rw [if_neg h1]
  split at h
  · simp at h
  rename_i h2
  rw [if_neg h2]
  have h1' : (ruv b r.at_).2.2 = 0 := by simpa using h1
  obtain ⟨n, q, z, e⟩ : ∃ n q z, ruv b r.at_ = (n, q, z) := ⟨_, _, _, rfl⟩
  rw [e] at h1' h2 ⊢
  simp only at h1' h2 ⊢
  subst h1'
  have hi := ruv_inv hb e
  have hl := ruv_le (b := b) (p := r.at_) (by rw [e])
  rw [e] at hl
  exact ⟨h0', by omega, by omega, hi.1, hi.2, hl⟩
theorem rlistI_fwd {rest : List Int} : ∀ (l : List Int) (r : IR), r.e = 0 → (∀ n ∈ l, smallI n = true) → b.drop r.at_ = uvs l ++ rest → rlistI b l.length r = (l, ⟨r.at_ + (uvs l).length, 0⟩) := by
  intro l
  induction l with
  | nil => intro r h _ _; obtain ⟨a, e⟩ := r; simp only at h; subst h; simp [rlistI, uvs]
  | cons n l ih =>
    intro r h hs hd
    have hn : 0 ≤ n ∧ n ≤ 2147483647 := by simpa [smallI] using hs n List.mem_cons_self
    obtain ⟨m, rfl⟩ := Int.eq_ofNat_of_zero_le hn.1
    have hd' : b.drop r.at_ = uv m ++ (uvs l ++ rest) := by rw [hd]; simp [uvs]
    have e := rnumI_fwd (b := b) (r := r) (n := m) (least := 0) (most := 2147483647) h hd' (by omega) (by omega) (by omega)
    have e2 := ih ⟨r.at_ + (uv m).length, 0⟩ rfl (fun x hx => hs x (List.mem_cons_of_mem _ hx)) (drop_more hd')
    simp only [List.length_cons, rlistI, e, e2]
    simp [uvs, Nat.add_assoc]
theorem rnumI_e {r : IR} {least most : Nat} (h : r.e ≠ 0) : rnumI b r least most = (0, r) := by rw [rnumI, if_pos h]
theorem rlistI_e : ∀ (n : Nat) (r : IR), r.e ≠ 0 → (rlistI b n r).2 = r := by
  intro n
  induction n with
  | zero => intro r _; rfl
  | succ n ih => intro r h; simp only [rlistI, rnumI_e h]; exact ih r h
theorem rlistI_len : ∀ (n : Nat) (r : IR), (rlistI b n r).1.length = n := by
  intro n
  induction n with
  | zero => intro r; rfl
  | succ n ih => intro r; simp only [rlistI, List.length_cons, ih]
theorem rlistI_inv (hb : Bytes b) : ∀ (n : Nat) (r : IR), (rlistI b n r).2.e = 0 →
    r.e = 0 ∧ (∀ x ∈ (rlistI b n r).1, smallI x = true) ∧ b.drop r.at_ = uvs (rlistI b n r).1 ++ b.drop (rlistI b n r).2.at_ ∧ (rlistI b n r).2.at_ = r.at_ + (uvs (rlistI b n r).1).length ∧ (r.at_ ≤ b.length → (rlistI b n r).2.at_ ≤ b.length) := by
  intro n
  induction n with
  | zero => intro r h; exact ⟨h, by simp [rlistI], by simp [rlistI, uvs], by simp [rlistI, uvs], fun h => h⟩
  | succ n ih =>
    intro r h
    simp only [rlistI] at h ⊢
    obtain ⟨k1, k2, k3, k4, k5⟩ := ih _ h
    obtain ⟨j1, j2, j3, j4, j5, j6⟩ := rnumI_inv hb k1
    generalize rnumI b r 0 2147483647 = q at *
    generalize rlistI b n q.2 = s at *
    refine ⟨j1, ?_, ?_, ?_, fun _ => k5 j6⟩
    · intro x hx
      rcases List.mem_cons.1 hx with rfl | hx
      · simp [smallI]; omega
      · exact k2 x hx
    · rw [j4, k3]; simp [uvs]
    · rw [k4, j5]; simp [uvs, Nat.add_assoc]

/-- What an instruction's bytes say, read. -/
theorem rbodyI_fwd {p : Nat} {rest : List Int} (x : InsD) (wf : WfIns x) (hc : checkI x = 0) (hd : b.drop p = tailI x ++ rest) : rbodyI b p x.op = (x, ⟨p + (tailI x).length, 0⟩) := by
  obtain ⟨op, a, l⟩ := x
  have ho := wf.op
  have ha := wf.a
  simp only at ho ha hd ⊢
  simp only [checkI] at hc
  split at hc; · exact absurd hc (by decide)
  split at hc; · exact absurd hc (by decide)
  rename_i hop hin
  have hin' : inI op a = true := by simpa using hin
  simp only [inI, decide_eq_true_eq] at hin'
  rcases takes_cases ⟨op, ho⟩ with h3 | h8 | hu | h0
  · simp only at h3
    rw [if_neg (by simp [h3])] at hc
    split at hc; · exact absurd hc (by decide)
    rename_i hlen
    have hall : l.all smallI = true := by
      cases h : l.all smallI with
      | true => rfl
      | false => rw [h] at hc; exact absurd hc (by decide)
    clear hc
    simp only [tailI, if_pos h3] at hd ⊢
    have ha0 : a = 0 := by rw [bounds_3 h3] at hin'; simp only at hin'; omega
    subst ha0
    have e := rnumI_fwd (b := b) (r := ⟨p, 0⟩) (n := l.length) (least := 1) (most := 16) (rest := uvs l ++ rest) rfl (by rw [← List.append_assoc]; exact hd) (by omega) (by omega) (by omega)
    have e2 := rlistI_fwd (b := b) (rest := rest) l ⟨p + (uv l.length).length, 0⟩ rfl (fun n hn => List.all_eq_true.1 hall n hn) (drop_more (by rw [← List.append_assoc]; exact hd))
    rw [rbodyI, if_pos h3, e]
    simp only [e2, List.length_append, Nat.add_assoc]
  · simp only at h8
    rw [if_pos (by omega)] at hc
    split at hc; · exact absurd hc (by decide)
    rename_i hlen
    obtain rfl : l = [] := List.eq_nil_of_length_eq_zero (by omega)
    simp only [tailI, if_neg (show ¬ takesP op = 3 by omega), if_pos h8] at hd ⊢
    have e := ruv_uv (b := b) (p := p) (n := zig a) (rest := rest) hd (zig_le ha)
    rw [rbodyI, if_neg (by omega), if_pos h8, rsigI]
    simp only [e, zag_zig]
    rw [if_neg (by simp [hin])]
  · simp only at hu
    have hn := isU_not hu
    rw [if_pos (by omega)] at hc
    split at hc; · exact absurd hc (by decide)
    rename_i hlen
    obtain rfl : l = [] := List.eq_nil_of_length_eq_zero (by omega)
    simp only [tailI, if_neg (show ¬ takesP op = 3 by omega), if_neg (show ¬ takesP op = 8 by omega), if_pos hu] at hd ⊢
    have hbd := bounds_u hu
    obtain ⟨m, rfl⟩ := Int.eq_ofNat_of_zero_le (show 0 ≤ a by omega)
    have e := rnumI_fwd (b := b) (r := ⟨p, 0⟩) (n := m) (least := 0) (most := (boundsI op).2.toNat) (rest := rest) rfl hd (by omega) (by omega) (by omega)
    rw [rbodyI, if_neg (by omega), if_neg (by omega), if_pos hu, e]
    rfl
  · simp only at h0
    rw [if_pos (by omega)] at hc
    split at hc; · exact absurd hc (by decide)
    rename_i hlen
    obtain rfl : l = [] := List.eq_nil_of_length_eq_zero (by omega)
    have hnu : ¬ isU (takesP op) = true := by simp [isU]; omega
    have ha0 : a = 0 := by rw [bounds_0 h0] at hin'; simp only at hin'; omega
    subst ha0
    simp only [tailI, if_neg (show ¬ takesP op = 3 by omega), if_neg (show ¬ takesP op = 8 by omega), if_neg hnu]
    rw [rbodyI, if_neg (by omega), if_neg (by omega), if_neg hnu]
    simp
theorem rbodyI_inv (hb : Bytes b) {p op : Nat} (ho : op < 256) (hop : isOp op = true) (hp : p ≤ b.length) (h : (rbodyI b p op).2.e = 0) :
    (rbodyI b p op).1.op = op ∧ checkI (rbodyI b p op).1 = 0 ∧ WfIns (rbodyI b p op).1 ∧ b.drop p = tailI (rbodyI b p op).1 ++ b.drop (rbodyI b p op).2.at_ ∧ (rbodyI b p op).2.at_ = p + (tailI (rbodyI b p op).1).length ∧ (rbodyI b p op).2.at_ ≤ b.length := by
  unfold rbodyI at h ⊢
  rcases takes_cases ⟨op, ho⟩ with h3 | h8 | hu | h0
  · simp only at h3
    rw [if_pos h3] at h ⊢
    simp only at h ⊢
    obtain ⟨k1, k2, k3, k4, k5⟩ := rlistI_inv hb _ _ h
    obtain ⟨j1, j2, j3, j4, j5, j6⟩ := rnumI_inv hb k1
    have hl := rlistI_len (b := b) (rnumI b ⟨p, 0⟩ 1 16).1 (rnumI b ⟨p, 0⟩ 1 16).2
    generalize rnumI b ⟨p, 0⟩ 1 16 = q at *
    generalize rlistI b q.1 q.2 = s at *
    simp only at j4 j5
    refine ⟨trivial, ?_, ⟨ho, by unfold i64P; simp only; omega, fun n hn => ?_⟩, ?_, ?_, k5 j6⟩
    · simp only [checkI]
      rw [if_neg (by simp [hop]), if_neg (by simp [inI, bounds_3 h3]), if_neg (by simp [h3]), if_neg (by omega), if_pos (List.all_eq_true.2 k2)]
    · have := k2 n hn; simp [smallI] at this; unfold i64P; omega
    · simp only [tailI, if_pos h3]; rw [j4, k3, hl, List.append_assoc]
    · simp only [tailI, if_pos h3]; rw [k4, j5, hl, List.length_append, Nat.add_assoc]
  · simp only at h8
    rw [if_neg (by omega), if_pos h8] at h ⊢
    simp only [rsigI] at h ⊢
    obtain ⟨n, q, z, e⟩ : ∃ n q z, ruv b p = (n, q, z) := ⟨_, _, _, rfl⟩
    have hu64 := ruv_u64 b p
    have hle := @ruv_le b p
    rw [e] at h hu64 hle ⊢
    simp only at h hu64 hle ⊢
    split at h
    · exact absurd h (by decide)
    rename_i hno
    subst h
    have hin : inI op (zag n) = true := by
      cases hc : inI op (zag n) with
      | true => rfl
      | false => exact absurd ⟨rfl, hc⟩ hno
    have hi := ruv_inv hb e
    refine ⟨trivial, ?_, ⟨ho, zag_i64 hu64, fun n hn => by simp at hn⟩, ?_, ?_, hle rfl⟩
    · simp only [checkI]
      rw [if_neg (by simp [hop]), if_neg (by simp [hin]), if_pos (by omega)]; rfl
    · simp only [tailI, if_neg (show ¬ takesP op = 3 by omega), if_pos h8, zig_zag]; exact hi.1
    · simp only [tailI, if_neg (show ¬ takesP op = 3 by omega), if_pos h8, zig_zag]; exact hi.2
  · simp only at hu
    have hn := isU_not hu
    rw [if_neg (by omega), if_neg (by omega), if_pos hu] at h ⊢
    simp only at h ⊢
    obtain ⟨j1, j2, j3, j4, j5, j6⟩ := rnumI_inv hb h
    have hbd := bounds_u hu
    generalize rnumI b ⟨p, 0⟩ 0 (boundsI op).2.toNat = q at *
    simp only at j4 j5
    refine ⟨trivial, ?_, ⟨ho, by unfold i64P; simp only; omega, fun n hn => by simp at hn⟩, ?_, ?_, j6⟩
    · simp only [checkI]
      rw [if_neg (by simp [hop]), if_neg (by simp [inI]; omega), if_pos (by omega)]; rfl
    · simp only [tailI, if_neg (show ¬ takesP op = 3 by omega), if_neg (show ¬ takesP op = 8 by omega), if_pos hu, Int.toNat_natCast]; exact j4
    · simp only [tailI, if_neg (show ¬ takesP op = 3 by omega), if_neg (show ¬ takesP op = 8 by omega), if_pos hu, Int.toNat_natCast]; exact j5
  · simp only at h0
    have hnu : ¬ isU (takesP op) = true := by simp [isU]; omega
    rw [if_neg (by omega), if_neg (by omega), if_neg hnu] at h ⊢
    refine ⟨rfl, ?_, ⟨ho, by unfold i64P; simp only; omega, fun n hn => by simp at hn⟩, ?_, ?_, hp⟩
    · simp only [checkI]
      rw [if_neg (by simp [hop]), if_neg (by simp [inI, bounds_0 h0]), if_pos (by omega)]; rfl
    · simp only [tailI, if_neg (show ¬ takesP op = 3 by omega), if_neg (show ¬ takesP op = 8 by omega), if_neg hnu]; rfl
    · simp only [tailI, if_neg (show ¬ takesP op = 3 by omega), if_neg (show ¬ takesP op = 8 by omega), if_neg hnu]; rfl

/-- What is encoded is decoded as itself, whatever stands ahead and behind. -/
theorem decI_encI (x : InsD) (wf : WfIns x) (hc : checkI x = 0) (ahead rest : List Int) : decI (ahead ++ (encI x ++ rest)) ahead.length = (x, ahead.length + (encI x).length, 0) := by
  have he : encI x = (x.op : Int) :: tailI x := by rw [encI, if_pos hc]
  have hop : isOp x.op = true := by
    simp only [checkI] at hc
    split at hc
    · exact absurd hc (by decide)
    · rename_i h; simpa using h
  have hg : (ahead ++ (encI x ++ rest)).getD ahead.length 0 = (x.op : Int) := by rw [he]; simp
  have hd : (ahead ++ (encI x ++ rest)).drop (ahead.length + 1) = tailI x ++ rest := by rw [he, ← List.drop_drop]; simp
  have hb := rbodyI_fwd x wf hc hd
  have hlen : (ahead ++ (encI x ++ rest)).length = ahead.length + (encI x).length + rest.length := by simp [Nat.add_assoc]
  have hpos : 0 < (encI x).length := by rw [he]; simp
  rw [decI, if_neg (by omega), if_neg (by omega), Int.toNat_natCast, hg, Int.toNat_natCast, if_neg (by simp [hop]), hb]
  rw [if_neg (by simp)]
  simp only [he, List.length_cons]
  congr 2
  omega
/-- What is decoded is encoded as the same bytes. -/
theorem decI_inv (hb : Bytes b) {p : Int} (h : (decI b p).2.2 = 0) :
    ∃ q : Nat, p = q ∧ checkI (decI b p).1 = 0 ∧ WfIns (decI b p).1 ∧ q < (decI b p).2.1 ∧ (decI b p).2.1 ≤ b.length ∧ b.drop q = encI (decI b p).1 ++ b.drop (decI b p).2.1 ∧ (decI b p).2.1 = q + (encI (decI b p).1).length := by
  unfold decI at h ⊢
  split at h; · exact absurd h (by decide)
  rename_i h1
  rw [if_neg h1]
  split at h; · exact absurd h (by decide)
  rename_i h2
  rw [if_neg h2]
  split at h; · exact absurd h (by decide)
  rename_i h3
  rw [if_neg h3]
  split at h; · rename_i h4; exact absurd h h4
  rename_i h4
  rw [if_neg h4]
  obtain ⟨q, rfl⟩ := Int.eq_ofNat_of_zero_le (show 0 ≤ p by omega)
  simp only [Int.toNat_natCast] at h3 h4 ⊢
  have hq : q < b.length := by omega
  have hx := hb (b.getD q 0) (by rw [List.getD_eq_getElem?_getD, List.getElem?_eq_getElem hq]; exact List.getElem_mem hq)
  have hdr := drop_at hq
  obtain ⟨c, hc⟩ := Int.eq_ofNat_of_zero_le hx.1
  rw [hc] at h3 h4 hx hdr ⊢
  simp only [Int.toNat_natCast] at h3 h4 ⊢
  have hop : isOp c = true := by simpa using h3
  obtain ⟨k1, k2, k3, k4, k5, k6⟩ := rbodyI_inv hb (p := q + 1) (op := c) (by omega) hop (by omega) (by simpa using h4)
  generalize rbodyI b (q + 1) c = s at *
  have he : encI s.1 = (c : Int) :: tailI s.1 := by rw [encI, if_pos k2, k1]
  refine ⟨q, rfl, k2, k3, by omega, k6, ?_, ?_⟩
  · rw [he, hdr, k4, List.cons_append]
  · rw [he, k5, List.length_cons]; omega
end
end Go.Proofs.YtfhkjahjenpbgaaDoor
