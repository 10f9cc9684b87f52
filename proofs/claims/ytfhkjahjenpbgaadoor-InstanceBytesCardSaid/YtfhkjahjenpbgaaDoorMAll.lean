/- InstanceBytes, plain: the memory that a module begins with; the answers of instance.find and Begin. types.All, types.Zero. types.Zero. instance.pages. InstanceBytes, plain: what is counted. -/
import Derived.Test.YtfhkjahjenpbgaaDoorMAlone
import Derived.Test.YtfhkjahjenpbgaaDoorMSmall
import Derived.Test.YtfhkjahjenpbgaaDoorMHead0
import Derived.Lib.OthersKept
import Derived.Test.YtfhkjahjenpbgaaDoorMMod
import Derived.Test.YtfhkjahjenpbgaaDoorRdV
import Derived.Test.YtfhkjahjenpbgaaDoorMTwice
import Derived.Laws.CopyOwn
import Derived.OwnWalk
namespace Go.Proofs.YtfhkjahjenpbgaaDoor
open Go Go.RowKit

/-- How many of the numbers are not nought. -/
def nzL (l : List Int) : Nat := (l.filter fun x => decide (x ≠ 0)).length
theorem nz_app (l k : List Int) : nzL (l ++ k) = nzL l + nzL k := by simp [nzL]
theorem nz_zero : ∀ (l : List Int), (∀ j, j < l.length → l[j]? = some 0) → nzL l = 0
  | [], _ => rfl
  | x :: l, h => by
    have h0 := h 0 (by simp)
    simp only [List.getElem?_cons_zero, Option.some.injEq] at h0
    subst h0
    have := nz_zero l fun j hj => by have := h (j + 1) (by simp; omega); simpa using this
    simpa [nzL] using this
theorem nz_snoc {l : List Int} {k : Nat} (h : k < l.length) : nzL (l.take (k + 1)) = nzL (l.take k) + (if l[k] ≠ 0 then 1 else 0) := by
  rw [List.take_succ_eq_append_getElem h, nz_app]
  by_cases e : l[k] = 0
  · simp [nzL, e]
  · simp [nzL, e]
/-- Data laid into a memory. -/
def layD (l : List Int) (d : DatD) : List Int := l.take d.at_.toNat ++ (d.b ++ l.drop (d.at_.toNat + d.b.length))
theorem lay_len {l : List Int} {d : DatD} (h : d.at_.toNat + d.b.length ≤ l.length) : (layD l d).length = l.length := by
  simp [layD]; omega
theorem lay_get {l : List Int} {d : DatD} (h : d.at_.toNat + d.b.length ≤ l.length) (j : Nat) : (layD l d)[j]? = if j < d.at_.toNat then l[j]? else if j < d.at_.toNat + d.b.length then d.b[j - d.at_.toNat]? else l[j]? := by
  unfold layD
  have hl : (l.take d.at_.toNat).length = d.at_.toNat := by simp; omega
  by_cases c1 : j < d.at_.toNat
  · rw [if_pos c1, List.getElem?_append_left (by omega), List.getElem?_take_of_lt c1]
  · rw [if_neg c1, List.getElem?_append_right (by omega), hl]
    by_cases c2 : j < d.at_.toNat + d.b.length
    · rw [if_pos c2, List.getElem?_append_left (by omega)]
    · rw [if_neg c2, List.getElem?_append_right (by omega), List.getElem?_drop]
      congr 1; omega
/-- The memory behind the first k data. -/
def memK (room : Nat) (ds : List DatD) (k : Nat) : List Int := (ds.take k).foldl layD (List.replicate room 0)
theorem mem_next {room : Nat} {ds : List DatD} {k : Nat} (h : k < ds.length) : memK room ds (k + 1) = layD (memK room ds k) ds[k] := by
  unfold memK
  rw [List.take_succ_eq_append_getElem h, List.foldl_append]
  rfl
theorem okL_get {α : Type} {ok : List α → α → Prop} : ∀ (l acc : List α), okL ok acc l → ∀ k (h : k < l.length), ok (acc ++ l.take k) l[k]
  | [], _, _, k, h => absurd h (by simp)
  | x :: l, acc, ho, 0, _ => by simpa using ho.1
  | x :: l, acc, ho, k + 1, h => by
    have := okL_get l (acc ++ [x]) ho.2 k (by simpa using h)
    simpa using this
/-- Data that may be. -/
structure GdD (room : Nat) (ds : List DatD) : Prop where
  pos : ∀ k (h : k < ds.length), 0 ≤ ds[k].at_ ∧ ds[k].at_.toNat + ds[k].b.length ≤ room
  asc : ∀ k (h : k < ds.length), behindD (ds.take k) < ds[k].at_
  ne : ∀ k (h : k < ds.length), ds[k].b.length ≠ 0
theorem gdD_of {m : ModD} (h : (encM m).2 = 0) : GdD (m.first * 4096).toNat m.datas := by
  have hp := (enc_good h).2.1
  unfold partsM at hp
  simp only [thenE_0, errMany_0] at hp
  obtain ⟨h1, h2, h3, h4, h5, h6, h7, h8⟩ := hp
  have key : ∀ k (h : k < m.datas.length), errD (m.first * 4096).toNat (m.datas.take k) m.datas[k] = 0 := fun k hk => by
    have := okL_get _ _ h7.2 k hk
    simpa using this
  refine ⟨fun k hk => ?_, fun k hk => ?_, fun k hk => ?_⟩
  · have := key k hk
    unfold errD at this
    split at this
    · exact absurd this (by decide)
    split at this
    · exact absurd this (by decide)
    split at this
    · exact absurd this (by decide)
    · omega
  · have := key k hk
    unfold errD at this
    split at this
    · exact absurd this (by decide)
    split at this
    · exact absurd this (by decide)
    · omega
  · have := key k hk
    unfold errD at this
    split at this
    · exact absurd this (by decide)
    split at this
    · exact absurd this (by decide)
    split at this
    · exact absurd this (by decide)
    split at this
    · exact absurd this (by decide)
    · assumption
/-- What is known of the memory behind the first k data. -/
structure MemI (room : Nat) (ds : List DatD) (k : Nat) : Prop where
  len : (memK room ds k).length = room
  zero : ∀ j : Nat, behindD (ds.take k) ≤ j → j < room → (memK room ds k)[j]? = some 0
  get : ∀ i (h : i < ds.length), i < k → ∀ t, t < ds[i].b.length → (memK room ds k)[ds[i].at_.toNat + t]? = ds[i].b[t]?
  low : ∀ i (h : i < ds.length), i < k → ds[i].at_ + ds[i].b.length ≤ behindD (ds.take k)
  nz : nzL (memK room ds k) = ((ds.take k).map fun d => nzL d.b).sum
theorem memI {room : Nat} {ds : List DatD} (g : GdD room ds) : ∀ k, k ≤ ds.length → MemI room ds k
  | 0, _ => by
    refine ⟨by simp [memK], fun j _ hj => by simp [memK, hj], fun i _ h => absurd h (by omega), fun i _ h => absurd h (by omega), ?_⟩
    show nzL (List.replicate room 0) = 0
    exact nz_zero _ fun j hj => by simp at hj; simp [hj]
  | k + 1, hk => by
    have ih := memI g k (by omega)
    have hk' : k < ds.length := by omega
    obtain ⟨p1, p2⟩ := g.pos k hk'
    have hasc := g.asc k hk'
    have hb := behindD_take hk'
    have hfit : ds[k].at_.toNat + ds[k].b.length ≤ (memK room ds k).length := by rw [ih.len]; exact p2
    refine ⟨?_, fun j h1 h2 => ?_, fun i hi h1 t ht => ?_, fun i hi h1 => ?_, ?_⟩
    · rw [mem_next hk', lay_len hfit, ih.len]
    · rw [mem_next hk', lay_get hfit, if_neg (by omega), if_neg (by omega)]
      exact ih.zero j (by omega) h2
    · rw [mem_next hk', lay_get hfit]
      by_cases e : i = k
      · subst e
        rw [if_neg (by omega), if_pos (by omega)]
        congr 1; omega
      · have := ih.low i hi (by omega)
        have := (g.pos i hi).1
        rw [if_pos (by omega)]
        exact ih.get i hi (by omega) t ht
    · by_cases e : i = k
      · subst e; omega
      · have := ih.low i hi (by omega)
        omega
    · rw [mem_next hk', List.take_succ_eq_append_getElem hk', List.map_append, List.sum_append, ← ih.nz]
      have hz : ∀ n, ds[k].at_.toNat ≤ n → nzL ((memK room ds k).drop n) = 0 := fun n hn => nz_zero _ fun j hj => by
        rw [List.getElem?_drop]
        simp only [List.length_drop] at hj
        exact ih.zero _ (by omega) (by rw [ih.len] at hj; omega)
      have e1 : nzL (memK room ds k) = nzL ((memK room ds k).take ds[k].at_.toNat) := by
        conv => lhs; rw [← List.take_append_drop ds[k].at_.toNat (memK room ds k)]
        rw [nz_app, hz _ (Nat.le_refl _)]; rfl
      unfold layD
      rw [nz_app, nz_app, hz _ (by omega), e1]
      simp
/-- The whole memory. -/
def memM (m : ModD) : List Int := memK (m.first * 4096).toNat m.datas m.datas.length
theorem mem_good {m : ModD} (h : (encM m).2 = 0) : MemI (m.first * 4096).toNat m.datas m.datas.length := memI (gdD_of h) _ (Nat.le_refl _)
theorem mem_nz {m : ModD} (h : (encM m).2 = 0) : nzL (memM m) = (m.datas.map fun d => nzL d.b).sum := by
  have := (mem_good h).nz
  rw [List.take_length] at this
  exact this
def pickM (o : Option ExpD) : Int × Int := match o with
  | some x => (x.f, 0)
  | none => (0, 41)
/-- instance.find: the function, the error. -/
def findM (m : ModD) (name : ByteArray) : Int × Int :=
  if (valM m).2.1 ≠ 0 then (0, (valM m).2.1) else pickM (m.exps.find? fun x => x.name = name)
/-- types.All. -/
def fitsT (v : Int) (c : UInt8) : Bool := c.toNat == 108 || (c.toNat == 119 && decide (v < 4294967296))
def allF (vs : List Int) (s : ByteArray) (pos : Nat) : Bool := (List.range' pos (s.size - pos)).all fun i => letB (s.data.toList.getD i 0) && fitsT (vs.getD i 0) (s.data.toList.getD i 0)
theorem allF_step {vs : List Int} {s : ByteArray} {pos : Nat} (h : pos < s.size) : allF vs s pos = ((letB s[pos] && fitsT (vs.getD pos 0) s[pos]) && allF vs s (pos + 1)) := by
  unfold allF
  have e : s.data.toList.getD pos 0 = s[pos] := by
    rw [List.getD_eq_getElem?_getD, List.getElem?_eq_getElem (by simpa using h)]; rfl
  rw [show s.size - pos = (s.size - (pos + 1)) + 1 by omega, List.range'_succ, List.all_cons, e]
theorem allF_end {vs : List Int} {s : ByteArray} {pos : Nat} (h : ¬ pos < s.size) : allF vs s pos = true := by
  unfold allF
  rw [show s.size - pos = 0 by omega]; rfl
def allT (vs : List Int) (s : ByteArray) : Bool := decide (vs.length = s.size) && allF vs s 0
end Go.Proofs.YtfhkjahjenpbgaaDoor
namespace Go.Proofs.YtfhkjahjenpbgaaDoor
open Go Go.RowKit
set_option linter.unusedSimpArgs false

theorem types_All1 (w : World) (vb : Nat) (S : Nat → Prop) (v : Value) (vs : List Int) (hv : w.cell? ⟨vb, 0, none⟩ = some v) (hr : RdI .u64 S w v vs) (i c : Nat) (hi : i < vs.length) (x : Nat) (hx : vs[i] = x) :
    Calls Tryd.prog 17 #[.int .i64 i, .int .u8 c, .pointer (some ⟨vb, 0, none⟩)] w fun r w' => r = .returned (.bool (c == 108 || (c == 119 && decide (x < 4294967296)))) ∧ w' = w := by
  obtain ⟨a, cap, rfl, h1, h2, h3⟩ := hr
  obtain ⟨b, off, rfl, -, hc⟩ := h3 i hi
  rw [hx] at hc
  clear hx h3
  go_enter Tryd.func17, Tryd.ntmps17
  go_wp2_with (go_at_call 18; (with_reducible refine (types_Fits _ x c).mono ?_); rintro r w1 ⟨rfl, rfl⟩)
  go_ret
  exact ⟨rfl, rfl⟩
set_option maxRecDepth 100000 in
set_option maxHeartbeats 1600000 in
theorem each_all (w : World) (s : ByteArray) (hs : s.size ≤ 140737488355328) (vb : Nat) (S : Nat → Prop) (v : Value) (vs : List Int) (hv : w.cell? ⟨vb, 0, none⟩ = some v) (hr : RdI .u64 S w v vs) (hl : vs.length = s.size) (h0 : ∀ x ∈ vs, 0 ≤ x) :
    Calls Tryd.prog 16 #[.string s, .func (.func 17) #[] #[.pointer (some ⟨vb, 0, none⟩)]] w fun r w' => r = .returned (.bool (allF vs s 0)) ∧ Below w.heap.size w w' := by
  have HV := Lib.hid hv; have HR := Lib.hid hr; have HVL := Lib.hid hl; have HN := Lib.hid h0
  clear hv hr hl h0
  go_enter Tryd.func16, Tryd.ntmps16
  go_wp2
  go_loopw [6] (fun _ wr => ∃ pos : Nat, pos ≤ s.size ∧ wr = w.iter s pos ∧ Hid (allF vs s pos = allF vs s 0)) (fun _ wr => s.size - wr.iterPos w.heap.size)
  case atStart => exact ⟨0, by omega, rfl, rfl⟩
  case round =>
    obtain ⟨pos, hp, rfl, HL⟩ := hrel
    have hb : Below w.heap.size w (w.iter s pos) := below_alloc w _
    have hb' : Below w.heap.size w (w.iter s (pos + 1)) := below_alloc w _
    by_cases hlt : pos < s.size
    · have hst := Lib.hid (allF_step (vs := vs) hlt)
      by_cases ha : (s[pos]'hlt).toNat < 128
      · have hnx : ∀ ty, (Instr.next (.pointer (some ⟨w.heap.size, 0, none⟩)) true ty).run Tryd.prog (w.iter s pos) = _ := fun ty => run_next_ascii w s pos ty hlt ha
        have HB := Lib.hid (letB_nat s[pos])
        have HFT : Hid (fitsT (vs.getD pos 0) s[pos] = (s[pos].toNat == 108 || (s[pos].toNat == 119 && decide (vs.getD pos 0 < 4294967296)))) := Lib.hid rfl
        obtain ⟨c, hc⟩ : ∃ c : Nat, (s[pos]'hlt).toNat = c := ⟨_, rfl⟩
        have hpv : pos < vs.length := by rw [HVL.out]; exact hlt
        obtain ⟨x, hx⟩ : ∃ x : Nat, vs[pos] = x := ⟨vs[pos].toNat, by have := HN.out _ (List.getElem_mem hpv); omega⟩
        have hxd : vs.getD pos 0 = x := by rw [List.getD_eq_getElem?_getD, List.getElem?_eq_getElem hpv]; exact hx
        have HA1 := Lib.hid (types_All1 (w.iter s (pos + 1)) vb S v vs (cell_below hb' HV.out) (HR.out.keeps (Keeps.all _ hb')) pos c hpv x hx)
        rw [hc] at hnx ha
        have HC := Lib.hid hc
        have HXD := Lib.hid hxd
        clear hc hx hxd hpv
        cases hcl : (c == 119 || c == 108) with
        | true =>
          have HCL := Lib.hid hcl
          clear hcl
          have hge : decide (128 ≤ (c : Int)) = false := decide_eq_false (by omega)
          cases hfl : (c == 108 || (c == 119 && decide (x < 4294967296))) with
          | true =>
            have HFL := Lib.hid hfl
            clear hfl
            go_wp2_with (first
              | (go_at_call 22; (with_reducible refine (types_Letter _ c).mono ?_); rw [HCL.out]; rintro r w1 ⟨rfl, rfl⟩)
              | (go_at_call 17; (with_reducible refine HA1.out.mono ?_); rw [HFL.out]; rintro r w1 ⟨rfl, rfl⟩))
            go_roundw
            case rel =>
              refine ⟨pos + 1, hlt, rfl, ?_⟩
              have h1 := hst.out; have h2 := HL.out; have h3 := HB.out; have h4 := HFT.out
              rw [HC.out, HCL.out] at h3
              rw [HC.out, HXD.out] at h4
              have h5 : (c == 108 || (c == 119 && decide ((x : Int) < 4294967296))) = true := by
                rw [show decide ((x : Int) < 4294967296) = decide (x < 4294967296) by rw [decide_eq_decide]; omega]; exact HFL.out
              rw [h3, HXD.out, h4, h5, Bool.true_and, Bool.true_and] at h1
              exact h1.symm.trans h2
            case measure => simp; omega
          | false =>
            have HFL := Lib.hid hfl
            clear hfl
            go_wp2_with (first
              | (go_at_call 22; (with_reducible refine (types_Letter _ c).mono ?_); rw [HCL.out]; rintro r w1 ⟨rfl, rfl⟩)
              | (go_at_call 17; (with_reducible refine HA1.out.mono ?_); rw [HFL.out]; rintro r w1 ⟨rfl, rfl⟩))
            go_ret
            have h1 := hst.out; have h2 := HL.out; have h4 := HFT.out
            rw [HC.out, HXD.out] at h4
            have h5 : (c == 108 || (c == 119 && decide ((x : Int) < 4294967296))) = false := by
              rw [show decide ((x : Int) < 4294967296) = decide (x < 4294967296) by rw [decide_eq_decide]; omega]; exact HFL.out
            rw [HXD.out, h4, h5, Bool.and_false, Bool.false_and] at h1
            exact ⟨ret_bool (a := false) (h1.symm.trans h2), hb'⟩
        | false =>
          have HCL := Lib.hid hcl
          clear hcl
          go_wp2_with (first
            | (go_at_call 22; (with_reducible refine (types_Letter _ c).mono ?_); rw [HCL.out]; rintro r w1 ⟨rfl, rfl⟩)
            | (go_at_call 17; (with_reducible refine HA1.out.mono ?_); rintro r w1 ⟨rfl, rfl⟩))
          go_ret
          have h1 := hst.out; have h2 := HL.out; have h3 := HB.out
          rw [HC.out, HCL.out] at h3
          rw [h3, Bool.false_and, Bool.false_and] at h1
          exact ⟨ret_bool (a := false) (h1.symm.trans h2), hb'⟩
      · have hnx : ∀ ty, (Instr.next (.pointer (some ⟨w.heap.size, 0, none⟩)) true ty).run Tryd.prog (w.iter s pos) = _ := fun ty => run_next_any w s pos ty hlt
        have hd := (decode_high s pos hlt (by omega)).1
        have HB := Lib.hid (letB_nat s[pos])
        have ha' := Lib.hid ha
        clear ha
        obtain ⟨c, hc⟩ : ∃ c : Nat, (Utf8.decode s pos).1 = c := ⟨_, rfl⟩
        obtain ⟨q, hq⟩ : ∃ q : Nat, (Utf8.decode s pos).2 = q := ⟨_, rfl⟩
        rw [hc, hq] at hnx
        rw [hc] at hd
        clear hc hq
        have hb2 : Below w.heap.size w (w.iter s (pos + q)) := below_alloc w _
        go_wp2_with fail
        go_ret
        have h1 := hst.out; have h2 := HL.out; have h3 := HB.out
        have h4 : (s[pos].toNat == 119 || s[pos].toNat == 108) = false := by
          have := ha'.out
          simp; omega
        rw [h4] at h3
        rw [h3, Bool.false_and, Bool.false_and] at h1
        exact ⟨ret_bool (a := false) (h1.symm.trans h2), hb2⟩
    · have hnx : ∀ ty, (Instr.next (.pointer (some ⟨w.heap.size, 0, none⟩)) true ty).run Tryd.prog (w.iter s pos) = _ := fun ty => run_next_end w s pos ty hlt
      have HE := Lib.hid (allF_end (vs := vs) hlt)
      go_wp2
      go_ret
      exact ⟨ret_bool (a := true) (HE.out.symm.trans HL.out), hb⟩
set_option maxHeartbeats 800000 in
theorem types_All (w : World) (s : ByteArray) (hs : s.size ≤ 140737488355328) (S : Nat → Prop) (v : Value) (vs : List Int) (hr : RdI .u64 S w v vs) (h0 : ∀ x ∈ vs, 0 ≤ x) :
    Calls Tryd.prog 12 #[v, .string s] w fun r w' => r = .returned (.bool (allT vs s)) ∧ Below w.heap.size w w' := by
  have HR := Lib.hid hr; have HN := Lib.hid h0
  obtain ⟨a, cap, rfl, hl⟩ := hr.lenc
  clear hr h0
  have hba := below_alloc w (.cells #[.slice a vs.length cap] 30)
  have hbr := heap_alloc_new w (.cells #[.slice a vs.length cap] 30)
  have y0 := row_cell hbr 0 rfl
  simp only [List.getElem_toArray, List.getElem_cons_zero, List.getElem_cons_succ] at y0
  have HB := Lib.hid hba
  by_cases hlen : vs.length = s.size
  · have HLN := Lib.hid hlen
    have d : ((vs.length : Int) == (s.size : Int)) = true := by simp [hlen]
    have HE := Lib.hid (each_all (w.alloc (.cells #[.slice a vs.length cap] 30)) s hs w.heap.size S _ vs y0 (HR.out.keeps (Keeps.all _ hba)) hlen HN.out)
    clear hlen hba hbr
    go_enter Tryd.func12, Tryd.ntmps12
    go_wp2_with fail
    refine HE.out.mono ?_
    rintro r w1 ⟨rfl, hb1⟩
    go_wp2
    go_ret
    exact ⟨ret_bool (by unfold allT; rw [decide_eq_true HLN.out, Bool.true_and]), below_next HB.out hb1⟩
  · have HLN := Lib.hid hlen
    have d : ((vs.length : Int) == (s.size : Int)) = false := by simp; omega
    clear hlen hba hbr
    go_enter Tryd.func12, Tryd.ntmps12
    go_wp2
    go_ret
    exact ⟨ret_bool (by unfold allT; rw [decide_eq_false HLN.out, Bool.false_and]), HB.out⟩
end Go.Proofs.YtfhkjahjenpbgaaDoor
namespace Go.Proofs.YtfhkjahjenpbgaaDoor
open Go Go.RowKit
set_option linter.unusedSimpArgs false

theorem Tryd.infoU64Z : (Tryd.prog.info? 46).map (fun i => (i.zero, i.size, i.bytes)) = some (some (.int .u64 0), 1, 8) := by kernel_rfl
abbrev zer (n : Nat) : List Value := List.replicate n (.int .u64 0)
theorem zcell_new (w : World) (x : Value) (t : TypeId) : ∀ j u, [x][j]? = some u → (w.alloc (.cells #[x] t)).cell? ((⟨w.heap.size, 0, none⟩ : Addr).add j) = some u := by
  intro j u hu
  have hj : j = 0 := by have := (List.getElem?_eq_some_iff.1 hu).1; simp at this; omega
  subst hj
  simp at hu
  subst hu
  show (w.alloc (.cells #[x] t)).cell? (⟨w.heap.size, 0, none⟩ : Addr) = _
  rw [cell_of_row _ _ 0 _ _ _ (heap_alloc_new _ _)]
  simp
/-- The closure of types.Zero: one more nought. -/
theorem types_Zero1 (w : World) (lb B k : Nat) (v : Value) (hv : w.heap[lb]? = some (.cells #[v] 30 (0, 0))) (ho : w.ownsRow B 46 1 v k (zer k)) (hB : lb < B) (hBw : B ≤ w.heap.size) (hk : k ≤ 1048576) (i c : Int) :
    Calls Tryd.prog 19 #[.int .i64 i, .int .u8 c, .pointer (some ⟨lb, 0, none⟩)] w fun r w' => r = .returned (.bool true) ∧ ∃ v', w'.heap[lb]? = some (.cells #[v'] 30 (0, 0)) ∧ w'.ownsRow B 46 1 v' (k + 1) (zer (k + 1)) ∧ Keeps (fun b => b ≠ lb ∧ v.ownBlock ≠ some b) w w' := by
  obtain ⟨i0, hi, hz0, hz1, hz2⟩ := info_parts Tryd.infoU64Z
  obtain ⟨a, cap, rfl, -⟩ := own_slice ho
  have hlt := row_lt hv
  have y0 := row_cell hv 0 rfl; have f0 := row_free hv 0
  simp only [List.getElem_toArray, List.getElem_cons_zero] at y0
  have hba := below_alloc w (.cells #[.int .u64 0] 46)
  have HOA := Lib.hid (own_below ho hba)
  have HV := Lib.hid ((hba.block _ hlt).trans hv)
  have HBA := Lib.hid hba
  have hB6 : B ≤ (w.alloc (.cells #[.int .u64 0] 46)).heap.size := by have := hba.size; omega
  clear hv ho hba
  go_enter Tryd.func19, Tryd.ntmps19
  go_wp2_with (at_builtin; refine wpList_append_kept _ rfl _ _ 30 rfl B 46 i0 (.int .u64 0) 1 8 Tryd.underlying30 hi hz0 hz1 hz2 rfl (by decide) _ k (zer k) rfl HOA.out ⟨w.heap.size, 0, none⟩ 1 1 [.int .u64 0] rfl rfl (zcell_new _ _ _) (by simp [Value.oneCell']) (by unfold maxLen; omega) (by omega) hB6 ?_)
  intro v' w7 ho7 hk7 hf7
  have hne : (Value.slice a k cap).ownBlock ≠ some lb := fun e => by have := (HOA.out.lt lb e).1; omega
  have hk1 : Keeps (fun b => (Value.slice a k cap).ownBlock ≠ some b) w w7 := (Keeps.all _ HBA.out).trans ((Keeps.refl _ _).grown hk7.grown fun k hk' _ h' => h' hk')
  have hr7 : w7.heap[lb]? = some (.cells #[.slice a k cap] 30 (0, 0)) := (hk7.grown.block lb (row_lt HV.out) (fun e => hne e.symm)).trans HV.out
  have x0 := row_cell hr7 0 rfl; have xf := row_free hr7 0
  simp only [List.getElem_toArray, List.getElem_cons_zero] at x0
  obtain ⟨a', cap', rfl, -⟩ := own_slice ho7
  have HO7 := Lib.hid ho7; have HR7 := Lib.hid hr7; have HK1 := Lib.hid hk1
  clear ho7 hk7 hf7 hr7 hk1 y0 f0
  go_wp2
  go_ret
  refine ⟨rfl, .slice a' (k + 1) cap', ?_, ?_, ?_⟩
  · have := row_setCell HR7.out 0 (.slice a' (k + 1) cap')
    simpa using this
  · have h1 : (zer k ++ [Value.int .u64 0]) = zer (k + 1) := by rw [zer, zer, List.replicate_succ']
    rw [← h1]
    refine own_keeps (S := fun b => b ≠ lb) HO7.out ((Keeps.refl _ w7).setCell (a := ⟨lb, 0, none⟩) (by simp) _) fun b hb e => ?_
    subst e
    have := (HO7.out.lt b hb).1; omega
  · exact (HK1.out.mono fun b _ hb => hb.2).trans ((Keeps.refl _ w7).setCell (a := ⟨lb, 0, none⟩) (by simp) _)
theorem iterPos_ofZ {w : World} {k : Nat} {s : ByteArray} {p : Nat} (h : w.heap[k]? = some (.stringIter s p)) : w.iterPos k = p := by simp [World.iterPos, h]
set_option maxRecDepth 100000 in
set_option maxHeartbeats 3200000 in
theorem each_zero (w : World) (s : ByteArray) (hs : s.size ≤ 1000000) (lb : Nat) (hv : w.heap[lb]? = some (.cells #[.slice none 0 0] 30 (0, 0))) (hall : letsFrom s 0 = true) :
    Calls Tryd.prog 16 #[.string s, .func (.func 19) #[] #[.pointer (some ⟨lb, 0, none⟩)]] w fun r w' => r = .returned (.bool true) ∧ ∃ v, w'.heap[lb]? = some (.cells #[v] 30 (0, 0)) ∧ w'.ownsRow w.heap.size 46 1 v s.size (zer s.size) ∧ Keeps (fun b => b ≠ lb) w w' := by
  have hlb := row_lt hv
  have HALL := Lib.hid hall
  have HV := Lib.hid hv
  clear hv hall
  go_enter Tryd.func16, Tryd.ntmps16
  go_wp2
  go_loopw [6] (fun _ wr => ∃ (pos : Nat) (v : Value), pos ≤ s.size ∧ Hid (wr.heap[w.heap.size]? = some (.stringIter s pos)) ∧ Hid (wr.heap[lb]? = some (.cells #[v] 30 (0, 0))) ∧ Hid (wr.ownsRow (w.heap.size + 1) 46 1 v pos (zer pos)) ∧ Hid (Keeps (fun b => b ≠ lb) w wr) ∧ w.heap.size + 1 ≤ wr.heap.size ∧ Hid (letsFrom s pos = true)) (fun _ wr => s.size - wr.iterPos w.heap.size)
  case atStart =>
    refine ⟨0, .slice none 0 0, by omega, Lib.hid (World.iter_heap w s 0), Lib.hid ?_, Lib.hid (World.ownsRow_nil _ _ _ _), Lib.hid (Keeps.all _ (below_alloc w _)), ?_, HALL⟩
    · exact ((below_alloc w (.stringIter s 0)).block _ hlb).trans HV.out
    · show w.heap.size + 1 ≤ (w.alloc _).heap.size
      rw [World.size_alloc]; exact Nat.le_refl _
  case round =>
    obtain ⟨pos, v, hp, HIT, HRW, HO, HK, hsz, HL⟩ := hrel
    have hpos0 := Lib.hid (iterPos_ofZ HIT.out)
    by_cases hlt : pos < s.size
    · have hnx : ∀ ty, (Instr.next (.pointer (some ⟨w.heap.size, 0, none⟩)) true ty).run Tryd.prog wr = _ := fun ty => Lib.run_next_any_at wr w.heap.size s pos ty HIT.out hlt
      have hst := letsFrom_step hlt
      rw [HL.out] at hst
      have hl1 : letB s[pos] = true ∧ letsFrom s (pos + 1) = true := by
        cases h1 : letB s[pos] <;> cases h2 : letsFrom s (pos + 1) <;> simp [h1, h2] at hst ⊢
      have hlet := hl1.1
      rw [letB_nat] at hlet
      have hasc : (s[pos]'hlt).toNat < 128 := by
        simp at hlet; omega
      have hdec := decode_ascii s pos hlt hasc
      rw [hdec] at hnx
      simp only at hnx
      have HIT2 := Lib.hid (Lib.iterAt_heap wr w.heap.size s pos (pos + 1) HIT.out)
      have hoth : ∀ j, j ≠ w.heap.size → (wr.iterAt w.heap.size s (pos + 1)).heap[j]? = wr.heap[j]? := fun j hj => Lib.iterAt_other wr w.heap.size j s (pos + 1) hj
      have hbi := Lib.below_iterAt (Below.refl w.heap.size wr) (k := w.heap.size) (Nat.le_refl _) s (pos + 1)
      have hki : Keeps (fun b => b ≠ w.heap.size) wr (wr.iterAt w.heap.size s (pos + 1)) := ⟨hbi.os, hbi.tape, hbi.output, hbi.size, fun b _ hb => hoth b hb⟩
      have hsz2 := Lib.iterAt_size wr w.heap.size s (pos + 1)
      obtain ⟨c, hc⟩ : ∃ c : Nat, (s[pos]'hlt).toNat = c := ⟨_, rfl⟩
      rw [hc] at hnx hasc hlet
      have HRW2 := Lib.hid ((hoth lb (by omega)).trans HRW.out)
      have HO2 := Lib.hid (own_keeps HO.out hki (fun b hb e => by have := (HO.out.lt b hb).1; omega))
      have HK2 : Hid (Keeps (fun b => b ≠ lb) w (wr.iterAt w.heap.size s (pos + 1))) := Lib.hid ⟨HK.out.os.symm ▸ hbi.os.trans HK.out.os |> fun h => h, hbi.tape.trans HK.out.tape, hbi.output.trans HK.out.output, Nat.le_trans HK.out.size hbi.size, fun b hb hb' => (hoth b (by omega)).trans (HK.out.block b hb hb')⟩
      have HN := Lib.hid hl1.2
      generalize wr.iterAt w.heap.size s (pos + 1) = W1 at *
      have hszW : w.heap.size + 1 ≤ W1.heap.size := by omega
      have HZ := Lib.hid (types_Zero1 W1 lb (w.heap.size + 1) pos v HRW2.out HO2.out (by omega) hszW (by omega) pos c)
      have HLT := Lib.hid hlet
      have hge : decide (128 ≤ (c : Int)) = false := decide_eq_false (by omega)
      clear hst hl1 hlet hdec hoth hbi hki hsz2 hc
      go_wp2_with (first
        | (go_at_call 22; (with_reducible refine (types_Letter _ c).mono ?_); rw [HLT.out]; rintro r w1 ⟨rfl, rfl⟩)
        | (go_at_call 19; (with_reducible refine HZ.out.mono ?_); rintro r w1 ⟨rfl, v', hr1, ho1, hk1⟩))
      have hit3 := (hk1.block _ (row_lt HIT2.out) ⟨by omega, fun e => by have := (HO2.out.lt _ e).1; omega⟩).trans HIT2.out
      have hk3 : Keeps (fun b => b ≠ lb) w w1 := ⟨hk1.os.trans HK2.out.os, hk1.tape.trans HK2.out.tape, hk1.output.trans HK2.out.output, Nat.le_trans HK2.out.size hk1.size, fun b hb hb' => (hk1.block b (by have := HK2.out.size; omega) ⟨hb', fun e => by have := (HO2.out.lt b e).1; omega⟩).trans (HK2.out.block b hb hb')⟩
      have hs3 : w.heap.size + 1 ≤ w1.heap.size := Nat.le_trans hszW hk1.size
      have HR3 := Lib.hid (And.intro hit3 (And.intro hr1 (And.intro ho1 hk3)))
      clear hit3 hr1 ho1 hk1 hk3
      go_roundw
      case rel => exact ⟨pos + 1, v', hlt, Lib.hid HR3.out.1, Lib.hid HR3.out.2.1, Lib.hid HR3.out.2.2.1, Lib.hid HR3.out.2.2.2, hs3, HN⟩
      case measure => rw [iterPos_ofZ HR3.out.1, hpos0.out]; omega
    · have hps : pos = s.size := by omega
      subst hps
      have hnx : ∀ ty, (Instr.next (.pointer (some ⟨w.heap.size, 0, none⟩)) true ty).run Tryd.prog wr = .ok (.tuple #[.bool false]) wr := fun ty => by
        have h := HIT.out
        simp [Instr.next, getObj, Sem.run, h]
      go_wp2
      go_ret
      exact ⟨rfl, v, HRW.out, own_base HO.out (by omega), HK.out⟩
set_option maxHeartbeats 800000 in
theorem types_Zero (w : World) (s : ByteArray) (hs : s.size ≤ 1000000) (hall : letsFrom s 0 = true) :
    Calls Tryd.prog 13 #[.string s] w fun r w' => ∃ v, r = .returned v ∧ w'.ownsRow w.heap.size 46 1 v s.size (zer s.size) ∧ Below w.heap.size w w' := by
  have hba := below_alloc w (.cells #[.slice none 0 0] 30)
  have HB := Lib.hid hba
  have HE := Lib.hid (each_zero (w.alloc (.cells #[.slice none 0 0] 30)) s hs w.heap.size (heap_alloc_new w _) hall)
  clear hba
  go_enter Tryd.func13, Tryd.ntmps13
  go_wp2_with fail
  refine HE.out.mono ?_
  rintro r w1 ⟨rfl, v, hr1, ho1, hk1⟩
  have y0 := row_cell hr1 0 rfl
  simp only [List.getElem_toArray, List.getElem_cons_zero] at y0
  have HO := Lib.hid ho1
  have HBW : Hid (Below w.heap.size w w1) := Lib.hid ⟨hk1.os.trans HB.out.os, hk1.tape.trans HB.out.tape, hk1.output.trans HB.out.output, Nat.le_trans HB.out.size hk1.size, fun b hb => (hk1.block b (by have := HB.out.size; omega) (by omega)).trans (HB.out.block b hb)⟩
  clear hr1 ho1 hk1
  go_wp2
  go_ret
  exact ⟨v, rfl, own_base HO.out (by rw [World.size_alloc]; omega), HBW.out⟩
end Go.Proofs.YtfhkjahjenpbgaaDoor
namespace Go.Proofs.YtfhkjahjenpbgaaDoor
open Go Go.RowKit
set_option linter.unusedSimpArgs false

theorem Tryd.infoU8P : (Tryd.prog.info? 5).map (fun i => (i.zero, i.size, i.bytes)) = some (some (.int .u8 0), 1, 1) := by kernel_rfl
theorem Tryd.infoU8L : (Tryd.prog.info? 41).map (fun i => (i.zero, i.size, i.bytes)) = some (some (.slice none 0 0), 1, 24) := by kernel_rfl
theorem first_le {m : ModD} (h : (encM m).2 = 0) : 0 ≤ m.first ∧ m.first ≤ 64 := by
  have hp := (enc_good h).2.1
  unfold partsM at hp
  simp only [thenE_0, errMany_0] at hp
  obtain ⟨h1, h2, h3, h4, h5, h6, h7, h8⟩ := hp
  have := h4
  unfold errFirst at this
  split at this
  · exact absurd this (by decide)
  · omega
/-- The pages, as slices of one block. -/
def pgV (ab n : Nat) : List Value := (List.range n).map fun i => .slice (some ⟨ab, i * 4096, none⟩) 4096 4096
theorem pgV_len (ab n : Nat) : (pgV ab n).length = n := by simp [pgV]
theorem pgV_next (ab n : Nat) : pgV ab (n + 1) = pgV ab n ++ [.slice (some ⟨ab, n * 4096, none⟩) 4096 4096] := by
  simp [pgV, List.range_succ]
theorem zeros_u8 (n : Nat) : (madeCells #[Value.int .u8 0] n).toList = (List.replicate n (0 : Int)).map (Value.int .u8) := by
  rw [toList_madeCells_one]
  simp
theorem splice_lay (l : List Int) (d : DatD) (a : Nat) (h : d.at_ = a) : splice (l.map (Value.int .u8)) a (d.b.map (Value.int .u8)) = (layD l d).map (Value.int .u8) := by
  simp [splice, layD, h, List.map_take, List.map_drop]
theorem pcell_new (w : World) (x : Value) (t : TypeId) : ∀ j u, [x][j]? = some u → (w.alloc (.cells #[x] t)).cell? ((⟨w.heap.size, 0, none⟩ : Addr).add j) = some u := by
  intro j u hu
  have hj : j = 0 := by have := (List.getElem?_eq_some_iff.1 hu).1; simp at this; omega
  subst hj
  simp at hu
  subst hu
  show (w.alloc (.cells #[x] t)).cell? (⟨w.heap.size, 0, none⟩ : Addr) = _
  rw [cell_of_row _ _ 0 _ _ _ (heap_alloc_new _ _)]
  simp
theorem rdv_own {B T : Nat} {w : World} {v : Value} {l : List Value} {n : Nat} (h : w.ownsRow B T 1 v n l) (hn : n = l.length) (hl : n ≤ 140737488355328) : RdV (fun b => v.ownBlock = some b) w v l := by
  subst hn
  rcases h.2 with ⟨e, h0⟩ | ⟨g, cap, cur, e, hb, hg, hn, hm, hs, ht⟩
  · rw [e]
    have : l = [] := List.eq_nil_of_length_eq_zero h0
    subst this
    exact RdV.nil _ _
  · refine ⟨some ⟨g, 0, none⟩, cap, e, hn, hl, fun j hj => ⟨g, 0, rfl, by rw [e]; rfl, ?_⟩⟩
    rw [Nat.zero_add]
    exact own_at h (by rw [e]; rfl) (List.getElem?_eq_getElem hj)
set_option maxRecDepth 100000 in
set_option maxHeartbeats 3200000 in
theorem inst_pages (w : World) (S : Nat → Prop) (hS : ∀ b, S b → b < w.heap.size) (m : ModD) (cs : List Value) (hm : RMod S w cs m) (he : (encM m).2 = 0) :
    Calls Tryd.prog 14 #[.agg cs.toArray] w fun r w' => ∃ v ab, r = .returned v ∧ Below w.heap.size w w' ∧ w.heap.size ≤ ab ∧ w'.heap[ab]? = some (.cells ((memM m).map (Value.int .u8)).toArray 5 (0, 0)) ∧ RdV (fun b => w.heap.size ≤ b ∧ b ≠ ab) w' v (pgV ab m.first.toNat) := by
  obtain ⟨i0, hi, hz0, hz1, hz2⟩ := info_parts Tryd.infoU8P
  obtain ⟨i1, hj, hy0, hy1, hy2⟩ := info_parts Tryd.infoU8L
  have HM := Lib.hid hm
  obtain ⟨tv, hv, gv, fv, dv, ev, rfl, r1, r2, r3, r4, r5, r6⟩ := hm
  obtain ⟨ta, tc, rfl, tl⟩ := r1.len
  obtain ⟨ha, hc, rfl, hl⟩ := r2.len
  obtain ⟨ga, gc, rfl, gl⟩ := r3.len
  obtain ⟨fa, fc, rfl, fl⟩ := r4.len
  obtain ⟨da, dc, rfl, dl⟩ := r5.len
  obtain ⟨ea, ec, rfl, el⟩ := r6.len
  have HD5 := Lib.hid r5
  obtain ⟨f0, f64⟩ := first_le he
  obtain ⟨n, hn⟩ : ∃ n : Nat, m.first = n := ⟨m.first.toNat, by omega⟩
  obtain ⟨N, hN⟩ : ∃ N : Nat, n * 4096 = N := ⟨_, rfl⟩
  have hN' : (n : Int) * 4096 = (N : Int) := by omega
  have hroom : (m.first * 4096).toNat = N := by omega
  have HGD := Lib.hid (gdD_of he); have HRM := Lib.hid hroom; have HNN := Lib.hid hN; have HFI := Lib.hid hn
  have hn64 : n ≤ 64 := by omega
  have hNb : N ≤ 262144 := by omega
  have hdl : m.datas.length ≤ 64 := by
    have hp := (enc_good he).2.1
    unfold partsM at hp
    simp only [thenE_0, errMany_0] at hp
    exact hp.2.2.2.2.2.2.1.1
  rw [hroom] at HGD
  rw [hn]
  clear r1 r2 r3 r4 r5 r6 f0 f64 hN hroom he
  have hba := below_alloc w (.cells #[.slice ta m.types.length tc, .slice ha m.hosts.length hc, .slice ga m.globals.length gc, .int .i64 n, .int .i64 m.most, .slice fa m.funs.length fc, .slice da m.datas.length dc, .slice ea m.exps.length ec] 29)
  have hmb := heap_alloc_new w (.cells #[.slice ta m.types.length tc, .slice ha m.hosts.length hc, .slice ga m.globals.length gc, .int .i64 n, .int .i64 m.most, .slice fa m.funs.length fc, .slice da m.datas.length dc, .slice ea m.exps.length ec] 29)
  have hszb : w.heap.size ≤ (w.alloc (.cells #[.slice ta m.types.length tc, .slice ha m.hosts.length hc, .slice ga m.globals.length gc, .int .i64 n, .int .i64 m.most, .slice fa m.funs.length fc, .slice da m.datas.length dc, .slice ea m.exps.length ec] 29)).heap.size := hba.size
  have g3 := row_cell hmb 3 rfl; have g6 := row_cell hmb 6 rfl
  simp only [List.getElem_toArray, List.getElem_cons_zero, List.getElem_cons_succ] at g3 g6
  clear hn
  go_enter Tryd.func14, Tryd.ntmps14
  go_wp2_with (at_make; refine wpList_make_full _ rfl _ _ 41 rfl w.heap.size 5 i0 (.int .u8 0) 1 Tryd.underlying41 hi hz0 hz1 _ _ _ _ N rfl rfl rfl rfl ?b1 ?b2 hszb ?_)
  case b1 => rw [hz2]; omega
  case b2 => unfold maxLen; omega
  intro w1 hown hgrow
  obtain ⟨ab, hab⟩ : ∃ ab, w.heap.size + 1 = ab := ⟨_, rfl⟩
  have hrow : w1.heap[ab]? = some (.cells ((memK N m.datas 0).map (Value.int .u8)).toArray 5 (0, 0)) := by
    rw [hab] at hown
    rcases hown.2 with ⟨h', _⟩ | ⟨g, cap, cur, e, hb, hg, hn, hm', hs, ht⟩
    · simp at h'
    · simp only [Value.slice.injEq, Option.some.injEq, Addr.mk.injEq, and_true, true_and] at e
      obtain ⟨rfl, rfl⟩ := e
      have hc : cur = ((memK N m.datas 0).map (Value.int .u8)).toArray := by
        apply Array.ext'
        rw [zeros_u8, List.take_of_length_le (by simp; omega)] at ht
        simpa [memK] using ht
      rw [hc] at hg
      exact hg
  have HB1 := Lib.hid (hba.grown hgrow hszb fun j hj => by cases hj)
  have hmb1 := grown_block hgrow hmb (by simp)
  have HMB1 := Lib.hid hmb1
  have g6 := row_cell hmb1 6 rfl
  simp only [List.getElem_toArray, List.getElem_cons_zero, List.getElem_cons_succ] at g6
  have HROW := Lib.hid hrow
  have hcsz : (Tryd.prog.info? 5).map (·.size) = some 1 := by rw [hi]; simp [hz1]
  have hsz1 := row_lt hrow
  clear hown hgrow hba hmb hszb g3 hmb1 hrow HM
  rw [hab]
  go_wp2
  go_loopw [15] (fun i wr => ∃ k : Nat, k ≤ m.datas.length ∧ i = .int .i64 k ∧ Hid (wr.heap[ab]? = some (.cells ((memK N m.datas k).map (Value.int .u8)).toArray 5 (0, 0))) ∧ Hid (Below ab w1 wr)) (fun i _ => m.datas.length - (intOf i).toNat)
  case atStart => exact ⟨0, by omega, rfl, HROW, Lib.hid (Below.refl _ _)⟩
  case round =>
    obtain ⟨k, hk, rfl, HRk, HBk⟩ := hrel
    by_cases hlt : k < m.datas.length
    · have hkr : Keeps S w wr := (Keeps.all S HB1.out).trans ⟨HBk.out.os, HBk.out.tape, HBk.out.output, HBk.out.size, fun b _ hb => HBk.out.block b (by have := hS b hb; omega)⟩
      have hd5 : RdDats S wr (.slice da m.datas.length dc) m.datas := RdL.map HD5.out hkr (fun _ h => h) fun _ _ h => h.keeps hkr
      obtain ⟨db, doff, ba, bc, rfl, c0, c1, hrb⟩ := da_at hd5 hlt
      obtain ⟨p1, p2⟩ := HGD.out.pos k hlt
      have hml := (memI HGD.out k hk).len
      have HMN := Lib.hid (mem_next (room := N) hlt)
      obtain ⟨⟨at_, bs⟩, hd⟩ : ∃ d, m.datas[k] = d := ⟨_, rfl⟩
      rw [hd] at c0 c1 hrb p1 p2 HMN
      simp only at c0 c1 hrb p1 p2
      obtain ⟨a, rfl⟩ : ∃ a : Nat, at_ = a := ⟨at_.toNat, by omega⟩
      rw [Int.toNat_natCast] at p2
      have HRB := Lib.hid hrb
      have hba := below_alloc wr (.cells #[.int .i64 a, .slice ba bs.length bc] 43)
      have r0 := heap_alloc_new wr (.cells #[.int .i64 0, .slice none 0 0] 43)
      have fr0 := row_free r0 0; have fr1 := row_free r0 1
      have HLL : Hid ((((memK N m.datas k).map (Value.int .u8)).length) = N) := Lib.hid (by rw [List.length_map]; exact hml)
      have hbl : bs.length ≠ 0 := by have := HGD.out.ne k hlt; rw [hd] at this; exact this
      have hle : a ≤ N := by omega
      have hne : ¬ N = a := by omega
      have HRA : Hid ((wr.alloc (.cells #[.int .i64 a, .slice ba bs.length bc] 43)).drew.heap[ab]? = some (.cells ((memK N m.datas k).map (Value.int .u8)).toArray 5 (0, 0))) := Lib.hid ((hba.block _ (row_lt HRk.out)).trans HRk.out)
      have HBA : Hid (Below ab w1 (wr.alloc (.cells #[.int .i64 a, .slice ba bs.length bc] 43)).drew) := Lib.hid (((HBk.out.trans (hba.mono (Nat.le_of_lt (row_lt HRk.out)))).trans ⟨rfl, rfl, rfl, Nat.le_refl _, fun _ _ => rfl⟩))
      have HRBA : Hid (RdI .u8 S (wr.alloc (.cells #[.int .i64 a, .slice ba bs.length bc] 43)).drew (.slice ba bs.length bc) bs) := Lib.hid ((HRB.out.keeps (Keeps.all _ hba)).keeps ⟨rfl, rfl, rfl, Nat.le_refl _, fun _ _ _ => rfl⟩)
      have hnn : (bs.map (Value.int .u8)).length = Nat.min bs.length (N - a) := by rw [List.length_map]; exact (Nat.min_eq_left (by omega)).symm
      have hpo : 0 < (bs.map (Value.int .u8)).length → some (⟨ab, a, none⟩ : Addr) = some ⟨ab, a, none⟩ ∧ ∃ ad, ba = some ad ∧ ∀ j v, (bs.map (Value.int .u8))[j]? = some v → (wr.alloc (.cells #[.int .i64 a, .slice ba bs.length bc] 43)).drew.cell? (ad.add j) = some v := fun _ => by
        obtain ⟨b, off, e, -, -⟩ := (show ∃ b off, ba = some (⟨b, off, none⟩ : Addr) ∧ True ∧ True from by
          obtain ⟨a', cap', e', h1, h2, h3⟩ := HRBA.out
          simp only [Value.slice.injEq] at e'
          obtain ⟨b, off, ha, -, -⟩ := h3 0 (by omega)
          exact ⟨b, off, e'.1.trans ha, trivial, trivial⟩)
        have hr := HRBA.out
        rw [e] at hr
        exact ⟨rfl, _, e, by rw [e]; exact RdI.news hr⟩
      have hfi : a + (bs.map (Value.int .u8)).length ≤ ((memK N m.datas k).map (Value.int .u8)).length := by rw [HLL.out, List.length_map]; omega
      have HNN2 := Lib.hid (And.intro hnn (And.intro hpo hfi))
      clear hkr hd5 hrb hml hd r0 hba hnn hpo hfi
      go_wp2_with fail
      go_region_law (refine step_copy_splice (by rfl) (.tmp 22) (.tmp 24) 41 41 (by rfl) 5 Tryd.underlying41 hcsz (some ⟨ab, a, none⟩) ba (N - a) (N - a) bs.length bc (by rfl) (by rfl) ab a ((memK N m.datas k).map (Value.int .u8)) 5 HRA.out (bs.map (Value.int .u8)) HNN2.out.1 (fun h => ⟨rfl, (HNN2.out.2.1 h).2⟩) HNN2.out.2.2 (fun v hv => by obtain ⟨x, -, rfl⟩ := List.mem_map.1 hv; rfl) ab w1 HBA.out (Nat.le_refl _) ?_; intro w4 hg4 hb4)
      all_goals
        have HG4 : Hid (w4.heap[ab]? = some (.cells ((memK N m.datas (k + 1)).map (Value.int .u8)).toArray 5 (0, 0))) := Lib.hid (by rw [HMN.out, ← splice_lay _ ⟨a, bs⟩ a rfl]; exact hg4)
        have HB4 := Lib.hid hb4
        clear hg4 hb4
        go_wp2
        go_roundw
        case rel => exact ⟨k + 1, by omega, by go_num, HG4, HB4⟩
        case measure => simp [intOf]; omega
    · obtain rfl : k = m.datas.length := by omega
      have hab2 : ab + 1 ≤ wr.heap.size := by have := row_lt HRk.out; omega
      have HABW : Hid (w.heap.size + 1 = ab) := Lib.hid hab
      clear hab
      go_wp2
      generalize wr = w2 at *
      go_loopw [6, 7] (fun v6 v7 wx => ∃ q p : Nat, q ≤ n ∧ v7 = .int .i64 p ∧ Hid (p = q * 4096) ∧ Hid (wx.ownsRow (ab + 1) 41 1 v6 q (pgV ab q)) ∧ Hid (Below (ab + 1) w2 wx)) (fun _ v7 _ => N - (intOf v7).toNat)
      case atStart => exact ⟨0, 0, by omega, rfl, Lib.hid rfl, Lib.hid (World.ownsRow_nil _ _ _ _), Lib.hid (Below.refl _ _)⟩
      case round =>
        obtain ⟨q, p, hq, rfl, HP, HO, HBx⟩ := hrel
        obtain ⟨oa, oc, rfl, -⟩ := own_slice HO.out
        by_cases hlt : q < n
        · have hp1 : p < N := by have := HP.out; have := HNN.out; omega
          have hp2 : p + 4096 ≤ N := by have := HP.out; have := HNN.out; omega
          have hba := below_alloc wr (.cells #[.slice (some ⟨ab, p, none⟩) 4096 4096] 41)
          have HBA := Lib.hid (HBx.out.trans (hba.mono (by have := HBx.out.size; omega)))
          have HOA := Lib.hid (own_below HO.out hba)
          have hbs : ab + 1 ≤ (wr.alloc (.cells #[.slice (some ⟨ab, p, none⟩) 4096 4096] 41)).heap.size := by have := HBA.out.size; omega
          clear hba
          go_wp2_with (at_builtin; refine wpList_append_kept _ rfl _ _ 34 rfl (ab + 1) 41 i1 (.slice none 0 0) 1 24 Tryd.underlying34 hj hy0 hy1 hy2 rfl (by decide) _ q (pgV ab q) rfl HOA.out ⟨wr.heap.size, 0, none⟩ 1 1 [.slice (some ⟨ab, p, none⟩) 4096 4096] rfl rfl (pcell_new _ _ _) (by simp [Value.oneCell']) (by unfold maxLen; omega) (by omega) hbs ?_)
          intro v8 w8 ho8 hk8 hf8
          have HN := Lib.hid ho8
          have HB8 := Lib.hid (HBA.out.grown hk8.grown hbs fun j hj => (HOA.out.lt j hj).1)
          obtain ⟨oa8, oc8, rfl, -⟩ := own_slice ho8
          clear ho8 hk8 hf8
          go_wp2
          go_roundw
          case rel => exact ⟨q + 1, p + 4096, by omega, by go_num, Lib.hid (by have := HP.out; omega), Lib.hid (by rw [pgV_next, ← HP.out]; exact HN.out), HB8⟩
          case measure => simp [intOf]; omega
        · have hp1 : ¬ p < N := by have := HP.out; have := HNN.out; omega
          obtain rfl : q = n := by omega
          go_wp2
          go_ret
          have hbx := HBx.out
          have hx : wr.heap[ab]? = w2.heap[ab]? := hbx.block ab (by omega)
          refine ⟨_, ab, rfl, ?_, by have := HABW.out; omega, ?_, ?_⟩
          · have h1 := HABW.out
            exact (HB1.out.trans (HBk.out.mono (by omega))).trans (hbx.mono (by omega))
          · rw [hx]
            unfold memM
            rw [HRM.out]; exact HRk.out
          · rw [Int.toNat_natCast]
            refine (rdv_own HO.out (pgV_len _ _).symm (by omega)).mono fun b _ hb => ?_
            have := (HO.out.lt b hb).1
            have h1 := HABW.out
            exact ⟨by omega, by omega⟩
end Go.Proofs.YtfhkjahjenpbgaaDoor
namespace Go.Proofs.YtfhkjahjenpbgaaDoor
open Go Go.RowKit

theorem nz_le : ∀ (l : List Int), nzL l ≤ l.length
  | [] => Nat.le_refl _
  | x :: l => by
    have := nz_le l
    have e : nzL (x :: l) = nzL [x] + nzL l := nz_app [x] l
    have : nzL [x] ≤ 1 := by unfold nzL; exact List.length_filter_le _ [x]
    rw [e, List.length_cons]; omega
theorem nz_take (l : List Int) (k : Nat) : nzL (l.take k) ≤ nzL l := by
  conv => rhs; rw [← List.take_append_drop k l]
  rw [nz_app]; omega
/-- So much has been counted ahead of byte k of data i. -/
def laidP (m : ModD) (i k : Nat) : Nat := ((m.datas.take i).map fun d => nzL d.b).sum + nzL ((m.datas.getD i ⟨0, []⟩).b.take k)
theorem laid_zero (m : ModD) : laidP m 0 0 = 0 := by simp [laidP, nzL]
section
variable {m : ModD} {i k : Nat}
theorem laid_step (hi : i < m.datas.length) (hk : k < m.datas[i].b.length) : laidP m i (k + 1) = laidP m i k + (if m.datas[i].b[k] ≠ 0 then 1 else 0) := by
  have e : m.datas.getD i ⟨0, []⟩ = m.datas[i] := by rw [List.getD_eq_getElem?_getD, List.getElem?_eq_getElem hi]; rfl
  unfold laidP
  rw [e, nz_snoc hk, Nat.add_assoc]
theorem laid_next (hi : i < m.datas.length) : laidP m i m.datas[i].b.length = laidP m (i + 1) 0 := by
  have e : m.datas.getD i ⟨0, []⟩ = m.datas[i] := by rw [List.getD_eq_getElem?_getD, List.getElem?_eq_getElem hi]; rfl
  unfold laidP
  have z : nzL ((m.datas.getD (i + 1) ⟨0, []⟩).b.take 0) = 0 := by simp [nzL]
  rw [e, List.take_length, List.take_succ_eq_append_getElem hi, List.map_append, List.sum_append, z]
  simp only [List.map_cons, List.map_nil, List.sum_cons, List.sum_nil]
  omega
theorem laid_all (h : (encM m).2 = 0) : laidP m m.datas.length 0 = nzL (memM m) := by
  rw [mem_nz h]
  unfold laidP
  rw [List.take_length]
  simp [nzL]
theorem mem_le (h : (encM m).2 = 0) : (memM m).length ≤ 262144 := by
  have h1 : (memM m).length = (m.first * 4096).toNat := (mem_good h).len
  have := first_le h
  rw [h1]; omega
theorem laidP_le (h : (encM m).2 = 0) (hi : i ≤ m.datas.length) : laidP m i k ≤ 262144 := by
  have h1 : laidP m i k ≤ ((m.datas.take (i + 1)).map fun d => nzL d.b).sum := by
    by_cases hl : i < m.datas.length
    · have e : m.datas.getD i ⟨0, []⟩ = m.datas[i] := by rw [List.getD_eq_getElem?_getD, List.getElem?_eq_getElem hl]; rfl
      unfold laidP
      rw [e, List.take_succ_eq_append_getElem hl, List.map_append, List.sum_append]
      have := nz_take m.datas[i].b k
      simp only [List.map_cons, List.map_nil, List.sum_cons, List.sum_nil]
      omega
    · obtain rfl : i = m.datas.length := by omega
      unfold laidP
      rw [List.take_of_length_le (Nat.le_refl _), List.take_of_length_le (Nat.le_succ _)]
      have e : m.datas.getD m.datas.length ⟨0, []⟩ = ⟨0, []⟩ := by rw [List.getD_eq_getElem?_getD, List.getElem?_eq_none (Nat.le_refl _)]; rfl
      rw [e]
      simp [nzL]
  have h2 : ((m.datas.take (i + 1)).map fun d => nzL d.b).sum ≤ (m.datas.map fun d => nzL d.b).sum := by
    conv => rhs; rw [← List.take_append_drop (i + 1) m.datas]
    rw [List.map_append, List.sum_append]; omega
  have h3 := nz_le (memM m)
  have h4 := mem_le h
  rw [mem_nz h] at h3
  omega
/-- A byte that was laid. -/
theorem mem_byte (h : (encM m).2 = 0) (hi : i < m.datas.length) (hk : k < m.datas[i].b.length) : (memM m)[m.datas[i].at_.toNat + k]? = some m.datas[i].b[k] := by
  have := (mem_good h).get i hi hi k hk
  rw [List.getElem?_eq_getElem hk] at this
  exact this
/-- So much has been found ahead of place t. -/
def foundP (m : ModD) (t : Nat) : Nat := nzL ((memM m).take t)
theorem found_zero : foundP m 0 = 0 := by simp [foundP, nzL]
theorem found_step {t : Nat} (ht : t < (memM m).length) : foundP m (t + 1) = foundP m t + (if (memM m)[t] ≠ 0 then 1 else 0) := nz_snoc ht
theorem found_le (h : (encM m).2 = 0) (t : Nat) : foundP m t ≤ 262144 := by
  have := nz_take (memM m) t
  have := nz_le (memM m)
  have := mem_le h
  unfold foundP; omega
theorem found_all (h : (encM m).2 = 0) : foundP m (m.first.toNat * 4096) = nzL (memM m) := by
  have h1 : (memM m).length = (m.first * 4096).toNat := (mem_good h).len
  have := first_le h
  unfold foundP
  rw [List.take_of_length_le (by rw [h1]; omega)]
end
end Go.Proofs.YtfhkjahjenpbgaaDoor
