/- snap.Write: a state's bytes, or the refusal. -/
import Derived.Test.YthlkckpadjjbdaaDoorWPages
import Derived.Test.YthlkckpadjjbdaaDoorSizes
import Derived.Lib.SlBytesConst
import Derived.Deep.RegionLawGrows
namespace Go.Proofs.YthlkckpadjjbdaaDoor
open Go Go.RowKit

def encVals (l : List Int) : List Int := uv l.length ++ l.flatMap fun x => uv x.toNat
def encFrame (f : FrameD) : List Int := uv f.fn.toNat ++ uv f.pc.toNat ++ encVals f.loc ++ encVals f.stk
def okFrame (f : FrameD) : Bool := okn f.fn 127 && okn f.pc 2047 && decide (f.loc.length ≤ 64) && decide (f.stk.length ≤ 256)
def encHead (s : StateD) : List Int :=
  [70, 83, 78, 80, 1] ++ [s.ends, s.trap] ++ uv s.used.toNat ++ uv s.replies.toNat ++ encVals s.results ++ encVals s.globals ++ encPages s.pages ++ uv s.frames.length
/-- A state's bytes. -/
def encState (s : StateD) : List Int := encHead s ++ s.frames.flatMap encFrame
def okEnds (s : StateD) : Bool := decide (1 ≤ s.ends ∧ s.ends ≤ 3 ∧ 0 ≤ s.trap ∧ s.trap ≤ 6)
def okHead (s : StateD) : Bool :=
  okn s.used 4611686018427387904 && okn s.replies 9223372036854775807 && decide (s.results.length ≤ 8) && decide (s.globals.length ≤ 64) && okPages s.pages && decide (s.frames.length ≤ 64)
/-- Is a state written? -/
def okState (s : StateD) : Bool := okEnds s && okHead s && s.frames.all okFrame

def I64 (n : Int) : Prop := -9223372036854775808 ≤ n ∧ n ≤ 9223372036854775807
def U64s (l : List Int) : Prop := ∀ x ∈ l, 0 ≤ x ∧ x ≤ 18446744073709551615
def Bytes (l : List Int) : Prop := ∀ x ∈ l, 0 ≤ x ∧ x ≤ 255
structure WfFrame (f : FrameD) : Prop where
  fn : I64 f.fn
  pc : I64 f.pc
  loc : U64s f.loc
  stk : U64s f.stk
/-- The numbers lie in their kinds. -/
structure WfState (s : StateD) : Prop where
  used : I64 s.used
  replies : I64 s.replies
  ends : -128 ≤ s.ends ∧ s.ends ≤ 127
  trap : -128 ≤ s.trap ∧ s.trap ≤ 127
  results : U64s s.results
  globals : U64s s.globals
  pages : ∀ y ∈ s.pages, Bytes y
  frames : ∀ f ∈ s.frames, WfFrame f

/-- The stage of a writer: its list, and whether it is bad; what it should have written. -/
structure St (base : Nat) (p : Nat) (v0 : Value) (w0 : World) (pre : List Int) (okb : Bool) (v : Value) (w : World) (len : Nat) : Prop where
  ex : ∃ xs bad, Wr base w p v xs bad ∧ bad = !okb ∧ (okb = true → xs = pre) ∧ xs.length ≤ len
  way : WrTo p v0 w0 v w

theorem st_number {base p : Nat} {v0 : Value} {w0 : World} {pre : List Int} {okb : Bool} {v : Value} {w : World} {len : Nat} (h : St base p v0 w0 pre okb v w len) (hb : base ≤ w0.heap.size) (hl : len ≤ 1099511627776)
    (n : Int) (most : Nat) (M : Int) (hM : (most : Int) = M) (hn : I64 n) :
    Calls Tryd.prog 25 #[.pointer (some ⟨p, 0, none⟩), .int .i64 n, .int .u64 M] w fun e w' => e = .returned (.tuple #[]) ∧
      ∃ v', St base p v0 w0 (pre ++ uv n.toNat) (okb && okn n most) v' w' (len + 10) := by
  obtain ⟨⟨xs, bad, h1, rfl, h3, h4⟩, ht⟩ := h
  refine (wr_numberI base w p v xs _ h1 (Nat.le_trans hb ht.keep.size) (by omega) n most M hM hn.2 hn.1).mono ?_
  rintro e w' ⟨rfl, v', xs', k1, k2, k3, k4⟩
  refine ⟨rfl, v', ⟨xs', _, k1, by cases okb <;> simp, fun h => ?_, by omega⟩, ht.trans k2⟩
  simp only [Bool.and_eq_true] at h
  rw [k3 h.2, h3 h.1]

theorem st_values {base p : Nat} {v0 : Value} {w0 : World} {pre : List Int} {okb : Bool} {v : Value} {w : World} {len : Nat} (h : St base p v0 w0 pre okb v w len) (hb : base ≤ w0.heap.size) (hl : len ≤ 1000000000)
    (S) (lv : Value) (l : List Int) (hr : RdI .u64 S w lv l) (hS : ∀ b, S b → b ≠ p ∧ v0.ownBlock ≠ some b ∧ b < w0.heap.size) (hw : U64s l) (most : Nat) (M : Int) (hM : (most : Int) = M) (hmost : most ≤ 256) :
    Calls Tryd.prog 26 #[.pointer (some ⟨p, 0, none⟩), lv, .int .u64 M] w fun e w' => e = .returned (.tuple #[]) ∧
      ∃ v', St base p v0 w0 (pre ++ encVals l) (okb && decide (l.length ≤ most)) v' w' (len + 2570) := by
  obtain ⟨⟨xs, bad, h1, rfl, h3, h4⟩, ht⟩ := h
  refine (wr_valuesI base w p v xs _ h1 (Nat.le_trans hb ht.keep.size) (by omega) S lv l hr (fun b hb => ⟨(hS b hb).1, fun e => ?_⟩) hw most M hM (by omega)).mono ?_
  · rcases ht.at_ b e with h5 | h5
    · exact (hS b hb).2.1 h5
    · have := (hS b hb).2.2; omega
  rintro e w' ⟨rfl, v', xs', k1, k2, k3, k4⟩
  refine ⟨rfl, v', ⟨xs', _, k1, ?_, fun h => ?_, by omega⟩, ht.trans k2⟩
  · by_cases hh : l.length ≤ most
    · rw [decide_eq_false (by omega), decide_eq_true hh]; cases okb <;> rfl
    · rw [decide_eq_true (by omega), decide_eq_false hh]; cases okb <;> rfl
  · simp only [Bool.and_eq_true, decide_eq_true_eq] at h
    rw [k3 (by simp [h.1]) h.2, h3 h.1, encVals, List.append_assoc]

theorem st_pages {base p : Nat} {v0 : Value} {w0 : World} {pre : List Int} {okb : Bool} {v : Value} {w : World} {len : Nat} (h : St base p v0 w0 pre okb v w len) (hb : base ≤ w0.heap.size) (hl : len ≤ 1000000000)
    (S) (lv : Value) (l : List (List Int)) (hr : RdLL .u8 S w lv l) (hS : ∀ b, S b → b ≠ p ∧ v0.ownBlock ≠ some b ∧ b < w0.heap.size) (hw : ∀ y ∈ l, Bytes y) :
    Calls Tryd.prog 27 #[.pointer (some ⟨p, 0, none⟩), lv] w fun e w' => e = .returned (.tuple #[]) ∧
      ∃ v', St base p v0 w0 (pre ++ encPages l) (okb && okPages l) v' w' (len + 270000) := by
  obtain ⟨⟨xs, bad, h1, rfl, h3, h4⟩, ht⟩ := h
  refine (wr_pages base w p v xs _ h1 (Nat.le_trans hb ht.keep.size) (by omega) S lv l hr (fun b hb => ⟨(hS b hb).1, fun e => ?_⟩) hw).mono ?_
  · rcases ht.at_ b e with h5 | h5
    · exact (hS b hb).2.1 h5
    · have := (hS b hb).2.2; omega
  rintro e w' ⟨rfl, v', xs', k1, k2, k3, k4⟩
  refine ⟨rfl, v', ⟨xs', _, k1, by cases okb <;> simp, fun h => ?_, by omega⟩, ht.trans k2⟩
  simp only [Bool.and_eq_true] at h
  rw [k3 (by simp [h.1]) h.2, h3 h.1]

/-- What lies apart from the writer reads on. -/
theorem St.cell {base p : Nat} {v0 : Value} {w0 : World} {pre : List Int} {okb : Bool} {v : Value} {w : World} {len : Nat} (h : St base p v0 w0 pre okb v w len) {b j : Nat} {u : Value} (hc : w0.cell? ⟨b, j, none⟩ = some u) (hp : b ≠ p) (hv : v0.ownBlock ≠ some b) : w.cell? ⟨b, j, none⟩ = some u :=
  h.way.keep.cell hc ⟨hp, hv⟩
theorem St.keeps {base p : Nat} {v0 : Value} {w0 : World} {pre : List Int} {okb : Bool} {v : Value} {w : World} {len : Nat} {S : Nat → Prop} (h : St base p v0 w0 pre okb v w len) (hS : ∀ b, S b → b ≠ p ∧ v0.ownBlock ≠ some b ∧ b < w0.heap.size) : Keeps S w0 w :=
  h.way.keep.mono fun b _ hb => ⟨(hS b hb).1, (hS b hb).2.1⟩
theorem St.bad {base p : Nat} {v0 : Value} {w0 : World} {pre : List Int} {okb : Bool} {v : Value} {w : World} {len : Nat} (h : St base p v0 w0 pre okb v w len) : w.cell? ⟨p, 1, none⟩ = some (.bool (!okb)) := by
  obtain ⟨⟨xs, bad, h1, rfl, _⟩, _⟩ := h
  exact row_cell h1.row 1 rfl
theorem St.slice {base p : Nat} {v0 : Value} {w0 : World} {pre : List Int} {v : Value} {w : World} {len : Nat} (h : St base p v0 w0 pre true v w len) : w.cell? ⟨p, 0, none⟩ = some v ∧ w.ownsRow base 5 1 v pre.length (pre.map (Value.int .u8)) := by
  obtain ⟨⟨xs, bad, h1, _, h3, _⟩, _⟩ := h
  obtain rfl := h3 rfl
  exact ⟨row_cell h1.row 0 rfl, h1.own⟩

theorem St.rebase {base p : Nat} {v0 : Value} {w0 : World} {pre : List Int} {okb : Bool} {v : Value} {w : World} {len : Nat} (h : St base p v0 w0 pre okb v w len) : St base p v w pre okb v w len := ⟨h.ex, WrTo.refl _ _ _⟩
theorem St.trans {base p : Nat} {v0 : Value} {w0 : World} {pre : List Int} {okb : Bool} {v : Value} {w : World} {len : Nat} {pre' : List Int} {okb' : Bool} {v' : Value} {w' : World} {len' : Nat}
    (h : St base p v0 w0 pre okb v w len) (k : St base p v w pre' okb' v' w' len') : St base p v0 w0 pre' okb' v' w' len' := ⟨k.ex, h.way.trans k.way⟩
theorem St.alloc {base p : Nat} {v0 : Value} {w0 : World} {pre : List Int} {okb : Bool} {v : Value} {w : World} {len : Nat} (h : St base p v0 w0 pre okb v w len) (o : Obj) : St base p v0 w0 pre okb v (w.alloc o) len := by
  obtain ⟨⟨xs, bad, h1, h2, h3, h4⟩, ht⟩ := h
  have hk : Keeps (fun _ => True) w (w.alloc o) := (Keeps.refl _ w).alloc o
  exact ⟨⟨xs, bad, h1.keeps hk trivial fun _ _ => trivial, h2, h3, h4⟩, ht.trans ⟨hk.mono fun _ _ _ => trivial, fun b hb => .inl hb⟩⟩
theorem St.own_lt {base p : Nat} {v0 : Value} {w0 : World} {pre : List Int} {okb : Bool} {v : Value} {w : World} {len : Nat} (h : St base p v0 w0 pre okb v w len) : p < w.heap.size ∧ ∀ b, v.ownBlock = some b → b < w.heap.size := by
  obtain ⟨⟨xs, bad, h1, _⟩, _⟩ := h
  exact ⟨row_lt h1.row, fun b hb => (h1.own.lt b hb).2⟩
theorem St.sep {base p : Nat} {v0 : Value} {w0 : World} {pre : List Int} {okb : Bool} {v : Value} {w : World} {len : Nat} {T : Nat → Prop} (h : St base p v0 w0 pre okb v w len)
    (hT : ∀ b, T b → b ≠ p ∧ v0.ownBlock ≠ some b ∧ b < w0.heap.size) : ∀ b, T b → b ≠ p ∧ v.ownBlock ≠ some b ∧ b < w.heap.size := by
  intro b hb
  have h1 := hT b hb
  have h2 := h.way.keep.size
  refine ⟨h1.1, fun e => ?_, by omega⟩
  rcases h.way.at_ b e with h3 | h3
  · exact h1.2.1 h3
  · omega
theorem all_take_succ {α : Type} (f : α → Bool) (l : List α) (k : Nat) (h : k < l.length) : (l.take (k + 1)).all f = ((l.take k).all f && f l[k]) := by
  rw [List.take_succ_eq_append_getElem h, List.all_append]; simp
theorem flatMap_take_succ {α β : Type} (f : α → List β) (l : List α) (k : Nat) (h : k < l.length) : (l.take (k + 1)).flatMap f = (l.take k).flatMap f ++ f l[k] := by
  rw [List.take_succ_eq_append_getElem h, List.flatMap_append]; simp

theorem write_row (w : World) (box : Obj) (ends trap : Int) (w4 : World)
    (hgrow : ((((w.alloc box).alloc (Obj.cells #[.int .u8 70, .int .u8 83, .int .u8 78, .int .u8 80, .int .u8 1] 5 (5, 6))).alloc (Obj.cells #[.slice (some ⟨w.heap.size + 1, 0, none⟩) 5 5, .bool false] 72)).alloc (Obj.cells #[.int .u8 ends, .int .u8 trap] 5)).drew.grownBy w4 none) :
    w4.heap[w.heap.size + 1 + 1]? = some (Obj.cells #[.slice (some ⟨w.heap.size + 1, 0, none⟩) 5 5, .bool false] 72) := by
  have hz : ((((w.alloc box).alloc (Obj.cells #[.int .u8 70, .int .u8 83, .int .u8 78, .int .u8 80, .int .u8 1] 5 (5, 6))).alloc (Obj.cells #[.slice (some ⟨w.heap.size + 1, 0, none⟩) 5 5, .bool false] 72)).alloc (Obj.cells #[.int .u8 ends, .int .u8 trap] 5)).heap.size = w.heap.size + 4 := by simp only [World.size_alloc]
  rw [hgrow.block _ (by rw [World.size_drew]; omega) (by simp), heap_drew, Below.heap_alloc _ _ _ (by simp only [World.size_alloc]; omega)]
  have e : ((w.alloc box).alloc (Obj.cells #[.int .u8 70, .int .u8 83, .int .u8 78, .int .u8 80, .int .u8 1] 5 (5, 6))).heap.size = w.heap.size + 1 + 1 := by simp only [World.size_alloc]
  rw [← e]; exact heap_alloc_new _ _
/-- The state of the writer behind the first append. -/
theorem write_start (w : World) (box : Obj) (ends trap : Int) (w4 : World) (g cap : Nat)
    (hgrow : ((((w.alloc box).alloc (Obj.cells #[.int .u8 70, .int .u8 83, .int .u8 78, .int .u8 80, .int .u8 1] 5 (5, 6))).alloc (Obj.cells #[.slice (some ⟨w.heap.size + 1, 0, none⟩) 5 5, .bool false] 72)).alloc (Obj.cells #[.int .u8 ends, .int .u8 trap] 5)).drew.grownBy w4 none)
    (B : Nat) (hB : w.heap.size + 4 ≤ B) (hown : w4.ownsRow B 5 1 (.slice (some ⟨g, 0, none⟩) 7 cap) 7 ([70, 83, 78, 80, 1, ends, trap].map (Value.int .u8))) :
    St w.heap.size (w.heap.size + 1 + 1) (.slice (some ⟨g, 0, none⟩) 7 cap) (w4.setCell ⟨w.heap.size + 1 + 1, 0, none⟩ (.slice (some ⟨g, 0, none⟩) 7 cap)) [70, 83, 78, 80, 1, ends, trap] true (.slice (some ⟨g, 0, none⟩) 7 cap)
      (w4.setCell ⟨w.heap.size + 1 + 1, 0, none⟩ (.slice (some ⟨g, 0, none⟩) 7 cap)) 7 ∧
    Below w.heap.size w (w4.setCell ⟨w.heap.size + 1 + 1, 0, none⟩ (.slice (some ⟨g, 0, none⟩) 7 cap)) ∧ w.heap.size + 4 ≤ g ∧
    (w4.setCell ⟨w.heap.size + 1 + 1, 0, none⟩ (.slice (some ⟨g, 0, none⟩) 7 cap)).heap[w.heap.size]? = some box := by
  have hz : ((((w.alloc box).alloc (Obj.cells #[.int .u8 70, .int .u8 83, .int .u8 78, .int .u8 80, .int .u8 1] 5 (5, 6))).alloc (Obj.cells #[.slice (some ⟨w.heap.size + 1, 0, none⟩) 5 5, .bool false] 72)).alloc (Obj.cells #[.int .u8 ends, .int .u8 trap] 5)).heap.size = w.heap.size + 4 := by simp only [World.size_alloc]
  have hg4 := (hown.lt g rfl).1
  have hp := write_row w box ends trap w4 hgrow
  have hbx : w4.heap[w.heap.size]? = some box := by
    rw [hgrow.block _ (by rw [World.size_drew]; omega) (by simp), heap_drew, Below.heap_alloc _ _ _ (by simp only [World.size_alloc]; omega), Below.heap_alloc _ _ _ (by simp only [World.size_alloc]; omega), Below.heap_alloc _ _ _ (by simp only [World.size_alloc]; omega)]
    exact heap_alloc_new _ _
  have hk : Keeps (fun b => b ≠ w.heap.size + 1 + 1) w4 (w4.setCell ⟨w.heap.size + 1 + 1, 0, none⟩ (.slice (some ⟨g, 0, none⟩) 7 cap)) := (Keeps.refl _ w4).setCell (a := ⟨w.heap.size + 1 + 1, 0, none⟩) (by simp) _
  refine ⟨⟨⟨_, false, ⟨by simpa using row_setCell hp 0 (.slice (some ⟨g, 0, none⟩) 7 cap), ?_, by simp [Value.ownBlock]; omega⟩, rfl, fun _ => rfl, by simp⟩, WrTo.refl _ _ _⟩, ?_, by omega, ?_⟩
  · have := own_keeps hown hk (by intro b hb; simp [Value.ownBlock] at hb; subst hb; omega)
    refine ⟨this.1, ?_⟩
    rcases this.2 with h | ⟨g', cap', cur, e, hb, rest⟩
    · exact .inl h
    · exact .inr ⟨g', cap', cur, e, by omega, rest⟩
  · exact ((((((Below.refl _ w).alloc (Nat.le_refl _) _).alloc (by simp only [World.size_alloc]; omega) _).alloc (by simp only [World.size_alloc]; omega) _).alloc (by simp only [World.size_alloc]; omega) _).drew.grown hgrow (by rw [World.size_drew]; omega) (by simp)).setCell (p := ⟨w.heap.size + 1 + 1, 0, none⟩) (by show w.heap.size ≤ w.heap.size + 1 + 1; omega) _
  · rw [hk.block _ (row_lt hbx) (by omega)]; exact hbx

theorem okn_len (n : Nat) (m : Nat) : okn (n : Int) m = decide (n ≤ m) := by
  unfold okn
  by_cases h : n ≤ m
  · rw [decide_eq_true h, decide_eq_true ⟨by omega, by omega⟩]
  · rw [decide_eq_false h, decide_eq_false (by omega)]
theorem write_below {B base p : Nat} {v0 : Value} {w w0 : World} {pre : List Int} {okb : Bool} {v : Value} {w' : World} {len : Nat} (h0 : Below B w w0) (_hb : B ≤ w0.heap.size) (h : St base p v0 w0 pre okb v w' len) (hp : B ≤ p) (hv : ∀ b, v0.ownBlock = some b → B ≤ b) : Below B w w' := by
  refine h0.trans (h.way.keep.below _hb fun b hb => ⟨by omega, fun e => ?_⟩)
  have := hv b e
  omega
theorem write_frame {base p : Nat} {v0 : Value} {w0 : World} {pr : List Int} {okk : Bool} {vk : Value} {wr : World} {len : Nat} {v' : Value} {w' : World} {len' : Nat} {f : FrameD} {hd F F' : List Int} {A A' : Bool}
    (h : St base p v0 w0 pr okk vk wr len) (k : St base p vk wr (pr ++ uv f.fn.toNat ++ uv f.pc.toNat ++ encVals f.loc ++ encVals f.stk) (okk && okn f.fn 127 && okn f.pc 2047 && decide (f.loc.length ≤ 64) && decide (f.stk.length ≤ 256)) v' w' len')
    (ho : okk = A) (hA : A' = (A && okFrame f)) (hy : pr = hd ++ F) (hF : F' = F ++ encFrame f) :
    Hid (St base p v0 w0 (pr ++ uv f.fn.toNat ++ uv f.pc.toNat ++ encVals f.loc ++ encVals f.stk) (okk && okn f.fn 127 && okn f.pc 2047 && decide (f.loc.length ≤ 64) && decide (f.stk.length ≤ 256)) v' w' len') ∧
    Hid ((okk && okn f.fn 127 && okn f.pc 2047 && decide (f.loc.length ≤ 64) && decide (f.stk.length ≤ 256)) = A') ∧
    Hid (pr ++ uv f.fn.toNat ++ uv f.pc.toNat ++ encVals f.loc ++ encVals f.stk = hd ++ F') := by
  refine ⟨h.trans k, ?_, ?_⟩
  · show _ = _
    rw [hA, ho, okFrame]; simp only [Bool.and_assoc]
  · show _ = _
    rw [hF, hy, encFrame]; simp only [List.append_assoc]
theorem write_two (w : World) (box o1 o2 o3 : Obj) : ((((w.alloc box).alloc o1).alloc o2).alloc o3).drew.heap[w.heap.size + 3]? = some o3 := by
  have e : (((w.alloc box).alloc o1).alloc o2).heap.size = w.heap.size + 3 := by simp only [World.size_alloc]
  rw [← e]; exact heap_alloc_new _ _
theorem write_magic (w : World) (box o o' : Obj) :
    ((((w.alloc box).alloc (Obj.cells #[.int .u8 70, .int .u8 83, .int .u8 78, .int .u8 80, .int .u8 1] 5 (5, 6))).alloc o).alloc o').drew.heap[w.heap.size + 1]? = some (Obj.cells #[.int .u8 70, .int .u8 83, .int .u8 78, .int .u8 80, .int .u8 1] 5 (5, 6)) := by
  show ((((w.alloc box).alloc (Obj.cells #[.int .u8 70, .int .u8 83, .int .u8 78, .int .u8 80, .int .u8 1] 5 (5, 6))).alloc o).alloc o').heap[w.heap.size + 1]? = _
  rw [Below.heap_alloc _ _ _ (by simp only [World.size_alloc]; omega), Below.heap_alloc _ _ _ (by simp only [World.size_alloc]; omega)]
  have e : (w.alloc box).heap.size = w.heap.size + 1 := by simp only [World.size_alloc]
  rw [← e]; exact heap_alloc_new _ _

set_option maxRecDepth 100000 in
set_option maxHeartbeats 3200000 in
theorem snap_Write (w : World) (S) (cs : List Value) (s : StateD) (h : RState S w cs s) (hwf : WfState s) :
    Calls Tryd.prog 8 #[.agg cs.toArray] w fun e w' => ∃ v' c, e = .returned (.tuple #[v', .int .i64 c]) ∧ Below w.heap.size w w' ∧
      (okState s = true → c = 0 ∧ w'.ownsRow w.heap.size 5 1 v' (encState s).length ((encState s).map (Value.int .u8))) ∧ (okState s = false → c = 44 ∧ v' = .slice none 0 0) := by
  obtain ⟨i0, hi, hz0, hz1, hz2⟩ := info_parts Tryd.infoU8
  obtain ⟨fv, gv, pv, rv, rfl, hf, hg, hp, hr⟩ := h.mono (T := fun b => b < w.heap.size) fun b hb _ => hb
  have HF := Lib.hid hf; have HG := Lib.hid hg; have HP := Lib.hid hp; have HR := Lib.hid hr; have HWF := Lib.hid hwf
  obtain ⟨fa, fc, rfl, hfl⟩ := hf.len
  clear hf hg hp hr hwf
  have hen := HWF.out.ends; have htr := HWF.out.trap
  have kc : (convert 31 31 (.slice (some ⟨w.heap.size + 1, 0, none⟩) 5 5)).run Tryd.prog ((w.alloc (Obj.cells #[.slice fa s.frames.length fc, gv, pv, .int .i64 s.replies, .int .i8 s.ends, rv, .int .i8 s.trap, .int .i64 s.used] 27)).alloc (Obj.cells #[.int .u8 70, .int .u8 83, .int .u8 78, .int .u8 80, .int .u8 1] 5)) = .ok (.slice (some ⟨w.heap.size + 1, 0, none⟩) 5 5) ((w.alloc (Obj.cells #[.slice fa s.frames.length fc, gv, pv, .int .i64 s.replies, .int .i8 s.ends, rv, .int .i8 s.trap, .int .i64 s.used] 27)).alloc (Obj.cells #[.int .u8 70, .int .u8 83, .int .u8 78, .int .u8 80, .int .u8 1] 5 (5, 6))) := by
    have := Lib.run_convert_bytes_const (P := Tryd.prog) (w.alloc (Obj.cells #[.slice fa s.frames.length fc, gv, pv, .int .i64 s.replies, .int .i8 s.ends, rv, .int .i8 s.trap, .int .i64 s.used] 27)) 31 5 #[.int .u8 70, .int .u8 83, .int .u8 78, .int .u8 80, .int .u8 1] 5 5 Tryd.underlying31 Tryd.underlying5
    rw [World.size_alloc] at this
    exact this
  by_cases hE : okEnds s = true
  · obtain ⟨h1, h2, h3, h4⟩ := of_decide_eq_true hE
    have HE := Lib.hid hE; clear hE
    have ce : IntKind.u8.wrap s.ends = s.ends := IntWalk.u8_in _ ⟨by omega, by omega⟩
    have ct : IntKind.u8.wrap s.trap = s.trap := IntWalk.u8_in _ ⟨by omega, by omega⟩
    go_enter Tryd.func8, Tryd.ntmps8
    go_wp2_with fail
    go_cut [4] (fun s4 wx => s4 = .pointer (some ⟨w.heap.size + 1 + 1, 0, none⟩) ∧ ∃ g cap, Hid (St w.heap.size (w.heap.size + 1 + 1) (.slice (some ⟨g, 0, none⟩) 7 cap) wx [70, 83, 78, 80, 1, s.ends, s.trap] true (.slice (some ⟨g, 0, none⟩) 7 cap) wx 7 ∧
      Below w.heap.size w wx ∧ w.heap.size + 4 ≤ g ∧ wx.heap[w.heap.size]? = some (Obj.cells #[.slice fa s.frames.length fc, gv, pv, .int .i64 s.replies, .int .i8 s.ends, rv, .int .i8 s.trap, .int .i64 s.used] 27)))
    case first =>
      go_region_law (refine step_append_grows (by rfl) _ _ 31 (by rfl) 5 i0 _ 1 1 Tryd.underlying31 hi hz0 hz1 hz2 rfl (by decide) (some ⟨w.heap.size + 1, 0, none⟩) 5 5 [.int .u8 70, .int .u8 83, .int .u8 78, .int .u8 80, .int .u8 1] (by rfl) (by simp) (by rfl) (by intro b hb; cases hb; exact World.news_of_block (cs := #[.int .u8 70, .int .u8 83, .int .u8 78, .int .u8 80, .int .u8 1]) (t := 5) (fr := (5, 6)) (write_magic w (Obj.cells #[.slice fa s.frames.length fc, gv, pv, .int .i64 s.replies, .int .i8 s.ends, rv, .int .i8 s.trap, .int .i64 s.used] 27) _ _)) ⟨w.heap.size + 3, 0, none⟩ 2 2 [.int .u8 s.ends, .int .u8 s.trap] (by rfl) (by rfl) (by exact World.news_of_block (cs := #[.int .u8 s.ends, .int .u8 s.trap]) (t := 5) (fr := (0, 0)) (write_two w (Obj.cells #[.slice fa s.frames.length fc, gv, pv, .int .i64 s.replies, .int .i8 s.ends, rv, .int .i8 s.trap, .int .i64 s.used] 27) _ _ _)) (by simp [Value.oneCell']) (by omega) (by unfold maxLen; omega) (by omega) ?_; intro v' w4 hown4 hgrow4; obtain ⟨g, cap, rfl, _, _⟩ := hown4.form (by omega); have hst := Lib.hid (write_start w (Obj.cells #[.slice fa s.frames.length fc, gv, pv, .int .i64 s.replies, .int .i8 s.ends, rv, .int .i8 s.trap, .int .i64 s.used] 27) s.ends s.trap w4 g cap hgrow4 _ (by simp only [World.size_drew, World.size_alloc]; omega) hown4); have hr4 := write_row w (Obj.cells #[.slice fa s.frames.length fc, gv, pv, .int .i64 s.replies, .int .i8 s.ends, rv, .int .i8 s.trap, .int .i64 s.used] 27) s.ends s.trap w4 hgrow4; have c4 := row_cell hr4 0 rfl; have f4 := row_free hr4 0; clear hown4 hgrow4)
      all_goals (go_wp2_with fail; go_meet; exact ⟨rfl, _, _, hst⟩)
    case rest =>
      obtain ⟨rfl, g, cap, hst⟩ := hcut
      obtain ⟨hS0, hB0, hg4, hbox⟩ := hst.out
      have HB0 := Lib.hid hB0; clear hB0 hst
      have hpb : w.heap.size ≠ w.heap.size + 1 + 1 := by omega
      have hvb : (Value.slice (some ⟨g, 0, none⟩) 7 cap).ownBlock ≠ some w.heap.size := by simp [Value.ownBlock]; omega
      have hTS : Hid (∀ b, (fun b => b < w.heap.size) b → b ≠ w.heap.size + 1 + 1 ∧ (Value.slice (some ⟨g, 0, none⟩) 7 cap).ownBlock ≠ some b ∧ b < wc.heap.size) := by
        intro b hb
        have := HB0.out.size
        have hb : b < w.heap.size := hb
        refine ⟨by omega, by simp [Value.ownBlock]; omega, by omega⟩
      have hb0 : w.heap.size ≤ wc.heap.size := HB0.out.size
      have HVB := Lib.hid hvb; clear hvb
      have HBX := Lib.hid hbox; clear hbox
      have u64max : Hid (I64 s.used ∧ I64 s.replies ∧ U64s s.results ∧ U64s s.globals ∧ (∀ y ∈ s.pages, Bytes y)) := ⟨HWF.out.used, HWF.out.replies, HWF.out.results, HWF.out.globals, HWF.out.pages⟩
      have HS0 := Lib.hid hS0; clear hS0
      -- used
      have x1 := HS0.out.cell (row_cell HBX.out 7 rfl) hpb HVB.out
      go_wp2_with fail
      (with_reducible refine (st_number HS0.out hb0 (by omega) s.used 4611686018427387904 4611686018427387904 (by omega) u64max.out.1).mono ?_)
      rintro e w1 ⟨rfl, v1, hS1⟩
      have HS1 := Lib.hid hS1; clear hS1 x1
      have x2 := HS1.out.cell (row_cell HBX.out 3 rfl) hpb HVB.out
      go_wp2_with fail
      (with_reducible refine (st_number HS1.out hb0 (by omega) s.replies 9223372036854775807 9223372036854775807 (by omega) u64max.out.2.1).mono ?_)
      rintro e w2 ⟨rfl, v2, hS2⟩
      have HS2 := Lib.hid hS2; clear hS2 x2
      have x3 := HS2.out.cell (row_cell HBX.out 5 rfl) hpb HVB.out
      go_wp2_with fail
      (with_reducible refine (st_values HS2.out hb0 (by omega) _ rv s.results (HR.out.keeps ((Keeps.all _ HB0.out).trans (HS2.out.keeps hTS.out))) hTS.out u64max.out.2.2.1 8 8 (by omega) (by omega)).mono ?_)
      rintro e w3 ⟨rfl, v3, hS3⟩
      have HS3 := Lib.hid hS3; clear hS3 x3
      have x4 := HS3.out.cell (row_cell HBX.out 1 rfl) hpb HVB.out
      go_wp2_with fail
      (with_reducible refine (st_values HS3.out hb0 (by omega) _ gv s.globals (HG.out.keeps ((Keeps.all _ HB0.out).trans (HS3.out.keeps hTS.out))) hTS.out u64max.out.2.2.2.1 64 64 (by omega) (by omega)).mono ?_)
      rintro e w4 ⟨rfl, v4, hS4⟩
      have HS4 := Lib.hid hS4; clear hS4 x4
      have x5 := HS4.out.cell (row_cell HBX.out 2 rfl) hpb HVB.out
      go_wp2_with fail
      (with_reducible refine (st_pages HS4.out hb0 (by omega) _ pv s.pages (HP.out.keeps ((Keeps.all _ HB0.out).trans (HS4.out.keeps hTS.out))) hTS.out u64max.out.2.2.2.2).mono ?_)
      rintro e w5 ⟨rfl, v5, hS5⟩
      have HS5 := Lib.hid hS5; clear hS5 x5
      have x6 := HS5.out.cell (row_cell HBX.out 0 rfl) hpb HVB.out
      go_wp2_with fail
      (with_reducible refine (st_number HS5.out hb0 (by omega) s.frames.length 64 64 (by omega) (by unfold I64; omega)).mono ?_)
      rintro e w6 ⟨rfl, v6, hS6⟩
      obtain ⟨okb, hokb⟩ : ∃ okb, okb = (true && okn s.used 4611686018427387904 && okn s.replies 9223372036854775807 && decide (s.results.length ≤ 8) && decide (s.globals.length ≤ 64) && okPages s.pages && okn (s.frames.length : Int) 64) := ⟨_, rfl⟩
      obtain ⟨pre, hpre⟩ : ∃ pre, pre = [70, 83, 78, 80, 1, s.ends, s.trap] ++ uv s.used.toNat ++ uv s.replies.toNat ++ encVals s.results ++ encVals s.globals ++ encPages s.pages ++ uv (s.frames.length : Int).toNat := ⟨_, rfl⟩
      rw [← hokb, ← hpre] at hS6
      have HOK : Hid (okb = okHead s) := by
        show _ = _
        rw [hokb, okHead, okn_len]; simp only [Bool.true_and]
      have HPRE : Hid (pre = encHead s) := by
        show _ = _
        rw [hpre, encHead]; simp only [List.cons_append, List.nil_append, Int.toNat_natCast]
      clear hokb hpre x6
      have HS6 := Lib.hid hS6; clear hS6 HS5 HS4 HS3 HS2 HS1
      have x7 := HS6.out.bad
      cases okb with
      | false =>
        have HNO : Hid (okState s = false) := by show _ = _; rw [okState, ← HOK.out]; simp
        have HBL := Lib.hid (write_below HB0.out hb0 HS6.out (by omega) (by simp [Value.ownBlock]; omega))
        go_wp2_with fail
        go_ret2
        exact ⟨_, 44, rfl, HBL.out, fun h => by rw [HNO.out] at h; simp at h, fun _ => ⟨rfl, rfl⟩⟩
      | true =>
        have x8 := HS6.out.cell (row_cell HBX.out 0 rfl) hpb HVB.out
        have hlen6 : s.frames.length ≤ 64 := by
          have := HOK.out
          rw [okHead] at this
          have h := (Bool.and_eq_true_iff.1 this.symm).2
          exact of_decide_eq_true h
        have HFS := Lib.hid HWF.out.frames
        go_wp2_with fail
        go_loopw [76] (fun i wr => ∃ (k : Nat) (vk : Value) (okb : Bool) (pr : List Int) (len : Nat), k ≤ s.frames.length ∧ i = .int .i64 k ∧ Hid (St w.heap.size (w.heap.size + 1 + 1) (.slice (some ⟨g, 0, none⟩) 7 cap) wc pr okb vk wr len) ∧
          Hid (okb = (s.frames.take k).all okFrame) ∧ Hid (pr = encHead s ++ (s.frames.take k).flatMap encFrame) ∧ len ≤ 300000 + 6000 * k) (fun i _ => s.frames.length - (intOf i).toNat)
        case atStart => exact ⟨0, v6, true, pre, _, by omega, rfl, HS6, rfl, by rw [HPRE.out]; simp [Hid], by omega⟩
        case round =>
          obtain ⟨k, vk, okk, pr, len, hk, rfl, HS, HO, HY, hlen⟩ := hrel
          by_cases hlt : k < s.frames.length
          · have RF := HF.out.keeps ((Keeps.all _ HB0.out).trans (HS.out.keeps hTS.out))
            obtain ⟨_, _, ee, _, _, rr⟩ := RF
            obtain ⟨b, o, cs, ea, hb, hn4, hcell, lv, sv, rfl, hl, hs⟩ := rr k hlt
            rw [← (Value.slice.inj ee).1] at ea
            subst ea
            clear ee rr
            have q0 := hcell 0 (by omega); have q1 := hcell 1 (by omega); have q2 := hcell 2 (by omega); have q3 := hcell 3 (by omega)
            simp at q0 q1 q2 q3
            clear hcell hn4
            obtain ⟨la, lc, rfl, _⟩ := hl.len
            obtain ⟨sa, sc, rfl, _⟩ := hs.len
            have HL := Lib.hid hl; have HSV := Lib.hid hs
            have hwf := Lib.hid (HFS.out _ (List.getElem_mem hlt))
            have HA := Lib.hid (all_take_succ okFrame s.frames k hlt)
            have HFM := Lib.hid (flatMap_take_succ encFrame s.frames k hlt)
            clear hl hs
            generalize s.frames[k] = f at *
            have hk64 : len ≤ 700000 := by omega
            have hown := HS.out.own_lt
            have R0 := Lib.hid ((HS.out.alloc (Obj.cells #[.int .i64 f.fn, .int .i64 f.pc, .slice la f.loc.length lc, .slice sa f.stk.length sc] 66)).rebase)
            have hTR := Lib.hid ((HS.out.alloc (Obj.cells #[.int .i64 f.fn, .int .i64 f.pc, .slice la f.loc.length lc, .slice sa f.stk.length sc] 66)).sep hTS.out)
            have hvk : Hid (vk.ownBlock ≠ some wr.heap.size) := fun e => by have := hown.2 _ e; omega
            have hpk : wr.heap.size ≠ w.heap.size + 1 + 1 := by omega
            have hbw : w.heap.size ≤ (wr.alloc (Obj.cells #[.int .i64 f.fn, .int .i64 f.pc, .slice la f.loc.length lc, .slice sa f.stk.length sc] 66)).heap.size := by rw [World.size_alloc]; omega
            have HFB : Hid ((wr.alloc (Obj.cells #[.int .i64 f.fn, .int .i64 f.pc, .slice la f.loc.length lc, .slice sa f.stk.length sc] 66)).heap[wr.heap.size]? = some (Obj.cells #[.int .i64 f.fn, .int .i64 f.pc, .slice la f.loc.length lc, .slice sa f.stk.length sc] 66)) := heap_alloc_new _ _
            have HKA : Hid (Keeps (fun b => b < w.heap.size) wr (wr.alloc (Obj.cells #[.int .i64 f.fn, .int .i64 f.pc, .slice la f.loc.length lc, .slice sa f.stk.length sc] 66))) := (Keeps.refl _ _).alloc _
            have HFP := Lib.hid (HS.out.alloc (Obj.cells #[.int .i64 f.fn, .int .i64 f.pc, .slice la f.loc.length lc, .slice sa f.stk.length sc] 66))
            clear hown
            go_wp2_with fail
            (with_reducible refine (st_number R0.out hbw (by omega) f.fn 127 127 (by omega) hwf.out.fn).mono ?_)
            rintro e w7 ⟨rfl, v7, hS7⟩
            have R1 := Lib.hid hS7; clear hS7
            have y1 := R1.out.cell (row_cell HFB.out 1 rfl) hpk hvk.out
            go_wp2_with fail
            (with_reducible refine (st_number R1.out hbw (by omega) f.pc 2047 2047 (by omega) hwf.out.pc).mono ?_)
            rintro e w8 ⟨rfl, v8, hS8⟩
            have R2 := Lib.hid hS8; clear hS8 y1
            have y2 := R2.out.cell (row_cell HFB.out 2 rfl) hpk hvk.out
            go_wp2_with fail
            (with_reducible refine (st_values R2.out hbw (by omega) _ _ f.loc (HL.out.keeps (HKA.out.trans (R2.out.keeps hTR.out))) hTR.out hwf.out.loc 64 64 (by omega) (by omega)).mono ?_)
            rintro e w9 ⟨rfl, v9, hS9⟩
            have R3 := Lib.hid hS9; clear hS9 y2
            have y3 := R3.out.cell (row_cell HFB.out 3 rfl) hpk hvk.out
            go_wp2_with fail
            (with_reducible refine (st_values R3.out hbw (by omega) _ _ f.stk (HSV.out.keeps (HKA.out.trans (R3.out.keeps hTR.out))) hTR.out hwf.out.stk 256 256 (by omega) (by omega)).mono ?_)
            rintro e w10 ⟨rfl, v10, hS10⟩
            have R4 := Lib.hid (write_frame HFP.out hS10 HO.out HA.out HY.out HFM.out); clear hS10 y3
            go_wp2_with fail
            go_roundw
            case rel => exact ⟨k + 1, v10, _, _, _, by omega, by go_num, R4.out.1, R4.out.2.1, R4.out.2.2, by omega⟩
            case measure => simp [intOf]; omega
          · obtain rfl : k = s.frames.length := by omega
            have HFin : Hid (okState s = okk ∧ (okk = true → pr = encState s)) := by
              refine ⟨?_, fun _ => ?_⟩
              · rw [okState, HE.out, ← HOK.out, HO.out, List.take_length]; simp
              · rw [HY.out, encState, List.take_length]
            have x9 := HS.out.bad
            have HBL := Lib.hid (write_below HB0.out hb0 HS.out (by omega) (by simp [Value.ownBlock]; omega))
            cases okk with
            | false =>
              go_wp2_with fail
              go_ret2
              exact ⟨_, 44, rfl, HBL.out, fun h => by rw [HFin.out.1] at h; simp at h, fun _ => ⟨rfl, rfl⟩⟩
            | true =>
              have hsl := HS.out.slice
              have x10 := hsl.1
              have HOW := Lib.hid hsl.2; clear hsl
              have HPR := Lib.hid (HFin.out.2 rfl)
              go_wp2_with fail
              go_ret2
              exact ⟨_, 0, rfl, HBL.out, fun _ => ⟨rfl, by rw [← HPR.out]; exact HOW.out⟩, fun h => by rw [HFin.out.1] at h; simp at h⟩
  · have hE' : okEnds s = false := by simpa using hE
    have hno : okState s = false := by simp [okState, hE']
    have HNO := Lib.hid hno; clear hno hE'
    have hbad : s.ends < 1 ∨ 3 < s.ends ∨ s.trap < 0 ∨ 6 < s.trap := by
      unfold okEnds at hE; simp only [decide_eq_true_eq] at hE; omega
    clear hE
    go_enter Tryd.func8, Tryd.ntmps8
    go_wp2_with fail
    all_goals go_ret2
    all_goals exact ⟨_, 44, rfl, below_alloc3 _ _ _ _, fun h => by rw [HNO.out] at h; simp at h, fun _ => ⟨rfl, rfl⟩⟩
end Go.Proofs.YthlkckpadjjbdaaDoor
