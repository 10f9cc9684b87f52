/- flagonlaw21.one, instance.Signature, flagonlaw21.works. flagonlaw21.works. -/
import Derived.Test.YtfhkjahjenpbgaaDoorBeg21
import Derived.Test.YtfhkjahjenpbgaaDoorEqs
import Derived.Test.YtfhkjahjenpbgaaDoorMAll
namespace Go.Proofs.YtfhkjahjenpbgaaDoor
open Go Go.RowKit
set_option linter.unusedSimpArgs false

def nmF : ByteArray := ⟨#[102]⟩
def nmG : ByteArray := ⟨#[103]⟩
def oneI : ModD := ⟨[(⟨#[119]⟩, ⟨#[]⟩)], [], [⟨108, false, 9⟩], 1, 1, [⟨0, ⟨#[108]⟩, [⟨6, 0, []⟩]⟩], [⟨16, [7]⟩], [⟨nmF, 0⟩]⟩
theorem enc_oneI : (encM oneI).2 = 0 := by decide +kernel
theorem fun_oneI : (funV oneI 0).2 = (0, 0) := by decide +kernel
theorem val_oneI : (valM oneI).2.1 = 0 := by
  have h1 : (funV oneI 0).2.1 = 0 := by rw [fun_oneI]
  refine valM_ok.2 ⟨enc_oneI, fun j hj => ?_⟩
  have hj1 : j < 1 := hj
  obtain rfl : j = 0 := by omega
  exact h1
theorem find_f : findM oneI nmF = (0, 0) := by
  unfold findM
  rw [if_neg (by rw [val_oneI]; simp)]
  decide +kernel
theorem find_g : findM oneI nmG = (0, 41) := by
  unfold findM
  rw [if_neg (by rw [val_oneI]; simp)]
  decide +kernel
theorem beg_f : begE oneI nmF [5] = 0 ∧ begL oneI nmF [5] = [5, 0] := by
  unfold begE begL
  rw [find_f]
  decide +kernel
theorem beg_g : begE oneI nmG [] = 41 := by
  unfold begE
  rw [find_g]
  decide +kernel
theorem sm_oneI : SmM oneI := by
  refine ⟨fun x hx => ?_, fun f hf => ?_, fun e he => ?_, fun n hn => by simp [oneI] at hn, fun f hf => ?_, fun d hd => ?_, fun e he => ?_, (by show i64P 1; unfold i64P; decide), (by show i64P 1; unfold i64P; decide), fun g hg => ?_⟩
  · simp only [oneI, List.mem_singleton] at hx; subst hx; exact ⟨by decide, by decide⟩
  · simp only [oneI, List.mem_singleton] at hf; subst hf; show (⟨#[108]⟩ : ByteArray).size ≤ _; decide
  · simp only [oneI, List.mem_singleton] at he; subst he; show (⟨#[102]⟩ : ByteArray).size ≤ _; decide
  · simp only [oneI, List.mem_singleton] at hf; subst hf; show i64P 0; unfold i64P; decide
  · simp only [oneI, List.mem_singleton] at hd; subst hd; show i64P 16; unfold i64P; decide
  · simp only [oneI, List.mem_singleton] at he; subst he; show i64P 0; unfold i64P; decide
  · simp only [oneI, List.mem_singleton] at hg; subst hg; show 108 < 256; decide
theorem wf_oneI : WfM oneI := by
  refine ⟨fun g hg => ?_, fun f hf i hi => ?_, fun d hd => ?_⟩
  · simp only [oneI, List.mem_singleton] at hg; subst hg; decide
  · simp only [oneI, List.mem_singleton] at hf; subst hf
    simp only [List.mem_singleton] at hi; subst hi
    exact ⟨by decide, by unfold i64P; decide, fun n hn => by simp at hn⟩
  · simp only [oneI, List.mem_singleton] at hd; subst hd
    intro x hx
    simp only [List.mem_singleton] at hx; subst hx
    decide
theorem oneI_results {a : Act} {w : World} (g : Nat) (cs : Array Value) (hrow : w.heap[g]? = some (.cells cs 29 (0, 0))) (hsz : cs.size = 8) (h2 : a.tmps.getD 0 undef = .pointer (some ⟨g, 0, none⟩)) :
    (results Tryd.f7 a.tmps).run Tryd.prog w = .ok (.agg cs) w := by
  have hl := run_loadVar_row (P := Tryd.prog) w g 29 29 cs (0, 0) _ hrow Tryd.underlying29 rfl (by rw [hsz]; kernel_rfl)
  have h2' : a.tmps[0]?.getD undef = .pointer (some ⟨g, 0, none⟩) := by simpa using h2
  simp [results, Tryd.results7, asAddr, h2', hl]
set_option maxRecDepth 100000 in
set_option maxHeartbeats 1600000 in
theorem law_oneI (w : World) :
    Calls Tryd.prog 7 #[] w fun e w' => ∃ cs, e = .returned (.agg cs.toArray) ∧ RMod (· < w'.heap.size) w' cs oneI ∧ Below w.heap.size w w' := by
  go_enter Tryd.func7, Tryd.ntmps7
  go_wp2_with fail
  have b1 := below_alloc w (.cells #[.slice (some ⟨w.heap.size + 1, 0, none⟩) 1 1, .slice none 0 0, .slice (some ⟨w.heap.size + 1 + 1, 0, none⟩) 1 1, .int .i64 1, .int .i64 1, .slice (some ⟨w.heap.size + 1 + 1 + 1 + 1, 0, none⟩) 1 1, .slice (some ⟨w.heap.size + 1 + 1 + 1 + 1 + 1 + 1, 0, none⟩) 1 1, .slice (some ⟨w.heap.size + 1 + 1 + 1 + 1 + 1 + 1 + 1, 0, none⟩) 1 1] 29)
  have r1 := heap_alloc_new w (.cells #[.slice (some ⟨w.heap.size + 1, 0, none⟩) 1 1, .slice none 0 0, .slice (some ⟨w.heap.size + 1 + 1, 0, none⟩) 1 1, .int .i64 1, .int .i64 1, .slice (some ⟨w.heap.size + 1 + 1 + 1 + 1, 0, none⟩) 1 1, .slice (some ⟨w.heap.size + 1 + 1 + 1 + 1 + 1 + 1, 0, none⟩) 1 1, .slice (some ⟨w.heap.size + 1 + 1 + 1 + 1 + 1 + 1 + 1, 0, none⟩) 1 1] 29)
  have s1 : (w.alloc (.cells #[.slice (some ⟨w.heap.size + 1, 0, none⟩) 1 1, .slice none 0 0, .slice (some ⟨w.heap.size + 1 + 1, 0, none⟩) 1 1, .int .i64 1, .int .i64 1, .slice (some ⟨w.heap.size + 1 + 1 + 1 + 1, 0, none⟩) 1 1, .slice (some ⟨w.heap.size + 1 + 1 + 1 + 1 + 1 + 1, 0, none⟩) 1 1, .slice (some ⟨w.heap.size + 1 + 1 + 1 + 1 + 1 + 1 + 1, 0, none⟩) 1 1] 29)).heap.size = w.heap.size + 1 := World.size_alloc ..
  generalize w.alloc (.cells #[.slice (some ⟨w.heap.size + 1, 0, none⟩) 1 1, .slice none 0 0, .slice (some ⟨w.heap.size + 1 + 1, 0, none⟩) 1 1, .int .i64 1, .int .i64 1, .slice (some ⟨w.heap.size + 1 + 1 + 1 + 1, 0, none⟩) 1 1, .slice (some ⟨w.heap.size + 1 + 1 + 1 + 1 + 1 + 1, 0, none⟩) 1 1, .slice (some ⟨w.heap.size + 1 + 1 + 1 + 1 + 1 + 1 + 1, 0, none⟩) 1 1] 29) = w1 at *
  have b2 := below_alloc w1 (.cells #[.string ⟨#[119]⟩, .string ⟨#[]⟩] 48)
  have r2 := heap_alloc_new w1 (.cells #[.string ⟨#[119]⟩, .string ⟨#[]⟩] 48)
  have s2 : (w1.alloc (.cells #[.string ⟨#[119]⟩, .string ⟨#[]⟩] 48)).heap.size = w1.heap.size + 1 := World.size_alloc ..
  generalize w1.alloc (.cells #[.string ⟨#[119]⟩, .string ⟨#[]⟩] 48) = w2 at *
  rw [s1] at s2 r2
  have b3 := below_alloc w2 (.cells #[.int .u8 108, .bool false, .int .u64 9] 66)
  have r3 := heap_alloc_new w2 (.cells #[.int .u8 108, .bool false, .int .u64 9] 66)
  have s3 : (w2.alloc (.cells #[.int .u8 108, .bool false, .int .u64 9] 66)).heap.size = w2.heap.size + 1 := World.size_alloc ..
  generalize w2.alloc (.cells #[.int .u8 108, .bool false, .int .u64 9] 66) = w3 at *
  rw [s2] at s3 r3
  have b4 := below_alloc w3 (.cells #[.int .u8 6, .int .i64 0, .slice none 0 0] 68)
  have r4 := heap_alloc_new w3 (.cells #[.int .u8 6, .int .i64 0, .slice none 0 0] 68)
  have s4 : (w3.alloc (.cells #[.int .u8 6, .int .i64 0, .slice none 0 0] 68)).heap.size = w3.heap.size + 1 := World.size_alloc ..
  generalize w3.alloc (.cells #[.int .u8 6, .int .i64 0, .slice none 0 0] 68) = w4 at *
  rw [s3] at s4 r4
  have b5 := below_alloc w4 (.cells #[.int .i64 0, .string ⟨#[108]⟩, .slice (some ⟨w.heap.size + 1 + 1 + 1, 0, none⟩) 1 1] 56)
  have r5 := heap_alloc_new w4 (.cells #[.int .i64 0, .string ⟨#[108]⟩, .slice (some ⟨w.heap.size + 1 + 1 + 1, 0, none⟩) 1 1] 56)
  have s5 : (w4.alloc (.cells #[.int .i64 0, .string ⟨#[108]⟩, .slice (some ⟨w.heap.size + 1 + 1 + 1, 0, none⟩) 1 1] 56)).heap.size = w4.heap.size + 1 := World.size_alloc ..
  generalize w4.alloc (.cells #[.int .i64 0, .string ⟨#[108]⟩, .slice (some ⟨w.heap.size + 1 + 1 + 1, 0, none⟩) 1 1] 56) = w5 at *
  rw [s4] at s5 r5
  have b6 := below_alloc w5 (.cells #[.int .u8 7] 5)
  have r6 := heap_alloc_new w5 (.cells #[.int .u8 7] 5)
  have s6 : (w5.alloc (.cells #[.int .u8 7] 5)).heap.size = w5.heap.size + 1 := World.size_alloc ..
  generalize w5.alloc (.cells #[.int .u8 7] 5) = w6 at *
  rw [s5] at s6 r6
  have b7 := below_alloc w6 (.cells #[.int .i64 16, .slice (some ⟨w.heap.size + 1 + 1 + 1 + 1 + 1, 0, none⟩) 1 1] 43)
  have r7 := heap_alloc_new w6 (.cells #[.int .i64 16, .slice (some ⟨w.heap.size + 1 + 1 + 1 + 1 + 1, 0, none⟩) 1 1] 43)
  have s7 : (w6.alloc (.cells #[.int .i64 16, .slice (some ⟨w.heap.size + 1 + 1 + 1 + 1 + 1, 0, none⟩) 1 1] 43)).heap.size = w6.heap.size + 1 := World.size_alloc ..
  generalize w6.alloc (.cells #[.int .i64 16, .slice (some ⟨w.heap.size + 1 + 1 + 1 + 1 + 1, 0, none⟩) 1 1] 43) = w7 at *
  rw [s6] at s7 r7
  have b8 := below_alloc w7 (.cells #[.string ⟨#[102]⟩, .int .i64 0] 59)
  have r8 := heap_alloc_new w7 (.cells #[.string ⟨#[102]⟩, .int .i64 0] 59)
  have s8 : (w7.alloc (.cells #[.string ⟨#[102]⟩, .int .i64 0] 59)).heap.size = w7.heap.size + 1 := World.size_alloc ..
  generalize w7.alloc (.cells #[.string ⟨#[102]⟩, .int .i64 0] 59) = w8 at *
  rw [s7] at s8 r8
  have h7 := b8
  have h6 := below_next b7 h7
  have h5 := below_next b6 h6
  have h4 := below_next b5 h5
  have h3 := below_next b4 h4
  have h2 := below_next b3 h3
  have h1 := below_next b2 h2
  have q1 := (h1.block _ (row_lt r1)).trans r1
  have q2 := (h2.block _ (row_lt r2)).trans r2
  have q3 := (h3.block _ (row_lt r3)).trans r3
  have q4 := (h4.block _ (row_lt r4)).trans r4
  have q5 := (h5.block _ (row_lt r5)).trans r5
  have q6 := (h6.block _ (row_lt r6)).trans r6
  have q7 := (h7.block _ (row_lt r7)).trans r7
  have HCD : CdS (· < w8.heap.size) w8 (.slice (some ⟨w.heap.size + 1 + 1 + 1, 0, none⟩) 1 1) [⟨6, 0, []⟩] := by
    refine ⟨_, 1, rfl, Nat.le_refl _, (by show 1 ≤ 140737488355328; decide), fun j hj => ?_⟩
    have hj1 : j < 1 := hj
    obtain rfl : j = 0 := by omega
    refine ⟨w.heap.size + 1 + 1 + 1, 0, [.int .u8 6, .int .i64 0, .slice none 0 0], rfl, row_lt q4, rfl, fun i hi => ?_, .slice none 0 0, rfl, RdI.nil ..⟩
    match i, hi with
    | 0, _ => exact row_cell q4 0 rfl
    | 1, _ => exact row_cell q4 1 rfl
    | 2, _ => exact row_cell q4 2 rfl
  have HBY : RdI .u8 (· < w8.heap.size) w8 (.slice (some ⟨w.heap.size + 1 + 1 + 1 + 1 + 1, 0, none⟩) 1 1) [7] := by
    refine ⟨_, 1, rfl, Nat.le_refl _, (by show 1 ≤ 140737488355328; decide), fun j hj => ?_⟩
    have hj1 : j < 1 := hj
    obtain rfl : j = 0 := by omega
    exact ⟨w.heap.size + 1 + 1 + 1 + 1 + 1, 0, rfl, row_lt q6, row_cell q6 0 rfl⟩
  refine bodyPost_ret (oneI_results w.heap.size #[.slice (some ⟨w.heap.size + 1, 0, none⟩) 1 1, .slice none 0 0, .slice (some ⟨w.heap.size + 1 + 1, 0, none⟩) 1 1, .int .i64 1, .int .i64 1, .slice (some ⟨w.heap.size + 1 + 1 + 1 + 1, 0, none⟩) 1 1, .slice (some ⟨w.heap.size + 1 + 1 + 1 + 1 + 1 + 1, 0, none⟩) 1 1, .slice (some ⟨w.heap.size + 1 + 1 + 1 + 1 + 1 + 1 + 1, 0, none⟩) 1 1] q1 rfl rfl) rfl ⟨_, rfl, ?_, below_next b1 h1⟩
  refine ⟨_, _, _, _, _, _, rfl, ?_, RdI.nil .., ?_, ?_, ?_, ?_⟩
  · refine ⟨_, 1, rfl, Nat.le_refl _, (by show 1 ≤ 140737488355328; decide), fun j hj => ?_⟩
    have hj1 : j < 1 := hj
    obtain rfl : j = 0 := by omega
    refine ⟨w.heap.size + 1, 0, [.string ⟨#[119]⟩, .string ⟨#[]⟩], rfl, row_lt q2, rfl, fun i hi => ?_, rfl⟩
    match i, hi with
    | 0, _ => exact row_cell q2 0 rfl
    | 1, _ => exact row_cell q2 1 rfl
  · refine ⟨_, 1, rfl, Nat.le_refl _, (by show 1 ≤ 140737488355328; decide), fun j hj => ?_⟩
    have hj1 : j < 1 := hj
    obtain rfl : j = 0 := by omega
    refine ⟨w.heap.size + 1 + 1, 0, [.int .u8 108, .bool false, .int .u64 9], rfl, row_lt q3, rfl, fun i hi => ?_, rfl⟩
    match i, hi with
    | 0, _ => exact row_cell q3 0 rfl
    | 1, _ => exact row_cell q3 1 rfl
    | 2, _ => exact row_cell q3 2 rfl
  · refine ⟨_, 1, rfl, Nat.le_refl _, (by show 1 ≤ 140737488355328; decide), fun j hj => ?_⟩
    have hj1 : j < 1 := hj
    obtain rfl : j = 0 := by omega
    refine ⟨w.heap.size + 1 + 1 + 1 + 1, 0, [.int .i64 0, .string ⟨#[108]⟩, .slice (some ⟨w.heap.size + 1 + 1 + 1, 0, none⟩) 1 1], rfl, row_lt q5, rfl, fun i hi => ?_, .slice (some ⟨w.heap.size + 1 + 1 + 1, 0, none⟩) 1 1, rfl, HCD⟩
    match i, hi with
    | 0, _ => exact row_cell q5 0 rfl
    | 1, _ => exact row_cell q5 1 rfl
    | 2, _ => exact row_cell q5 2 rfl
  · refine ⟨_, 1, rfl, Nat.le_refl _, (by show 1 ≤ 140737488355328; decide), fun j hj => ?_⟩
    have hj1 : j < 1 := hj
    obtain rfl : j = 0 := by omega
    refine ⟨w.heap.size + 1 + 1 + 1 + 1 + 1 + 1, 0, [.int .i64 16, .slice (some ⟨w.heap.size + 1 + 1 + 1 + 1 + 1, 0, none⟩) 1 1], rfl, row_lt q7, rfl, fun i hi => ?_, .slice (some ⟨w.heap.size + 1 + 1 + 1 + 1 + 1, 0, none⟩) 1 1, rfl, HBY⟩
    match i, hi with
    | 0, _ => exact row_cell q7 0 rfl
    | 1, _ => exact row_cell q7 1 rfl
  · refine ⟨_, 1, rfl, Nat.le_refl _, (by show 1 ≤ 140737488355328; decide), fun j hj => ?_⟩
    have hj1 : j < 1 := hj
    obtain rfl : j = 0 := by omega
    refine ⟨w.heap.size + 1 + 1 + 1 + 1 + 1 + 1 + 1, 0, [.string ⟨#[102]⟩, .int .i64 0], rfl, row_lt r8, rfl, fun i hi => ?_, rfl⟩
    match i, hi with
    | 0, _ => exact row_cell r8 0 rfl
    | 1, _ => exact row_cell r8 1 rfl
theorem row2w {w : World} {g : Nat} {o0 o1 : Value} {T : Nat} {fr : Nat × Nat} (h : w.heap[g]? = some (.cells #[o0, o1] T fr)) (v0 v1 : Value) :
    ((w.setCell ⟨g, 0, none⟩ v0).setCell ⟨g, 1, none⟩ v1).heap[g]? = some (.cells #[v0, v1] T fr) := by
  simpa using row_setCell (row_setCell h 0 v0) 1 v1
theorem sig_results {a : Act} {w : World} (g : Nat) (cs : Array Value) (x : Value) (hrow : w.heap[g]? = some (.cells cs 48 (0, 0))) (hsz : cs.size = 2) (h6 : a.tmps.getD 4 undef = .pointer (some ⟨g, 0, none⟩)) (h7 : a.tmps.getD 5 undef = x) :
    (results Tryd.f8 a.tmps).run Tryd.prog w = .ok (.tuple #[.agg cs, x]) w := by
  have hl := run_loadVar_row (P := Tryd.prog) w g 48 48 cs (0, 0) _ hrow Tryd.underlying48 rfl (by rw [hsz]; kernel_rfl)
  have h6' : a.tmps[4]?.getD undef = .pointer (some ⟨g, 0, none⟩) := by simpa using h6
  have h7' : a.tmps[5]?.getD undef = x := by simpa using h7
  simp [results, Tryd.results8, asAddr, h6', hl, h7']
set_option maxRecDepth 100000 in
set_option maxHeartbeats 3200000 in
theorem inst_Signature (w : World) (S : Nat → Prop) (hS : ∀ b, S b → b < w.heap.size) (m : ModD) (cs : List Value) (hm : RMod S w cs m) (sm : SmM m) (wf : WfM m) (htb : Tb w) (name : ByteArray) (he : (findM m name).2 = 0) :
    Calls Tryd.prog 8 #[.agg cs.toArray, .string name] w fun r w' => r = .returned (.tuple #[.agg #[.string (sigAt m.types (m.funs.getD (findM m name).1.toNat funZ).t).1, .string (sigAt m.types (m.funs.getD (findM m name).1.toNat funZ).t).2], .int .i64 0]) ∧ Below w.heap.size w w' := by
  have hm0 := hm
  obtain ⟨tv, hv, gv, fv, dv, ev, rfl, r1, r2, r3, r4, r5, r6⟩ := hm
  obtain ⟨ta, tc, rfl, tl⟩ := r1.len
  obtain ⟨ha, hc, rfl, hl⟩ := r2.len
  obtain ⟨ga, gc, rfl, gl⟩ := r3.len
  obtain ⟨fa, fc, rfl, fl⟩ := r4.len
  obtain ⟨da, dc, rfl, dl⟩ := r5.len
  obtain ⟨ea, ec, rfl, el⟩ := r6.len
  have hba : Below w.heap.size w ((w.alloc (.cells #[.slice ta m.types.length tc, .slice ha m.hosts.length hc, .slice ga m.globals.length gc, .int .i64 m.first, .int .i64 m.most, .slice fa m.funs.length fc, .slice da m.datas.length dc, .slice ea m.exps.length ec] 29)).alloc (.cells #[.string ⟨#[]⟩, .string ⟨#[]⟩] 48)) := below_next (below_alloc _ _) (below_alloc _ _)
  have hmb : ((w.alloc (.cells #[.slice ta m.types.length tc, .slice ha m.hosts.length hc, .slice ga m.globals.length gc, .int .i64 m.first, .int .i64 m.most, .slice fa m.funs.length fc, .slice da m.datas.length dc, .slice ea m.exps.length ec] 29)).alloc (.cells #[.string ⟨#[]⟩, .string ⟨#[]⟩] 48)).heap[w.heap.size]? = some (.cells #[.slice ta m.types.length tc, .slice ha m.hosts.length hc, .slice ga m.globals.length gc, .int .i64 m.first, .int .i64 m.most, .slice fa m.funs.length fc, .slice da m.datas.length dc, .slice ea m.exps.length ec] 29 (0, 0)) := ((below_alloc (w.alloc (.cells #[.slice ta m.types.length tc, .slice ha m.hosts.length hc, .slice ga m.globals.length gc, .int .i64 m.first, .int .i64 m.most, .slice fa m.funs.length fc, .slice da m.datas.length dc, .slice ea m.exps.length ec] 29)) (.cells #[.string ⟨#[]⟩, .string ⟨#[]⟩] 48)).block _ (by rw [World.size_alloc]; omega)).trans (heap_alloc_new w (.cells #[.slice ta m.types.length tc, .slice ha m.hosts.length hc, .slice ga m.globals.length gc, .int .i64 m.first, .int .i64 m.most, .slice fa m.funs.length fc, .slice da m.datas.length dc, .slice ea m.exps.length ec] 29))
  have hsb : ((w.alloc (.cells #[.slice ta m.types.length tc, .slice ha m.hosts.length hc, .slice ga m.globals.length gc, .int .i64 m.first, .int .i64 m.most, .slice fa m.funs.length fc, .slice da m.datas.length dc, .slice ea m.exps.length ec] 29)).alloc (.cells #[.string ⟨#[]⟩, .string ⟨#[]⟩] 48)).heap[w.heap.size + 1]? = some (.cells #[.string ⟨#[]⟩, .string ⟨#[]⟩] 48 (0, 0)) := by
    have := heap_alloc_new (w.alloc (.cells #[.slice ta m.types.length tc, .slice ha m.hosts.length hc, .slice ga m.globals.length gc, .int .i64 m.first, .int .i64 m.most, .slice fa m.funs.length fc, .slice da m.datas.length dc, .slice ea m.exps.length ec] 29)) (.cells #[.string ⟨#[]⟩, .string ⟨#[]⟩] 48)
    rw [World.size_alloc] at this
    exact this
  have HF := Lib.hid (inst_find ((w.alloc (.cells #[.slice ta m.types.length tc, .slice ha m.hosts.length hc, .slice ga m.globals.length gc, .int .i64 m.first, .int .i64 m.most, .slice fa m.funs.length fc, .slice da m.datas.length dc, .slice ea m.exps.length ec] 29)).alloc (.cells #[.string ⟨#[]⟩, .string ⟨#[]⟩] 48)) S (fun b hb => by have := hS b hb; have := hba.size; omega) m _ (hm0.keeps (Keeps.all S hba)) sm wf (htb.bel hba) name)
  have HM := Lib.hid hm0; have HMB := Lib.hid hmb; have HSB := Lib.hid hsb; have HB := Lib.hid hba; have HWF := Lib.hid wf
  have HOK := Lib.hid (find_ok he)
  have g0 := row_cell hmb 0 rfl; have g1 := row_cell hmb 1 rfl; have g2 := row_cell hmb 2 rfl; have g3 := row_cell hmb 3 rfl; have g4 := row_cell hmb 4 rfl; have g5 := row_cell hmb 5 rfl; have g6 := row_cell hmb 6 rfl; have g7 := row_cell hmb 7 rfl
  simp only [List.getElem_toArray, List.getElem_cons_zero, List.getElem_cons_succ] at g0 g1 g2 g3 g4 g5 g6 g7
  rw [he] at HF
  clear hm0 r1 r2 r3 r4 r5 r6 hba hmb hsb htb hS sm wf he
  obtain ⟨ff, hff⟩ : ∃ f, (findM m name).1 = f := ⟨_, rfl⟩
  rw [hff] at HF HOK ⊢
  clear hff
  obtain ⟨fn, rfl⟩ : ∃ fn : Nat, ff = fn := ⟨ff.toNat, by have := HOK.out.2.1; omega⟩
  have hfn : fn < m.funs.length := by have := HOK.out.2.2; omega
  rw [Int.toNat_natCast]
  go_enter Tryd.func8, Tryd.ntmps8
  go_wp2_with fail
  refine HF.out.mono ?_
  rintro e w2 ⟨rfl, hb2⟩
  have HB2 := Lib.hid (below_next HB.out hb2)
  have hmb2 := MB_cells HMB.out hb2
  have hsb2 := (hb2.block _ (row_lt HSB.out)).trans HSB.out
  have HSB2 := Lib.hid hsb2
  clear g0 g1 g2 g3 g4 g5 g6 g7 hb2 HF
  have g0 := row_cell hmb2 0 rfl; have g1 := row_cell hmb2 1 rfl; have g2 := row_cell hmb2 2 rfl; have g3 := row_cell hmb2 3 rfl; have g4 := row_cell hmb2 4 rfl; have g5 := row_cell hmb2 5 rfl; have g6 := row_cell hmb2 6 rfl; have g7 := row_cell hmb2 7 rfl
  simp only [List.getElem_toArray, List.getElem_cons_zero, List.getElem_cons_succ] at g0 g1 g2 g3 g4 g5 g6 g7
  have x0 := row_cell hsb2 0 rfl; have x1 := row_cell hsb2 1 rfl
  simp only [List.getElem_toArray, List.getElem_cons_zero, List.getElem_cons_succ] at x0 x1
  have xf0 := row_free hsb2 0; have xf1 := row_free hsb2 1
  obtain ⟨rt, -, -, rf, -, -⟩ := RMod.parts (HM.out.keeps (Keeps.all S HB2.out))
  obtain ⟨fb, foff, cv, rfl, c0, c1, c2, hcv⟩ := RdFuns.at_ rf hfn
  have hfm := List.getElem_mem hfn
  obtain ⟨f, hfx⟩ : ∃ f, m.funs[fn] = f := ⟨_, rfl⟩
  have hfd : m.funs.getD fn funZ = f := by rw [← hfx, List.getD_eq_getElem?_getD, List.getElem?_eq_getElem hfn]; rfl
  rw [hfx] at c0 hfm
  have hft := (gd_of HOK.out.1 HWF.out).ok.ft _ hfm
  obtain ⟨t, loc, code⟩ := f
  simp only at c0 hft
  obtain ⟨tn, rfl⟩ : ∃ tn : Nat, t = tn := ⟨t.toNat, by omega⟩
  have htn : tn < m.types.length := by omega
  obtain ⟨tb, toff, rfl, d0, d1⟩ := sg_at rt htn
  obtain ⟨⟨par, res⟩, htx⟩ : ∃ x, m.types[tn] = x := ⟨_, rfl⟩
  rw [htx] at d0 d1
  simp only at d0 d1
  have htd : sigAt m.types tn = (par, res) := by unfold sigAt; rw [Int.toNat_natCast, List.getD_eq_getElem?_getD, List.getElem?_eq_getElem htn, htx]; rfl
  have HSG : Hid (sigAt m.types (m.funs.getD fn funZ).t = (par, res)) := Lib.hid (by rw [hfd]; exact htd)
  clear hcv hfx hfm hft htx rt rf c1 c2 hfd htd hmb2 hsb2
  go_wp2_with fail
  go_region
  go_wp2
  refine bodyPost_ret (sig_results (w.heap.size + 1) #[.string par, .string res] (.int .i64 0) (row2w HSB2.out _ _) rfl rfl rfl) rfl ⟨by rw [HSG.out], ?_⟩
  exact ((HB2.out.setCell (p := ⟨w.heap.size + 1, 0, none⟩) (Nat.le_succ _) _).setCell (p := ⟨w.heap.size + 1, 1, none⟩) (Nat.le_succ _) _).drew
end Go.Proofs.YtfhkjahjenpbgaaDoor
namespace Go.Proofs.YtfhkjahjenpbgaaDoor
open Go Go.RowKit
set_option linter.unusedSimpArgs false

theorem mem_16 : (memM oneI)[16]? = some 7 := by
  have h := mem_byte enc_oneI (i := 0) (k := 0) (by decide) (by decide)
  exact h
theorem sig_f : sigAt oneI.types (oneI.funs.getD (findM oneI nmF).1.toNat funZ).t = (⟨#[119]⟩, ⟨#[]⟩) := by
  rw [find_f]; rfl
set_option maxRecDepth 100000 in
set_option maxHeartbeats 6400000 in
theorem law_works21 (w : World) (htb : Tb w) :
    Calls Tryd.prog 4 #[] w fun e w' => e = .returned (.bool true) ∧ Below w.heap.size w w' := by
  have HT := Lib.hid htb
  have HO1 := Lib.hid (fun wx : World => law_oneI wx)
  clear htb
  go_enter Tryd.func4, Tryd.ntmps4
  go_wp2_with fail
  refine (HO1.out w).mono ?_
  rintro e w1 ⟨cs1, rfl, hm1, hb1⟩
  have hba := below_alloc w1 (.cells #[.int .u64 5] 46)
  have HB1 := Lib.hid (below_next hb1 hba)
  have hr5 : RdI .u64 (· < (w1.alloc (.cells #[.int .u64 5] 46)).heap.size) (w1.alloc (.cells #[.int .u64 5] 46)) (.slice (some ⟨w1.heap.size, 0, none⟩) 1 1) [5] := by
    refine ⟨_, 1, rfl, Nat.le_refl _, (by show 1 ≤ 140737488355328; decide), fun j hj => ?_⟩
    have hj1 : j < 1 := hj
    obtain rfl : j = 0 := by omega
    exact ⟨w1.heap.size, 0, rfl, row_lt (heap_alloc_new w1 (.cells #[.int .u64 5] 46)), row_cell (heap_alloc_new w1 (.cells #[.int .u64 5] 46)) 0 rfl⟩
  have HG : Hid (Calls Tryd.prog 6 #[.agg cs1.toArray, .string ⟨#[102]⟩, .slice (some ⟨w1.heap.size, 0, none⟩) 1 1] (w1.alloc (.cells #[.int .u64 5] 46)) (BegP (w1.alloc (.cells #[.int .u64 5] 46)) oneI nmF [5])) := Lib.hid (inst_Begin (w1.alloc (.cells #[.int .u64 5] 46)) (· < w1.heap.size) (fun b hb => by have := hba.size; omega) oneI _ (hm1.keeps (Keeps.all _ hba)) sm_oneI wf_oneI (HT.out.bel HB1.out) nmF _ _ [5] hr5 (by simp) (by simp))
  clear hm1 hb1 hba hr5
  go_wp2_with fail
  refine HG.out.mono ?_
  rintro e w2 ⟨hb2, ⟨he, -⟩ | ⟨-, -, -, fb, gv, pv, lv, ab, rfl, hfb, hab, hfr, hlv, hgv, hmem, hpg⟩⟩
  · exact absurd beg_f.1 he
  rw [beg_f.2] at hlv
  rw [find_f] at hfr
  have egl : (oneI.globals.map fun g => (g.v : Int)) = [9] := rfl
  rw [egl] at hgv
  obtain ⟨ga, gc, rfl, -⟩ := hgv.lenc
  obtain ⟨la, lc, rfl, -⟩ := hlv.lenc
  have HLV := Lib.hid hlv; have HGV := Lib.hid hgv
  obtain ⟨pa, pc, hpe, hpc, -, hpp⟩ := hpg
  obtain ⟨pb, po, rfl, -, hpcell⟩ := hpp 0 (by rw [pgV_len]; decide)
  have epl : (pgV ab oneI.first.toNat).length = 1 := pgV_len _ _
  rw [epl] at hpe
  subst hpe
  have hp0 : w2.cell? ⟨pb, po, none⟩ = some (.slice (some ⟨ab, 0, none⟩) 4096 4096) := by
    have h := hpcell
    simp only [pgV, List.getElem_map, List.getElem_range, Nat.zero_mul, Nat.add_zero] at h
    exact h
  have h16 : w2.cell? ⟨ab, 16, none⟩ = some (.int .u8 7) := by
    rw [cell_of_row w2 ab 16 _ _ _ hmem]
    simp [mem_16]
  have hl2 : w2.cell? ⟨fb, 2, none⟩ = some (.slice la 2 lc) := row_cell hfr 2 rfl
  have HB2 := Lib.hid (below_next HB1.out hb2)
  have HCE := Lib.hid (And.intro hp0 (And.intro h16 hl2))
  have hbs := below_alloc w2 (.cells #[.slice (some ⟨fb, 0, none⟩) 1 1, .slice ga 1 gc, .slice (some ⟨pb, po, none⟩) 1 pc, .int .i64 0, .int .i8 1, .slice none 0 0, .int .i8 0, .int .i64 0] 37)
  have HST := Lib.hid (heap_alloc_new w2 (.cells #[.slice (some ⟨fb, 0, none⟩) 1 1, .slice ga 1 gc, .slice (some ⟨pb, po, none⟩) 1 pc, .int .i64 0, .int .i8 1, .slice none 0 0, .int .i8 0, .int .i64 0] 37))
  have HBS := Lib.hid hbs
  have r0 := heap_alloc_new w2 (.cells #[.slice none 0 0, .slice none 0 0, .slice none 0 0, .int .i64 0, .int .i8 0, .slice none 0 0, .int .i8 0, .int .i64 0] 37)
  have fr0 := row_free r0 0; have fr1 := row_free r0 1; have fr2 := row_free r0 2; have fr3 := row_free r0 3; have fr4 := row_free r0 4; have fr5 := row_free r0 5; have fr6 := row_free r0 6; have fr7 := row_free r0 7
  clear hb2 hfb hab hfr hlv hgv hmem hpp hpcell hp0 h16 hl2 hbs r0 egl epl hpc HG
  go_wp2_with fail
  generalize hw2 : w2.alloc (.cells #[.slice (some ⟨fb, 0, none⟩) 1 1, .slice ga 1 gc, .slice (some ⟨pb, po, none⟩) 1 pc, .int .i64 0, .int .i8 1, .slice none 0 0, .int .i8 0, .int .i64 0] 37) = w2a at *
  clear hw2
  refine (HO1.out w2a).mono ?_
  rintro e w3 ⟨cs3, rfl, hm3, hb3⟩
  have HB3 := Lib.hid (below_next (below_next HB2.out HBS.out) hb3)
  have HB23 := Lib.hid (below_next HBS.out hb3)
  have HST3 := Lib.hid ((hb3.block _ (row_lt HST.out)).trans HST.out)
  have HSG : Hid (Calls Tryd.prog 8 #[.agg cs3.toArray, .string ⟨#[102]⟩] w3 fun r w' => r = .returned (.tuple #[.agg #[.string ⟨#[119]⟩, .string ⟨#[]⟩], .int .i64 0]) ∧ Below w3.heap.size w3 w') := Lib.hid (by
    have h := inst_Signature w3 _ (fun b h => h) oneI _ hm3 sm_oneI wf_oneI (HT.out.bel HB3.out) nmF (by rw [find_f])
    rw [sig_f] at h
    exact h)
  clear hm3 hb3 fr0 fr1 fr2 fr3 fr4 fr5 fr6 fr7
  go_wp2_with fail
  refine HSG.out.mono ?_
  rintro e w4 ⟨rfl, hb4⟩
  have hbg := below_alloc w4 (.cells #[.string ⟨#[119]⟩, .string ⟨#[]⟩] 48)
  have HB4 := Lib.hid (below_next HB3.out (below_next hb4 hbg))
  have HB24 := Lib.hid (below_next HB23.out (below_next hb4 hbg))
  have HST4 := Lib.hid (((below_next hb4 hbg).block _ (row_lt HST3.out)).trans HST3.out)
  have HSR := Lib.hid (heap_alloc_new w4 (.cells #[.string ⟨#[119]⟩, .string ⟨#[]⟩] 48))
  have r0 := heap_alloc_new w4 (.cells #[.string ⟨#[]⟩, .string ⟨#[]⟩] 48)
  have fr0 := row_free r0 0; have fr1 := row_free r0 1
  clear hb4 hbg r0 HSG
  go_wp2_with fail
  generalize hw4 : w4.alloc (.cells #[.string ⟨#[119]⟩, .string ⟨#[]⟩] 48) = w4a at *
  clear hw4
  refine (HO1.out w4a).mono ?_
  rintro e w5 ⟨cs5, rfl, hm5, hb5⟩
  have HB5 := Lib.hid (below_next HB4.out hb5)
  have HB25 := Lib.hid (below_next HB24.out hb5)
  have HST5 := Lib.hid ((hb5.block _ (row_lt HST4.out)).trans HST4.out)
  have HSR5 := Lib.hid ((hb5.block _ (row_lt HSR.out)).trans HSR.out)
  have HG2 : Hid (Calls Tryd.prog 6 #[.agg cs5.toArray, .string ⟨#[103]⟩, .slice none 0 0] w5 (BegP w5 oneI nmG [])) := Lib.hid (inst_Begin w5 _ (fun b h => h) oneI _ hm5 sm_oneI wf_oneI (HT.out.bel HB5.out) nmG (fun _ => True) _ [] (RdI.nil _ _ _) (by simp) (by simp))
  clear hm5 hb5 fr0 fr1
  go_wp2_with fail
  refine HG2.out.mono ?_
  rintro e w6 ⟨hb6, ⟨-, rfl⟩ | ⟨he, -⟩⟩
  rotate_left
  · rw [beg_g] at he; exact absurd he (by decide)
  rw [beg_g]
  have hbz := below_alloc w6 (.cells #[.slice none 0 0, .slice none 0 0, .slice none 0 0, .int .i64 0, .int .i8 0, .slice none 0 0, .int .i8 0, .int .i64 0] 37)
  have HB6 := Lib.hid (below_next HB5.out (below_next hb6 hbz))
  have HB26 := Lib.hid (below_next HB25.out (below_next hb6 hbz))
  have HST6 := Lib.hid (((below_next hb6 hbz).block _ (row_lt HST5.out)).trans HST5.out)
  have HSR6 := Lib.hid (((below_next hb6 hbz).block _ (row_lt HSR5.out)).trans HSR5.out)
  have r0 := heap_alloc_new w6 (.cells #[.slice none 0 0, .slice none 0 0, .slice none 0 0, .int .i64 0, .int .i8 0, .slice none 0 0, .int .i8 0, .int .i64 0] 37)
  have fr0 := row_free r0 0; have fr1 := row_free r0 1; have fr2 := row_free r0 2; have fr3 := row_free r0 3; have fr4 := row_free r0 4; have fr5 := row_free r0 5; have fr6 := row_free r0 6; have fr7 := row_free r0 7
  have s0 := row_cell HSR6.out 0 rfl; have s1 := row_cell HSR6.out 1 rfl
  have t0 := row_cell HST6.out 0 rfl; have t1 := row_cell HST6.out 1 rfl; have t2 := row_cell HST6.out 2 rfl; have t4 := row_cell HST6.out 4 rfl
  simp only [List.getElem_toArray, List.getElem_cons_zero, List.getElem_cons_succ] at s0 s1 t0 t1 t2 t4
  have p0 := cell_below HB26.out HCE.out.1
  have p16 := cell_below HB26.out HCE.out.2.1
  have pl := cell_below HB26.out HCE.out.2.2
  clear r0 hb6 hbz HG2
  go_wp2_with fail
  have hba := below_alloc (w6.alloc (.cells #[.slice none 0 0, .slice none 0 0, .slice none 0 0, .int .i64 0, .int .i8 0, .slice none 0 0, .int .i8 0, .int .i64 0] 37)) (.cells #[.int .u64 5, .int .u64 0] 46)
  have hr7 := heap_alloc_new (w6.alloc (.cells #[.slice none 0 0, .slice none 0 0, .slice none 0 0, .int .i64 0, .int .i8 0, .slice none 0 0, .int .i8 0, .int .i64 0] 37)) (.cells #[.int .u64 5, .int .u64 0] 46)
  rw [World.size_alloc] at hr7
  have hrd := rdI_block (k := .u64) (l := [5, 0]) hr7 (by decide) 2 (Nat.le_refl _)
  have HE1 := Lib.hid (eqWords ((w6.alloc (.cells #[.slice none 0 0, .slice none 0 0, .slice none 0 0, .int .i64 0, .int .i8 0, .slice none 0 0, .int .i8 0, .int .i64 0] 37)).alloc (.cells #[.int .u64 5, .int .u64 0] 46)) _ _ (.slice la 2 lc) (.slice (some ⟨w6.heap.size + 1, 0, none⟩) 2 2) [5, 0] [5, 0] (HLV.out.keeps (Keeps.all _ (below_next HB26.out hba))) hrd)
  have HB7 := Lib.hid (below_next HB6.out hba)
  have HB27 := Lib.hid (below_next HB26.out hba)
  clear hba hr7 hrd fr0 fr1 fr2 fr3 fr4 fr5 fr6 fr7
  refine HE1.out.mono ?_
  rintro e w8 ⟨rfl, n8, hw8⟩
  have HB8 : Hid (Below w.heap.size w w8) := Lib.hid (by rw [hw8]; exact below_next HB7.out (drewN_below _ _))
  have HB28 : Hid (Below w2.heap.size w2 w8) := Lib.hid (by rw [hw8]; exact below_next HB27.out (drewN_below _ _))
  have hst8 := (((drewN_below ((w6.alloc (.cells #[.slice none 0 0, .slice none 0 0, .slice none 0 0, .int .i64 0, .int .i8 0, .slice none 0 0, .int .i8 0, .int .i64 0] 37)).alloc (.cells #[.int .u64 5, .int .u64 0] 46)) n8).block _ (Nat.lt_of_lt_of_le (row_lt HST6.out) (below_alloc _ _).size)).trans (((below_alloc (w6.alloc (.cells #[.slice none 0 0, .slice none 0 0, .slice none 0 0, .int .i64 0, .int .i8 0, .slice none 0 0, .int .i8 0, .int .i64 0] 37)) (.cells #[.int .u64 5, .int .u64 0] 46)).block _ (row_lt HST6.out)).trans HST6.out))
  rw [← hw8] at hst8
  have HST8 := Lib.hid hst8
  have t1 := row_cell HST8.out 1 rfl; have t2 := row_cell HST8.out 2 rfl; have t4 := row_cell HST8.out 4 rfl
  simp only [List.getElem_toArray, List.getElem_cons_zero, List.getElem_cons_succ] at t1 t2 t4
  have hba := below_alloc w8 (.cells #[.int .u64 9] 46)
  have hr9 := heap_alloc_new w8 (.cells #[.int .u64 9] 46)
  have hrd := rdI_block (k := .u64) (l := [9]) hr9 (by decide) 1 (Nat.le_refl _)
  have HE2 := Lib.hid (eqWords (w8.alloc (.cells #[.int .u64 9] 46)) _ _ (.slice ga 1 gc) (.slice (some ⟨w8.heap.size, 0, none⟩) 1 1) [9] [9] (HGV.out.keeps (Keeps.all _ (below_next HB28.out hba))) hrd)
  have HB9 := Lib.hid (below_next HB8.out hba)
  have HB29 := Lib.hid (below_next HB28.out hba)
  clear hst8 hw8 hba hr9 hrd s0 s1 t0 p0 p16 pl HE1
  go_wp2_with fail
  refine HE2.out.mono ?_
  rintro e w10 ⟨rfl, n10, hw10⟩
  have HB10 : Hid (Below w.heap.size w w10) := Lib.hid (by rw [hw10]; exact below_next HB9.out (drewN_below _ _))
  have HB210 : Hid (Below w2.heap.size w2 w10) := Lib.hid (by rw [hw10]; exact below_next HB29.out (drewN_below _ _))
  have hst10 := (((drewN_below (w8.alloc (.cells #[.int .u64 9] 46)) n10).block _ (Nat.lt_of_lt_of_le (row_lt HST8.out) (below_alloc _ _).size)).trans (((below_alloc w8 (.cells #[.int .u64 9] 46)).block _ (row_lt HST8.out)).trans HST8.out))
  rw [← hw10] at hst10
  have HST10 := Lib.hid hst10
  clear t1 t2 t4 hst10 hw10 HE2
  have t2 := row_cell HST10.out 2 rfl; have t4 := row_cell HST10.out 4 rfl
  simp only [List.getElem_toArray, List.getElem_cons_zero, List.getElem_cons_succ] at t2 t4
  have p0 := cell_below HB210.out HCE.out.1
  have p16 := cell_below HB210.out HCE.out.2.1
  go_wp2
  go_ret
  exact ⟨rfl, HB10.out⟩
end Go.Proofs.YtfhkjahjenpbgaaDoor
