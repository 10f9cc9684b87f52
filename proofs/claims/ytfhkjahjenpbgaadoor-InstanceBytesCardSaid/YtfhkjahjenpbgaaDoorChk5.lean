/- module.Check. -/
import Derived.Test.YtfhkjahjenpbgaaDoorEnc5
namespace Go.Proofs.YtfhkjahjenpbgaaDoor
open Go Go.RowKit

set_option maxRecDepth 100000 in
set_option maxHeartbeats 800000 in
theorem mod_Check (w : World) (S : Nat → Prop) (hS : ∀ b, S b → b < w.heap.size) (m : ModD) (cs : List Value) (hm : RMod S w cs m) (sm : SmM m) (wf : WfM m) (ht : Tb w) :
    Calls Tryd.prog 20 #[.agg cs.toArray] w fun e w' => e = .returned (.int .i64 (encM m).2) ∧ Below w.heap.size w w' := by
  obtain ⟨tv, hv, gv, fv, dv, ev, rfl, r1, r2, r3, r4, r5, r6⟩ := hm
  obtain ⟨ta, tc, rfl, -⟩ := r1.len
  obtain ⟨ha, hc, rfl, -⟩ := r2.len
  obtain ⟨ga, gc, rfl, -⟩ := r3.len
  obtain ⟨fa, fc, rfl, -⟩ := r4.len
  obtain ⟨da, dc, rfl, -⟩ := r5.len
  obtain ⟨ea, ec, rfl, -⟩ := r6.len
  have hb := below_alloc w (.cells #[.slice ta m.types.length tc, .slice ha m.hosts.length hc, .slice ga m.globals.length gc, .int .i64 m.first, .int .i64 m.most, .slice fa m.funs.length fc, .slice da m.datas.length dc, .slice ea m.exps.length ec] 29)
  have hm1 : RMod S (w.alloc (.cells #[.slice ta m.types.length tc, .slice ha m.hosts.length hc, .slice ga m.globals.length gc, .int .i64 m.first, .int .i64 m.most, .slice fa m.funs.length fc, .slice da m.datas.length dc, .slice ea m.exps.length ec] 29)) _ m := RMod.keeps ⟨_, _, _, _, _, _, rfl, r1, r2, r3, r4, r5, r6⟩ (Keeps.all S hb)
  have HC := Lib.hid (mod_Encode _ S (fun b hb' => by have := hS b hb'; have := hb.size; omega) m _ hm1 sm wf (ht.bel hb))
  have HB := Lib.hid hb
  clear hm1 hb r1 r2 r3 r4 r5 r6 hS sm wf ht
  go_enter Tryd.func20, Tryd.ntmps20
  go_wp2_with fail
  refine HC.out.mono ?_
  rintro e w1 ⟨v, rfl, hb1, -, -⟩
  have HB1 := Lib.hid (below_next HB.out hb1)
  clear hb1 HB HC
  go_wp2_with fail
  go_ret
  exact ⟨rfl, HB1.out⟩
end Go.Proofs.YtfhkjahjenpbgaaDoor
