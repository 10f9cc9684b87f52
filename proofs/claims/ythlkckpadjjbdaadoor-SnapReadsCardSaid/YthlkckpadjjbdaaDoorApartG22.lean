/- flagonref00's Bag with states' lists: Apart. -/
import Derived.Test.YthlkckpadjjbdaaDoorAddG22
import Derived.Test.YthlkckpadjjbdaaDoorMNone
namespace Go.Proofs.YthlkckpadjjbdaaDoor
open Go Go.RowKit
namespace G
theorem Bg.nil_cell {K : Nat → Prop} {B0 gb : Nat} {w : World} {hs : Nat → Value} {vs : Nat → List Value} {ns : Nat → List Nat} (h : Bg K B0 w gb hs vs ns) {i : Nat} (hi : i < 17) (hv : vs i = []) : w.cell? ⟨gb, i, none⟩ = some (.slice none 0 0) := by
  rw [← h.em i hi hv]
  refine row_cell h.row i ?_
  match i, hi with
  | 0, _ => rfl | 1, _ => rfl | 2, _ => rfl | 3, _ => rfl | 4, _ => rfl | 5, _ => rfl | 6, _ => rfl | 7, _ => rfl | 8, _ => rfl | 9, _ => rfl | 10, _ => rfl | 11, _ => rfl | 12, _ => rfl | 13, _ => rfl | 14, _ => rfl | 15, _ => rfl | 16, _ => rfl
  | n + 17, hn => omega
set_option maxRecDepth 100000 in
set_option maxHeartbeats 6400000 in
theorem gat_apart {S : Nat → Prop} {B0 gb ka kb : Nat} {l : List Value} {w : World} (h : Gat S B0 gb l ka kb w) (ht : Tp w) (hTB : 0 < B0) :
    Calls Tryd.prog 12 #[.pointer (some ⟨gb, 0, none⟩)] w fun e w' => e = .returned (.bool true) ∧ Keeps (fun x => ∀ v ∈ l, v.ownBlock ≠ some x) w w' := by
  obtain ⟨hs, vs, ns, h0⟩ := h
  have HT := Lib.hid ht
  have HTB := Lib.hid hTB
  have H0 := Lib.hid h0.bg
  have HN := Lib.hid h0.none
  have HSUB : Hid (∀ x, (∀ v ∈ l, v.ownBlock ≠ some x) → Apr vs x) := Lib.hid fun x hx i k v hk => hx v (h0.sub i k v hk)
  have HK0 : Hid (Keeps (Apr vs) w w) := Lib.hid (Keeps.refl _ _)
  have HLOW : Hid (∀ i b, b < B0 → roleOf (vs i) b = 0) := Lib.hid fun i b hb => role_none fun k v hk e => by have := (h0.bg.lt i k v b hk e).1; omega
  have HUP : Hid (∀ i b, gb ≤ b → roleOf (vs i) b = 0) := Lib.hid fun i b hb => role_none fun k v hk e => by have := (h0.bg.lt i k v b hk e).2; omega
  have HAL : Hid (∀ b, b < B0 → Apr vs b) := Lib.hid fun b hb i k v hk e => by have := (h0.bg.lt i k v b hk e).1; omega
  clear h0 ht hTB
  go_enter Tryd.func12, Tryd.ntmps12
  go_wp2_with fail
  refine (BagBytes.apart w B0 (roleOf (vs 0)) gb (hs 0) (vs 0) (fun k => (ns 0).getD k 0) (H0.out.g1 (by decide) trivial BagBytes.kd rfl rfl rfl) (H0.out.mx 0) (Nat.le_trans H0.out.b0 (Nat.le_of_lt H0.out.glt)) (fun k => H0.out.nmx (by decide) trivial k)).mono ?_
  rintro e w1 ⟨rfl, R1, hW⟩
  have H1 := Lib.hid (H0.out.went hW)
  have HK1 := Lib.hid (HK0.out.trans (Went.apr hW))
  clear hW
  go_wp2_with fail
  refine (none_Ints w1 gb (H1.out.nil_cell (by decide) (HN.out 1 (by decide) (by decide) (by decide) (by decide)))).mono ?_
  rintro e w' ⟨rfl, hw'⟩
  obtain rfl : w1 = w' := hw'.symm
  go_wp2_with fail
  refine (none_Longs w1 gb (H1.out.nil_cell (by decide) (HN.out 2 (by decide) (by decide) (by decide) (by decide)))).mono ?_
  rintro e w' ⟨rfl, hw'⟩
  obtain rfl : w1 = w' := hw'.symm
  go_wp2_with fail
  refine (BagWords.apart w1 B0 (roleOf (vs 3)) gb (hs 3) (vs 3) (fun k => (ns 3).getD k 0) (H1.out.g1 (by decide) ⟨trivial, by decide⟩ BagWords.kd rfl rfl rfl) (H1.out.mx 3) (Nat.le_trans H1.out.b0 (Nat.le_of_lt H1.out.glt)) (fun k => H1.out.nmx (by decide) ⟨trivial, by decide⟩ k)).mono ?_
  rintro e w2 ⟨rfl, R2, hW⟩
  have H2 := Lib.hid (H1.out.went hW)
  have HK2 := Lib.hid (HK1.out.trans (Went.apr hW))
  clear hW
  go_wp2_with fail
  refine (none_Bools w2 gb (H2.out.nil_cell (by decide) (HN.out 4 (by decide) (by decide) (by decide) (by decide)))).mono ?_
  rintro e w' ⟨rfl, hw'⟩
  obtain rfl : w2 = w' := hw'.symm
  go_wp2_with fail
  refine (none_Texts w2 gb (H2.out.nil_cell (by decide) (HN.out 5 (by decide) (by decide) (by decide) (by decide)))).mono ?_
  rintro e w' ⟨rfl, hw'⟩
  obtain rfl : w2 = w' := hw'.symm
  go_wp2_with fail
  refine (none_Sigs w2 gb (H2.out.nil_cell (by decide) (HN.out 6 (by decide) (by decide) (by decide) (by decide)))).mono ?_
  rintro e w' ⟨rfl, hw'⟩
  obtain rfl : w2 = w' := hw'.symm
  go_wp2_with fail
  refine (none_Globals w2 gb (H2.out.nil_cell (by decide) (HN.out 7 (by decide) (by decide) (by decide) (by decide)))).mono ?_
  rintro e w' ⟨rfl, hw'⟩
  obtain rfl : w2 = w' := hw'.symm
  go_wp2_with fail
  refine (none_Exports w2 gb (H2.out.nil_cell (by decide) (HN.out 8 (by decide) (by decide) (by decide) (by decide)))).mono ?_
  rintro e w' ⟨rfl, hw'⟩
  obtain rfl : w2 = w' := hw'.symm
  go_wp2_with fail
  refine (none_Code w2 gb (H2.out.nil_cell (by decide) (HN.out 9 (by decide) (by decide) (by decide) (by decide)))).mono ?_
  rintro e w' ⟨rfl, hw'⟩
  obtain rfl : w2 = w' := hw'.symm
  go_wp2_with fail
  refine (none_Functions w2 gb (H2.out.nil_cell (by decide) (HN.out 10 (by decide) (by decide) (by decide) (by decide)))).mono ?_
  rintro e w' ⟨rfl, hw'⟩
  obtain rfl : w2 = w' := hw'.symm
  go_wp2_with fail
  refine (none_Datas w2 gb (H2.out.nil_cell (by decide) (HN.out 11 (by decide) (by decide) (by decide) (by decide)))).mono ?_
  rintro e w' ⟨rfl, hw'⟩
  obtain rfl : w2 = w' := hw'.symm
  go_wp2_with fail
  refine (none_Tables w2 gb (H2.out.nil_cell (by decide) (HN.out 12 (by decide) (by decide) (by decide) (by decide)))).mono ?_
  rintro e w' ⟨rfl, hw'⟩
  obtain rfl : w2 = w' := hw'.symm
  go_wp2_with fail
  refine (BagFrames.apart w2 B0 (roleOf (vs 13)) gb (hs 13) (vs 13) (fun k => (ns 13).getD k 0) (H2.out.g1 (by decide) ⟨⟨trivial, by decide⟩, by decide⟩ BagFrames.kd rfl rfl rfl) (H2.out.mx 13) (Nat.le_trans H2.out.b0 (Nat.le_of_lt H2.out.glt)) (fun k => H2.out.nmx (by decide) ⟨⟨trivial, by decide⟩, by decide⟩ k)).mono ?_
  rintro e w3 ⟨rfl, R3, hW⟩
  have H3 := Lib.hid (H2.out.went hW)
  have HK3 := Lib.hid (HK2.out.trans (Went.apr hW))
  clear hW
  go_wp2_with fail
  refine (none_Replies w3 gb (H3.out.nil_cell (by decide) (HN.out 14 (by decide) (by decide) (by decide) (by decide)))).mono ?_
  rintro e w' ⟨rfl, hw'⟩
  obtain rfl : w3 = w' := hw'.symm
  go_wp2_with fail
  refine (BagPages.apart w3 B0 (roleOf (vs 15)) gb (hs 15) (vs 15) (fun k => (ns 15).getD k 0) (fun _ _ => .bool false) (H3.out.g1 (by decide) ⟨⟨⟨trivial, by decide⟩, by decide⟩, by decide⟩ (BagPages.kd fun _ _ => .bool false) rfl rfl rfl) (H3.out.mx 15) (Nat.le_trans H3.out.b0 (Nat.le_of_lt H3.out.glt)) (fun k => H3.out.nmx (by decide) ⟨⟨⟨trivial, by decide⟩, by decide⟩, by decide⟩ k) (BagPages.tp_keeps HT.out HK3.out (HAL.out _ HTB.out)) (HLOW.out 15 _ HTB.out) (fun b hb => HUP.out 15 b (by have := H3.out.glt; omega))).mono ?_
  rintro e w4 ⟨rfl, R4, hW⟩
  have H4 := Lib.hid (H3.out.went hW)
  have HK4 := Lib.hid (HK3.out.trans (Went.apr hW))
  clear hW
  go_wp2_with fail
  refine (none_Rows w4 gb (H4.out.nil_cell (by decide) (HN.out 16 (by decide) (by decide) (by decide) (by decide)))).mono ?_
  rintro e w' ⟨rfl, hw'⟩
  obtain rfl : w4 = w' := hw'.symm
  go_wp2
  go_ret
  exact ⟨rfl, HK4.out.mono fun x _ hx => HSUB.out x hx⟩
end G
end Go.Proofs.YthlkckpadjjbdaaDoor
