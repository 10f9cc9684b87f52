/- flagonref22's Reader: pages. -/
import Derived.Test.YthlkckpadjjbdaaDoorMRefRd
import Derived.Test.YthlkckpadjjbdaaDoorRPages
import Derived.Test.YthlkckpadjjbdaaDoorWrite22a
namespace Go.Proofs.YthlkckpadjjbdaaDoor
open Go Go.RowKit
namespace R22

/-- How the reader and the pages stand in a round. -/
structure PS (S : Nat → Prop) (w : World) (p : Nat) (v : Value) (b : List Int) (base : Nat) (lv : Value) (gs : List Nat) (ps : List (List Int)) (r : RS) (wx : World) : Prop where
  rr : Rr S wx p v b r
  pg : PgOwn base wx lv gs ps
  keep : Keeps (fun x => x ≠ p ∧ x < w.heap.size) w wx
  hp : p < base
  hS : ∀ x, S x → x < w.heap.size
  hb : w.heap.size ≤ base
section
variable {S : Nat → Prop} {w : World} {p : Nat} {v : Value} {b : List Int} {base : Nat} {lv : Value} {gs : List Nat} {ps : List (List Int)} {r : RS} {wx : World}
theorem PS.step {w' : World} {r' : RS} (h : PS S w p v b base lv gs ps r wx) (hr : Rr S w' p v b r') (hk : Keeps (fun x => x ≠ p) wx w') : PS S w p v b base lv gs ps r' w' :=
  ⟨hr, h.pg.keeps hk fun x hx _ => by have := h.hp; omega, h.keep.trans (hk.mono fun x _ hx => hx.1), h.hp, h.hS, h.hb⟩
theorem PS.drewN (h : PS S w p v b base lv gs ps r wx) (n : Nat) : PS S w p v b base lv gs ps r (wx.drewN n) :=
  h.step (h.rr.keeps (Keeps.of_drewN (S := fun _ => True) n) trivial fun _ _ => trivial) (Keeps.of_drewN n)
theorem PS.drew (h : PS S w p v b base lv gs ps r wx) : PS S w p v b base lv gs ps r wx.drew := h.drewN 1
theorem PS.cells (h : PS S w p v b base lv gs ps r wx) : wx.cell? ⟨p, 0, none⟩ = some v ∧ wx.cell? ⟨p, 1, none⟩ = some (.int .i64 r.at_) ∧ wx.cell? ⟨p, 2, none⟩ = some (.int .i64 r.e) ∧ wx.frozen? ⟨p, 1, none⟩ = false :=
  ⟨row_cell h.rr.row 0 rfl, row_cell h.rr.row 1 rfl, row_cell h.rr.row 2 rfl, row_free h.rr.row 1⟩
theorem rd_noP (h : PS S w p v b base lv gs ps r wx) (e : Int) (k : Nat) (K : Int) (hK : (k : Int) = K) :
    Calls Tryd.prog 64 #[.pointer (some ⟨p, 0, none⟩), .int .i64 e, .int .i64 K] wx fun en w' => en = .returned (.tuple #[]) ∧ PS S w p v b base lv gs ps (r.no e k) w' := by
  refine (rd_no S wx p v b r h.rr e k K hK).mono ?_
  rintro en w' ⟨rfl, h1, h2⟩
  exact ⟨rfl, h.step h1 h2⟩
theorem rd_numberP (h : PS S w p v b base lv gs ps r wx) (hb : ∀ x ∈ b, 0 ≤ x ∧ x ≤ 255) (most : Nat) (M : Int) (hM : (most : Int) = M) (great : Int) (hg : great ≠ 0) (x : Nat) (r' : RS) (hx : Hid (rnum b r most great = (x, r'))) :
    Calls Tryd.prog 61 #[.pointer (some ⟨p, 0, none⟩), .int .u64 M, .int .i64 great] wx fun en w' => en = .returned (.int .u64 x) ∧ PS S w p v b base lv gs ps r' w' := by
  refine (rd_number S wx p v b r h.rr hb most M hM great hg).mono ?_
  rintro en w' ⟨rfl, h1, h2⟩
  rw [hx.out] at h1 ⊢
  exact ⟨rfl, h.step h1 h2⟩
end

section
variable {S : Nat → Prop} {w : World} {p : Nat} {v : Value} {b : List Int} {base : Nat} {lv : Value} {gs : List Nat} {ps : List (List Int)} {r : RS} {wx : World}
theorem PS.setPage {x g : Nat} {pg : List Int} {cs : Array Value} (h : PS S w p v b base lv gs ps r wx) (hg : gs[x]? = some g) (hl : pg.length = 4096) (hb : ∀ y ∈ pg, 0 ≤ y ∧ y ≤ 255) (e : cs = (pg.map (Value.int .u8)).toArray) :
    Hid (PS S w p v b base lv gs (ps.set x pg) r (wx.setRow g cs)) := by
  have hge := h.pg.ge g (List.mem_of_getElem? hg)
  have hp := h.hp
  have hbb := h.hb
  have hk : Keeps (fun y => y ≠ g) wx (wx.setRow g (pg.map (Value.int .u8)).toArray) := Keeps.setRow wx g _ (by simp)
  rw [e]
  exact ⟨h.rr.keeps hk (by omega) fun y hy => by have := h.hS y hy; omega, h.pg.setPage hg hl hb rfl, h.keep.trans' hk (fun y hy hyp => ⟨hyp, by omega⟩), hp, h.hS, hbb⟩
theorem PS.advance (h : PS S w p v b base lv gs ps r wx) (k : Nat) (hk : k ≤ b.length) : PS S w p v b base lv gs ps { r with at_ := k } (wx.setCell ⟨p, 1, none⟩ (.int .i64 k)) := by
  have hkk : Keeps (fun y => y ≠ p) wx (wx.setCell ⟨p, 1, none⟩ (.int .i64 k)) := (Keeps.refl _ wx).setCell (a := ⟨p, 1, none⟩) (by simp) _
  exact h.step (h.rr.set { r with at_ := k } hkk (by simpa using row_setCell h.rr.row 1 (.int .i64 k)) hk) hkk
end

/-- The answer of a reader agrees with another's: the error, its place; and all of it where there is no error. -/
structure Ag {α : Type} (x y : α × RS) : Prop where
  e : x.2.e = y.2.e
  bad : x.2.bad = y.2.bad
  all : y.2.e = 0 → x = y
/-- How far the pages are read. -/
def PgRel (X : List (List Int) × RS) (b : List Int) (k m : Nat) (r3 : RS) (behind : Nat) (ps : List (List Int)) : Prop :=
  (r3.e = 0 ∧ X = rpagesGo b k m r3 behind ps) ∨ (r3.e ≠ 0 ∧ X.2.e = r3.e ∧ X.2.bad = r3.bad)
theorem quiet_add_same' {P : Program} {f : FuncId} {args : Array Value} {w : World} {a n : Nat} {v : Value}
    (h : Calls P f args (w.drewN (a + n)) fun e w' => e = .returned v ∧ w' = w.drewN (a + n)) :
    Calls P f args (w.drewN (a + n)) fun e w'' => e = .returned v ∧ ∃ m, w'' = w.drewN (a + m) :=
  h.mono fun _ _ ⟨he, hm⟩ => ⟨he, n, hm⟩
theorem rd_sub {S : Nat → Prop} {w : World} {b : List Int} {bb off at_ cap : Nat} (h : ∀ j (h : j < b.length), ∃ b' o', some (⟨bb, off, none⟩ : Addr) = some ⟨b', o', none⟩ ∧ S b' ∧ w.cell? ⟨b', o' + j, none⟩ = some (.int .u8 b[j])) (hl : at_ + 4096 ≤ b.length) (hc : b.length ≤ cap) :
    RdI .u8 S w (.slice (some ⟨bb, off + at_, none⟩) 4096 (cap - at_)) ((b.drop at_).take 4096) := by
  have hlen : ((b.drop at_).take 4096).length = 4096 := by rw [List.length_take, List.length_drop]; omega
  refine ⟨_, _, by rw [hlen], by omega, by omega, fun j hj => ?_⟩
  obtain ⟨b', o', e, hS, hcell⟩ := h (at_ + j) (by omega)
  simp only [Option.some.injEq, Addr.mk.injEq, and_true] at e
  obtain ⟨rfl, rfl⟩ := e
  refine ⟨bb, off + at_, rfl, hS, ?_⟩
  rw [List.getElem_take, List.getElem_drop, Nat.add_assoc]
  exact hcell
set_option maxRecDepth 100000 in
set_option maxHeartbeats 6400000 in
theorem rd_pages (S) (w : World) (p : Nat) (v : Value) (b : List Int) (r : RS) (h : Rr S w p v b r) (hb : ∀ x ∈ b, 0 ≤ x ∧ x ≤ 255) (hS : ∀ x, S x → x < w.heap.size) :
    Calls Tryd.prog 63 #[.pointer (some ⟨p, 0, none⟩)] w fun en w' => ∃ v' ps r', en = .returned v' ∧ (∃ gs, PgOwn w.heap.size w' v' gs ps ∧ gs.length ≤ 64) ∧ Rr S w' p v b r' ∧ Ag (ps, r') (rpages b r) ∧ Keeps (fun x => x ≠ p ∧ x < w.heap.size) w w' := by
  obtain ⟨i0, hi, hz0, hz1, hz2⟩ := info_parts Tryd.infoU8
  obtain ⟨i1, hi1, hy0, hy1, hy2⟩ := info_parts Tryd.infoSl
  have H := Lib.hid h; have HB := Lib.hid hb; have HSS := Lib.hid hS; clear h hb hS
  have hnle := rnum_le b r 64 20
  have HRV : Hid (rpages b r = rpagesGo b (rnum b r 64 20).1 (rnum b (rnum b r 64 20).2 (rnum b r 64 20).1 20).1 (rnum b (rnum b r 64 20).2 (rnum b r 64 20).1 20).2 0 (List.replicate (rnum b r 64 20).1 zpage)) := rfl
  have hpw := row_lt H.out.row
  go_enter Tryd.func63, Tryd.ntmps63
  go_wp2_with fail
  (with_reducible refine (rd_number S _ p v b r H.out HB.out 64 64 (by omega) 20 (by omega)).mono ?_)
  rintro e w1 ⟨rfl, hr1, hk1⟩
  generalize (rnum b r 64 20).1 = n at *
  generalize (rnum b r 64 20).2 = r1 at *
  have HR1 := Lib.hid hr1; have HK1 := Lib.hid hk1; clear hr1 hk1
  have hsz1 := HK1.out.size
  go_wp2
  go_loopw [3, 5] (fun l i wr => ∃ (k : Nat) (gs : List Nat), k ≤ n ∧ i = .int .u64 k ∧ gs.length = k ∧ Hid (PgOwn w1.heap.size wr l gs (List.replicate k zpage)) ∧ Below w1.heap.size w1 wr) (fun _ i _ => n - (intOf i).toNat)
  case atStart => exact ⟨0, [], by omega, rfl, rfl, PgOwn.nil _ _, Below.refl _ _⟩
  case round =>
    obtain ⟨k, gs, hk, rfl, hgk, HPG, hbel⟩ := hrel
    by_cases hlt : k < n
    · have hszr := hbel.size
      have hgl : gs.length ≤ 64 := by omega
      have HGK := Lib.hid hgk; clear hgk
      go_wp2_with (first
        | (refine wpList_make_full _ rfl _ _ 31 rfl w1.heap.size 5 i0 (.int .u8 0) 1 Tryd.underlying31 hi hz0 hz1 .i64 .i64 4096 4096 4096 rfl rfl rfl rfl (by rw [hz2]; omega) (by unfold maxLen; omega) hszr ?_; intro wa hown1 hgrow1)
        | (at_builtin; refine wpList_append_lies _ rfl _ _ 24 rfl w1.heap.size 31 i1 (.slice none 0 0) 1 24 Tryd.underlying24 hi1 hy0 hy1 hy2 rfl (by decide) _ gs.length (gs.map pgv) rfl (own_keeps HPG.out.own (((Keeps.refl (fun _ => True) wr).grown hgrow1 (fun _ e => by cases e)).alloc _) (fun _ _ => trivial)) ⟨wa.heap.size, 0, none⟩ 1 1 [pgv wr.heap.size] rfl rfl (cell_one_new _ _ _) (by simp [Value.oneCell', pgv]) (by omega) (by unfold maxLen; omega) (by omega) (by have := hgrow1.size; rw [World.size_alloc]; omega) _ rfl ?_; intro g cap wb hown2 hgrow2 hat hlt2))
      have P := Lib.hid (HPG.out.add hszr (by rw [← zcells]; exact hown1) hgrow1 hown2 hgrow2 hat)
      have PB : Hid (Below w1.heap.size w1 wb) := ((hbel.grown hgrow1 hszr (by simp)).alloc (by have := hgrow1.size; omega) _).grown hgrow2 (by have := hgrow1.size; rw [World.size_alloc]; omega) fun k hk => (HPG.out.own.lt k hk).1
      clear hown1 hgrow1 hown2 hgrow2 hat
      go_roundw
      case rel => exact ⟨k + 1, gs ++ [wr.heap.size], by omega, by go_num, by rw [List.length_append, HGK.out]; rfl, by rw [List.replicate_succ']; exact P, PB.out⟩
      case measure => simp [intOf]; omega
    · obtain rfl : k = n := by omega
      have HPS : Hid (PS S w p v b w1.heap.size u3 gs (List.replicate k zpage) r1 wr) :=
        ⟨HR1.out.keeps (Keeps.all (fun _ => True) hbel) trivial fun _ _ => trivial, HPG.out, HK1.out.trans' (Keeps.all (fun _ => True) hbel) (fun x _ hx => ⟨hx.1, trivial⟩), by omega, HSS.out, hsz1⟩
      obtain ⟨K, r2, hkr⟩ : ∃ K r2, rnum b r1 k 20 = (K, r2) := ⟨_, _, rfl⟩
      have hK : K ≤ k := by have := rnum_le b r1 k 20; rw [hkr] at this; exact this
      have HRV2 : Hid (rpages b r = rpagesGo b k K r2 0 (List.replicate k zpage)) := by show _ = _; rw [HRV.out, hkr]
      have hK0 : r2.e ≠ 0 → K = 0 := fun h => by have := rnum_err b r1 k 20 (by rw [hkr]; exact h); rw [hkr] at this; exact this
      have HK0 := Lib.hid hK0; clear hK0
      have HKR := Lib.hid hkr; clear hkr
      have HGK := Lib.hid hgk; clear hgk
      go_wp2_with fail
      (with_reducible refine (rd_numberP HPS.out HB.out k k rfl 20 (by omega) K r2 HKR).mono ?_)
      rintro e w2 ⟨rfl, hps2⟩
      have HPS2 := Lib.hid hps2; clear hps2 HPS HKR HPG hbel
      have HREL : Hid (PgRel (rpages b r) b k (K - 0) r2 0 (List.replicate k zpage)) := by
        show PgRel _ _ _ _ _ _ _
        by_cases h : r2.e = 0
        · exact .inl ⟨h, by rw [HRV2.out, Nat.sub_zero]⟩
        · refine .inr ⟨h, ?_, ?_⟩ <;> rw [HRV2.out, HK0.out h, rpagesGo]
      go_wp2
      go_loopw [7, 8] (fun la i wr => ∃ (j behind : Nat) (L : Int) (ps : List (List Int)) (r3 : RS), j ≤ K ∧ i = .int .u64 j ∧ la = .int .i64 L ∧ ((behind : Int) ≤ L + 1 ∧ L + 1 ≤ (behind : Int)) ∧ behind ≤ k ∧ Hid (PS S w p v b w1.heap.size u3 gs ps r3 wr) ∧ Hid (PgRel (rpages b r) b k (K - j) r3 behind ps)) (fun _ i _ => K - (intOf i).toNat)
      case atStart => exact ⟨0, 0, -1, _, r2, by omega, rfl, rfl, by omega, by omega, HPS2, HREL⟩
      case round =>
        obtain ⟨j, behind, L, ps, r3, hj, rfl, rfl, ⟨hL1, hL2⟩, hbh, HP, HE⟩ := hrel
        have y := HP.out.cells
        have y2 := y.2.2.1
        have y1 := y.2.1
        clear y
        by_cases hjl : j < K
        · by_cases he3 : r3.e = 0
          · have hx3 : (r3.e == 0) = true := by simp [he3]
            have HE3 : Hid (rpages b r = rpagesGo b k (K - j) r3 behind ps) := by
              rcases HE.out with h | h
              · exact Lib.hid h.2
              · exact absurd he3 h.1
            clear he3 HE
            obtain ⟨x, ra, hxr⟩ : ∃ x ra, rnum b r3 18446744073709551615 17 = (x, ra) := ⟨_, _, rfl⟩
            have hx64 : x ≤ 18446744073709551615 := by have := rnum_u64 b r3 18446744073709551615 17; rw [hxr] at this; exact this
            have hxe : ra.e ≠ 0 → x = 0 := by intro h; have := rnum_err b r3 18446744073709551615 17 (by rw [hxr]; exact h); rw [hxr] at this; exact this
            have HST : Hid (rpagesGo b k (K - j) r3 behind ps = rpageStep b k (K - (j + 1)) ps (x, rpageMid b k r3 behind x ra)) := by
              show _ = _
              rw [show K - j = (K - (j + 1)) + 1 by omega, rpagesGo_step, rpageNo_eq, hxr]
            have HX := Lib.hid hxr; clear hxr
            have hlev := HP.out.rr.rd.len
            go_wp2_with fail
            (with_reducible refine (rd_numberP HP.out HB.out 18446744073709551615 18446744073709551615 (by omega) 17 (by omega) x ra HX).mono ?_)
            rintro e w3 ⟨rfl, hpa⟩
            have HPA := Lib.hid hpa; clear hpa
            have y := HPA.out.cells
            have y2 := y.2.2.1
            clear y y1
            by_cases he : ra.e = 0
            · have he1 : (ra.e == 0) = true := by simp [he]
              by_cases hkx : k ≤ x
              · have hkx' : decide ((k : Int) ≤ (x : Int)) = true := by rw [decide_eq_true_iff]; omega
                have EX : rpages b r = ([], ra.no 17 r3.at_) := by
                  rw [HE3.out, HST.out, rpageMid_17 he hkx (by omega), rpageStep, if_pos (by simp [RS.no, he])]
                have hr' : (ra.no 17 r3.at_).e = 17 := by rw [RS.no, if_pos he]
                have E : Hid (PgRel (rpages b r) b k (K - (j + 1)) (ra.no 17 r3.at_) behind ps) := Lib.hid (.inr ⟨by rw [hr']; decide, by rw [EX], by rw [EX]⟩)
                have HR' := Lib.hid hr'; clear hr' he EX
                go_wp2_with fail
                (with_reducible refine (rd_noP HPA.out 17 r3.at_ r3.at_ rfl).mono ?_)
                rintro e w4 ⟨rfl, hpb⟩
                have HPB := Lib.hid hpb; clear hpb
                generalize ra.no 17 r3.at_ = rb at *
                have he2 : (rb.e == 0) = false := by rw [HR'.out]; rfl
                have z := HPB.out.cells
                have z2 := z.2.2.1; have z1 := z.2.1; have z0 := z.1
                clear z
                obtain ⟨va, vc, rfl, hvl⟩ := hlev
                go_wp2_with fail
                go_quiet (fail)
                go_wp2_with fail
                go_quiet (fail)
                go_wp2
                go_roundw
                case rel => exact ⟨j + 1, behind, L, ps, rb, by omega, by go_num, rfl, ⟨hL1, hL2⟩, hbh, Lib.hid (HPB.out.drewN _), E⟩
                case measure => simp [intOf]; omega
              · by_cases hxb : x < behind
                · have hxl : (x : Int) ≤ L := by omega
                  have EX : rpages b r = ([], ra.no 18 r3.at_) := by
                    rw [HE3.out, HST.out, rpageMid_18 he hkx hxb, rpageStep, if_pos (by simp [RS.no, he])]
                  have hr' : (ra.no 18 r3.at_).e = 18 := by rw [RS.no, if_pos he]
                  have E : Hid (PgRel (rpages b r) b k (K - (j + 1)) (ra.no 18 r3.at_) behind ps) := Lib.hid (.inr ⟨by rw [hr']; decide, by rw [EX], by rw [EX]⟩)
                  have HR' := Lib.hid hr'; clear hr' he EX
                  go_wp2_with fail
                  (with_reducible refine (rd_noP HPA.out 18 r3.at_ r3.at_ rfl).mono ?_)
                  rintro e w4 ⟨rfl, hpb⟩
                  have HPB := Lib.hid hpb; clear hpb
                  generalize ra.no 18 r3.at_ = rb at *
                  have he2 : (rb.e == 0) = false := by rw [HR'.out]; rfl
                  have z := HPB.out.cells
                  have z2 := z.2.2.1; have z1 := z.2.1; have z0 := z.1
                  clear z
                  obtain ⟨va, vc, rfl, hvl⟩ := hlev
                  go_wp2_with fail
                  go_quiet (fail)
                  go_wp2_with fail
                  go_quiet (fail)
                  go_wp2
                  go_roundw
                  case rel => exact ⟨j + 1, behind, L, ps, rb, by omega, by go_num, rfl, ⟨hL1, hL2⟩, hbh, Lib.hid (HPB.out.drewN _), E⟩
                  case measure => simp [intOf]; omega
                · by_cases hsh : b.length - ra.at_ < 4096
                  · have hle := HPA.out.rr.le
                    have hsh' : (b.length : Int) < (ra.at_ : Int) + 4096 := by omega
                    have hww : IntKind.i64.wrap ((ra.at_ : Int) + 4096) = (ra.at_ : Int) + 4096 := IntWalk.i64_in _ ⟨by omega, by have := HPA.out.rr.rd.lenc; obtain ⟨_, _, h, _⟩ := HPA.out.rr.rd; omega⟩
                    have hxl : ¬ (x : Int) ≤ L := by omega
                    have EX : rpages b r = ([], ra.no 10 ra.at_) := by
                      rw [HE3.out, HST.out, rpageMid_10 he hkx hxb hsh, rpageStep, if_pos (by simp [RS.no, he])]
                    have hr' : (ra.no 10 ra.at_).e = 10 := by rw [RS.no, if_pos he]
                    have E : Hid (PgRel (rpages b r) b k (K - (j + 1)) (ra.no 10 ra.at_) behind ps) := Lib.hid (.inr ⟨by rw [hr']; decide, by rw [EX], by rw [EX]⟩)
                    have HR' := Lib.hid hr'; clear hr' he EX
                    obtain ⟨va, vc, rfl, hvl⟩ := hlev
                    have y := HPA.out.cells
                    have y0 := y.1; have y1 := y.2.1
                    clear y
                    go_wp2_with fail
                    go_quiet (fail)
                    go_wp2_with fail
                    (with_reducible refine (rd_noP (HPA.out.drewN _) 10 ra.at_ ra.at_ rfl).mono ?_)
                    rintro e w4 ⟨rfl, hpb⟩
                    have HPB := Lib.hid hpb; clear hpb
                    generalize ra.no 10 ra.at_ = rb at *
                    have he2 : (rb.e == 0) = false := by rw [HR'.out]; rfl
                    have z := HPB.out.cells
                    have z2 := z.2.2.1; have z1 := z.2.1; have z0 := z.1
                    clear z
                    go_wp2_with fail
                    go_quiet (fail)
                    go_wp2
                    go_roundw
                    case rel => exact ⟨j + 1, behind, L, ps, rb, by omega, by go_num, rfl, ⟨hL1, hL2⟩, hbh, Lib.hid (HPB.out.drewN _), E⟩
                    case measure => simp [intOf]; omega
                  · have hle := HPA.out.rr.le
                    have hsl : ra.at_ + 4096 ≤ b.length := by omega
                    have hsh' : ¬ (b.length : Int) < (ra.at_ : Int) + 4096 := by omega
                    have hxl : ¬ (x : Int) ≤ L := by omega
                    have EM := Lib.hid (rpageMid_ok (b := b) (r := r3) he hkx hxb hsh)
                    obtain ⟨va, vc, hv, hvc, hvl, hvr⟩ := HPA.out.rr.rd
                    subst hv
                    obtain ⟨bb, off, hva, hSb, _⟩ := hvr 0 (by omega)
                    subst hva
                    have HVR := Lib.hid hvr
                    clear hvr hsh
                    have HE0 := Lib.hid he; clear he
                    have y := HPA.out.cells
                    have y0 := y.1; have y1 := y.2.1; have yf := y.2.2.2
                    clear y
                    have hpgl : ((b.drop ra.at_).take 4096).length = 4096 := by rw [List.length_take, List.length_drop]; omega
                    have hpgb : ∀ y ∈ (b.drop ra.at_).take 4096, 0 ≤ y ∧ y ≤ 255 := fun y hy => HB.out y (List.mem_of_mem_drop (List.mem_of_mem_take hy))
                    have HPC : Hid (∀ wz, Keeps (fun y => S y) w3 wz → ∀ q u, (((b.drop ra.at_).take 4096).map (Value.int .u8))[q]? = some u → wz.cell? ((⟨bb, off + ra.at_, none⟩ : Addr).add q) = some u) := fun wz hkz => page_cells HVR.out hkz hsl
                    have HRS : Hid (RdI .u8 S w3 (.slice (some ⟨bb, off + ra.at_, none⟩) 4096 (vc - ra.at_)) ((b.drop ra.at_).take 4096)) := Lib.hid (rd_sub HVR.out hsl hvc)
                    obtain ⟨pg, hpg⟩ : ∃ pg, pg = (b.drop ra.at_).take 4096 := ⟨_, rfl⟩
                    rw [← hpg] at hpgl hpgb HPC HRS
                    have HPG2 := Lib.hid hpg; have HPGL := Lib.hid hpgl; have HPGB := Lib.hid hpgb
                    clear hpg hpgl hpgb
                    obtain ⟨dz, hdz⟩ : ∃ dz, dz = (pg.all fun x => decide (x = 0)) := ⟨_, rfl⟩
                    have HDZ : Hid (dz = decide (pg = zpage)) := Lib.hid (hdz.trans (noughts_page HPGL.out))
                    have HNO : Hid (∀ wz, Keeps (fun y => S y) w3 wz → Calls Tryd.prog 31 #[.slice (some ⟨bb, off + ra.at_, none⟩) 4096 (vc - ra.at_)] wz fun e w' => e = .returned (.bool dz) ∧ w' = wz) := Lib.hid fun wz hk => by
                      rw [hdz]; exact ref22_noughts wz S _ pg (HRS.out.keeps hk)
                    clear hdz
                    have w1' : IntKind.i64.wrap ((ra.at_ : Int) + 4096) = (ra.at_ : Int) + 4096 := IntWalk.i64_in _ ⟨by omega, by omega⟩
                    have w2' : (0 : Int) ≤ (ra.at_ : Int) + 4096 := by omega
                    have w3' : ((ra.at_ : Int) + 4096).toNat = ra.at_ + 4096 := by omega
                    have w4' : ra.at_ + 4096 ≤ vc := by omega
                    have w5' : ra.at_ ≤ ra.at_ + 4096 := by omega
                    have w6' : (ra.at_ : Int) + 4096 ≤ (vc : Int) := by omega
                    have w7' : ra.at_ + 4096 - ra.at_ = 4096 := by omega
                    have hvne : (vc = ra.at_) = False := by simp; omega
                    go_wp2_with fail
                    go_quiet (fail)
                    go_wp2_with fail
                    go_quiet ((go_at_call 31; exact quiet_add_same' (HNO.out _ (Keeps.of_drewN _))))
                    cases dz with
                    | true =>
                      have hz : pg = zpage := of_decide_eq_true HDZ.out.symm
                      have EX : rpages b r = ([], ra.no 12 ra.at_) := by
                        rw [HE3.out, HST.out, EM.out, rpageStep, if_neg (by simp [HE0.out]), if_pos (by simp only; rw [← HPG2.out]; exact hz)]
                      have hr' : (ra.no 12 ra.at_).e = 12 := by rw [RS.no, if_pos HE0.out]
                      have E : Hid (PgRel (rpages b r) b k (K - (j + 1)) (ra.no 12 ra.at_) behind ps) := Lib.hid (.inr ⟨by rw [hr']; decide, by rw [EX], by rw [EX]⟩)
                      have HR' := Lib.hid hr'; clear hr' hz EX
                      go_wp2_with fail
                      (with_reducible refine (rd_noP (HPA.out.drewN _) 12 ra.at_ ra.at_ rfl).mono ?_)
                      rintro e w4 ⟨rfl, hpb⟩
                      have HPB := Lib.hid hpb; clear hpb
                      generalize ra.no 12 ra.at_ = rb at *
                      have he2 : (rb.e == 0) = false := by rw [HR'.out]; rfl
                      have z := HPB.out.cells
                      have z2 := z.2.2.1
                      clear z
                      go_wp2
                      go_roundw
                      case rel => exact ⟨j + 1, behind, L, ps, rb, by omega, by go_num, rfl, ⟨hL1, hL2⟩, hbh, HPB, E⟩
                      case measure => simp [intOf]; omega
                    | false =>
                      have hz : pg ≠ zpage := of_decide_eq_false HDZ.out.symm
                      have EX := rpage_go HE3.out HST.out EM.out HE0.out HPG2.out hz
                      have E : Hid (PgRel (rpages b r) b k (K - (j + 1)) { ra with at_ := ra.at_ + 4096 } (x + 1) (ps.set x pg)) := Lib.hid (.inl ⟨HE0.out, EX⟩)
                      clear hz EX
                      have hxl : x < gs.length := by rw [HGK.out]; omega
                      obtain ⟨lg, lc, hu3, _, hlg⟩ := HPA.out.pg.own.form (by omega)
                      subst hu3
                      have hgx : gs[x]? = some gs[x] := List.getElem?_eq_getElem hxl
                      have lcell : w3.cell? ⟨lg, x, none⟩ = some (.slice (some ⟨gs[x], 0, none⟩) 4096 4096) := by
                        have := HPA.out.pg.own.cells (g := lg) rfl x (pgv gs[x]) (by rw [List.getElem?_map, hgx]; rfl)
                        unfold Addr.add at this
                        split at this
                        · rename_i e0; subst e0; exact this
                        · simpa [pgv] using this
                      have hrow := HPA.out.pg.row x gs[x] hgx
                      have hsz0 : ((ps.getD x []).map (Value.int .u8)).toArray.size = 4096 := by
                        have hxp : x < ps.length := by rw [← HPA.out.pg.len]; exact hxl
                        have := (HPA.out.pg.page ps[x] (List.getElem_mem _)).1
                        simp [hxp, this]
                      have HSZ1 : Hid ((ps[x]?.getD []).length = 4096) := by
                        have hxp : x < ps.length := by rw [← HPA.out.pg.len]; exact hxl
                        have := (HPA.out.pg.page ps[x] (List.getElem_mem _)).1
                        show _ = _
                        simp [hxp, this]
                      have HGX := Lib.hid hgx; have HROW := Lib.hid hrow; have HSZ0 := Lib.hid hsz0
                      clear hgx hrow hsz0
                      have hxi : (x : Int) < (gs.length : Int) := by omega
                      have hxi0 : (0 : Int) ≤ (x : Int) := by omega
                      have hgsl : gs.length ≤ 64 := by rw [HGK.out]; exact hnle
                      generalize gs[x] = gx at *
                      go_wp2_with fail
                      go_cut [] (fun wx => Hid (PS S w p (.slice (some ⟨bb, off, none⟩) b.length vc) b w1.heap.size (.slice (some ⟨lg, 0, none⟩) gs.length lc) gs (ps.set x pg) ra wx))
                      case first =>
                        go_region_law (refine step_copy_set (by rfl) _ _ 31 31 (by rfl) 5 Tryd.underlying31 (by kernel_rfl) gx 0 4096 4096 ⟨bb, off + ra.at_, none⟩ 4096 (vc - ra.at_) (by rfl) (by rfl) ((ps.getD x []).map (Value.int .u8)).toArray 5 (by exact HROW.out) (pg.map (Value.int .u8)) (by rw [List.length_map, HPGL.out]; simp only [Nat.min_def]; split <;> omega) (by exact HPC.out _ ((Keeps.of_drewN _).drew)) (by rw [List.length_map, HPGL.out, HSZ0.out]; omega) (by intro u hu; simp at hu; obtain ⟨_, _, rfl⟩ := hu; rfl) ?_)
                        all_goals (go_wp2_with fail; go_meet; exact (HPA.out.drewN _).setPage HGX.out HPGL.out HPGB.out (by rw [List.drop_of_length_le (by rw [List.length_map, HSZ1.out, HPGL.out]; omega), List.append_nil]))
                      case rest =>
                        have HPB : Hid _ := hcut
                        have z := HPB.out.cells
                        have z1 := z.2.1; have zf := z.2.2.2
                        have HFin := Lib.hid (HPB.out.advance (ra.at_ + 4096) hsl)
                        clear z hcut
                        clear w1' w2' w3' w4' w5' w6' w7'
                        go_wp2
                        go_roundw
                        case rel => exact ⟨j + 1, x + 1, x, ps.set x pg, { ra with at_ := ra.at_ + 4096 }, by omega, by go_num, rfl, by omega, by omega, HFin, E⟩
                        case measure => simp [intOf]; omega
            · have he1 : (ra.e == 0) = false := by simp [he]
              have E : Hid (PgRel (rpages b r) b k (K - (j + 1)) ra behind ps) := Lib.hid (.inr ⟨he, by rw [HE3.out, HST.out, rpageMid_err he, rpageStep, if_pos he], by rw [HE3.out, HST.out, rpageMid_err he, rpageStep, if_pos he]⟩)
              have y := HPA.out.cells
              have y0 := y.1; have y1 := y.2.1
              clear y he
              obtain ⟨va, vc, rfl, hvl⟩ := hlev
              go_wp2_with fail
              go_quiet (fail)
              go_wp2_with fail
              go_quiet (fail)
              go_wp2
              go_roundw
              case rel => exact ⟨j + 1, behind, L, ps, ra, by omega, by go_num, rfl, ⟨hL1, hL2⟩, hbh, Lib.hid (HPA.out.drewN _), E⟩
              case measure => simp [intOf]; omega
          · have hx3 : (r3.e == 0) = false := by simp [he3]
            have hend : (rpages b r).2.e = r3.e ∧ (rpages b r).2.bad = r3.bad := by
              rcases HE.out with h | h
              · exact absurd h.1 he3
              · exact h.2
            have HEND := Lib.hid hend; have HE3 := Lib.hid he3
            clear hend he3
            go_wp2
            go_ret
            exact ⟨_, ps, r3, rfl, ⟨gs, pg_base HP.out.pg hsz1, by rw [HGK.out]; exact hnle⟩, HP.out.rr, ⟨HEND.out.1.symm, HEND.out.2.symm, fun h => absurd (HEND.out.1.symm.trans h) HE3.out⟩, HP.out.keep⟩
        · obtain rfl : j = K := by omega
          have hend : Ag (ps, r3) (rpages b r) := by
            rcases HE.out with ⟨h1, h2⟩ | ⟨h1, h2, h3⟩
            · rw [Nat.sub_self, rpagesGo] at h2
              rw [h2]; exact ⟨rfl, rfl, fun _ => rfl⟩
            · exact ⟨h2.symm, h3.symm, fun h => absurd (h2.symm.trans h) h1⟩
          have HEND := Lib.hid hend; clear hend
          have hjj : decide ((j : Int) < (j : Int)) = false := by simp
          go_wp2
          go_ret
          exact ⟨_, ps, r3, rfl, ⟨gs, pg_base HP.out.pg hsz1, by rw [HGK.out]; exact hnle⟩, HP.out.rr, HEND.out, HP.out.keep⟩
end R22
end Go.Proofs.YthlkckpadjjbdaaDoor
