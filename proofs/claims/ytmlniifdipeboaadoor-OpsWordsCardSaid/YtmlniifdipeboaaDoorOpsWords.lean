/- flagonlaw03.OpsWords, walked. -/
import Derived.Test.YtmlniifdipeboaaDoorOpsLaw
import Derived.Test.YtmlniifdipeboaaDoorRefFind
import Derived.Test.YtmlniifdipeboaaDoorEqs
import Derived.Test.YtmlniifdipeboaaDoorBag
namespace Go.Proofs.YtmlniifdipeboaaDoor
open Go Go.RowKit

def opsI : List Int := allOps.map fun n : Nat => (n : Int)
theorem opsI_len : opsI.length = 90 := by rw [opsI, List.length_map, all_len]
theorem opsI_map : opsI.map (Value.int .u8) = u8s allOps := by rw [opsI, List.map_map]; rfl
theorem opsI_rd {w : World} {B : Nat} {v : Value} (h : w.ownsRow B 5 1 v 90 (u8s allOps)) : RdI .u8 (fun b => v.ownBlock = some b) w v opsI :=
  RdI.of_own (by rw [opsI_len, opsI_map]; exact h) (by rw [opsI_len]; decide)
/-- Two lists of all opcodes, made one behind the other. -/
structure Two (B0 G : Nat) (w : World) (va vb : Value) : Prop where
  a : w.ownsRow B0 5 1 va 90 (u8s allOps)
  b : w.ownsRow B0 5 1 vb 90 (u8s allOps)
  alt : ∀ g, va.ownBlock = some g → g < G
  blt : ∀ g, vb.ownBlock = some g → g < G
  ne : ∀ g, va.ownBlock = some g → vb.ownBlock ≠ some g
theorem Two.on {B0 G : Nat} {w w' : World} {va vb : Value} (h : Two B0 G w va vb) (hb : Below G w w') : Two B0 G w' va vb :=
  ⟨own_keeps h.a (Keeps.of_below hb) h.alt, own_keeps h.b (Keeps.of_below hb) h.blt, h.alt, h.blt, h.ne⟩
theorem Two.rows {B0 G : Nat} {w : World} {va vb : Value} (h : Two B0 G w va vb) :
    (∀ (k : Nat) v l, [va, vb][k]? = some v → [opsI, opsI][k]? = some l → w.ownsRow B0 5 1 v l.length (l.map (Value.int .u8)) ∧ l.length ≤ 1073741824) ∧
    (∀ (k : Nat) v g, [va, vb][k]? = some v → v.ownBlock = some g → g < G) ∧
    (∀ (k j : Nat) v u g, [va, vb][k]? = some v → [va, vb][j]? = some u → v.ownBlock = some g → u.ownBlock = some g → j = k) := by
  refine ⟨fun k v l h1 h2 => ?_, fun k v g h1 h2 => ?_, fun k j v u g h1 h2 h3 h4 => ?_⟩
  · match k, h1, h2 with
    | 0, h1, h2 => obtain rfl := Option.some.inj h1; obtain rfl := Option.some.inj h2; rw [opsI_len, opsI_map]; exact ⟨h.a, by decide⟩
    | 1, h1, h2 => obtain rfl := Option.some.inj h1; obtain rfl := Option.some.inj h2; rw [opsI_len, opsI_map]; exact ⟨h.b, by decide⟩
    | k + 2, h1, _ => simp at h1
  · match k, h1 with
    | 0, h1 => obtain rfl := Option.some.inj h1; exact h.alt g h2
    | 1, h1 => obtain rfl := Option.some.inj h1; exact h.blt g h2
    | k + 2, h1 => simp at h1
  · match k, j, h1, h2 with
    | 0, 0, _, _ => rfl
    | 1, 1, _, _ => rfl
    | 0, 1, h1, h2 => obtain rfl := Option.some.inj h1; obtain rfl := Option.some.inj h2; exact absurd h4 (h.ne g h3)
    | 1, 0, h1, h2 => obtain rfl := Option.some.inj h1; obtain rfl := Option.some.inj h2; exact absurd h3 (h.ne g h4)
    | k + 2, _, h1, _ => simp at h1
    | _, j + 2, _, h2 => simp at h2

set_option maxRecDepth 100000 in
set_option maxHeartbeats 6400000 in
theorem law_words (w : World) (word : List UInt8) (ht : Tb w) :
    Calls Tryd.prog 14 #[.string ⟨word.toArray⟩] w fun e w' => e = .returned (.bool true) ∧ Below w.heap.size w w' := by
  have HT := Lib.hid ht; clear ht
  by_cases hlen : 1048576 < word.length
  · go_enter Tryd.func14, Tryd.ntmps14
    go_wp2_with fail
    refine (law_works03 _ HT.out).mono ?_
    rintro e w1 ⟨rfl, hb1⟩
    have HB1 := Lib.hid hb1; clear hb1
    go_wp2
    go_ret
    exact ⟨rfl, HB1.out⟩
  · go_enter Tryd.func14, Tryd.ntmps14
    go_wp2_with fail
    refine (law_works03 _ HT.out).mono ?_
    rintro e w1 ⟨rfl, hb1⟩
    have HB1 := Lib.hid hb1; clear hb1
    go_wp2_with fail
    refine (ops_Find _ word (HT.out.bel HB1.out)).mono ?_
    rintro e w2 ⟨rfl, hb2⟩
    have HB2 := Lib.hid (below_next HB1.out hb2); clear hb2 HB1
    go_wp2_with fail
    refine (ref_Find _ word).mono ?_
    rintro e w3 ⟨rfl, hb3⟩
    have HB3 := Lib.hid (below_next HB2.out hb3); clear hb3 HB2
    generalize findN word = fn at *
    generalize (findP word).isSome = fs at *
    go_wp2_with fail
    refine (ops_All _ (HT.out.bel HB3.out)).mono ?_
    rintro e w4 ⟨va, rfl, hva, hb4⟩
    have HB4 := Lib.hid (below_next HB3.out hb4)
    have HVA := Lib.hid (own_base hva HB3.out.size); clear hva hb4 HB3
    go_wp2_with fail
    refine (ops_All _ (HT.out.bel HB4.out)).mono ?_
    rintro e w5 ⟨vb, rfl, hvb, hb5⟩
    have HB5 := Lib.hid (below_next HB4.out hb5)
    have H2 : Hid (Two w.heap.size w5.heap.size w5 va vb) := Lib.hid ⟨own_below HVA.out hb5, own_base hvb HB4.out.size, fun g hg => Nat.lt_of_lt_of_le (HVA.out.lt g hg).2 hb5.size, fun g hg => (hvb.lt g hg).2, fun g h1 h2 => by
      have := (HVA.out.lt g h1).2; have := (hvb.lt g h2).1; omega⟩
    obtain ⟨aa, ca, rfl, _⟩ := own_slice HVA.out
    obtain ⟨ab, cb, rfl, _⟩ := own_slice hvb
    clear hvb hb5 HVA HB4
    have hb6 := HB5.out.alloc HB5.out.size (.cells (bagCells (.slice none 0 0)) 70)
    have hbg : Bg w5.heap.size (w5.alloc (.cells (bagCells (.slice none 0 0)) 70)) w5.heap.size (.slice none 0 0) [] := ⟨heap_alloc_new _ _, World.ownsRow_nil _ _ _ _, by simp [Value.ownBlock], Nat.le_refl _⟩
    have H26 := Lib.hid (H2.out.on (below_alloc w5 (.cells (bagCells (.slice none 0 0)) 70)))
    have HB6 := Lib.hid hb6; have HG6 := Lib.hid hbg
    have HL5 := Lib.hid HB5.out.size
    clear hb6 hbg H2 HB5
    unfold bagCells at HB6 HG6 H26
    go_wp2_with fail
    have HLt : Hid (w5.heap.size ≤ (w5.alloc (.cells #[.slice none 0 0, .slice none 0 0, .slice none 0 0, .slice none 0 0, .slice none 0 0, .slice none 0 0, .slice none 0 0, .slice none 0 0, .slice none 0 0, .slice none 0 0, .slice none 0 0, .slice none 0 0, .slice none 0 0, .slice none 0 0, .slice none 0 0, .slice none 0 0, .slice none 0 0] 70)).heap.size) := Lib.hid (by rw [World.size_alloc]; omega)
    generalize w5.alloc (.cells #[.slice none 0 0, .slice none 0 0, .slice none 0 0, .slice none 0 0, .slice none 0 0, .slice none 0 0, .slice none 0 0, .slice none 0 0, .slice none 0 0, .slice none 0 0, .slice none 0 0, .slice none 0 0, .slice none 0 0, .slice none 0 0, .slice none 0 0, .slice none 0 0, .slice none 0 0] 70) = w6 at *
    generalize w5.heap.size = gb at *
    refine (add_bytes _ _ _ _ (.slice aa 90 ca) [] HG6.out (by decide) ⟨_, _, _, rfl⟩).mono ?_
    rintro e w7 ⟨rfl, hv7, hg7, hb7⟩
    have HG7 := Lib.hid hg7
    have HB7 := Lib.hid (HB6.out.trans (hb7.mono HL5.out))
    have H27 := Lib.hid (H26.out.on hb7)
    clear hg7 hb7 HG6 HB6 H26 HLt
    go_wp2_with fail
    refine (add_bytes _ _ _ _ (.slice ab 90 cb) _ HG7.out (by simp) ⟨_, _, _, rfl⟩).mono ?_
    rintro e w8 ⟨rfl, hv8, hg8, hb8⟩
    have HG8 : Hid (Bg gb w8 gb hv8 [.slice aa 90 ca, .slice ab 90 cb]) := Lib.hid (by simpa using hg8)
    have HB8 := Lib.hid (HB7.out.trans (hb8.mono HL5.out))
    have H28 := Lib.hid (H27.out.on hb8)
    clear hg8 hb8 HG7 HB7 H27
    go_wp2_with fail
    refine (ref_All _).mono ?_
    rintro e w9 ⟨vc, rfl, hvc, hb9⟩
    have HG9 := Lib.hid (HG8.out.on hb9)
    have HB9 := Lib.hid (below_next HB8.out hb9)
    have H29 := Lib.hid (H28.out.on (hb9.mono (Nat.le_of_lt (row_lt HG8.out.row))))
    obtain ⟨ac, cc, rfl, _⟩ := own_slice hvc
    have HR := Lib.hid (And.intro (opsI_rd H29.out.a) (And.intro (opsI_rd H29.out.b) (opsI_rd hvc)))
    clear hvc hb9 HG8 HB8 H28
    go_wp2_with fail
    refine (eqBytes _ _ _ _ _ _ _ HR.out.1 HR.out.2.2).mono ?_
    rintro e w10 ⟨he, n, rfl⟩
    rw [decide_eq_true rfl] at he
    subst he
    go_wp2_with fail
    refine (eqBytes _ _ _ _ _ _ _ (HR.out.2.1.drewN _) (HR.out.1.drewN _)).mono ?_
    rintro e w11 ⟨he, m, rfl⟩
    rw [decide_eq_true rfl] at he
    subst he
    have hbd := below_next (drewN_below w9 n) (drewN_below (w9.drewN n) m)
    have HG11 := Lib.hid (HG9.out.on hbd)
    have HB11 := Lib.hid (below_next HB9.out hbd)
    have H211 := Lib.hid (H29.out.on (hbd.mono (Nat.le_of_lt (row_lt HG9.out.row))))
    generalize (w9.drewN n).drewN m = w11 at *
    clear hbd HG9 HB9 H29 HR
    go_wp2_with fail
    obtain ⟨r1, r2, r3⟩ := H211.out.rows
    refine (bag_apart _ w.heap.size gb gb hv8 _ [opsI, opsI] HG11.out (by simp) rfl HL5.out r1 r2 r3).mono ?_
    rintro e w12 ⟨rfl, hk⟩
    have HB12 : Hid (Below w.heap.size w w12) := Lib.hid (HB11.out.trans (hk.below HB11.out.size fun b hb k v h1 h2 => by
      match k, h1 with
      | 0, h1 => obtain rfl := Option.some.inj h1; have := (H211.out.a.lt b h2).1; omega
      | 1, h1 => obtain rfl := Option.some.inj h1; have := (H211.out.b.lt b h2).1; omega
      | k + 2, h1 => simp at h1))
    clear hk r1 r2 r3
    go_wp2
    go_ret
    exact ⟨rfl, HB12.out⟩
theorem law_wordsS (w : World) (s : ByteArray) (ht : Tb w) :
    Calls Tryd.prog 14 #[.string s] w fun e w' => e = .returned (.bool true) ∧ Below w.heap.size w w' := by
  have h := law_words w s.data.toList ht
  rw [Array.toArray_toList] at h
  exact h
end Go.Proofs.YtmlniifdipeboaaDoor
