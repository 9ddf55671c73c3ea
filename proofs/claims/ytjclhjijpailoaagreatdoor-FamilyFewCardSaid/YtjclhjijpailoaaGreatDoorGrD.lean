/- reach: the rings; what is reached from a node; is a graph whole without some nodes? -/
import Derived.Test.YtjclhjijpailoaaGreatDoorGrC
import Derived.ScopeJumps
import Derived.WalkMore
namespace Go.Proofs.YtjclhjijpailoaaGreatDoor
open Go.RowKit Law Go.Shelf
set_option linter.unusedVariables false
set_option linter.unusedSimpArgs false
set_option maxRecDepth 100000

/-! ### what it computes -/
def ringsN (near : Nat → Nat) (off : Nat) : Nat → Nat → Nat → List Nat
  | 0, _, _ => []
  | f + 1, all, ring => if ring = 0 then [] else ring :: ringsN near off f (all ||| ring) (andNot (growN near ring off) (all ||| ring))
theorem ringsN_zero (near : Nat → Nat) (off f all : Nat) : ringsN near off f all 0 = [] := by cases f <;> simp [ringsN]
theorem ringsN_step {near : Nat → Nat} {off f all ring : Nat} (h : ring ≠ 0) : ringsN near off (f + 1) all ring = ring :: ringsN near off f (all ||| ring) (andNot (growN near ring off) (all ||| ring)) := by
  show (if ring = 0 then _ else _) = _
  rw [if_neg h]
theorem unionL_acc (l : List Nat) : ∀ a : Nat, l.foldl (· ||| ·) a = a ||| unionL l := by
  induction l with
  | nil => intro a; simp [unionL]
  | cons x l ih =>
    intro a
    unfold unionL
    rw [List.foldl_cons, List.foldl_cons, ih, ih (0 ||| x), Nat.zero_or, Nat.or_assoc]
theorem unionL_cons (x : Nat) (l : List Nat) : unionL (x :: l) = x ||| unionL l := by
  show (x :: l).foldl (· ||| ·) 0 = _
  rw [List.foldl_cons, unionL_acc, Nat.zero_or]
theorem unionL_lt : ∀ l : List Nat, (∀ x ∈ l, x < 18446744073709551616) → unionL l < 18446744073709551616
  | [], _ => by decide
  | x :: l, h => by rw [unionL_cons]; exact or_lt64 (h x (by simp)) (unionL_lt l (fun y hy => h y (by simp [hy])))
section
variable {P : Nat → Prop} {E : Nat → Nat → Prop} {i : Nat} {near : Nat → Nat} {off : Nat}
theorem rings_union (hP : ∀ k, P k → k < 64) (hE : ∀ j k, j < 64 → k < 64 → ((near j).testBit k = true ↔ E j k)) (hn : ∀ j, near j < 18446744073709551616)
    (hoff : ∀ j k, j < 64 → k < 64 → E j k → (off.testBit k = false ↔ P k)) (hoff2 : ∀ k, k < 64 → P k → off.testBit k = false) : ∀ (f all ring : Nat), 65 ≤ f + (els all).length → RingI P E i all ring → ∀ k, k < 64 → ((all ||| unionL (ringsN near off f all ring)).testBit k = true ↔ Rch P E i k)
  | 0, all, ring, hf, h, k, hk => by have := els_len all; omega
  | f + 1, all, ring, hf, h, k, hk => by
    by_cases hr : ring = 0
    · subst hr
      rw [ringsN_zero]
      have : unionL [] = 0 := rfl
      rw [this, Nat.or_zero]
      exact h.done hP k hk
    · rw [ringsN_step hr, unionL_cons, ← Nat.or_assoc]
      refine rings_union hP hE hn hoff hoff2 f _ _ ?_ (h.next hP hE hn hoff hoff2) k hk
      have := els_or_lt hr h.lt2 h.apart
      omega
end
def fromN (n : Nat) (near : Nat → Nat) (off i : Nat) : Nat := unionL (ringsN near off 65 0 (startN n i off))
def thereN (n off : Nat) : Nat := andNot (allN (n : Int)) off
def wholeB (n : Nat) (near : Nat → Nat) (off : Nat) : Bool := decide (thereN n off ≠ 0) && fromN n near off (low (thereN n off)) == thereN n off

/-! ### rings -/
theorem els_lt_pow {x n : Nat} (h : x < 2 ^ n) : ∀ i ∈ els x, i < n := fun i hi => by
  rcases Nat.lt_or_ge i n with h1 | h1
  · exact h1
  · have := Nat.testBit_lt_two_pow (x := x) (i := i) (Nat.lt_of_lt_of_le h (Nat.pow_le_pow_right (by decide) h1))
    rw [(mem_els.1 hi).2] at this
    cases this
theorem nears_pow {near : Nat → Nat} {n : Nat} (hn : ∀ j, near j < 2 ^ n) : ∀ (l : List Nat) (s : Nat), s < 2 ^ n → nearsN near s l < 2 ^ n
  | [], s, h => h
  | i :: r, s, h => nears_pow hn r _ (Nat.or_lt_two_pow h (hn i))
theorem grow_pow {near : Nat → Nat} {n s off : Nat} (hn : ∀ j, near j < 2 ^ n) (hs : s < 2 ^ n) : growN near s off < 2 ^ n := by
  unfold growN andNot
  exact Nat.xor_lt_two_pow (nears_pow hn _ _ hs) (Nat.lt_of_le_of_lt Nat.and_le_left (nears_pow hn _ _ hs))
def RingsPost (w : World) (l : List Nat) (e : Ending) (w' : World) : Prop := l.length ≤ 64 ∧ ∃ v, e = .returned v ∧ w'.ownsRow w.heap.size 33 1 v l.length (u64V l) ∧ Below w.heap.size w w'
/-- How it stands at the label. -/
def RingJ (w : World) (near : List Nat) (off s0 : Nat) (v : Value) (all ring : Nat) (wr : World) : Prop :=
  ∃ (pre : List Nat) (f : Nat), 65 ≤ f + (els all).length ∧ pre.length ≤ (els all).length ∧ all < 18446744073709551616 ∧ ring < 2 ^ near.length ∧ (∀ k, k < 64 → ring.testBit k = true → all.testBit k = false) ∧
    pre ++ ringsN (nr near) off f all ring = ringsN (nr near) off 65 0 s0 ∧ wr.ownsRow w.heap.size 33 1 v pre.length (u64V pre) ∧ Below w.heap.size w wr
theorem own_below' {w w' : World} {base size n : Nat} {e : TypeId} {v : Value} {xs : List Value} (h : w.ownsRow base e size v n xs) (hb : Below w.heap.size w w') : w'.ownsRow base e size v n xs := own_below h hb
theorem pow64 {x n : Nat} (h : x < 2 ^ n) (hn : n ≤ 64) : x < 18446744073709551616 := Nat.lt_of_lt_of_le h (Nat.pow_le_pow_right (by decide) hn)
set_option maxHeartbeats 3200000 in
theorem rRings {w : World} {G R : Nat} {near : List Nat} (i off : Nat) (hi64 : i < 64) (ho : off < 18446744073709551616) (hnp : ∀ j, nr near j < 2 ^ near.length) (h : GrAt w G R near) (hTw : T64 w) :
    Calls Tryz.prog 102 #[.pointer (some ⟨G, 0, none⟩), .int .i64 (i : Int), .int .u64 (off : Int)] w (RingsPost w (ringsN (nr near) off 65 0 (startN near.length i off))) := by
  obtain ⟨i0, hi, hz0, hz1, hz2⟩ := info_parts setInfo
  have hle := h.le
  have CS := Lib.hid (rStart i off hi64 ho h)
  have hs0 : startN near.length i off < 2 ^ near.length := by
    unfold startN andNot
    have ha : allN (near.length : Int) ≤ 2 ^ near.length - 1 := by
      unfold allN
      split
      · rename_i h1; rw [show near.length = 64 by omega]; decide
      · split
        · omega
        · simp
    have hp := Nat.two_pow_pos near.length
    have h1 : 2 ^ i &&& allN (near.length : Int) < 2 ^ near.length := Nat.lt_of_le_of_lt Nat.and_le_right (by omega)
    exact Nat.xor_lt_two_pow h1 (Nat.lt_of_le_of_lt Nat.and_le_left h1)
  generalize startN near.length i off = s0 at *
  go_enter Tryz.func102, Tryz.ntmps102
  go_wp2
  refine wp_scope_jumps 0 (fun a' wr => ∃ (v : Value) (all ring : Nat) (u14 u15 u16 u17 u18 u19 u20 u21 u22 u23 u24 u25 u26 u27 u28 : Value), a' = { tmps := #[.pointer (some ⟨G, 0, none⟩), .int .i64 (i : Int), .int .u64 (off : Int), undef, undef, undef, .slice none 0 0, v, .int .u64 (all : Int), .int .u64 (ring : Int), .pointer (some ⟨G, 0, none⟩), .int .i64 (i : Int), .int .u64 (off : Int), .int .u64 (s0 : Int), u14, u15, u16, u17, u18, u19, u20, u21, u22, u23, u24, u25, u26, u27, u28, undef], defers := [] } ∧ RingJ w near off s0 v all ring wr) (fun a' _ => 64 - (els (intOf (a'.tmps.getD 8 undef)).toNat).length) rfl ?_ ?_
  · go_wp2_with fail
    refine CS.out.mono ?_
    rintro e wr ⟨rfl, hb0⟩
    have hal : (0 : Nat) < 18446744073709551616 := by decide
    have hJ : RingJ w near off s0 (.slice none 0 0) 0 s0 wr := ⟨[], 65, by rw [els_zero]; decide, Nat.zero_le _, by decide, hs0, fun k _ _ => Nat.zero_testBit k, rfl, World.ownsRow_nil _ _ _ _, hb0⟩
    obtain ⟨pre, f, hf, hpl, hal, hrn, hap, heq, hown, hb⟩ := hJ
    have hr64 := pow64 hrn hle
    have hpl64 : pre.length ≤ 64 := Nat.le_trans hpl (els_len 0)
    by_cases hr0 : s0 = 0
    · have hzz : ringsN (nr near) off f 0 s0 = [] := by rw [hr0]; exact ringsN_zero ..
      rw [hzz, List.append_nil] at heq
      have hne : ((s0 : Int) != 0) = false := by simp; omega
      have HP : Hid (RingsPost w (ringsN (nr near) off 65 0 s0) (.returned (.slice none 0 0)) wr) := ⟨by rw [← heq]; have := els_len 0; omega, _, rfl, by rw [← heq]; exact hown, hb⟩
      clear heq hown hb hap 
      go_wp2
      go_step3
      go_wp2
      simp only [Exit.jump]
      go_ret
      exact HP.out
    · have hne : ((s0 : Int) != 0) = true := by simp; omega
      obtain ⟨f', rfl⟩ : ∃ f', f = f' + 1 := ⟨f - 1, by have := els_len 0; omega⟩
      rw [ringsN_step hr0] at heq
      have hgr := els_or_lt hr0 hr64 hap
      have hol := or_lt64 hal hr64
      have hel := els_len (0 ||| s0)
      have hbo : bits .or .u64 0 (s0 : Int) = ((0 ||| s0 : Nat) : Int) := bits_or_u64_nat 0 s0 (by decide) hr64
      have hgp := grow_pow (off := off) hnp hrn
      have hg64 := pow64 hgp hle
      have hba := bits_andNot_u64_nat (growN (nr near) s0 off) (0 ||| s0) hg64 hol
      have HA : Hid (andNot (growN (nr near) s0 off) (0 ||| s0) = growN (nr near) s0 off ^^^ (growN (nr near) s0 off &&& (0 ||| s0))) := rfl
      have hG := h.keep hb
      have HCG := Lib.hid (fun (W : World) (hW : Below wr.heap.size wr W) => rGrow s0 off hr64 (els_lt_pow hrn) ho (hG.keep hW) (hTw.below (hb.trans (hW.mono hb.size))))
      have HN : Hid (∀ x, x = andNot (growN (nr near) s0 off) (0 ||| s0) → 65 ≤ f' + (els (0 ||| s0)).length ∧ (pre ++ [s0]).length ≤ (els (0 ||| s0)).length ∧ x < 2 ^ near.length ∧ (∀ k, k < 64 → x.testBit k = true → (0 ||| s0).testBit k = false) ∧ (pre ++ [s0]) ++ ringsN (nr near) off f' (0 ||| s0) x = ringsN (nr near) off 65 0 s0) := fun x hx => by
        subst hx
        refine ⟨by omega, by rw [List.length_append, List.length_singleton]; omega, Nat.xor_lt_two_pow hgp (Nat.lt_of_le_of_lt Nat.and_le_left hgp), fun k _ hk => ?_, by rw [← heq, List.append_assoc]; rfl⟩
        rw [testBit_andNot] at hk
        simpa using (Bool.and_eq_true_iff.1 hk).2
      have HM : Hid ((els 0).length < (els (0 ||| s0)).length) := hgr
      clear heq hap hgr  hf
      obtain ⟨gw, hgw⟩ : ∃ gw, growN (nr near) s0 off = gw := ⟨_, rfl⟩
      rw [hgw] at HA HN hba hgp hg64
      have HGW := Lib.hid hgw
      clear hgw
      obtain ⟨orr, horr⟩ : ∃ orr, 0 ||| s0 = orr := ⟨_, rfl⟩
      rw [horr] at HA HN hba hbo HM hol hel
      clear horr
      go_wp2
      go_step3
      go_wp2_with (at_builtin; refine wpList_append_own _ rfl _ _ 73 rfl w.heap.size 33 i0 (.int .u64 0) 1 8 Tryz.underlying73 hi hz0 hz1 hz2 rfl (by decide) _ _ _ rfl (hown.alloc _) ⟨wr.heap.size, 0, none⟩ 1 1 [.int .u64 (s0 : Int)] rfl rfl ?c1 ?c2 ?c3 ?c4 ?c5 ?_)
      case c1 =>
        intro j u hj
        match j, hj with
        | 0, hj => simp at hj; subst hj; simp [Addr.add]
      case c2 => intro u hu; simp at hu; subst hu; rfl
      case c3 => unfold maxLen; omega
      case c4 => omega
      case c5 => have := hb.size; simp; omega
      intro v' w1 hown' hgrow _
      have hb3 : Below w.heap.size w w1 := (hb.alloc hb.size _).grown hgrow (by have := hb.size; simp; omega) (fun j hj => (hown.lt j hj).1)
      have CG1 := Lib.hid (rGrow (w := w1) s0 off hr64 (els_lt_pow hrn) ho (h.keep hb3) (hTw.below hb3))
      rw [HGW.out] at CG1
      clear hgrow hown hG HCG
      go_wp2_with fail
      refine CG1.out.mono ?_
      rintro e w2 ⟨rfl, hb4⟩
      have HO := Lib.hid (And.intro (own_below hown' hb4) (hb3.trans (hb4.mono hb3.size)))
      clear hown' hb4 hb3
      go_wp2
      go_step3
      refine ⟨rfl, v', orr, _, _, _, _, _, _, _, _, _, _, _, _, _, _, _, _, rfl, pre ++ [s0], f', ?_⟩
      obtain ⟨q1, q2, q3, q4, q5⟩ := HN.out _ rfl
      rw [← HA.out]
      exact ⟨q1, q2, hol, q3, q4, q5, by rw [List.length_append]; unfold u64V; rw [List.map_append]; exact HO.out.1, HO.out.2⟩
  · rintro a' wr ⟨v, all, ring, u14, u15, u16, u17, u18, u19, u20, u21, u22, u23, u24, u25, u26, u27, u28, rfl, hJ⟩
    obtain ⟨pre, f, hf, hpl, hal, hrn, hap, heq, hown, hb⟩ := hJ
    have hr64 := pow64 hrn hle
    have hpl64 : pre.length ≤ 64 := Nat.le_trans hpl (els_len all)
    by_cases hr0 : ring = 0
    · subst hr0
      rw [ringsN_zero, List.append_nil] at heq
      have hne : (((0 : Nat) : Int) != 0) = false := rfl
      have HP : Hid (RingsPost w (ringsN (nr near) off 65 0 s0) (.returned v) wr) := ⟨by rw [← heq]; have := els_len all; omega, v, rfl, by rw [← heq]; exact hown, hb⟩
      clear heq hown hb hap
      go_wp2
      simp only [Exit.jump]
      go_ret
      exact HP.out
    · have hne : ((ring : Int) != 0) = true := by simp; omega
      obtain ⟨f', rfl⟩ : ∃ f', f = f' + 1 := ⟨f - 1, by have := els_len all; omega⟩
      rw [ringsN_step hr0] at heq
      have hgr := els_or_lt hr0 hr64 hap
      have hol := or_lt64 hal hr64
      have hel := els_len (all ||| ring)
      have hbo := bits_or_u64_nat all ring hal hr64
      have hgp := grow_pow (off := off) hnp hrn
      have hg64 := pow64 hgp hle
      have hba := bits_andNot_u64_nat (growN (nr near) ring off) (all ||| ring) hg64 hol
      have HA : Hid (andNot (growN (nr near) ring off) (all ||| ring) = growN (nr near) ring off ^^^ (growN (nr near) ring off &&& (all ||| ring))) := rfl
      have hG := h.keep hb
      have HCG := Lib.hid (fun (W : World) (hW : Below wr.heap.size wr W) => rGrow ring off hr64 (els_lt_pow hrn) ho (hG.keep hW) (hTw.below (hb.trans (hW.mono hb.size))))
      have HN : Hid (∀ x, x = andNot (growN (nr near) ring off) (all ||| ring) → 65 ≤ f' + (els (all ||| ring)).length ∧ (pre ++ [ring]).length ≤ (els (all ||| ring)).length ∧ x < 2 ^ near.length ∧ (∀ k, k < 64 → x.testBit k = true → (all ||| ring).testBit k = false) ∧ (pre ++ [ring]) ++ ringsN (nr near) off f' (all ||| ring) x = ringsN (nr near) off 65 0 s0) := fun x hx => by
        subst hx
        refine ⟨by omega, by rw [List.length_append, List.length_singleton]; omega, Nat.xor_lt_two_pow hgp (Nat.lt_of_le_of_lt Nat.and_le_left hgp), fun k _ hk => ?_, by rw [← heq, List.append_assoc]; rfl⟩
        rw [testBit_andNot] at hk
        simpa using (Bool.and_eq_true_iff.1 hk).2
      have HM : Hid ((els all).length < (els (all ||| ring)).length) := hgr
      clear heq hap hgr hf
      obtain ⟨gw, hgw⟩ : ∃ gw, growN (nr near) ring off = gw := ⟨_, rfl⟩
      rw [hgw] at HA HN hba hgp hg64
      have HGW := Lib.hid hgw
      clear hgw
      obtain ⟨orr, horr⟩ : ∃ orr, all ||| ring = orr := ⟨_, rfl⟩
      rw [horr] at HA HN hba hbo HM hol hel
      clear horr
      go_wp2_with (at_builtin; refine wpList_append_own _ rfl _ _ 73 rfl w.heap.size 33 i0 (.int .u64 0) 1 8 Tryz.underlying73 hi hz0 hz1 hz2 rfl (by decide) _ _ _ rfl (hown.alloc _) ⟨wr.heap.size, 0, none⟩ 1 1 [.int .u64 (ring : Int)] rfl rfl ?c1 ?c2 ?c3 ?c4 ?c5 ?_)
      case c1 =>
        intro j u hj
        match j, hj with
        | 0, hj => simp at hj; subst hj; simp [Addr.add]
      case c2 => intro u hu; simp at hu; subst hu; rfl
      case c3 => unfold maxLen; omega
      case c4 => omega
      case c5 => have := hb.size; simp; omega
      intro v' w1 hown' hgrow _
      have hb3 : Below w.heap.size w w1 := (hb.alloc hb.size _).grown hgrow (by have := hb.size; simp; omega) (fun j hj => (hown.lt j hj).1)
      have CG1 := Lib.hid (rGrow (w := w1) ring off hr64 (els_lt_pow hrn) ho (h.keep hb3) (hTw.below hb3))
      rw [HGW.out] at CG1
      clear hgrow hown hG HCG
      go_wp2_with fail
      refine CG1.out.mono ?_
      rintro e w2 ⟨rfl, hb4⟩
      have HO := Lib.hid (And.intro (own_below hown' hb4) (hb3.trans (hb4.mono hb3.size)))
      clear hown' hb4 hb3
      go_wp2
      go_step3
      refine ⟨rfl, ⟨v', orr, _, _, _, _, _, _, _, _, _, _, _, _, _, _, _, _, rfl, pre ++ [ring], f', ?_⟩, ?_⟩
      · obtain ⟨q1, q2, q3, q4, q5⟩ := HN.out _ rfl
        rw [← HA.out]
        exact ⟨q1, q2, hol, q3, q4, q5, by rw [List.length_append]; unfold u64V; rw [List.map_append]; exact HO.out.1, HO.out.2⟩
      · have := HM.out
        simp [intOf]
        omega
end Go.Proofs.YtjclhjijpailoaaGreatDoor
