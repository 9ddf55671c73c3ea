/- What several texts of this seat lean on, joined: NumI SetP Pop SetA SetB OwnOr SetC SeqBox SetD SetQ GrP EqArr RegT RegR RegQ RegI. -/
import Derived.Test.YteahiphmhaedpaaGreatDoorLaw
import Derived.Test.YteahiphmhaedpaaGreatDoorShelf
import Derived.Lib.ItoaMem
import Derived.Lib.SmallJoins
import Derived.Lib.Hide
import Derived.Outline
import Derived.Lib.TrailingZeros
import Derived.Shelf.Spec.TrailingZeros
import Derived.Laws.Bits64b
import Derived.Laws.OwnMore
import Derived.OwnWalk
import Derived.ArgAppend
import Derived.Laws.AppendOwn
import Derived.Laws.AppendOwnNone
import Derived.Below
import Derived.RangeFuncNested
import Derived.RangeFuncBound
import Derived.RangeFuncCalls
import Derived.RangeFuncLeaves
import Derived.RangeFuncBox
import Derived.Shelf.Abstract
import Derived.Shelf.RegionOpen
import Derived.WalkKit
import Derived.OwnWalkIn
import Derived.TacticsInMore
import Derived.LoopNIn
import Derived.LoopIn
import Derived.Laws.StructEq
import Derived.StillTail
import Derived.OrdersHeld
import Derived.Deep.RegionHeld
import Derived.OrdersIn
namespace Go.Proofs.YteahiphmhaedpaaGreatDoor
open Go.RowKit Law Go.Sort
set_option linter.unusedVariables false
set_option linter.unusedSimpArgs false

theorem below_grow (w : World) (k : Nat) (os : Array Obj) : Below w.heap.size w (grow (w.drewN k) os) :=
  ⟨rfl, rfl, rfl, by simp [grow], fun j hj => (heap_grow_old (w.drewN k) os hj)⟩

/-! ### The references' digits -/
def dgt (n : Int) : UInt8 := UInt8.ofNat (48 + n.toNat % 10)
def SliceDig (d : Int) : Prop := ∀ W : World, (Instr.slice 9 (.string ⟨#[48, 49, 50, 51, 52, 53, 54, 55, 56, 57]⟩) (some (.int .i64 d)) (some (.int .i64 (d + 1))) none).run Tryz.prog W = .ok (.string ⟨#[dgt d]⟩) W
theorem slice_dig0 : SliceDig 0 := fun W => by kernel_rfl
theorem slice_dig1 : SliceDig 1 := fun W => by kernel_rfl
theorem slice_dig2 : SliceDig 2 := fun W => by kernel_rfl
theorem slice_dig3 : SliceDig 3 := fun W => by kernel_rfl
theorem slice_dig4 : SliceDig 4 := fun W => by kernel_rfl
theorem slice_dig5 : SliceDig 5 := fun W => by kernel_rfl
theorem slice_dig6 : SliceDig 6 := fun W => by kernel_rfl
theorem slice_dig7 : SliceDig 7 := fun W => by kernel_rfl
theorem slice_dig8 : SliceDig 8 := fun W => by kernel_rfl
theorem slice_dig9 : SliceDig 9 := fun W => by kernel_rfl
theorem slice_dig (d : Int) (h0 : 0 ≤ d) (h1 : d < 10) : SliceDig d := by
  have h : d = 0 ∨ d = 1 ∨ d = 2 ∨ d = 3 ∨ d = 4 ∨ d = 5 ∨ d = 6 ∨ d = 7 ∨ d = 8 ∨ d = 9 := by omega
  rcases h with rfl | rfl | rfl | rfl | rfl | rfl | rfl | rfl | rfl | rfl
  · exact slice_dig0
  · exact slice_dig1
  · exact slice_dig2
  · exact slice_dig3
  · exact slice_dig4
  · exact slice_dig5
  · exact slice_dig6
  · exact slice_dig7
  · exact slice_dig8
  · exact slice_dig9
theorem dgt_mod {n : Int} (h : 0 ≤ n) : dgt (n % 10) = dgt n := by
  unfold dgt
  rw [show (n % 10).toNat % 10 = n.toNat % 10 by omega]
theorem ret_str {a b : ByteArray} (h : a = b) : Ending.returned (.string a) = .returned (.string b) := by rw [h]
theorem dec_small {n : Int} (h0 : 0 ≤ n) (h : n < 10) : Lib.decDigits n.toNat = [dgt n] := by
  rw [Lib.decDigits_one (by omega)]
  unfold dgt
  rw [show n.toNat % 10 = n.toNat by omega]
theorem dec_big {n : Int} (h : 9 < n) : Lib.decDigits n.toNat = Lib.decDigits (n / 10).toNat ++ [dgt n] := by
  rw [Lib.decDigits, dif_neg (by omega), show (n / 10).toNat = n.toNat / 10 by omega]
  rfl
theorem str_app (a b : List UInt8) : (⟨a.toArray⟩ : ByteArray) ++ ⟨b.toArray⟩ = ⟨(a ++ b).toArray⟩ := by
  apply ByteArray.ext
  simp
theorem nDigits_le (k : Nat) : ∀ n : Nat, n < 10 ^ (k + 1) → Lib.nDigits n ≤ k + 1 := by
  induction k with
  | zero => intro n h; rw [Lib.nDigits_small (by omega)]; omega
  | succ k ih =>
    intro n h
    by_cases hn : n < 10
    · rw [Lib.nDigits_small hn]; omega
    · rw [Lib.nDigits_big hn]
      have := ih (n / 10) (by rw [Nat.div_lt_iff_lt_mul (by omega)]; rw [Nat.pow_succ] at h; exact h)
      omega
theorem dec_len {n : Int} (hb : n ≤ 18446744073709551615) : ((Lib.decDigits n.toNat).length : Int) ≤ 20 := by
  rw [Lib.decDigits_length]
  have := nDigits_le 19 n.toNat (by omega)
  omega
theorem dec_len' (n : Nat) (hb : n ≤ 18446744073709551615) : ((Lib.decDigits n).length : Int) ≤ 20 := by
  rw [Lib.decDigits_length]
  have := nDigits_le 19 n (by omega)
  omega
theorem itoa_len {n : Int} (h0 : -9223372036854775808 ≤ n) (h1 : n ≤ 9223372036854775807) : ((Lib.itoa n).length : Int) ≤ 21 := by
  unfold Lib.itoa
  split
  · have := dec_len' n.natAbs (by omega)
    rw [List.length_cons]; omega
  · have := dec_len' n.toNat (by omega)
    omega
end Go.Proofs.YteahiphmhaedpaaGreatDoor

namespace Go.Proofs.YteahiphmhaedpaaGreatDoor
open Go
set_option linter.unusedVariables false
set_option linter.unusedSimpArgs false

/-! ### the number of a predicate -/
def ofP (p : Nat → Bool) : Nat → Nat
  | 0 => 0
  | k + 1 => ofP p k + if p k then 2 ^ k else 0
theorem ofP_lt (p : Nat → Bool) : ∀ k, ofP p k < 2 ^ k
  | 0 => by simp [ofP]
  | k + 1 => by
    have := ofP_lt p k
    unfold ofP
    rw [Nat.pow_succ]
    split <;> omega
theorem testBit_ofP (p : Nat → Bool) : ∀ k i, (ofP p k).testBit i = (decide (i < k) && p i)
  | 0, i => by simp [ofP]
  | k + 1, i => by
    have ih := testBit_ofP p k i
    have hlt := ofP_lt p k
    unfold ofP
    by_cases hp : p k = true
    · rw [if_pos hp, Nat.add_comm]
      by_cases hik : i = k
      · subst hik
        rw [Nat.testBit_two_pow_add_eq, Nat.testBit_lt_two_pow hlt]
        simp [hp]
      · by_cases hlt' : i < k
        · rw [Nat.testBit_two_pow_add_gt hlt', ih]
          simp [hlt', show i < k + 1 by omega]
        · have h2 : 2 ^ k + ofP p k < 2 ^ i := by
            have : 2 ^ (k + 1) ≤ 2 ^ i := Nat.pow_le_pow_right (by decide) (by omega)
            rw [Nat.pow_succ] at this
            omega
          rw [Nat.testBit_lt_two_pow h2]
          simp [show ¬ i < k + 1 by omega]
    · rw [if_neg hp, Nat.add_zero, ih]
      by_cases hik : i = k
      · subst hik
        simp only [Bool.not_eq_true] at hp
        simp [hp]
      · simp [show (i < k + 1) = (i < k) by rw [eq_iff_iff]; omega]
theorem ofP_congr {p q : Nat → Bool} {k : Nat} (h : ∀ i, i < k → p i = q i) : ofP p k = ofP q k := by
  apply Nat.eq_of_testBit_eq
  intro i
  rw [testBit_ofP, testBit_ofP]
  by_cases hi : i < k
  · rw [h i hi]
  · simp [hi]
/-- A number below 2^64 is told by its first 64 bits. -/
theorem eq_of_bits {a b : Nat} (ha : a < 2 ^ 64) (hb : b < 2 ^ 64) (h : ∀ i, i < 64 → a.testBit i = b.testBit i) : a = b := by
  apply Nat.eq_of_testBit_eq
  intro i
  by_cases hi : i < 64
  · exact h i hi
  · have hp : 2 ^ 64 ≤ 2 ^ i := Nat.pow_le_pow_right (by decide) (by omega)
    rw [Nat.testBit_lt_two_pow (Nat.lt_of_lt_of_le ha hp), Nat.testBit_lt_two_pow (Nat.lt_of_lt_of_le hb hp)]
theorem ofP_bits {s : Nat} (hs : s < 2 ^ 64) : ofP s.testBit 64 = s :=
  eq_of_bits (ofP_lt _ _) hs fun i hi => by rw [testBit_ofP]; simp [hi]

/-! ### what is in a set, rising -/
def els (s : Nat) : List Nat := (List.range 64).filter s.testBit
theorem mem_els {s i : Nat} : i ∈ els s ↔ i < 64 ∧ s.testBit i = true := by simp [els]
theorem els_len (s : Nat) : (els s).length ≤ 64 := by
  have := List.length_filter_le s.testBit (List.range 64)
  simpa [els] using this
theorem els_zero : els 0 = [] := by decide +kernel
theorem els_ofP {s : Nat} (hs : s < 2 ^ 64) : ofP (fun i => (els s).contains i) 64 = s :=
  eq_of_bits (ofP_lt _ _) hs fun i hi => by
    rw [testBit_ofP, Bool.eq_iff_iff]
    simp [mem_els, hi]
theorem filter_split {p q : Nat → Bool} {n k : Nat} (hk : k < n) (h0 : ∀ i, i < k → p i = false) (h1 : p k = true) (hq : ∀ i, q i = (p i && decide (i ≠ k))) :
    (List.range n).filter p = k :: (List.range n).filter q := by
  have e : List.range n = List.range' 0 k ++ (k :: List.range' (k + 1) (n - k - 1)) := by
    have e2 : List.range' k (n - k) = k :: List.range' (k + 1) (n - k - 1) := by
      rw [show n - k = (n - k - 1) + 1 by omega, List.range'_succ]
      simp
    rw [← e2, List.range_eq_range']
    have := List.range'_append (s := 0) (m := k) (n := n - k) (step := 1)
    simp at this
    rw [this]
    congr 1
    omega
  rw [e, List.filter_append, List.filter_append, List.filter_cons, List.filter_cons]
  have f1 : (List.range' 0 k).filter p = [] := by
    rw [List.filter_eq_nil_iff]
    intro i hi
    have : i < k := by simpa [List.mem_range'] using hi
    simp [h0 i this]
  have f2 : (List.range' 0 k).filter q = [] := by
    rw [List.filter_eq_nil_iff]
    intro i hi
    have : i < k := by simpa [List.mem_range'] using hi
    simp [hq, h0 i this]
  have f3 : (List.range' (k + 1) (n - k - 1)).filter q = (List.range' (k + 1) (n - k - 1)).filter p := by
    apply List.filter_congr
    intro i hi
    have : k + 1 ≤ i := by
      rw [List.mem_range'] at hi
      obtain ⟨j, _, rfl⟩ := hi
      omega
    simp [hq, show i ≠ k by omega]
  have hqk : q k = false := by simp [hq]
  rw [f1, f2, f3, h1, hqk]
  simp

/-! ### the least one, and the others -/
def low (s : Nat) : Nat := Lib.ctz 64 s
def rest (s : Nat) : Nat := s &&& (s - 1)
theorem rest_lt {s : Nat} (hs : s < 2 ^ 64) : rest s < 2 ^ 64 := Nat.lt_of_le_of_lt Nat.and_le_left hs
theorem low_spec {s : Nat} (h0 : s ≠ 0) (hs : s < 2 ^ 64) : ∃ m, s = 2 ^ low s * (2 * m + 1) ∧ low s < 64 := by
  obtain ⟨m, hm, hk⟩ := Lib.ctzFrom_spec 64 s (by omega) hs
  have e : low s = Lib.ctzFrom 64 s := by simp [low, Lib.ctz, h0]
  rw [e]
  exact ⟨m, hm, hk⟩
theorem low_and {s : Nat} (h0 : s ≠ 0) (hs : s < 2 ^ 64) : s &&& (18446744073709551616 - s) = 2 ^ low s := (Lib.lowest_bit 64 s h0 hs).1
theorem bits_of_low {k m i : Nat} : (2 ^ k * (2 * m + 1)).testBit i = if i < k then false else if i = k then true else m.testBit (i - k - 1) := by
  rw [Nat.mul_comm, Nat.testBit_mul_two_pow]
  by_cases h1 : i < k
  · simp [h1, show ¬ k ≤ i by omega]
  · by_cases h2 : i = k
    · subst h2
      simp [Nat.testBit_zero]
    · rw [if_neg h1, if_neg h2, show i - k = (i - k - 1) + 1 by omega, Nat.testBit_succ, show (2 * m + 1) / 2 = m by omega]
      simp [show k ≤ i by omega]
theorem testBit_rest {s : Nat} (h0 : s ≠ 0) (hs : s < 2 ^ 64) (i : Nat) : (rest s).testBit i = (s.testBit i && decide (i ≠ low s)) := by
  obtain ⟨m, hm, _⟩ := low_spec h0 hs
  generalize low s = k at hm
  subst hm
  unfold rest
  rw [Nat.testBit_and]
  have e : 2 ^ k * (2 * m + 1) - 1 = m * 2 ^ (k + 1) + (2 ^ k - 1) := by
    have hp : 0 < 2 ^ k := Nat.two_pow_pos k
    rw [Nat.mul_add, Nat.pow_succ, Nat.mul_one]
    have e2 : 2 ^ k * (2 * m) = m * (2 ^ k * 2) := by
      rw [Nat.mul_comm m, Nat.mul_assoc]
    omega
  rw [e]
  have hb : 2 ^ k - 1 < 2 ^ (k + 1) := by
    have hp : 0 < 2 ^ k := Nat.two_pow_pos k
    rw [Nat.pow_succ]; omega
  have ht : (m * 2 ^ (k + 1) + (2 ^ k - 1)).testBit i = if i < k + 1 then (2 ^ k - 1).testBit i else m.testBit (i - (k + 1)) := by
    rw [Nat.mul_comm]
    exact Nat.testBit_two_pow_mul_add m hb i
  rw [ht, bits_of_low]
  by_cases h1 : i < k
  · simp [h1]
  · by_cases h2 : i = k
    · subst h2
      simp
    · rw [if_neg h1, if_neg h2, if_neg (by omega), show i - (k + 1) = i - k - 1 by omega]
      simp [h2]
theorem els_cons {s : Nat} (h0 : s ≠ 0) (hs : s < 2 ^ 64) : els s = low s :: els (rest s) := by
  obtain ⟨m, hm, hk⟩ := low_spec h0 hs
  refine filter_split hk (fun i hi => ?_) ?_ (testBit_rest h0 hs)
  · have : (2 ^ low s * (2 * m + 1)).testBit i = false := by rw [bits_of_low, if_pos hi]
    rwa [← hm] at this
  · have : (2 ^ low s * (2 * m + 1)).testBit (low s) = true := by rw [bits_of_low, if_neg (by omega), if_pos rfl]
    rwa [← hm] at this
theorem els_rest_lt {s : Nat} (h0 : s ≠ 0) (hs : s < 2 ^ 64) : (els (rest s)).length < (els s).length := by
  rw [els_cons h0 hs]; simp

/-! ### with and without -/
def bitN (i : Int) : Nat := if 0 ≤ i ∧ i < 64 then 2 ^ i.toNat else 0
theorem bitN_lt (i : Int) : bitN i < 2 ^ 64 := by
  unfold bitN
  split
  · exact Nat.pow_lt_pow_right (by decide) (by omega)
  · exact Nat.two_pow_pos 64
theorem testBit_bitN (i : Int) (j : Nat) (hj : j < 64) : (bitN i).testBit j = decide (i = j) := by
  unfold bitN
  split
  · rw [Nat.testBit_two_pow]
    rw [Bool.eq_iff_iff]; simp; omega
  · rw [Nat.zero_testBit, eq_comm]
    simp; omega
def withN : Nat → List Int → Nat
  | s, [] => s
  | s, i :: l => withN (s ||| bitN i) l
def withoutN : Nat → List Int → Nat
  | s, [] => s
  | s, i :: l => withoutN (s ^^^ (s &&& bitN i)) l
theorem or_lt {a b : Nat} (ha : a < 2 ^ 64) (hb : b < 2 ^ 64) : a ||| b < 2 ^ 64 := Nat.or_lt_two_pow ha hb
theorem andNot_lt {a b : Nat} (ha : a < 2 ^ 64) : a ^^^ (a &&& b) < 2 ^ 64 := Nat.xor_lt_two_pow ha (Nat.lt_of_le_of_lt Nat.and_le_left ha)
theorem withN_lt : ∀ (l : List Int) (s : Nat), s < 2 ^ 64 → withN s l < 2 ^ 64
  | [], _, h => h
  | i :: l, s, h => withN_lt l _ (or_lt h (bitN_lt i))
theorem withoutN_lt : ∀ (l : List Int) (s : Nat), s < 2 ^ 64 → withoutN s l < 2 ^ 64
  | [], _, h => h
  | i :: l, s, h => withoutN_lt l _ (andNot_lt h)
theorem withN_snoc : ∀ (l : List Int) (s : Nat) (i : Int), withN s (l ++ [i]) = withN s l ||| bitN i
  | [], _, _ => rfl
  | _ :: l, s, i => withN_snoc l _ i
theorem withoutN_snoc : ∀ (l : List Int) (s : Nat) (i : Int), withoutN s (l ++ [i]) = withoutN s l ^^^ (withoutN s l &&& bitN i)
  | [], _, _ => rfl
  | _ :: l, s, i => withoutN_snoc l _ i
def inL (l : List Int) (i : Nat) : Bool := l.any (· == (i : Int))
theorem testBit_withN : ∀ (l : List Int) (s j : Nat), j < 64 → (withN s l).testBit j = (s.testBit j || inL l j)
  | [], s, j, _ => by simp [withN, inL]
  | i :: l, s, j, hj => by
    show (withN (s ||| bitN i) l).testBit j = _
    rw [testBit_withN l _ j hj, Nat.testBit_or, testBit_bitN i j hj, Bool.or_assoc]
    congr 1
theorem testBit_withoutN : ∀ (l : List Int) (s j : Nat), j < 64 → (withoutN s l).testBit j = (s.testBit j && !inL l j)
  | [], s, j, _ => by simp [withoutN, inL]
  | i :: l, s, j, hj => by
    show (withoutN (s ^^^ (s &&& bitN i)) l).testBit j = _
    rw [testBit_withoutN l _ j hj, Nat.testBit_xor, Nat.testBit_and, testBit_bitN i j hj]
    show _ = (s.testBit j && !(decide (i = (j : Int)) || inL l j))
    cases s.testBit j <;> cases decide (i = (j : Int)) <;> simp
/-- The reference's set of a list. -/
def ofN (l : List Int) : Nat := ofP (inL l) 64
theorem ofN_lt (l : List Int) : ofN l < 2 ^ 64 := ofP_lt _ _
theorem testBit_ofN (l : List Int) (j : Nat) (hj : j < 64) : (ofN l).testBit j = inL l j := by
  unfold ofN
  rw [testBit_ofP]
  simp [hj]
theorem ofN_eq (l : List Int) : withN 0 l = ofN l :=
  eq_of_bits (withN_lt l 0 (Nat.two_pow_pos 64)) (ofN_lt l) fun j hj => by rw [testBit_withN l 0 j hj, testBit_ofN l j hj]; simp
def elsI (s : Nat) : List Int := (els s).map Int.ofNat
theorem inL_elsI (s j : Nat) (hj : j < 64) : inL (elsI s) j = s.testBit j := by
  unfold inL elsI
  rw [Bool.eq_iff_iff, List.any_eq_true]
  constructor
  · rintro ⟨x, hx, hx2⟩
    obtain ⟨i, hi, rfl⟩ := List.mem_map.1 hx
    have : i = j := by simp at hx2; omega
    subst this
    exact (mem_els.1 hi).2
  · intro h
    exact ⟨(j : Int), List.mem_map.2 ⟨j, mem_els.2 ⟨hj, h⟩, rfl⟩, by simp⟩
theorem inL_append (a b : List Int) (j : Nat) : inL (a ++ b) j = (inL a j || inL b j) := List.any_append
theorem ofN_elsI {s : Nat} (hs : s < 2 ^ 64) : ofN (elsI s) = s :=
  eq_of_bits (ofN_lt _) hs fun j hj => by rw [testBit_ofN _ j hj, inL_elsI s j hj]
theorem withN_eq {s : Nat} (hs : s < 2 ^ 64) (l : List Int) : withN s l = ofN (elsI s ++ l) :=
  eq_of_bits (withN_lt l s hs) (ofN_lt _) fun j hj => by rw [testBit_withN l s j hj, testBit_ofN _ j hj, inL_append, inL_elsI s j hj]
/-- The reference's list of those that are not in another list. -/
def leaves (s : Nat) (l : List Int) : List Int := (elsI s).filter fun i => !(l.any (· == i))
theorem withoutN_eq {s : Nat} (hs : s < 2 ^ 64) (l : List Int) : withoutN s l = ofN (leaves s l) :=
  eq_of_bits (withoutN_lt l s hs) (ofN_lt _) fun j hj => by
    rw [testBit_withoutN l s j hj, testBit_ofN _ j hj, ← inL_elsI s j hj]
    unfold leaves inL
    rw [Bool.eq_iff_iff]
    simp only [Bool.and_eq_true, List.any_eq_true, List.mem_filter, beq_iff_eq, Bool.not_eq_true', List.any_eq_false]
    constructor
    · rintro ⟨⟨x, hx, rfl⟩, h⟩
      exact ⟨_, ⟨hx, fun y hy => by simpa using h y hy⟩, rfl⟩
    · rintro ⟨x, ⟨hx, h⟩, rfl⟩
      exact ⟨⟨_, hx, rfl⟩, fun y hy => by simpa using h y hy⟩

/-! ### all below a number -/
def allN (n : Int) : Nat := if 64 ≤ n then 18446744073709551615 else if n < 1 then 0 else 2 ^ n.toNat - 1
theorem allN_lt (n : Int) : allN n < 2 ^ 64 := by
  unfold allN
  split
  · decide
  · split
    · decide
    · have : 2 ^ n.toNat < 2 ^ 64 := Nat.pow_lt_pow_right (by decide) (by omega)
      omega
theorem testBit_allN (n : Int) (j : Nat) (hj : j < 64) : (allN n).testBit j = decide ((j : Int) < n) := by
  unfold allN
  split
  · rw [show (18446744073709551615 : Nat) = 2 ^ 64 - 1 from rfl, Nat.testBit_two_pow_sub_one]
    rw [Bool.eq_iff_iff, decide_eq_true_eq, decide_eq_true_eq]; omega
  · split
    · rw [Nat.zero_testBit, eq_comm, decide_eq_false_iff_not]; omega
    · rw [Nat.testBit_two_pow_sub_one, Bool.eq_iff_iff, decide_eq_true_eq, decide_eq_true_eq]; omega
/-- The reference's list below a number, 100 at most. -/
def upToN (n : Int) : List Int := (List.range (min n.toNat 100)).map Int.ofNat
theorem allN_eq (n : Int) : allN n = ofN (upToN n) :=
  eq_of_bits (allN_lt n) (ofN_lt _) fun j hj => by
    rw [testBit_allN n j hj, testBit_ofN _ j hj, Bool.eq_iff_iff]
    unfold inL upToN
    simp only [decide_eq_true_eq, List.any_eq_true, List.mem_map, List.mem_range, beq_iff_eq]
    constructor
    · intro h
      exact ⟨_, ⟨j, by omega, rfl⟩, rfl⟩
    · rintro ⟨_, ⟨i, hi, rfl⟩, h2⟩
      have : i = j := by simp at h2; omega
      omega
def belowN (s : Nat) (i : Int) : Nat := ((elsI s).filter fun k => decide (k < i)).length
theorem els_and_all (s : Nat) (i : Int) : (els (s &&& allN i)).length = belowN s i := by
  have e : els (s &&& allN i) = (els s).filter fun k : Nat => decide ((k : Int) < i) := by
    unfold els
    rw [List.filter_filter]
    apply List.filter_congr
    intro k hk
    rw [Nat.testBit_and, testBit_allN i k (List.mem_range.1 hk), Bool.and_comm]
  rw [e]
  unfold belowN elsI
  rw [List.filter_map, List.length_map]
  rfl

/-! ### the first ones -/
def firstN : Nat → Nat → Nat → Nat
  | 0, _, o => o
  | k + 1, s, o => if s = 0 then o else firstN k (rest s) (o ||| 2 ^ low s)
theorem testBit_firstN : ∀ (k s o j : Nat), s < 2 ^ 64 → j < 64 → (firstN k s o).testBit j = (o.testBit j || ((els s).take k).contains j)
  | 0, s, o, j, _, _ => by simp [firstN]
  | k + 1, s, o, j, hs, hj => by
    unfold firstN
    split
    · rename_i h0
      subst h0
      simp [els_zero]
    · rename_i h0
      rw [testBit_firstN k _ _ j (rest_lt hs) hj, els_cons h0 hs, Nat.testBit_or, Nat.testBit_two_pow]
      have e : decide (low s = j) = (j == low s) := by
        rw [Bool.eq_iff_iff, decide_eq_true_eq, beq_iff_eq]; exact eq_comm
      rw [List.take_succ_cons, List.contains_cons, Bool.or_assoc, e]
theorem firstN_lt : ∀ (k s o : Nat), s < 2 ^ 64 → o < 2 ^ 64 → firstN k s o < 2 ^ 64
  | 0, _, _, _, ho => ho
  | k + 1, s, o, hs, ho => by
    unfold firstN
    split
    · exact ho
    · rename_i h0
      obtain ⟨m, _, hk⟩ := low_spec h0 hs
      exact firstN_lt k _ _ (rest_lt hs) (or_lt ho (Nat.pow_lt_pow_right (by decide) hk))
theorem firstN_eq {s : Nat} (hs : s < 2 ^ 64) (k : Nat) : firstN k s 0 = ofN ((elsI s).take k) :=
  eq_of_bits (firstN_lt k s 0 hs (Nat.two_pow_pos 64)) (ofN_lt _) fun j hj => by
    rw [testBit_firstN k s 0 j hs hj, testBit_ofN _ j hj, Nat.zero_testBit, Bool.false_or]
    unfold elsI inL
    rw [← List.map_take, Bool.eq_iff_iff, List.any_eq_true]
    simp only [List.contains_iff_mem, List.mem_map, beq_iff_eq]
    constructor
    · intro h
      exact ⟨_, ⟨j, h, rfl⟩, rfl⟩
    · rintro ⟨_, ⟨i, hi, rfl⟩, h2⟩
      have : i = j := by simp at h2; omega
      subst this
      exact hi
end Go.Proofs.YteahiphmhaedpaaGreatDoor

namespace Go.Proofs.YteahiphmhaedpaaGreatDoor
open Go
set_option linter.unusedVariables false
set_option linter.unusedSimpArgs false

/-- A function on each digit to the base B. -/
def dm (B : Nat) (f : Nat → Nat) : Nat → Nat → Nat
  | 0, _ => 0
  | k + 1, x => f (x % B) + B * dm B f k (x / B)
/-- The sum of a function of each digit. -/
def sd (B : Nat) (f : Nat → Nat) : Nat → Nat → Nat
  | 0, _ => 0
  | k + 1, x => f (x % B) + sd B f k (x / B)
theorem dm_mod {B : Nat} {f : Nat → Nat} (hf : ∀ d, d < B → f d < B) (hB : 0 < B) (k x : Nat) : dm B f (k + 1) x % B = f (x % B) := by
  show (f (x % B) + B * dm B f k (x / B)) % B = _
  rw [Nat.add_mul_mod_self_left, Nat.mod_eq_of_lt (hf _ (Nat.mod_lt _ hB))]
theorem dm_div {B : Nat} {f : Nat → Nat} (hf : ∀ d, d < B → f d < B) (hB : 0 < B) (k x : Nat) : dm B f (k + 1) x / B = dm B f k (x / B) := by
  show (f (x % B) + B * dm B f k (x / B)) / B = _
  rw [Nat.add_mul_div_left _ _ hB, Nat.div_eq_of_lt (hf _ (Nat.mod_lt _ hB)), Nat.zero_add]
theorem sd_dm {B : Nat} {f : Nat → Nat} (g : Nat → Nat) (hf : ∀ d, d < B → f d < B) (hB : 0 < B) : ∀ k x, sd B g k (dm B f k x) = sd B (fun d => g (f d)) k x
  | 0, _ => rfl
  | k + 1, x => by
    show g (dm B f (k + 1) x % B) + sd B g k (dm B f (k + 1) x / B) = g (f (x % B)) + sd B (fun d => g (f d)) k (x / B)
    rw [dm_mod hf hB, dm_div hf hB, sd_dm g hf hB k]
theorem sd_two {B : Nat} (f : Nat → Nat) : ∀ k x, sd (B * B) (fun d => f (d % B) + f (d / B)) k x = sd B f (2 * k) x
  | 0, _ => rfl
  | k + 1, x => by
    show f (x % (B * B) % B) + f (x % (B * B) / B) + sd (B * B) _ k (x / (B * B)) = f (x % B) + (f (x / B % B) + sd B f (2 * k) (x / B / B))
    rw [sd_two f k, Nat.mod_mul_right_mod, Nat.mod_mul_right_div_self, Nat.div_div_eq_div_mul, Nat.add_assoc]
/-- The mask whose digits are all c. -/
def mask (B c : Nat) : Nat → Nat
  | 0 => 0
  | k + 1 => c + B * mask B c k
theorem and_split (j x a m : Nat) (ha : a < 2 ^ j) : x &&& (a + 2 ^ j * m) = (x % 2 ^ j &&& a) + 2 ^ j * (x / 2 ^ j &&& m) := by
  have h1 : (x &&& (a + 2 ^ j * m)) % 2 ^ j = x % 2 ^ j &&& a := by
    rw [Nat.and_mod_two_pow, Nat.add_mul_mod_self_left, Nat.mod_eq_of_lt ha]
  have h2 : (x &&& (a + 2 ^ j * m)) / 2 ^ j = x / 2 ^ j &&& m := by
    rw [Nat.and_div_two_pow, Nat.add_mul_div_left _ _ (Nat.two_pow_pos j), Nat.div_eq_of_lt ha, Nat.zero_add]
  rw [← h1, ← h2]
  exact (Nat.mod_add_div _ _).symm
/-- Under a mask each digit keeps its lower half. -/
theorem and_mask (j c : Nat) (hc : 2 ^ c ≤ 2 ^ j) : ∀ k x, x &&& mask (2 ^ j) (2 ^ c - 1) k = dm (2 ^ j) (fun d => d % 2 ^ c) k x
  | 0, x => by simp [mask, dm]
  | k + 1, x => by
    have hp := Nat.two_pow_pos c
    show x &&& (2 ^ c - 1 + 2 ^ j * mask (2 ^ j) (2 ^ c - 1) k) = x % 2 ^ j % 2 ^ c + 2 ^ j * dm (2 ^ j) _ k (x / 2 ^ j)
    rw [and_split j x _ _ (by omega), and_mask j c hc k, Nat.and_two_pow_sub_one_eq_mod]
theorem dm_add {B : Nat} (f g : Nat → Nat) : ∀ k x, dm B f k x + dm B g k x = dm B (fun d => f d + g d) k x
  | 0, _ => rfl
  | k + 1, x => by
    show (f (x % B) + B * dm B f k (x / B)) + (g (x % B) + B * dm B g k (x / B)) = (f (x % B) + g (x % B)) + B * dm B (fun d => f d + g d) k (x / B)
    rw [← dm_add f g k, Nat.mul_add]
    omega
/-- The upper halves, moved down. -/
theorem dm_half {b : Nat} (hb : 0 < b) : ∀ k x, dm (b * b) (fun d => d % b) k (x / b) = dm (b * b) (fun d => d / b) k x
  | 0, _ => rfl
  | k + 1, x => by
    show x / b % (b * b) % b + b * b * dm (b * b) _ k (x / b / (b * b)) = x % (b * b) / b + b * b * dm (b * b) _ k (x / (b * b))
    rw [Nat.mod_mul_right_mod, Nat.mod_mul_right_div_self]
    congr 2
    rw [Nat.div_div_eq_div_mul, Nat.mul_comm b (b * b), ← Nat.div_div_eq_div_mul, dm_half hb k]
theorem sd_congr {B : Nat} {f g : Nat → Nat} (hB : 0 < B) (h : ∀ d, d < B → f d = g d) : ∀ k x, sd B f k x = sd B g k x
  | 0, _ => rfl
  | k + 1, x => by
    show f (x % B) + sd B f k (x / B) = g (x % B) + sd B g k (x / B)
    rw [h _ (Nat.mod_lt _ hB), sd_congr hB h k]

/-! ### the three steps -/
def pop1 (x : Nat) : Nat := dm 4 (fun d => d / 2 + d % 2) 32 x
def pop2 (x : Nat) : Nat := dm 16 (fun d => d / 4 + d % 4) 16 x
def pop3 (x : Nat) : Nat := dm 256 (fun d => d / 16 + d % 16) 8 x
theorem pop1_eq (x : Nat) : (x / 2 &&& 6148914691236517205) + (x &&& 6148914691236517205) = pop1 x := by
  have e : (6148914691236517205 : Nat) = mask (2 ^ 2) (2 ^ 1 - 1) 32 := by decide +kernel
  rw [e, and_mask 2 1 (by decide), and_mask 2 1 (by decide)]
  have h := dm_half (b := 2) (by decide) 32 x
  show dm (2 * 2) (fun d => d % 2) 32 (x / 2) + dm (2 * 2) (fun d => d % 2) 32 x = _
  rw [h, dm_add]
  rfl
theorem pop2_eq (x : Nat) : (x / 4 &&& 3689348814741910323) + (x &&& 3689348814741910323) = pop2 x := by
  have e : (3689348814741910323 : Nat) = mask (2 ^ 4) (2 ^ 2 - 1) 16 := by decide +kernel
  rw [e, and_mask 4 2 (by decide), and_mask 4 2 (by decide)]
  have h := dm_half (b := 4) (by decide) 16 x
  show dm (4 * 4) (fun d => d % 4) 16 (x / 4) + dm (4 * 4) (fun d => d % 4) 16 x = _
  rw [h, dm_add]
  rfl
theorem dm_head {B m : Nat} {f : Nat → Nat} (hf : ∀ d, d < B → f d ≤ m) (hm : m < B) (hB : 0 < B) (k x : Nat) : dm B f k x % B ≤ m := by
  cases k with
  | zero => simp [dm]
  | succ k => rw [dm_mod (fun d hd => Nat.lt_of_le_of_lt (hf d hd) hm) hB]; exact hf _ (Nat.mod_lt _ hB)
/-- Sixteenths of at most 6 each: no sum of two passes on. -/
theorem pop3_step {f : Nat → Nat} (hf : ∀ d, d < 16 → f d ≤ 6) : ∀ k x, (dm 16 f (2 * k) x / 16 + dm 16 f (2 * k) x) &&& mask (2 ^ 8) (2 ^ 4 - 1) k = dm 256 (fun d => d / 16 + d % 16) k (dm 16 f (2 * k) x)
  | 0, x => by simp [mask, dm]
  | k + 1, x => by
    have ha := hf (x % 16) (Nat.mod_lt _ (by decide))
    have hb := hf (x / 16 % 16) (Nat.mod_lt _ (by decide))
    have hy := dm_head hf (by decide) (by decide) (2 * k) (x / 16 / 16)
    have ih := pop3_step hf k (x / 16 / 16)
    have e : dm 16 f (2 * (k + 1)) x = f (x % 16) + 16 * (f (x / 16 % 16) + 16 * dm 16 f (2 * k) (x / 16 / 16)) := rfl
    rw [e]
    generalize dm 16 f (2 * k) (x / 16 / 16) = y at *
    generalize f (x % 16) = a at *
    generalize f (x / 16 % 16) = b at *
    show _ &&& (2 ^ 4 - 1 + 2 ^ 8 * mask (2 ^ 8) (2 ^ 4 - 1) k) = (_ % 256 / 16 + _ % 256 % 16) + 256 * dm 256 _ k (_ / 256)
    rw [and_split 8 _ _ _ (by decide), Nat.and_two_pow_sub_one_eq_mod]
    have e1 : ((a + 16 * (b + 16 * y)) / 16 + (a + 16 * (b + 16 * y))) / 2 ^ 8 = y / 16 + y := by omega
    have e2 : (a + 16 * (b + 16 * y)) / 256 = y := by omega
    rw [e1, e2, ih]
    omega
theorem pop3_eq (x : Nat) : (pop2 x / 16 + pop2 x) &&& 1085102592571150095 = pop3 (pop2 x) := by
  have e : (1085102592571150095 : Nat) = mask (2 ^ 8) (2 ^ 4 - 1) 8 := by decide +kernel
  rw [e]
  exact pop3_step (f := fun d => d / 4 + d % 4) (fun d hd => by omega) 8 x
/-- The bits, counted. -/
theorem sd_filter : ∀ k x, sd 2 (fun d => d) k x = ((List.range k).filter x.testBit).length
  | 0, _ => rfl
  | k + 1, x => by
    show x % 2 + sd 2 _ k (x / 2) = _
    rw [sd_filter k, List.range_succ_eq_map, List.filter_cons, List.filter_map]
    have e : (x.testBit ∘ Nat.succ) = (x / 2).testBit := by
      funext i
      exact Nat.testBit_succ x i
    rw [e]
    by_cases h : x % 2 = 1
    · have h0 : x.testBit 0 = true := by rw [Nat.testBit_zero]; simp [h]
      rw [if_pos h0]; simp [h]; omega
    · have h0 : x.testBit 0 = false := by rw [Nat.testBit_zero]; simp [h]
      rw [h0]
      have : x % 2 = 0 := by omega
      simp [this]
theorem pop_sum (x : Nat) : sd 256 (fun d => d) 8 (pop3 (pop2 (pop1 x))) = (els x).length := by
  have h1 : sd 256 (fun d => d) 8 (pop3 (pop2 (pop1 x))) = sd 256 (fun d => d / 16 + d % 16) 8 (pop2 (pop1 x)) := sd_dm (B := 256) (fun d => d) (fun d hd => by omega) (by decide) 8 _
  have h2 : sd 16 (fun d => d) 16 (pop2 (pop1 x)) = sd 16 (fun d => d / 4 + d % 4) 16 (pop1 x) := sd_dm (B := 16) (fun d => d) (fun d hd => by omega) (by decide) 16 _
  have h3 : sd 4 (fun d => d) 32 (pop1 x) = sd 4 (fun d => d / 2 + d % 2) 32 x := sd_dm (B := 4) (fun d => d) (fun d hd => by omega) (by decide) 32 _
  have t1 := sd_two (B := 16) (fun d => d) 8 (pop2 (pop1 x))
  have t2 := sd_two (B := 4) (fun d => d) 16 (pop1 x)
  have t3 := sd_two (B := 2) (fun d => d) 32 x
  have c1 : sd 256 (fun d => d / 16 + d % 16) 8 (pop2 (pop1 x)) = sd (16 * 16) (fun d => d % 16 + d / 16) 8 (pop2 (pop1 x)) := sd_congr (by decide) (fun d _ => Nat.add_comm _ _) 8 _
  have c2 : sd 16 (fun d => d / 4 + d % 4) 16 (pop1 x) = sd (4 * 4) (fun d => d % 4 + d / 4) 16 (pop1 x) := sd_congr (by decide) (fun d _ => Nat.add_comm _ _) 16 _
  have c3 : sd 4 (fun d => d / 2 + d % 2) 32 x = sd (2 * 2) (fun d => d % 2 + d / 2) 32 x := sd_congr (by decide) (fun d _ => Nat.add_comm _ _) 32 _
  rw [h1, c1, t1]
  show sd 16 (fun d => d) 16 _ = _
  rw [h2, c2, t2]
  show sd 4 (fun d => d) 32 _ = _
  rw [h3, c3, t3]
  exact sd_filter 64 x
theorem lt8 {a0 a1 a2 a3 a4 a5 a6 a7 s : Nat} (h0 : a0 ≤ 250) (h1 : a1 ≤ 250) (h2 : a2 ≤ 250) (h3 : a3 ≤ 250) (h4 : a4 ≤ 250) (h5 : a5 ≤ 250) (h6 : a6 ≤ 250) (h7 : a7 ≤ 250)
    (hs : s = a0 + 256 * (a1 + 256 * (a2 + 256 * (a3 + 256 * (a4 + 256 * (a5 + 256 * (a6 + 256 * a7))))))) : s < 18446744073709551616 := by
  subst hs
  have e7 : a6 + 256 * a7 < 65536 := by omega
  generalize a6 + 256 * a7 = r6 at *
  have e6 : a5 + 256 * r6 < 16777216 := by omega
  generalize a5 + 256 * r6 = r5 at *
  have e5 : a4 + 256 * r5 < 4294967296 := by omega
  generalize a4 + 256 * r5 = r4 at *
  have e4 : a3 + 256 * r4 < 1099511627776 := by omega
  generalize a3 + 256 * r4 = r3 at *
  have e3 : a2 + 256 * r3 < 281474976710656 := by omega
  generalize a2 + 256 * r3 = r2 at *
  have e2 : a1 + 256 * r2 < 72057594037927936 := by omega
  omega
theorem mod8 {a r s : Nat} (ha : a ≤ 64) (hs : s = a + 256 * r) : s % 128 = a := by omega
set_option maxHeartbeats 2000000 in
/-- Eight digits of at most 30 each, folded down. -/
theorem fold8 (y0 y1 y2 y3 y4 y5 y6 y7 z : Nat) (h0 : y0 ≤ 30) (h1 : y1 ≤ 30) (h2 : y2 ≤ 30) (h3 : y3 ≤ 30) (h4 : y4 ≤ 30) (h5 : y5 ≤ 30) (h6 : y6 ≤ 30) (h7 : y7 ≤ 30)
    (hz : z = y0 + 256 * (y1 + 256 * (y2 + 256 * (y3 + 256 * (y4 + 256 * (y5 + 256 * (y6 + 256 * y7)))))))
    (hs : y0 + (y1 + (y2 + (y3 + (y4 + (y5 + (y6 + y7)))))) ≤ 64) :
    z + z / 256 < 18446744073709551616 ∧ (z + z / 256) + (z + z / 256) / 65536 < 18446744073709551616 ∧
      ((z + z / 256) + (z + z / 256) / 65536) + ((z + z / 256) + (z + z / 256) / 65536) / 4294967296 < 18446744073709551616 ∧
      (((z + z / 256) + (z + z / 256) / 65536) + ((z + z / 256) + (z + z / 256) / 65536) / 4294967296) % 128 = y0 + (y1 + (y2 + (y3 + (y4 + (y5 + (y6 + y7)))))) := by
  have e1 : z / 256 = y1 + 256 * (y2 + 256 * (y3 + 256 * (y4 + 256 * (y5 + 256 * (y6 + 256 * y7))))) := by omega
  generalize hs1 : z + z / 256 = s1
  have f1 : s1 = (y0 + y1) + 256 * ((y1 + y2) + 256 * ((y2 + y3) + 256 * ((y3 + y4) + 256 * ((y4 + y5) + 256 * ((y5 + y6) + 256 * ((y6 + y7) + 256 * y7)))))) := by omega
  have e2 : s1 / 65536 = (y2 + y3) + 256 * ((y3 + y4) + 256 * ((y4 + y5) + 256 * ((y5 + y6) + 256 * ((y6 + y7) + 256 * y7)))) := by omega
  generalize hs2 : s1 + s1 / 65536 = s2
  have f2 : s2 = (y0 + y1 + y2 + y3) + 256 * ((y1 + y2 + y3 + y4) + 256 * ((y2 + y3 + y4 + y5) + 256 * ((y3 + y4 + y5 + y6) + 256 * ((y4 + y5 + y6 + y7) + 256 * ((y5 + y6 + y7) + 256 * ((y6 + y7) + 256 * y7)))))) := by omega
  have e3 : s2 / 4294967296 = (y4 + y5 + y6 + y7) + 256 * ((y5 + y6 + y7) + 256 * ((y6 + y7) + 256 * y7)) := by omega
  have f3 : s2 + s2 / 4294967296 = (y0 + (y1 + (y2 + (y3 + (y4 + (y5 + (y6 + y7))))))) + 256 * ((y1 + y2 + y3 + y4 + y5 + y6 + y7) + 256 * ((y2 + y3 + y4 + y5 + y6 + y7) + 256 * ((y3 + y4 + y5 + y6 + y7) + 256 * ((y4 + y5 + y6 + y7) + 256 * ((y5 + y6 + y7) + 256 * ((y6 + y7) + 256 * y7)))))) := by
    rw [e3, f2]
    clear e1 e2 e3 f1 f2 hs1 hs2 hz
    omega
  clear e1 e2 e3 hs1 hs2 hz
  have g1 := lt8 (by clear f1 f2 f3; omega) (by clear f1 f2 f3; omega) (by clear f1 f2 f3; omega) (by clear f1 f2 f3; omega) (by clear f1 f2 f3; omega) (by clear f1 f2 f3; omega) (by clear f1 f2 f3; omega) (by clear f1 f2 f3; omega) f1
  have g2 := lt8 (by clear f1 f2 f3; omega) (by clear f1 f2 f3; omega) (by clear f1 f2 f3; omega) (by clear f1 f2 f3; omega) (by clear f1 f2 f3; omega) (by clear f1 f2 f3; omega) (by clear f1 f2 f3; omega) (by clear f1 f2 f3; omega) f2
  have g3 := lt8 (by clear f1 f2 f3; omega) (by clear f1 f2 f3; omega) (by clear f1 f2 f3; omega) (by clear f1 f2 f3; omega) (by clear f1 f2 f3; omega) (by clear f1 f2 f3; omega) (by clear f1 f2 f3; omega) (by clear f1 f2 f3; omega) f3
  exact ⟨g1, g2, g3, mod8 hs f3⟩
theorem dm8 (f : Nat → Nat) (u : Nat) : dm 256 f 8 u = f (u % 256) + 256 * (f (u / 256 % 256) + 256 * (f (u / 256 / 256 % 256) + 256 * (f (u / 256 / 256 / 256 % 256) + 256 * (f (u / 256 / 256 / 256 / 256 % 256) + 256 * (f (u / 256 / 256 / 256 / 256 / 256 % 256) + 256 * (f (u / 256 / 256 / 256 / 256 / 256 / 256 % 256) + 256 * f (u / 256 / 256 / 256 / 256 / 256 / 256 / 256 % 256))))))) := by
  simp only [dm, Nat.mul_zero, Nat.add_zero]
theorem sd8 (f : Nat → Nat) (u : Nat) : sd 256 f 8 u = f (u % 256) + (f (u / 256 % 256) + (f (u / 256 / 256 % 256) + (f (u / 256 / 256 / 256 % 256) + (f (u / 256 / 256 / 256 / 256 % 256) + (f (u / 256 / 256 / 256 / 256 / 256 % 256) + (f (u / 256 / 256 / 256 / 256 / 256 / 256 % 256) + f (u / 256 / 256 / 256 / 256 / 256 / 256 / 256 % 256))))))) := by
  simp only [sd, Nat.add_zero]
theorem pop_fold (x : Nat) :
    pop3 (pop2 (pop1 x)) + pop3 (pop2 (pop1 x)) / 256 < 18446744073709551616 ∧
    (pop3 (pop2 (pop1 x)) + pop3 (pop2 (pop1 x)) / 256) + (pop3 (pop2 (pop1 x)) + pop3 (pop2 (pop1 x)) / 256) / 65536 < 18446744073709551616 ∧
    ((pop3 (pop2 (pop1 x)) + pop3 (pop2 (pop1 x)) / 256) + (pop3 (pop2 (pop1 x)) + pop3 (pop2 (pop1 x)) / 256) / 65536) + ((pop3 (pop2 (pop1 x)) + pop3 (pop2 (pop1 x)) / 256) + (pop3 (pop2 (pop1 x)) + pop3 (pop2 (pop1 x)) / 256) / 65536) / 4294967296 < 18446744073709551616 ∧
    (((pop3 (pop2 (pop1 x)) + pop3 (pop2 (pop1 x)) / 256) + (pop3 (pop2 (pop1 x)) + pop3 (pop2 (pop1 x)) / 256) / 65536) + ((pop3 (pop2 (pop1 x)) + pop3 (pop2 (pop1 x)) / 256) + (pop3 (pop2 (pop1 x)) + pop3 (pop2 (pop1 x)) / 256) / 65536) / 4294967296) % 128 = (els x).length := by
  have hs := pop_sum x
  have hl := els_len x
  obtain ⟨u, hu⟩ : ∃ u, pop2 (pop1 x) = u := ⟨_, rfl⟩
  rw [hu] at hs ⊢
  have hf : ∀ d, d < 256 → (fun d => d / 16 + d % 16) d ≤ 30 := fun d hd => by show d / 16 + d % 16 ≤ 30; omega
  have hz : sd 256 (fun d => d) 8 (pop3 u) = sd 256 (fun d => d / 16 + d % 16) 8 u := sd_dm (B := 256) (fun d => d) (fun d hd => by have := hf d hd; simp at this; omega) (by decide) 8 u
  rw [hz] at hs
  have b : ∀ v : Nat, v % 256 / 16 + v % 256 % 16 ≤ 30 := fun v => by omega
  have e8 := dm8 (fun d => d / 16 + d % 16) u
  have s8 := sd8 (fun d => d / 16 + d % 16) u
  have hl' : sd 256 (fun d => d / 16 + d % 16) 8 u ≤ 64 := by rw [hs]; exact hl
  rw [s8] at hs hl'
  have key := fold8 _ _ _ _ _ _ _ _ (pop3 u) (b u) (b (u / 256)) (b (u / 256 / 256)) (b (u / 256 / 256 / 256)) (b (u / 256 / 256 / 256 / 256)) (b (u / 256 / 256 / 256 / 256 / 256)) (b (u / 256 / 256 / 256 / 256 / 256 / 256)) (b (u / 256 / 256 / 256 / 256 / 256 / 256 / 256)) e8 hl'
  rw [← hs]
  exact key
/-! ### what the walk asks -/
theorem pop1_lt (x : Nat) (hx : x < 18446744073709551616) : (x / 2 &&& 6148914691236517205) + (x &&& 6148914691236517205) < 18446744073709551616 := by
  have h1 : x / 2 &&& 6148914691236517205 ≤ 6148914691236517205 := Nat.and_le_right
  have h2 : x &&& 6148914691236517205 ≤ 6148914691236517205 := Nat.and_le_right
  omega
theorem pop2_lt (x : Nat) : (x / 4 &&& 3689348814741910323) + (x &&& 3689348814741910323) < 18446744073709551616 := by
  have h1 : x / 4 &&& 3689348814741910323 ≤ 3689348814741910323 := Nat.and_le_right
  have h2 : x &&& 3689348814741910323 ≤ 3689348814741910323 := Nat.and_le_right
  omega
theorem pop2_le (x : Nat) : pop2 x ≤ 7378697629483820646 := by
  rw [← pop2_eq]
  have h1 : x / 4 &&& 3689348814741910323 ≤ 3689348814741910323 := Nat.and_le_right
  have h2 : x &&& 3689348814741910323 ≤ 3689348814741910323 := Nat.and_le_right
  omega
end Go.Proofs.YteahiphmhaedpaaGreatDoor

namespace Go.Proofs.YteahiphmhaedpaaGreatDoor
open Go.RowKit Law
set_option linter.unusedVariables false
set_option linter.unusedSimpArgs false
set_option maxRecDepth 100000

theorem ret_int {k : IntKind} {a b : Int} (h : a = b) : Ending.returned (.int k a) = .returned (.int k b) := by rw [h]
theorem ret_bool {a b : Bool} (h : a = b) : Ending.returned (.bool a) = .returned (.bool b) := by rw [h]
theorem wrap_nat {n : Nat} (h : n < 18446744073709551616) : IntKind.u64.wrap (n : Int) = (n : Int) := by rw [IntKind.wrap_u64]; omega
/-- x &^ y, on numbers below 2^64. -/
theorem bits_andNot_u64_nat (a b : Nat) (ha : a < 18446744073709551616) (hb : b < 18446744073709551616) :
    bits .andNot .u64 (a : Int) (b : Int) = ((a ^^^ (a &&& b) : Nat) : Int) := by
  have hx : a ^^^ (a &&& b) < 2 ^ 64 := andNot_lt ha
  have h1 : (BitVec.ofInt 64 (a : Int)).toNat = a := by
    rw [BitVec.ofInt_natCast, BitVec.toNat_ofNat]; exact Nat.mod_eq_of_lt (by omega)
  have h2 : (BitVec.ofInt 64 (b : Int)).toNat = b := by
    rw [BitVec.ofInt_natCast, BitVec.toNat_ofNat]; exact Nat.mod_eq_of_lt (by omega)
  have h3 : (BitVec.ofInt 64 (a : Int) &&& ~~~BitVec.ofInt 64 (b : Int)) = BitVec.ofInt 64 (a : Int) ^^^ (BitVec.ofInt 64 (a : Int) &&& BitVec.ofInt 64 (b : Int)) := by
    apply BitVec.eq_of_getLsbD_eq
    intro i hi
    simp only [BitVec.getLsbD_and, BitVec.getLsbD_not, BitVec.getLsbD_xor]
    cases (BitVec.ofInt 64 (a : Int)).getLsbD i <;> cases (BitVec.ofInt 64 (b : Int)).getLsbD i <;> simp [hi]
  show IntKind.u64.wrap ((BitVec.ofInt 64 (a : Int) &&& ~~~BitVec.ofInt 64 (b : Int)).toNat : Int) = _
  rw [h3, BitVec.toNat_xor, BitVec.toNat_and, h1, h2, wrap_nat (by omega)]

/-! ### bits counted -/
theorem pk1 (x : Nat) (hx : x < 18446744073709551616) : IntKind.u64.wrap (bits .and .u64 ((x : Int) / 2) 6148914691236517205 + bits .and .u64 (x : Int) 6148914691236517205) = ((pop1 x : Nat) : Int) := by
  have h1 := bits_and_u64_nat (x / 2) 6148914691236517205 (by omega) (by decide)
  have h2 := bits_and_u64_nat x 6148914691236517205 hx (by decide)
  have e1 : bits .and .u64 ((x : Int) / 2) 6148914691236517205 = ((x / 2 &&& 6148914691236517205 : Nat) : Int) := h1
  have e2 : bits .and .u64 (x : Int) 6148914691236517205 = ((x &&& 6148914691236517205 : Nat) : Int) := h2
  rw [e1, e2, ← pop1_eq, ← Int.natCast_add, wrap_nat (pop1_lt x hx)]
theorem pk2 (x : Nat) (hx : x < 18446744073709551616) : IntKind.u64.wrap (bits .and .u64 ((x : Int) / 4) 3689348814741910323 + bits .and .u64 (x : Int) 3689348814741910323) = ((pop2 x : Nat) : Int) := by
  have h1 := bits_and_u64_nat (x / 4) 3689348814741910323 (by omega) (by decide)
  have h2 := bits_and_u64_nat x 3689348814741910323 hx (by decide)
  have e1 : bits .and .u64 ((x : Int) / 4) 3689348814741910323 = ((x / 4 &&& 3689348814741910323 : Nat) : Int) := h1
  have e2 : bits .and .u64 (x : Int) 3689348814741910323 = ((x &&& 3689348814741910323 : Nat) : Int) := h2
  rw [e1, e2, ← pop2_eq, ← Int.natCast_add, wrap_nat (pop2_lt x)]
theorem pk3 (x : Nat) : bits .and .u64 (IntKind.u64.wrap (((pop2 x : Nat) : Int) / 16 + ((pop2 x : Nat) : Int))) 1085102592571150095 = ((pop3 (pop2 x) : Nat) : Int) := by
  have hl := pop2_le x
  have e : ((pop2 x : Nat) : Int) / 16 + ((pop2 x : Nat) : Int) = ((pop2 x / 16 + pop2 x : Nat) : Int) := by omega
  rw [e, wrap_nat (by omega), ← pop3_eq]
  exact bits_and_u64_nat (pop2 x / 16 + pop2 x) 1085102592571150095 (by omega) (by decide)
theorem pk4 (z : Nat) (m : Nat) (h : z + z / m < 18446744073709551616) : IntKind.u64.wrap ((z : Int) + (z : Int) / (m : Int)) = ((z + z / m : Nat) : Int) := by
  have e : (z : Int) + (z : Int) / (m : Int) = ((z + z / m : Nat) : Int) := by rw [Int.natCast_add, Int.natCast_ediv]
  rw [e, wrap_nat h]
theorem pk5 (z : Nat) : bits .and .i64 (wrap64 (z : Int)) 127 = ((z % 128 : Nat) : Int) := by
  have h0 : BitVec.ofInt 64 (wrap64 (z : Int)) = BitVec.ofNat 64 z := by
    apply BitVec.eq_of_toInt_eq
    rw [BitVec.toInt_ofInt, ← BitVec.ofInt_natCast, BitVec.toInt_ofInt]
    unfold wrap64
    rw [Int.bmod_def, Int.bmod_def]
    omega
  have h1 : (BitVec.ofNat 64 z &&& BitVec.ofInt 64 127).toNat = z % 128 := by
    rw [BitVec.toNat_and, BitVec.toNat_ofNat]
    show z % 2 ^ 64 &&& (2 ^ 7 - 1) = _
    rw [Nat.and_two_pow_sub_one_eq_mod, Nat.mod_mod_of_dvd _ (by decide)]
  show IntKind.i64.wrap ((BitVec.ofInt 64 (wrap64 (z : Int)) &&& BitVec.ofInt 64 127).toNat : Int) = _
  rw [h0, h1]
  simp [IntKind.wrap, IntKind.signed, IntKind.bits]
  omega
theorem pop1_lt' (x : Nat) (hx : x < 18446744073709551616) : pop1 x < 18446744073709551616 := by rw [← pop1_eq]; exact pop1_lt x hx
/-! ### the least one -/
def T64 (w : World) : Prop := Lib.TabIs Tryz.prog w "math/bits.deBruijn64tab" .u8 bits_deBruijn64tab
theorem T64.below {w w' : World} (h : T64 w) (hb : Below w.heap.size w w') : T64 w' := Joins.tab_stays g_bits_deBruijn64tab h hb (Nat.le_refl _)
theorem T64.of_laid {w : World} (h : laidMet Tryz.prog tables w) : T64 w := tab_bits_deBruijn64tab h
theorem T64.later {w : World} (h : T64 w) (W : Later w) : T64 W.val := h.below W.h
theorem deb_at : ∀ k : Nat, k < 64 → bits_deBruijn64tab.getD (2 ^ k * 285870213051353865 % 18446744073709551616 / 288230376151711744) 0 = (k : Int) := by decide +kernel
theorem trailing_core (x k idx : Nat) (w : World) (hx0 : ((x : Int) == 0) = false)
    (key : IntKind.u64.wrap (bits BinOp.and IntKind.u64 (x : Int) (IntKind.u64.wrap (-(x : Int))) * 285870213051353865) / 288230376151711744 = (idx : Int))
    (hi : idx < 64) (hk : k < 64) (hcell : w.cell? ⟨0, idx, none⟩ = some (.int .u8 (k : Int))) :
    Calls Tryz.prog 412 #[.int .u64 (x : Int)] w fun e w' => e = .returned (.int .i64 (k : Int)) ∧ w' = w := by
  go_enter Tryz.func412, Tryz.ntmps412
  go_wp2_with (simp only [key])
  go_ret
  exact ⟨rfl, rfl⟩
theorem trailing (x : Nat) (h0 : x ≠ 0) (hx : x < 18446744073709551616) (w : World) (hT : T64 w) :
    Calls Tryz.prog 412 #[.int .u64 (x : Int)] w fun e w' => e = .returned (.int .i64 (low x : Int)) ∧ w' = w := by
  obtain ⟨hlow, hk⟩ := Lib.lowest_bit 64 x h0 hx
  obtain ⟨hi, _⟩ := Lib.deBruijn64_at _ hk
  have hcell := Lib.TabIs.cell hT g_bits_deBruijn64tab _ hi
  rw [deb_at _ hk] at hcell
  exact trailing_core x _ _ w (by simp; omega) (tz64_key x _ hx h0 hlow) hi hk hcell
theorem nodesLeast (s : Nat) (h0 : s ≠ 0) (hs : s < 18446744073709551616) (w : World) (hT : T64 w) :
    Calls Tryz.prog 373 #[.int .u64 (s : Int)] w fun e w' => e = .returned (.int .i64 (low s : Int)) ∧ w' = w := by
  have hx0 : ((s : Int) == 0) = false := by simp; omega
  have H0 := Lib.hid h0
  clear h0
  go_enter Tryz.func373, Tryz.ntmps373
  go_wp2_with (go_at_call 412; refine (trailing s H0.out hs _ hT).mono ?_; rintro e w' ⟨rfl, rfl⟩)
  go_ret
  exact ⟨rfl, rfl⟩
theorem nodesLeast0 (w : World) : Calls Tryz.prog 373 #[.int .u64 0] w fun e w' => e = .returned (.int .i64 (-1)) ∧ w' = w := by
  go_enter Tryz.func373, Tryz.ntmps373
  go_wp2
  go_ret
  exact ⟨rfl, rfl⟩

/-! ### one node's bit -/
theorem nodesBit (i : Int) (h0 : -9223372036854775808 ≤ i) (h1 : i ≤ 9223372036854775807) (w : World) :
    Calls Tryz.prog 114 #[.int .i64 i] w fun e w' => e = .returned (.int .u64 (bitN i : Int)) ∧ w' = w := by
  by_cases ha : 0 ≤ i
  · by_cases hb : i < 64
    · obtain ⟨k, rfl⟩ : ∃ k : Nat, i = k := ⟨i.toNat, by omega⟩
      have hk : k < 64 := by omega
      have E : Hid ((bitN (k : Int) : Int) = 2 ^ k) := by
        unfold Hid bitN
        rw [if_pos ⟨ha, hb⟩]
        simp
      have hp : (2 : Nat) ^ k < 18446744073709551616 := Nat.pow_lt_pow_right (m := k) (n := 64) (by decide) hk
      go_enter Tryz.func114, Tryz.ntmps114
      have hp' := Lib.hid (wrap_nat hp)
      clear hp
      go_wp2
      go_ret
      exact ⟨ret_int (by rw [E.out]; have h := hp'.out; simpa using h), rfl⟩
    · have E : Hid (bitN i = 0) := by unfold Hid bitN; rw [if_neg (by omega)]
      have hd : decide (i < 0) = false := by simp; omega
      go_enter Tryz.func114, Tryz.ntmps114
      go_wp2
      go_ret
      exact ⟨ret_int (by rw [E.out]; rfl), rfl⟩
  · have E : Hid (bitN i = 0) := by unfold Hid bitN; rw [if_neg (by omega)]
    have hd : decide (i < 0) = true := by simp; omega
    go_enter Tryz.func114, Tryz.ntmps114
    go_wp2
    go_ret
    exact ⟨ret_int (by rw [E.out]; rfl), rfl⟩

/-! ### has, all, below -/
def hasB (s : Nat) (i : Int) : Bool := decide (0 ≤ i ∧ i < 64) && s.testBit i.toNat
theorem hasB_and (s : Nat) (i : Int) : hasB s i = (((s &&& bitN i : Nat) : Int) != 0) := by
  unfold hasB bitN
  by_cases h : 0 ≤ i ∧ i < 64
  · rw [if_pos h]
    have hp := Nat.two_pow_pos i.toNat
    have e : s &&& 2 ^ i.toNat = if s.testBit i.toNat then 2 ^ i.toNat else 0 := by
      apply Nat.eq_of_testBit_eq
      intro j
      rw [Nat.testBit_and, Nat.testBit_two_pow]
      by_cases hj : i.toNat = j
      · subst hj
        cases hb : s.testBit i.toNat <;> simp
      · split <;> simp [hj]
    rw [e]
    cases s.testBit i.toNat
    · simp
    · simp only [h, and_self, decide_true, Bool.and_self, Bool.true_and, if_true]
      rw [eq_comm, bne_iff_ne]
      omega
  · rw [if_neg h]
    simp [h]
theorem nodesHas (s : Nat) (hs : s < 18446744073709551616) (i : Int) (h0 : -9223372036854775808 ≤ i) (h1 : i ≤ 9223372036854775807) (w : World) :
    Calls Tryz.prog 48 #[.int .u64 (s : Int), .int .i64 i] w fun e w' => e = .returned (.bool (hasB s i)) ∧ w' = w := by
  have hbb := bits_and_u64_nat s (bitN i) hs (bitN_lt i)
  have E := Lib.hid (hasB_and s i)
  go_enter Tryz.func48, Tryz.ntmps48
  go_wp2_with (go_at_call 114; refine (nodesBit i h0 h1 _).mono ?_; rintro e w' ⟨rfl, rfl⟩)
  go_ret
  exact ⟨ret_bool E.out.symm, rfl⟩
theorem nodesAll (n : Int) (h0 : -9223372036854775808 ≤ n) (h1 : n ≤ 9223372036854775807) (w : World) :
    Calls Tryz.prog 77 #[.int .i64 n] w fun e w' => e = .returned (.int .u64 (allN n : Int)) ∧ w' = w := by
  by_cases ha : 64 ≤ n
  · have E : Hid (allN n = 18446744073709551615) := by unfold Hid allN; rw [if_pos ha]
    go_enter Tryz.func77, Tryz.ntmps77
    go_wp2
    go_ret
    exact ⟨ret_int (by rw [E.out]; rfl), rfl⟩
  · by_cases hb : n < 1
    · have E : Hid (allN n = 0) := by unfold Hid allN; rw [if_neg ha, if_pos hb]
      go_enter Tryz.func77, Tryz.ntmps77
      go_wp2
      go_ret
      exact ⟨ret_int (by rw [E.out]; rfl), rfl⟩
    · have hp : 0 < bitN n ∧ bitN n < 18446744073709551616 := ⟨by unfold bitN; rw [if_pos (by omega)]; exact Nat.two_pow_pos _, bitN_lt n⟩
      have E : Hid ((allN n : Int) = (bitN n : Int) - 1) := by
        unfold Hid
        have e : allN n = bitN n - 1 := by unfold allN bitN; rw [if_neg ha, if_neg hb, if_pos (by omega)]
        omega
      obtain ⟨hp0, hp1⟩ := hp
      have hw := Lib.hid (wrap_nat (n := bitN n - 1) (by omega))
      have hc := Lib.hid (show ((bitN n - 1 : Nat) : Int) = (bitN n : Int) - 1 by omega)
      go_enter Tryz.func77, Tryz.ntmps77
      go_wp2_with (go_at_call 114; refine (nodesBit n h0 h1 _).mono ?_; rintro e w' ⟨rfl, rfl⟩)
      go_ret
      exact ⟨ret_int (by rw [E.out]; first | done | rw [← hc.out, hw.out]), rfl⟩
/-! ### the first ones -/
theorem neg_and (s : Nat) (h0 : s ≠ 0) (hs : s < 18446744073709551616) : bits .and .u64 (s : Int) (IntKind.u64.wrap (-(s : Int))) = ((2 ^ low s : Nat) : Int) := by
  have e1 : IntKind.u64.wrap (-(s : Int)) = ((18446744073709551616 - s : Nat) : Int) := by rw [IntKind.wrap_u64]; omega
  rw [e1, bits_and_u64_nat s _ hs (by omega), low_and h0 hs]
theorem sub_and (s : Nat) (h0 : s ≠ 0) (hs : s < 18446744073709551616) : bits .and .u64 (s : Int) ((s : Int) - 1) = ((rest s : Nat) : Int) := by
  have e1 : (s : Int) - 1 = ((s - 1 : Nat) : Int) := by omega
  rw [e1, bits_and_u64_nat s _ hs (by omega)]
  rfl
theorem pow_low_lt (s : Nat) (h0 : s ≠ 0) (hs : s < 18446744073709551616) : 2 ^ low s < 18446744073709551616 := by
  obtain ⟨m, _, hk⟩ := low_spec h0 hs
  exact Nat.pow_lt_pow_right (m := low s) (n := 64) (by decide) hk
theorem firstN_step (k s o : Nat) (h0 : s ≠ 0) : firstN (k + 1) s o = firstN k (rest s) (o ||| 2 ^ low s) := by
  show (if s = 0 then o else _) = _
  rw [if_neg h0]
theorem firstN_stop (k o : Nat) : firstN k 0 o = o := by cases k <;> simp [firstN]
theorem nodesFirst (s : Nat) (hs : s < 18446744073709551616) (k : Int) (h0 : -9223372036854775808 ≤ k) (h1 : k ≤ 9223372036854775807) (w : World) :
    Calls Tryz.prog 306 #[.int .u64 (s : Int), .int .i64 k] w fun e w' => e = .returned (.int .u64 (firstN k.toNat s 0 : Int)) ∧ w' = w := by
  go_enter Tryz.func306, Tryz.ntmps306
  go_wp2
  go_loop [0, 1, 5] (fun s' k' o' => ∃ (x : Nat) (j : Int) (o : Nat), s' = .int .u64 (x : Int) ∧ k' = .int .i64 j ∧ o' = .int .u64 (o : Int) ∧ x < 18446744073709551616 ∧ o < 18446744073709551616 ∧ -9223372036854775808 ≤ j ∧ j ≤ 9223372036854775807 ∧ firstN j.toNat x o = firstN k.toNat s 0) (fun _ k' _ => (intOf k').toNat)
  case atStart => exact ⟨s, k, 0, rfl, rfl, rfl, hs, by decide, h0, h1, rfl⟩
  case round =>
    obtain ⟨x, j, o, rfl, rfl, rfl, hx, ho, hj0, hj1, hq⟩ := hrel
    by_cases hjp : 0 < j
    · by_cases hx0 : x = 0
      · subst hx0
        rw [firstN_stop] at hq
        have HQ := Lib.hid hq
        clear hq
        go_wp2
        go_ret
        exact ⟨ret_int (by rw [HQ.out]), rfl⟩
      · have hx0' : ((x : Int) != 0) = true := by simp; omega
        have hxp : 1 ≤ x := by omega
        have hna := neg_and x hx0 hx
        have hsa := sub_and x hx0 hx
        have hob := bits_or_u64_nat o (2 ^ low x) ho (pow_low_lt x hx0 hx)
        have hr := rest_lt (s := x) hx
        have hol := or_lt (a := o) (b := 2 ^ low x) ho (pow_low_lt x hx0 hx)
        have HQ : Hid (firstN (j - 1).toNat (rest x) (o ||| 2 ^ low x) = firstN k.toNat s 0) := by
          unfold Hid
          rw [← hq, show j.toNat = (j - 1).toNat + 1 by omega, firstN_step _ _ _ hx0]
        have H0 := Lib.hid hx0
        clear hq hx0
        generalize 2 ^ low x = pw at *
        go_wp2
        go_round
        case rel => exact ⟨rest x, j - 1, o ||| pw, rfl, rfl, rfl, hr, hol, by omega, by omega, HQ.out⟩
        case measure => simp [intOf]; omega
    · have HQ : Hid (firstN k.toNat s 0 = o) := by
        unfold Hid
        rw [← hq, show j.toNat = 0 by omega]
        rfl
      have hd : decide (0 < j) = false := by simp; omega
      clear hq
      go_wp2
      go_ret
      exact ⟨ret_int (by rw [HQ.out]), rfl⟩
end Go.Proofs.YteahiphmhaedpaaGreatDoor

namespace Go.Proofs.YteahiphmhaedpaaGreatDoor
open Go.RowKit Law
set_option linter.unusedVariables false
set_option linter.unusedSimpArgs false
set_option maxRecDepth 100000

/-- A slice value's address and the ints that it reads as. -/
def IntsAt (w : World) (A : Option Addr) (zs : List Int) : Prop :=
  ∀ (k : Nat) (z : Int), zs[k]? = some z → ∃ b off, A = some ⟨b, off, none⟩ ∧ b < w.heap.size ∧ w.cell? ⟨b, off + k, none⟩ = some (.int .i64 z)
theorem IntsAt.below {w w' : World} {A : Option Addr} {zs : List Int} (h : IntsAt w A zs) (hb : Below w.heap.size w w') : IntsAt w' A zs := fun k z hz => by
  obtain ⟨b, off, rfl, hlt, hc⟩ := h k z hz
  exact ⟨b, off, rfl, Nat.lt_of_lt_of_le hlt hb.size, by rw [hb.cell (p := ⟨b, off + k, none⟩) hlt]; exact hc⟩
theorem IntsAt.take {w : World} {A : Option Addr} {zs : List Int} (h : IntsAt w A zs) (n : Nat) : IntsAt w A (zs.take n) := fun k z hz => h k z (by
  rw [List.getElem?_take] at hz
  split at hz
  · exact hz
  · cases hz)
theorem IntsAt.at_ {w wr : World} {A : Option Addr} {zs : List Int} (h : IntsAt w A zs) (hb : Below w.heap.size w wr) {k : Nat} (hk : k < zs.length) :
    ∃ b off, A = some ⟨b, off, none⟩ ∧ wr.cell? ⟨b, off + k, none⟩ = some (.int .i64 zs[k]) := by
  obtain ⟨b, off, rfl, hlt, hc⟩ := (h.below hb) k zs[k] (List.getElem?_eq_getElem hk)
  exact ⟨b, off, rfl, hc⟩
theorem intInfo : (Tryz.prog.info? 3).map (fun i => (i.zero, i.size, i.bytes)) = some (some (.int .i64 0), 1, 8) := by kernel_rfl
/-- The row is kept where only new memory is made. -/
theorem own_below {w w' : World} {base size n : Nat} {e : TypeId} {v : Value} {xs : List Value} (h : w.ownsRow base e size v n xs) (hb : Below w.heap.size w w') : w'.ownsRow base e size v n xs :=
  h.kept (row := none) ⟨hb.os, hb.tape, hb.output, hb.size, fun i hi _ => hb.block i hi⟩ (by cases hv : v.ownBlock <;> simp)
theorem own_form {w : World} {base n : Nat} {e : TypeId} {v : Value} {xs : List Value} (h : w.ownsRow base e 1 v n xs) : ∃ A c, v = .slice A n c ∧ n ≤ c := by
  rcases h.2 with ⟨hv, h0⟩ | ⟨g, cap, cur, hv, _, _, hc, _⟩
  · exact ⟨none, 0, by rw [hv, h0], by omega⟩
  · exact ⟨_, _, hv, hc⟩
abbrev intV (zs : List Int) : List Value := zs.map (Value.int .i64)
/-- A row of the call's own reads as its ints. -/
theorem ownInts {w : World} {base : Nat} {A : Option Addr} {n c : Nat} {zs : List Int} (h : w.ownsRow base 3 1 (.slice A n c) n (intV zs)) : IntsAt w A zs := by
  intro k z hz
  have hk : k < zs.length := (List.getElem?_eq_some_iff.1 hz).1
  have hn : zs.length = n := by have := h.1; simpa using this
  obtain ⟨g, cap, hv⟩ := Joins.ownsRow_form h (by omega)
  obtain rfl : A = some ⟨g, 0, none⟩ := by injection hv
  refine ⟨g, 0, rfl, (h.lt g rfl).2, ?_⟩
  have := h.cells (g := g) rfl k (.int .i64 z) (by rw [List.getElem?_map, hz]; rfl)
  rwa [Lib.add_plain] at this

/-! ### in -/
def inI (l : List Int) (x : Int) : Bool := l.any (· == x)
theorem inI_snoc (l : List Int) (k : Nat) (hk : k < l.length) (x : Int) : inI (l.take (k + 1)) x = (inI (l.take k) x || l[k] == x) := by
  unfold inI
  rw [List.take_succ_eq_append_getElem hk, List.any_append]
  simp
theorem inI_hit {l : List Int} {k : Nat} (hk : k < l.length) {x : Int} (h : (l[k] == x) = true) : inI l x = true := by
  unfold inI
  rw [List.any_eq_true]
  exact ⟨l[k], List.getElem_mem hk, h⟩
/-! ### power, Has -/
def pw (k : Nat) : Nat := 2 ^ k
theorem pw_succ (k : Nat) : pw (k + 1) = pw k * 2 := Nat.pow_succ ..
theorem pw_pos (k : Nat) : 1 ≤ pw k := Nat.two_pow_pos k
theorem pw_le {k : Nat} (h : k < 64) : pw k ≤ 9223372036854775808 := by
  have : 2 ^ k ≤ 2 ^ 63 := Nat.pow_le_pow_right (by decide) (by omega)
  exact this
theorem refPower (i : Nat) (hi : i < 64) (w : World) :
    Calls Tryz.prog 370 #[.int .i64 (i : Int)] w fun e w' => e = .returned (.int .u64 (pw i : Int)) ∧ w = w' := by
  go_enter Tryz.func370, Tryz.ntmps370
  go_wp2
  go_loop [3, 4] (fun p j => ∃ k : Nat, k ≤ i ∧ j = .int .i64 k ∧ p = .int .u64 (pw k : Int)) (fun _ j => i - (intOf j).toNat)
  case atStart => exact ⟨0, Nat.zero_le _, rfl, rfl⟩
  case round =>
    obtain ⟨k, hk, rfl, rfl⟩ := hrel
    by_cases hlt : k < i
    · have h1 := pw_le (k := k) (by omega)
      have h2 := pw_le (k := k + 1) (by omega)
      have HS := Lib.hid (pw_succ k)
      have h3 : (pw k : Int) * 2 ≤ 9223372036854775808 := by have := HS.out; omega
      go_wp2
      go_round
      case rel => exact ⟨k + 1, by omega, by go_num, by rw [HS.out]; simp⟩
      case measure => simp [intOf]; omega
    · obtain rfl : k = i := by omega
      go_wp2
      go_ret
      exact ⟨rfl, rfl⟩
theorem hasB_yes (s k : Nat) (hk : k < 64) : hasB s (k : Int) = s.testBit k := by
  unfold hasB
  have : (k : Int) < 64 := by omega
  simp [this]
theorem hasB_no {s : Nat} {i : Int} (h : ¬ (0 ≤ i ∧ i < 64)) : hasB s i = false := by
  unfold hasB
  simp [h]
theorem has_div (s k : Nat) : (((s : Int) / (pw k : Int) % 2) == 1) = s.testBit k := by
  rw [Nat.testBit_eq_decide_div_mod_eq, ← Int.natCast_ediv, Bool.eq_iff_iff, beq_iff_eq, decide_eq_true_eq]
  show (((s / 2 ^ k : Nat) : Int) % 2 = 1) ↔ _
  omega
theorem refHas (s : Nat) (hs : s < 18446744073709551616) (i : Int) (w : World) :
    Calls Tryz.prog 318 #[.int .u64 (s : Int), .int .i64 i] w fun e w' => e = .returned (.bool (hasB s i)) ∧ w = w' := by
  by_cases ha : 0 ≤ i
  · by_cases hb : i < 64
    · obtain ⟨k, rfl⟩ : ∃ k : Nat, i = k := ⟨i.toNat, by omega⟩
      have hk : k < 64 := by omega
      have E := Lib.hid ((hasB_yes s k hk).trans (has_div s k).symm)
      have h1 := pw_pos k
      have h2 := pw_le hk
      have hne : ((pw k : Int) == 0) = false := by simp; omega
      have hd0 : 0 ≤ (s : Int) / (pw k : Int) := Int.ediv_nonneg (by omega) (by omega)
      have hd1 : (s : Int) / (pw k : Int) ≤ 18446744073709551615 := by
        have := Int.ediv_le_self (pw k : Int) (show 0 ≤ (s : Int) by omega)
        omega
      go_enter Tryz.func318, Tryz.ntmps318
      go_wp2_with (go_at_call 370; refine (refPower k hk _).mono ?_; rintro e w' ⟨rfl, rfl⟩)
      go_ret
      exact ⟨ret_bool (by rw [E.out]), rfl⟩
    · have E := Lib.hid (hasB_no (s := s) (i := i) (by omega))
      have hd : decide (i < 64) = false := by simp; omega
      go_enter Tryz.func318, Tryz.ntmps318
      go_wp2
      go_ret
      exact ⟨ret_bool (by rw [E.out]), rfl⟩
  · have E := Lib.hid (hasB_no (s := s) (i := i) (by omega))
    have hd : decide (0 ≤ i) = false := by simp; omega
    go_enter Tryz.func318, Tryz.ntmps318
    go_wp2
    go_ret
    exact ⟨ret_bool (by rw [E.out]), rfl⟩
theorem refHasB {s : Nat} {i : Int} {r : Bool} (hr : hasB s i = r) (hs : s < 18446744073709551616) (w : World) :
    Calls Tryz.prog 318 #[.int .u64 (s : Int), .int .i64 i] w fun e w' => e = .returned (.bool r) ∧ w = w' := by
  subst hr; exact refHas s hs i w

/-! ### List -/
def elsK (s k : Nat) : List Int := ((List.range k).filter s.testBit).map Int.ofNat
theorem elsK_len (s k : Nat) : (elsK s k).length ≤ k := by
  unfold elsK
  rw [List.length_map]
  have := List.length_filter_le s.testBit (List.range k)
  simpa using this
theorem elsK_yes {s k : Nat} (h : s.testBit k = true) : elsK s (k + 1) = elsK s k ++ [(k : Int)] := by
  unfold elsK
  rw [List.range_succ, List.filter_append]
  simp [h]
theorem elsK_no {s k : Nat} (h : s.testBit k = false) : elsK s (k + 1) = elsK s k := by
  unfold elsK
  rw [List.range_succ, List.filter_append]
  simp [h]
theorem elsK_all (s : Nat) : elsK s 64 = elsI s := rfl
set_option maxHeartbeats 800000 in
theorem refList (s : Nat) (hs : s < 18446744073709551616) (w : World) :
    Calls Tryz.prog 256 #[.int .u64 (s : Int)] w fun e w' => ∃ v, e = .returned v ∧ w'.ownsRow w.heap.size 3 1 v (elsI s).length (intV (elsI s)) ∧ Below w.heap.size w w' := by
  obtain ⟨i0, hi, hz0, hz1, hz2⟩ := info_parts intInfo
  have h00 := World.ownsRow_made (base := w.heap.size) (e := 3) (size := 1) w #[] 0 (Nat.le_refl _) (by simp [maxLen]) rfl
  have hb0 : Below w.heap.size w (w.alloc (.cells #[] 3)) := (Below.refl _ _).alloc (Nat.le_refl _) _
  go_enter Tryz.func256, Tryz.ntmps256
  go_wp2
  go_loopw [3, 4] (fun v i wr => ∃ k : Nat, k ≤ 64 ∧ i = .int .i64 k ∧ wr.ownsRow w.heap.size 3 1 v (elsK s k).length (intV (elsK s k)) ∧ Below w.heap.size w wr) (fun _ i _ => 64 - (intOf i).toNat)
  case atStart => exact ⟨0, Nat.zero_le _, rfl, h00, hb0⟩
  case round =>
    obtain ⟨k, hk, rfl, hown, hb⟩ := hrel
    clear h00 hb0
    have hl := elsK_len s k
    by_cases hlt : k < 64
    · cases hq : s.testBit k
      · have C := Lib.hid (fun W => refHasB (s := s) (i := (k : Int)) (r := false) (by rw [hasB_yes s k hlt, hq]) hs W)
        have HS := Lib.hid (elsK_no hq)
        clear hq
        go_wp2_with (go_at_call 318; refine (C.out _).mono ?_; rintro e w' ⟨rfl, rfl⟩)
        go_roundw
        case rel => exact ⟨k + 1, by omega, by go_num, by rw [HS.out]; exact hown, hb⟩
        case measure => simp [intOf]; omega
      · have C := Lib.hid (fun W => refHasB (s := s) (i := (k : Int)) (r := true) (by rw [hasB_yes s k hlt, hq]) hs W)
        have HS := Lib.hid (elsK_yes hq)
        clear hq
        go_wp2_with fail
        refine (C.out _).mono ?_
        rintro e w' ⟨rfl, rfl⟩
        go_wp2_with (at_builtin; refine wpList_append_own _ rfl _ _ 272 rfl w.heap.size 3 i0 (.int .i64 0) 1 8 Tryz.underlying272 hi hz0 hz1 hz2 rfl (by decide) _ _ _ rfl (hown.alloc _) ⟨wr.heap.size, 0, none⟩ 1 1 [.int .i64 (k : Int)] rfl rfl ?c1 ?c2 ?c3 ?c4 ?c5 ?_)
        case c1 =>
          intro j u hj
          match j, hj with
          | 0, hj => simp at hj; subst hj; simp [Addr.add]
        case c2 => intro u hu; simp at hu; subst hu; rfl
        case c3 => unfold maxLen; omega
        case c4 => omega
        case c5 => have := hb.size; simp; omega
        intro v' w1 hown' hgrow _
        have hb3 : Below w.heap.size w w1 := (hb.alloc hb.size _).grown hgrow (by have := hb.size; simp; omega) (fun j hj => (hown.lt j hj).1)
        go_wp2
        go_roundw
        case rel => exact ⟨k + 1, by omega, by go_num, by rw [HS.out, List.length_append]; unfold intV; rw [List.map_append]; exact hown', hb3⟩
        case measure => simp [intOf]; omega
    · obtain rfl : k = 64 := by omega
      rw [elsK_all] at hown
      go_wp2
      go_ret
      exact ⟨_, rfl, hown, hb⟩

/-! ### Of -/
theorem ofP_yes {p : Nat → Bool} {k : Nat} (h : p k = true) : ofP p (k + 1) = ofP p k + pw k := by
  show ofP p k + (if p k then 2 ^ k else 0) = _
  rw [if_pos h]
  rfl
theorem ofP_no {p : Nat → Bool} {k : Nat} (h : p k = false) : ofP p (k + 1) = ofP p k := by
  show ofP p k + (if p k then 2 ^ k else 0) = _
  rw [if_neg (by simp [h])]
  rfl
theorem ofP_le (p : Nat → Bool) {k : Nat} (h : k ≤ 64) : ofP p k < 18446744073709551616 := by
  have h1 := ofP_lt p k
  have : 2 ^ k ≤ 2 ^ 64 := Nat.pow_le_pow_right (by decide) h
  omega
end Go.Proofs.YteahiphmhaedpaaGreatDoor

namespace Go.Proofs.YteahiphmhaedpaaGreatDoor
open Go Go.RowKit
set_option linter.unusedVariables false
set_option linter.unusedSimpArgs false

/-- A row of the call's own from a base on, or an empty slice without room. -/
def OwnOr (w : World) (base : Nat) (e : TypeId) (size : Nat) (v : Value) (n : Nat) (xs : List Value) : Prop :=
  w.ownsRow base e size v n xs ∨ ∃ b : Addr, v = .slice (some b) 0 0 ∧ n = 0 ∧ xs = []
theorem ownsRow_base {w : World} {base base' : Nat} {e : TypeId} {size : Nat} {v : Value} {n : Nat} {xs : List Value} (h : w.ownsRow base e size v n xs) (hb : base' ≤ base) : w.ownsRow base' e size v n xs := by
  refine ⟨h.1, ?_⟩
  rcases h.2 with hn | ⟨g, cap, cur, hv, hg, rest⟩
  · exact .inl hn
  · exact .inr ⟨g, cap, cur, hv, Nat.le_trans hb hg, rest⟩
theorem ownsRow_kept {w w' : World} {base size n : Nat} {e : TypeId} {v : Value} {xs : List Value} (h : w.ownsRow base e size v n xs) (hb : Below w.heap.size w w') : w'.ownsRow base e size v n xs :=
  h.kept (row := none) ⟨hb.os, hb.tape, hb.output, hb.size, fun i hi _ => hb.block i hi⟩ (by cases hv : v.ownBlock <;> simp)
theorem OwnOr.kept {w w' : World} {base : Nat} {e : TypeId} {size : Nat} {v : Value} {n : Nat} {xs : List Value} (h : OwnOr w base e size v n xs) (hb : Below w.heap.size w w') : OwnOr w' base e size v n xs :=
  h.elim (fun x => .inl (ownsRow_kept x hb)) .inr
theorem OwnOr.alloc {w : World} {base : Nat} {e : TypeId} {size : Nat} {v : Value} {n : Nat} {xs : List Value} (h : OwnOr w base e size v n xs) (o : Obj) : OwnOr (w.alloc o) base e size v n xs :=
  h.elim (fun x => .inl (x.alloc o)) .inr
theorem OwnOr.form {w : World} {base : Nat} {e : TypeId} {v : Value} {n : Nat} {size : Nat} {xs : List Value} (h : OwnOr w base e size v n xs) : ∃ A c, v = .slice A n c ∧ n ≤ c := by
  rcases h with h | ⟨b, rfl, rfl, _⟩
  · rcases h.2 with ⟨hv, h0⟩ | ⟨g, cap, cur, hv, _, _, hc, _⟩
    · exact ⟨none, 0, by rw [hv, h0], by omega⟩
    · exact ⟨_, _, hv, hc⟩
  · exact ⟨_, _, rfl, Nat.le_refl _⟩
theorem wpList_append_or {P : Program} (w : World) {ops : Array Oper} {rest : List Oper} {o : Oper} {a : Act} {Q : Exit → Act → World → Prop}
    (hg : o.guard = none) (s x : Operand) (t : TypeId) (hop : o.op = Op.call { callee := Callee.builtin Builtin.append, args := #[s, x], argTypes := #[t, t] })
    (base : Nat) (e : TypeId) (i : TypeInfo) (z : Value) (size bytes : Nat) (h1 : P.underlying t = some (.slice e)) (h2 : P.info? e = some i) (h3 : i.zero = some z) (h4 : i.size = size) (h5 : i.bytes = bytes) (h6 : z.cells.size = size) (h7 : 0 < size)
    (v : Value) (n : Nat) (xs : List Value) (hs : a.eval s = v) (hown : OwnOr w base e size v n xs)
    (ad : Addr) (m c : Nat) (news : List Value) (hx : a.eval x = .slice (some ad) m c) (hn : news.length = m * size) (hc : ∀ j u, news[j]? = some u → w.cell? (ad.add j) = some u) (h1c : ∀ u ∈ news, u.oneCell' = true)
    (hm : 0 < m) (b1 : n + m ≤ maxLen) (b2 : (n + m) * bytes ≤ 140737488355328) (hbase : base ≤ w.heap.size)
    (hK : ∀ v' w' row, w'.ownsRow base e size v' (n + m) (xs ++ news) → w.grownBy w' row → (∀ k, row = some k → base ≤ k) → wpList P ops Q rest (a.put o.dst v') w') :
    wpList P ops Q (o :: rest) a w := by
  rcases hown with hown | ⟨b, hv, rfl, rfl⟩
  · exact wpList_append_own w hg s x t hop base e i z size bytes h1 h2 h3 h4 h5 h6 h7 v n xs hs hown ad m c news hx hn hc h1c b1 b2 hbase
      (fun v' w' hown' hgrow _ => hK v' w' _ hown' hgrow (fun k hk => (hown.lt k hk).1))
  · subst hv
    exact wpList_append_grows w hg s x t hop e i z size bytes h1 h2 h3 h4 h5 h6 h7 (some b) 0 0 [] hs (fun h => by cases h) (by simp) (fun _ _ j u hj => by simp at hj) ad m c news hx hn hc h1c (by omega) b1 b2
      (fun v' w' r1 r2 => hK v' w' none (ownsRow_base r1 hbase) r2 (fun k hk => by cases hk))
/-- 'append([]T{}, l...)': a copy of whatever came in, nil too, in a row from a base on. -/
theorem wpList_append_copy {P : Program} (w : World) {ops : Array Oper} {rest : List Oper} {o : Oper} {a : Act} {Q : Exit → Act → World → Prop}
    (hg : o.guard = none) (s x : Operand) (t : TypeId) (hop : o.op = Op.call { callee := Callee.builtin Builtin.append, args := #[s, x], argTypes := #[t, t] })
    (base : Nat) (e : TypeId) (i : TypeInfo) (z : Value) (size bytes : Nat) (h1 : P.underlying t = some (.slice e)) (h2 : P.info? e = some i) (h3 : i.zero = some z) (h4 : i.size = size) (h5 : i.bytes = bytes) (h6 : z.cells.size = size) (h7 : 0 < size)
    (v : Value) (n : Nat) (xs : List Value) (hs : a.eval s = v) (hown : w.ownsRow base e size v n xs)
    (A : Option Addr) (m c : Nat) (news : List Value) (hx : a.eval x = .slice A m c) (hnil : A = none → c = 0 ∧ m = 0) (hn : news.length = m * size) (hc : ∀ ad, A = some ad → ∀ j u, news[j]? = some u → w.cell? (ad.add j) = some u) (h1c : ∀ u ∈ news, u.oneCell' = true)
    (b1 : n + m ≤ maxLen) (b2 : (n + m) * bytes ≤ 140737488355328) (hbase : base ≤ w.heap.size)
    (hK : ∀ v' w' row, w'.ownsRow base e size v' (n + m) (xs ++ news) → w.grownBy w' row → (∀ k, row = some k → base ≤ k) → wpList P ops Q rest (a.put o.dst v') w') :
    wpList P ops Q (o :: rest) a w := by
  cases A with
  | some ad =>
    exact wpList_append_own w hg s x t hop base e i z size bytes h1 h2 h3 h4 h5 h6 h7 v n xs hs hown ad m c news hx hn (hc ad rfl) h1c b1 b2 hbase
      (fun v' w' hown' hgrow _ => hK v' w' _ hown' hgrow (fun k hk => (hown.lt k hk).1))
  | none =>
    obtain ⟨rfl, rfl⟩ := hnil rfl
    obtain rfl : news = [] := List.eq_nil_of_length_eq_zero (by simpa using hn)
    refine wpList_append_own_none hg s x t hop base e i size h1 h2 v n xs hs hown hx ?_
    exact hK v w none (by simpa using hown) ⟨rfl, rfl, rfl, Nat.le_refl _, fun _ _ _ => rfl⟩ (fun k hk => by cases hk)
/-- The same, and what is handed back is nil only if what was appended to was. -/
theorem wpList_append_copy2 {P : Program} (w : World) {ops : Array Oper} {rest : List Oper} {o : Oper} {a : Act} {Q : Exit → Act → World → Prop}
    (hg : o.guard = none) (s x : Operand) (t : TypeId) (hop : o.op = Op.call { callee := Callee.builtin Builtin.append, args := #[s, x], argTypes := #[t, t] })
    (base : Nat) (e : TypeId) (i : TypeInfo) (z : Value) (size bytes : Nat) (h1 : P.underlying t = some (.slice e)) (h2 : P.info? e = some i) (h3 : i.zero = some z) (h4 : i.size = size) (h5 : i.bytes = bytes) (h6 : z.cells.size = size) (h7 : 0 < size)
    (v : Value) (n : Nat) (xs : List Value) (hs : a.eval s = v) (hown : w.ownsRow base e size v n xs)
    (A : Option Addr) (m c : Nat) (news : List Value) (hx : a.eval x = .slice A m c) (hnil : A = none → c = 0 ∧ m = 0) (hn : news.length = m * size) (hc : ∀ ad, A = some ad → ∀ j u, news[j]? = some u → w.cell? (ad.add j) = some u) (h1c : ∀ u ∈ news, u.oneCell' = true)
    (b1 : n + m ≤ maxLen) (b2 : (n + m) * bytes ≤ 140737488355328) (hbase : base ≤ w.heap.size)
    (hK : ∀ v' w' row, w'.ownsRow base e size v' (n + m) (xs ++ news) → w.grownBy w' row → (∀ k, row = some k → base ≤ k) → (v' = .slice none 0 0 → v = .slice none 0 0) → wpList P ops Q rest (a.put o.dst v') w') :
    wpList P ops Q (o :: rest) a w := by
  cases A with
  | some ad =>
    exact wpList_append_own w hg s x t hop base e i z size bytes h1 h2 h3 h4 h5 h6 h7 v n xs hs hown ad m c news hx hn (hc ad rfl) h1c b1 b2 hbase
      (fun v' w' hown' hgrow hnn => hK v' w' _ hown' hgrow (fun k hk => (hown.lt k hk).1) (fun h => (hnn.1 h).1))
  | none =>
    obtain ⟨rfl, rfl⟩ := hnil rfl
    obtain rfl : news = [] := List.eq_nil_of_length_eq_zero (by simpa using hn)
    refine wpList_append_own_none hg s x t hop base e i size h1 h2 v n xs hs hown hx ?_
    exact hK v w none (by simpa using hown) ⟨rfl, rfl, rfl, Nat.le_refl _, fun _ _ _ => rfl⟩ (fun k hk => by cases hk) id
end Go.Proofs.YteahiphmhaedpaaGreatDoor

namespace Go.Proofs.YteahiphmhaedpaaGreatDoor
open Go.RowKit Law
set_option linter.unusedVariables false
set_option linter.unusedSimpArgs false
set_option maxRecDepth 100000

def I64s (l : List Int) : Prop := ∀ z ∈ l, -9223372036854775808 ≤ z ∧ z ≤ 9223372036854775807
theorem withN_take {l : List Int} {k : Nat} (hk : k < l.length) (s : Nat) : withN s (l.take (k + 1)) = withN s (l.take k) ||| bitN l[k] := by
  rw [List.take_succ_eq_append_getElem hk, withN_snoc]
theorem withoutN_take {l : List Int} {k : Nat} (hk : k < l.length) (s : Nat) : withoutN s (l.take (k + 1)) = withoutN s (l.take k) ^^^ (withoutN s (l.take k) &&& bitN l[k]) := by
  rw [List.take_succ_eq_append_getElem hk, withoutN_snoc]
theorem nodesWith {n : Nat} (s : Nat) (hs : s < 18446744073709551616) (A : Option Addr) (c : Nat) (l : List Int) (hn : l.length = n) (hm : n ≤ 140737488355328) (hl : I64s l) (w : World) (hA : IntsAt w A l) :
    Calls Tryz.prog 91 #[.int .u64 (s : Int), .slice A n c] w fun e w' => e = .returned (.int .u64 (withN s l : Int)) ∧ w = w' := by
  have HN := Lib.hid hn
  clear hn
  go_enter Tryz.func91, Tryz.ntmps91
  go_wp2
  go_loop [0, 9] (fun s' i => ∃ k : Nat, k ≤ n ∧ i = .int .i64 k ∧ s' = .int .u64 (withN s (l.take k) : Int)) (fun _ i => n - (intOf i).toNat)
  case atStart => exact ⟨0, Nat.zero_le _, rfl, rfl⟩
  case round =>
    obtain ⟨k, hk, rfl, rfl⟩ := hrel
    have hx := withN_lt (l.take k) s hs
    by_cases hlt : k < n
    · have hlt' : k < l.length := by rw [HN.out]; exact hlt
      obtain ⟨b, off, rfl, c0⟩ := hA.at_ (Below.refl _ _) hlt'
      have HS := Lib.hid (withN_take hlt' s)
      obtain ⟨g0, g1⟩ := hl _ (List.getElem_mem hlt')
      have hob := bits_or_u64_nat (withN s (l.take k)) (bitN l[k]) hx (bitN_lt _)
      go_wp2_with (go_at_call 114; refine (nodesBit _ g0 g1 _).mono ?_; rintro e w' ⟨rfl, rfl⟩)
      go_round
      case rel => exact ⟨k + 1, by omega, by go_num, by rw [HS.out]⟩
      case measure => simp [intOf]; omega
    · have E : Hid (l.take k = l) := List.take_of_length_le (by rw [HN.out]; omega)
      go_wp2
      go_ret
      exact ⟨ret_int (by rw [E.out]), rfl⟩
theorem nodesWithout {n : Nat} (s : Nat) (hs : s < 18446744073709551616) (A : Option Addr) (c : Nat) (l : List Int) (hn : l.length = n) (hm : n ≤ 140737488355328) (hl : I64s l) (w : World) (hA : IntsAt w A l) :
    Calls Tryz.prog 288 #[.int .u64 (s : Int), .slice A n c] w fun e w' => e = .returned (.int .u64 (withoutN s l : Int)) ∧ w = w' := by
  have HN := Lib.hid hn
  clear hn
  go_enter Tryz.func288, Tryz.ntmps288
  go_wp2
  go_loop [0, 9] (fun s' i => ∃ k : Nat, k ≤ n ∧ i = .int .i64 k ∧ s' = .int .u64 (withoutN s (l.take k) : Int)) (fun _ i => n - (intOf i).toNat)
  case atStart => exact ⟨0, Nat.zero_le _, rfl, rfl⟩
  case round =>
    obtain ⟨k, hk, rfl, rfl⟩ := hrel
    have hx := withoutN_lt (l.take k) s hs
    by_cases hlt : k < n
    · have hlt' : k < l.length := by rw [HN.out]; exact hlt
      obtain ⟨b, off, rfl, c0⟩ := hA.at_ (Below.refl _ _) hlt'
      have HS := Lib.hid (withoutN_take hlt' s)
      obtain ⟨g0, g1⟩ := hl _ (List.getElem_mem hlt')
      have hob := bits_andNot_u64_nat (withoutN s (l.take k)) (bitN l[k]) hx (bitN_lt _)
      go_wp2_with (go_at_call 114; refine (nodesBit _ g0 g1 _).mono ?_; rintro e w' ⟨rfl, rfl⟩)
      go_round
      case rel => exact ⟨k + 1, by omega, by go_num, by rw [HS.out]⟩
      case measure => simp [intOf]; omega
    · have E : Hid (l.take k = l) := List.take_of_length_le (by rw [HN.out]; omega)
      go_wp2
      go_ret
      exact ⟨ret_int (by rw [E.out]), rfl⟩
theorem nodesOf {n : Nat} (A : Option Addr) (c : Nat) (l : List Int) (hn : l.length = n) (hm : n ≤ 140737488355328) (hl : I64s l) (w : World) (hA : IntsAt w A l) :
    Calls Tryz.prog 445 #[.slice A n c] w fun e w' => e = .returned (.int .u64 (ofN l : Int)) ∧ w = w' := by
  have C := Lib.hid (fun W hW => nodesWith 0 (by decide) A c l hn hm hl W hW)
  have E := Lib.hid (ofN_eq l)
  clear hn
  go_enter Tryz.func445, Tryz.ntmps445
  go_wp2_with (go_at_call 91; refine (C.out _ hA).mono ?_; rintro e w' ⟨rfl, rfl⟩)
  go_ret
  exact ⟨ret_int (by rw [E.out]), rfl⟩

/-! ### the reference's -/
theorem elsI_len (s : Nat) : (elsI s).length ≤ 64 := by
  have := els_len s
  unfold elsI
  rw [List.length_map]
  exact this
/-! ### the reference's Without, First, Below -/
theorem OwnOr.ints {w : World} {base : Nat} {A : Option Addr} {n c : Nat} {zs : List Int} (h : OwnOr w base 3 1 (.slice A n c) n (intV zs)) : IntsAt w A zs := by
  rcases h with h | ⟨b, _, rfl, hx⟩
  · exact ownInts h
  · intro k z hz
    have : zs = [] := by simpa using hx
    subst this
    simp at hz
def leavesK (s : Nat) (l : List Int) (k : Nat) : List Int := ((elsI s).take k).filter fun i => !inI l i
theorem leavesK_len (s : Nat) (l : List Int) (k : Nat) : (leavesK s l k).length ≤ k := by
  have h1 := List.length_filter_le (fun i => !inI l i) ((elsI s).take k)
  have h2 : ((elsI s).take k).length ≤ k := List.length_take_le _ _
  unfold leavesK
  omega
theorem leavesK_yes {s : Nat} {l : List Int} {k : Nat} (hk : k < (elsI s).length) (h : inI l (elsI s)[k] = false) : leavesK s l (k + 1) = leavesK s l k ++ [(elsI s)[k]] := by
  unfold leavesK
  rw [List.take_succ_eq_append_getElem hk, List.filter_append]
  simp [h]
theorem leavesK_no {s : Nat} {l : List Int} {k : Nat} (hk : k < (elsI s).length) (h : inI l (elsI s)[k] = true) : leavesK s l (k + 1) = leavesK s l k := by
  unfold leavesK
  rw [List.take_succ_eq_append_getElem hk, List.filter_append]
  simp [h]
theorem leavesK_all (s : Nat) (l : List Int) {k : Nat} (h : (elsI s).length ≤ k) : leavesK s l k = leaves s l := by
  unfold leavesK
  rw [List.take_of_length_le h]
  rfl
def belowK (s : Nat) (i : Int) (k : Nat) : Nat := (((elsI s).take k).filter fun z => decide (z < i)).length
theorem belowK_yes {s : Nat} {i : Int} {k : Nat} (hk : k < (elsI s).length) (h : (elsI s)[k] < i) : belowK s i (k + 1) = belowK s i k + 1 := by
  unfold belowK
  rw [List.take_succ_eq_append_getElem hk, List.filter_append, List.length_append]
  simp [h]
theorem belowK_no {s : Nat} {i : Int} {k : Nat} (hk : k < (elsI s).length) (h : ¬ (elsI s)[k] < i) : belowK s i (k + 1) = belowK s i k := by
  unfold belowK
  rw [List.take_succ_eq_append_getElem hk, List.filter_append, List.length_append]
  simp [h]
theorem belowK_le (s : Nat) (i : Int) (k : Nat) : belowK s i k ≤ k := by
  have h1 := List.length_filter_le (fun z : Int => decide (z < i)) ((elsI s).take k)
  have h2 : ((elsI s).take k).length ≤ k := List.length_take_le _ _
  unfold belowK
  omega
theorem belowK_all (s : Nat) (i : Int) {k : Nat} (h : (elsI s).length ≤ k) : belowK s i k = belowN s i := by
  unfold belowK
  rw [List.take_of_length_le h]
  rfl
/-! ### two lists compared; the list below a number -/
def upK (k : Nat) : List Int := (List.range k).map Int.ofNat
theorem upK_len (k : Nat) : (upK k).length = k := by simp [upK]
theorem upK_succ (k : Nat) : upK (k + 1) = upK k ++ [(k : Int)] := by
  unfold upK
  rw [List.range_succ, List.map_append]
  rfl
end Go.Proofs.YteahiphmhaedpaaGreatDoor

namespace Go.Proofs.YteahiphmhaedpaaGreatDoor
open Go Go.RowKit
set_option linter.unusedVariables false
set_option linter.unusedSimpArgs false

/-- The box at block B holds u and may be written. -/
def BoxIs (B : Nat) (u : Value) (W : World) : Prop := W.cell? ⟨B, 0, none⟩ = some u ∧ W.frozen? ⟨B, 0, none⟩ = false
/-- A step that turns the box, new blocks, and from B0 on whatever holds no cells. -/
structure Side (B0 B : Nat) (W W' : World) : Prop where
  os : W'.os = W.os
  tape : W'.tape = W.tape
  output : W'.output = W.output
  size : W.heap.size ≤ W'.heap.size
  low : ∀ k, k < W.heap.size → k ≠ B → k < B0 → W'.heap[k]? = W.heap[k]?
  cells : ∀ (k : Nat) (o : Obj), k ≠ B → W.heap[k]? = some o → o.isCells = true → W'.heap[k]? = some o
theorem Side.alloc (B0 B : Nat) (W : World) (o : Obj) : Side B0 B W (W.alloc o) :=
  ⟨rfl, rfl, rfl, by simp, fun k hk _ _ => Below.heap_alloc W o k hk, fun k o' _ hk _ => (Below.heap_alloc W o k (Array.getElem?_eq_some_iff.1 hk).1).trans hk⟩
theorem Side.putObj {B0 B l : Nat} {W : World} {o : Obj} (o' : Obj) (hB : B0 ≤ l) (hl : W.heap[l]? = some o) (ho : o.isCells = false) : Side B0 B W (W.putObj l o') :=
  ⟨rfl, rfl, rfl, by simp, fun k _ _ hk => World.putObj_heap_other (by omega), fun k u _ hk hu => by
    by_cases e : k = l
    · subst e; rw [hl] at hk; cases hk; rw [ho] at hu; cases hu
    · exact (World.putObj_heap_other e).trans hk⟩
theorem Side.setBox (B0 B : Nat) (W : World) (v : Value) : Side B0 B W (W.setCell ⟨B, 0, none⟩ v) :=
  ⟨rfl, rfl, rfl, by show W.heap.size ≤ (W.heap.modify _ _).size; rw [Array.size_modify]; exact Nat.le_refl _,
    fun k _ hne _ => Below.heap_setCell W ⟨B, 0, none⟩ v k hne, fun k o hne hk _ => (Below.heap_setCell W ⟨B, 0, none⟩ v k hne).trans hk⟩
theorem BoxIs.kept {B : Nat} {u : Value} {W W' : World} (h : BoxIs B u W) (hk : W'.heap[B]? = W.heap[B]?) : BoxIs B u W' :=
  ⟨by rw [World.cell?_of_block (w := W) (w' := W') (a := ⟨B, 0, none⟩) hk]; exact h.1, by rw [World.frozen?_of_block (w := W) (w' := W') (a := ⟨B, 0, none⟩) hk]; exact h.2⟩
theorem BoxIs.lt {B : Nat} {u : Value} {W : World} (h : BoxIs B u W) : B < W.heap.size := World.block_lt_of_cell? _ _ h.1

/-- THE ITERATOR's CONTRACT: it gives zs, one after another; its box held u0 when it was called. -/
def SeqBox (P : Program) (gf B : Nat) (u0 : Value) (zs : List Value) (T : World → Prop) : Prop :=
  ∀ (n l : Nat) (J Jx : Nat → World → Prop) (W : World), (∀ k W v, J k W → J k (W.setCell ⟨B, 0, none⟩ v)) → (∀ k W, J k W → T W) →
    (∀ k x W1, J k W1 → zs[k]? = some x → YieldAt Fence.wide (n - 1) P l #[x] W1 fun e W' =>
      (e = .returned (.bool true) ∧ J (k + 1) W' ∧ ∀ u, BoxIs B u W1 → BoxIs B u W') ∨ (e = .returned (.bool false) ∧ Jx (k + 1) W')) →
    J 0 W → BoxIs B u0 W →
    CallsIn Fence.wide n P gf #[.func (.yield l) #[] #[], .pointer (some ⟨B, 0, none⟩)] W fun e W' => (∃ v, e = .returned v) ∧ (J zs.length W' ∨ ∃ k, k < zs.length ∧ Jx (k + 1) W')

/-- How the body of a round may be left. -/
def boxPost (B : Nat) (I : Nat → World → Prop) (Ix : Code → Nat → World → Prop) (k : Nat) (W : World) : Exit → Act → World → Prop
  | .normal, _, W' => KeepsOthers W W' ∧ (∀ u, BoxIs B u W → BoxIs B u W') ∧ I k W'
  | .ret, _, W' => KeepsOthers W W' ∧ Ix .ret k W'
  | .exit id, _, W' => KeepsOthers W W' ∧ Ix (.exit id) k W'
  | .goto t, _, W' => KeepsOthers W W' ∧ Ix (.goto t) k W'
  | .panic _, _, _ => False
  | .outgrown, _, _ => False

theorem wp_rangeBox {P : Program} {n : Nat} {g : Operand} {ps : Array Tmp} {assign body : Code} {Q : Exit → Act → World → Prop} {a : Act} {w : World} {gf B : Nat} {u0 : Value} {zs : List Value} {T : World → Prop}
    (hg : a.eval g = .func (.func gf) #[] #[.pointer (some ⟨B, 0, none⟩)]) (eg : ∀ args w, (callFunc gf args).run P w = .ok (.enter gf args) w)
    (hseq : SeqBox P gf B u0 zs T) (hps : ps.size = 1) (hbox : BoxIs B u0 w)
    (I : Nat → World → Prop) (Ix : Code → Nat → World → Prop) (hI : ∀ k W W', I k W → Side w.heap.size B W W' → I k W') (hIx : ∀ c k W W', Ix c k W → Side w.heap.size B W W' → Ix c k W')
    (hT : ∀ k W, I k W → T W) (h0 : I 0 w) (a₁ : Value → Act)
    (hassign : ∀ (l : Nat) (x : Value) (W : World) (K : Act → World → Prop), K (a₁ x) W →
      assign.wpIn (Fence.wide.inRound l) (n - 1 - 1) P (Exit.then K (fun _ _ _ => False)) { tmps := (ps.zip #[x]).foldl (fun t (p, v) => t.setIfInBounds p v) a.tmps, defers := [] } W)
    (hbody : ∀ (l k : Nat) (x : Value) (W : World), I k W → zs[k]? = some x → B < W.heap.size → body.wpIn (Fence.wide.inRound l) (n - 1 - 1) P (boxPost B I Ix (k + 1) W) (a₁ x) W)
    (hdone : ∀ (D : Nat) (W : World), w.heap.size ≤ D → I zs.length W → W.heap[D]? = some (.deferred (some [])) → Q .normal { a with defers := { target := .collected D, args := #[] } :: a.defers } W)
    (hstop : ∀ (D : Nat) (c : Code) (k : Nat) (W : World), w.heap.size ≤ D → k < zs.length → Ix c (k + 1) W → W.heap[D]? = some (.deferred (some [])) → c.wpIn Fence.wide n P Q { a with defers := { target := .collected D, args := #[] } :: a.defers } W) :
    (Code.rangeFunc g ps assign body).wpIn Fence.wide n P Q a w := by
  refine wpIn_rangeFunc ?_
  intro fn hfn
  obtain ⟨rec, hrec⟩ : ∃ rec : LoopState → Option Code → Loop, rec = fun st pe => { state := st, pending := pe, fn, tmps := a.tmps, params := ps, assign, body, defers := w.heap.size } := ⟨_, rfl⟩
  obtain ⟨W1, hW1⟩ : ∃ W1, (w.alloc (.deferred (some []))).alloc (.loop (rec .ready none)) = W1 := ⟨_, rfl⟩
  have hBw := hbox.lt
  have hL1 : W1.heap[w.heap.size + 1]? = some (.loop (rec .ready none)) := by
    have := World.alloc_heap_new (w.alloc (.deferred (some []))) (.loop (rec .ready none))
    rwa [World.size_alloc, hW1] at this
  have hK1 : W1.heap[w.heap.size]? = some (.deferred (some [])) := by
    rw [← hW1]; exact (Below.heap_alloc _ _ _ (by simp)).trans (World.alloc_heap_new w _)
  have hI1 : I 0 W1 := by rw [← hW1]; exact hI _ _ _ (hI _ _ _ h0 (Side.alloc _ _ _ _)) (Side.alloc _ _ _ _)
  have hB1 : BoxIs B u0 W1 := by
    rw [← hW1]
    exact (hbox.kept (Below.heap_alloc _ _ _ hBw)).kept (Below.heap_alloc _ _ _ (by simp; omega))
  refine ⟨w.heap.size + 1, [{ target := .collected w.heap.size, args := #[] }], W1, { target := .fn (.func gf) #[.pointer (some ⟨B, 0, none⟩)], args := #[.func (.yield (w.heap.size + 1)) #[] #[]] }, W1, gf,
    #[.func (.yield (w.heap.size + 1)) #[] #[], .pointer (some ⟨B, 0, none⟩)], W1, ?_, ?_, fun _ _ => trivial, ?_, (fun h => by cases h), ?_⟩
  · rw [← hW1, hrec]; exact run_enterLoop_outer _ _ _ _ _
  · simp only [resolve, hg]
    simp [go_sem]
  · simp [invoke, go_sem, eg]
  have keepL : ∀ (W : World) (v : Value) (j : Nat) (o : Obj), W.heap[j]? = some o → o.isCells = false → (W.setCell ⟨B, 0, none⟩ v).heap[j]? = some o := fun W v j o hj ho =>
    (KeepsOthers.setCell W ⟨B, 0, none⟩ v).same j o hj ho
  refine (hseq (n - 1) (w.heap.size + 1)
    (fun k W => I k W ∧ W.heap[w.heap.size + 1]? = some (.loop (rec .ready none)) ∧ W.heap[w.heap.size]? = some (.deferred (some [])) ∧ B < W.heap.size)
    (fun k W => ∃ c, Ix c k W ∧ W.heap[w.heap.size + 1]? = some (.loop (rec .done (some c))) ∧ W.heap[w.heap.size]? = some (.deferred (some [])))
    W1 (fun k W v h => ⟨hI _ _ _ h.1 (Side.setBox _ _ _ _), keepL _ _ _ _ h.2.1 rfl, keepL _ _ _ _ h.2.2.1 rfl, Nat.lt_of_lt_of_le h.2.2.2 (Side.setBox 0 B W v).size⟩) (fun k W h => hT _ _ h.1) ?_ ⟨hI1, hL1, hK1, hB1.lt⟩ hB1).mono ?_
  · rintro k x W ⟨hi, hl, hk, hbW⟩ hx
    have hlt : w.heap.size + 1 < W.heap.size := (Array.getElem?_eq_some_iff.1 hl).1
    have hy := run_yield (P := P) (args := #[x]) hl (by rw [hrec]; exact hps.symm)
    rw [hrec] at hy
    refine ⟨fn, _, assign, body, hy, roundIn_of_wpIn hfn (hassign _ x W _ ⟨_, run_beginRound hl (by rw [hrec]), ?_⟩)⟩
    have hl2 : (W.putObj (w.heap.size + 1) (.loop { rec .ready none with state := .busy })).heap[w.heap.size + 1]? = some (.loop { rec .ready none with state := .busy }) := World.putObj_heap_same hlt
    have hk2 : (W.putObj (w.heap.size + 1) (.loop { rec .ready none with state := .busy })).heap[w.heap.size]? = some (.deferred (some [])) := (World.putObj_heap_other (by omega)).trans hk
    have hbx : ∀ u, BoxIs B u W → BoxIs B u (W.putObj (w.heap.size + 1) (.loop { rec .ready none with state := .busy })) := fun u h => h.kept (World.putObj_heap_other (by omega))
    refine wpIn_mono (hbody _ k x _ (hI _ _ _ hi (Side.putObj _ (by omega) hl rfl)) hx (by simpa using hbW)) ?_
    have fin : ∀ (jump : Option Code) (W3 : World), KeepsOthers (W.putObj (w.heap.size + 1) (.loop { rec .ready none with state := .busy })) W3 →
        (Instr.endRound (w.heap.size + 1) jump).run P W3 = .ok (.bool jump.isNone) (W3.putObj (w.heap.size + 1) (.loop (rec (if jump.isNone then .ready else .done) jump))) ∧
        W3.heap[w.heap.size + 1]? = some (.loop { rec .ready none with state := .busy }) ∧
        (W3.putObj (w.heap.size + 1) (.loop (rec (if jump.isNone then .ready else .done) jump))).heap[w.heap.size + 1]? = some (.loop (rec (if jump.isNone then .ready else .done) jump)) ∧
        (W3.putObj (w.heap.size + 1) (.loop (rec (if jump.isNone then .ready else .done) jump))).heap[w.heap.size]? = some (.deferred (some [])) := fun jump W3 hk3 => by
      have hl3 := hk3.same _ _ hl2 rfl
      have := run_endRound (P := P) jump hl3
      rw [hrec] at this ⊢
      exact ⟨this, by rw [hrec] at hl3; exact hl3, World.putObj_heap_same (Array.getElem?_eq_some_iff.1 hl3).1, (World.putObj_heap_other (by omega)).trans (hk3.same _ _ hk2 rfl)⟩
    rintro e a3 W3 hp
    cases e with
    | normal =>
      obtain ⟨hk3, hkp3, hi3⟩ := hp
      obtain ⟨hr, hl3, hl4, hk4⟩ := fin none W3 hk3
      refine ⟨_, _, hr, .inl ⟨rfl, ⟨hI _ _ _ hi3 (Side.putObj _ (by omega) hl3 rfl), hl4, hk4, ?_⟩, fun u hu => (hkp3 u (hbx u hu)).kept (World.putObj_heap_other (by omega))⟩⟩
      have := hk3.size
      simp at this ⊢
      omega
    | ret =>
      obtain ⟨hk3, hi3⟩ := hp
      obtain ⟨hr, hl3, hl4, hk4⟩ := fin (some .ret) W3 hk3
      exact ⟨_, _, hr, .inr ⟨rfl, .ret, hIx _ _ _ _ hi3 (Side.putObj _ (by omega) hl3 rfl), hl4, hk4⟩⟩
    | exit id =>
      obtain ⟨hk3, hi3⟩ := hp
      obtain ⟨hr, hl3, hl4, hk4⟩ := fin (some (.exit id)) W3 hk3
      exact ⟨_, _, hr, .inr ⟨rfl, .exit id, hIx _ _ _ _ hi3 (Side.putObj _ (by omega) hl3 rfl), hl4, hk4⟩⟩
    | goto t =>
      obtain ⟨hk3, hi3⟩ := hp
      obtain ⟨hr, hl3, hl4, hk4⟩ := fin (some (.goto t)) W3 hk3
      exact ⟨_, _, hr, .inr ⟨rfl, .goto t, hIx _ _ _ _ hi3 (Side.putObj _ (by omega) hl3 rfl), hl4, hk4⟩⟩
    | panic ch => exact hp.elim
    | outgrown => exact hp.elim
  · rintro e W2 ⟨⟨v, rfl⟩, (⟨hi, hl, hk, _⟩ | ⟨k, hkl, c, hi, hl, hk⟩)⟩
    · exact ⟨none, _, by have := run_endLoop (P := P) hl (by rw [hrec]; simp); rw [hrec] at this; exact this, hdone _ _ (Nat.le_refl _) (hI _ _ _ hi (Side.putObj _ (by omega) hl rfl)) ((World.putObj_heap_other (by omega)).trans hk)⟩
    · exact ⟨some c, _, by have := run_endLoop (P := P) hl (by rw [hrec]; simp); rw [hrec] at this; exact this, hstop _ c k _ (Nat.le_refl _) hkl (hIx _ _ _ _ hi (Side.putObj _ (by omega) hl rfl)) ((World.putObj_heap_other (by omega)).trans hk)⟩
end Go.Proofs.YteahiphmhaedpaaGreatDoor

namespace Go.Proofs.YteahiphmhaedpaaGreatDoor
open Go.RowKit Law Go.Shelf
set_option linter.unusedVariables false
set_option linter.unusedSimpArgs false
set_option maxRecDepth 100000
attribute [local go_sem] Oper.semAt_some

theorem nodesEach (s : Nat) (w : World) : Calls Tryz.prog 350 #[.int .u64 (s : Int)] w fun e w' =>
    e = .returned (.func (.func 393) #[] #[.pointer (some ⟨w.heap.size, 0, none⟩)]) ∧ w' = w.alloc (.cells #[.int .u64 (s : Int)] 69) := by
  go_enter Tryz.func350, Tryz.ntmps350
  go_wp2
  go_ret
  exact ⟨rfl, rfl⟩
/-- What is left in the box. -/
def inBox (B : Nat) (W : World) : Nat := match W.cell? ⟨B, 0, none⟩ with
  | some (.int _ z) => (els z.toNat).length
  | _ => 0
theorem inBox_eq {B : Nat} {W : World} {x : Nat} (h : W.cell? ⟨B, 0, none⟩ = some (.int .u64 (x : Int))) : inBox B W = (els x).length := by
  unfold inBox
  rw [h]
  simp
theorem eachSeq (B s : Nat) (hs : s < 18446744073709551616) : SeqBox Tryz.prog 393 B (.int .u64 (s : Int)) (intV (elsI s)) T64 := by
  intro n l J Jx W hset hT hY h0 hbox
  refine callsIn_of_wp Tryz.func393 rfl trivial ?_ rfl
  simp only [Tryz.ntmps393, List.size_toArray, List.length_cons, List.length_nil, Nat.reduceAdd, Nat.reduceSub, Array.replicate_succ, Array.replicate_zero, List.push_toArray, List.append_toArray, List.nil_append, List.cons_append]
  gi_wp2
  gi_loopw [3] (fun _ wr => ∃ (k x : Nat), x < 18446744073709551616 ∧ (elsI s).drop k = elsI x ∧ k ≤ (elsI s).length ∧ J k wr ∧ BoxIs B (.int .u64 (x : Int)) wr) (fun _ wr => inBox B wr)
  case atStart => exact ⟨0, s, hs, rfl, Nat.zero_le _, h0, hbox⟩
  case round =>
    obtain ⟨k, x, hx, hdr, hk, hJ, hb⟩ := hrel
    have hc := hb.1
    have hf := hb.2
    by_cases hx0 : x = 0
    · subst hx0
      obtain rfl : k = (elsI s).length := by
        have h2 : ((elsI s).drop k).length = 0 := by rw [hdr]; simp [elsI, els_zero]
        rw [List.length_drop] at h2
        omega
      have HK : Hid ((intV (elsI s)).length = (elsI s).length) := List.length_map ..
      gi_wp2
      go_end0
      exact ⟨⟨_, rfl⟩, .inl (by rw [HK.out]; exact hJ)⟩
    · have hx0' : ((x : Int) != 0) = true := by simp; omega
      have hxp : 1 ≤ x := by omega
      have hcons : (elsI s).drop k = (low x : Int) :: elsI (rest x) := by rw [hdr]; unfold elsI; rw [els_cons hx0 hx]; rfl
      have hat : (elsI s)[k]? = some (low x : Int) := by
        have h2 : ((elsI s).drop k)[0]? = some (low x : Int) := by rw [hcons]; rfl
        rw [List.getElem?_drop] at h2
        simpa using h2
      have hkl : k < (elsI s).length := (List.getElem?_eq_some_iff.1 hat).1
      have HD : Hid ((elsI s).drop (k + 1) = elsI (rest x)) := by
        unfold Hid
        rw [← List.tail_drop, hcons]
        rfl
      have HV : Hid ((intV (elsI s))[k]? = some (.int .i64 (low x : Int))) := by unfold Hid intV; rw [List.getElem?_map, hat]; rfl
      obtain ⟨fn, tmps, assign, body, hy, hR⟩ := hY k _ wr hJ HV.out
      have hsa := sub_and x hx0 hx
      have hrl := rest_lt (s := x) hx
      have HC := Lib.hid (nodesLeast x hx0 hx wr (hT _ _ hJ))
      have HX := Lib.hid hx0
      have HL := Lib.hid (els_rest_lt hx0 hx)
      have HKL : Hid (k < (intV (elsI s)).length) := by unfold Hid intV; rw [List.length_map]; exact hkl
      clear hx0 hcons hat hdr hY
      gi_wp2
      refine ⟨trivial, (fun h => by cases h), (callsIn_wide.2 HC.out).mono ?_⟩
      rintro e w' ⟨rfl, rfl⟩
      gi_wp2
      refine ⟨(fun h => by cases h), hR.mono ?_⟩
      rintro e W3 (⟨rfl, hJ3, hk3⟩ | ⟨rfl, hJx3⟩)
      · have hb3 := hk3 _ hb
        have hc3 := hb3.1
        have hf3 := hb3.2
        gi_wp2
        go_roundw
        case rel =>
          exact ⟨k + 1, rest x, hrl, HD.out, by omega, hset _ _ _ hJ3, by rw [World.cell?_setCell_same' _ _ _ (by rw [hc3]; rfl)], by rw [World.frozen?_setCell]; exact hf3⟩
        case measure =>
          rw [inBox_eq hc, inBox_eq (x := rest x) (World.cell?_setCell_same' _ _ _ (by rw [hc3]; rfl))]
          exact HL.out
      · gi_wp2
        refine bodyPost_ret (results_none rfl _ _ _) rfl ?_
        exact ⟨⟨_, rfl⟩, .inr ⟨k, HKL.out, hJx3⟩⟩

theorem Side.below {N B0 B : Nat} {w W W' : World} (h : Side B0 B W W') (hN : N ≤ B0) (hNB : N ≤ B) (hb : Below N w W) (hW : N ≤ W.heap.size) : Below N w W' :=
  ⟨h.os.trans hb.os, h.tape.trans hb.tape, h.output.trans hb.output, Nat.le_trans hb.size h.size, fun k hk => (h.low k (by omega) (by omega) (by omega)).trans (hb.block k hk)⟩
theorem Side.row {B0 B base size n : Nat} {e : TypeId} {v : Value} {xs : List Value} {W W' : World} (h : Side B0 B W W') (hB : B < base) (hown : W.ownsRow base e size v n xs) : W'.ownsRow base e size v n xs := by
  refine ⟨hown.1, ?_⟩
  rcases hown.2 with hn | ⟨g, cap, cur, hv, hg, hc, rest⟩
  · exact .inl hn
  · exact .inr ⟨g, cap, cur, hv, hg, h.cells g _ (by omega) hc rfl, rest⟩
theorem Side.cell {B0 B b : Nat} {u : Value} {W W' : World} (h : Side B0 B W W') (hne : b ≠ B) (hb : b < B0) (hx : BoxIs b u W) : BoxIs b u W' :=
  hx.kept (h.low b hx.lt hne hb)

/-- 'out = append(out, ..)' where out lies in a box: behind the append and the store. -/
theorem box_append {W w1 : World} {base b : Nat} {e : TypeId} {size : Nat} {v v' : Value} {k m : Nat} {xs ys : List Value} {tmp : Obj}
    (hb : b < base) (hbx : BoxIs b v W) (hown : W.ownsRow base e size v k xs) (hbase : base ≤ W.heap.size) (hown' : w1.ownsRow base e size v' m ys) (hgrow : (W.alloc tmp).grownBy w1 v.ownBlock) :
    BoxIs b v w1 ∧ BoxIs b v' (w1.setCell ⟨b, 0, none⟩ v') ∧ (w1.setCell ⟨b, 0, none⟩ v').ownsRow base e size v' m ys ∧ KeepsOthers W (w1.setCell ⟨b, 0, none⟩ v') ∧
      (∀ B u, B < base → B ≠ b → BoxIs B u W → BoxIs B u (w1.setCell ⟨b, 0, none⟩ v')) ∧ (∀ N, N ≤ b → Below N W (w1.setCell ⟨b, 0, none⟩ v')) := by
  have hblk : ∀ j, j < base → w1.heap[j]? = W.heap[j]? := fun j hj => by
    rw [hgrow.block j (by simp; omega) (fun h => by have := (hown.lt j h.symm).1; omega)]
    exact Below.heap_alloc W tmp j (by omega)
  have h1 : BoxIs b v w1 := hbx.kept (hblk b hb)
  refine ⟨h1, ⟨?_, by rw [World.frozen?_setCell]; exact h1.2⟩, ?_, ?_, ?_, ?_⟩
  · exact World.cell?_setCell_same' _ _ _ (by rw [h1.1]; rfl)
  · refine hown'.kept (grownBy_setCell' w1 b v') ?_
    cases hv : v'.ownBlock with
    | none => exact .inl rfl
    | some g =>
      refine .inr fun h => ?_
      have := (hown'.lt g hv).1
      injection h
      omega
  · refine ((KeepsOthers.alloc W tmp).trans (KeepsOthers.of_grownBy hgrow fun j o ej hj => ?_)).trans (KeepsOthers.setCell _ _ _)
    rcases (hown.alloc tmp).2 with ⟨rfl, _⟩ | ⟨g, cap, cur, rfl, _, hgb, _⟩
    · simp [Value.ownBlock] at ej
    · obtain rfl : g = j := by simpa [Value.ownBlock] using ej
      rw [hgb] at hj; cases hj; rfl
  · intro B u hB hne hx
    exact (hx.kept (hblk B hB)).kept (Below.heap_setCell w1 ⟨b, 0, none⟩ v' B hne)
  · intro N hN
    refine (((Below.refl N W).alloc (by omega) tmp).grown hgrow (by simp; omega) fun j ej => ?_).setCell (p := ⟨b, 0, none⟩) hN v'
    have := (hown.lt j ej).1
    omega

/-! ### List -/
def ListI (w : World) (zs : List Int) (k : Nat) (W : World) : Prop :=
  ∃ v, BoxIs w.heap.size v W ∧ W.ownsRow (w.heap.size + 2) 3 1 v k (intV (zs.take k)) ∧ Below w.heap.size w W
set_option maxHeartbeats 1600000 in
theorem nodesList (s : Nat) (hs : s < 18446744073709551616) (w : World) (hTw : T64 w) :
    Calls Tryz.prog 287 #[.int .u64 (s : Int)] w fun e w' => ∃ v, e = .returned v ∧ w'.ownsRow w.heap.size 3 1 v (elsI s).length (intV (elsI s)) ∧ Below w.heap.size w w' := by
  obtain ⟨i0, hi, hz0, hz1, hz2⟩ := info_parts intInfo
  have hel := elsI_len s
  refine (callsIn_wide (n := 9)).1 ?_
  refine callsIn_of_wp_marks Tryz.func287 rfl trivial ?_ rfl
  simp only [Tryz.ntmps287, List.size_toArray, List.length_cons, List.length_nil, Nat.reduceAdd, Nat.reduceSub, Array.replicate_succ, Array.replicate_zero, List.push_toArray, List.append_toArray, List.nil_append, List.cons_append]
  gi_wp2
  refine ⟨trivial, (callsIn_wide.2 (nodesEach s _)).mono ?_⟩
  rintro e w' ⟨rfl, hw'⟩
  have hsz : w'.heap.size = w.heap.size + 2 := by rw [hw']; simp
  have hbw : Below w.heap.size w w' := by rw [hw']; exact ((Below.refl _ w).alloc (Nat.le_refl _) _).alloc (by simp) _
  have hbox : BoxIs (w.heap.size + 1) (.int .u64 (s : Int)) w' := by rw [hw']; exact ⟨by simp, by simp⟩
  have hbx0 : BoxIs w.heap.size (.slice none 0 0) w' := by rw [hw']; exact ⟨by simp, by simp⟩
  clear hw'
  gi_wp2
  refine wp_rangeBox (gf := 393) (B := w.heap.size + 1) (u0 := .int .u64 (s : Int)) (zs := intV (elsI s)) (T := T64) (by simp [Act.eval, World.size_alloc]) (enters_of Tryz.func393 (by kernel_rfl) rfl) (eachSeq _ s hs) rfl hbox
    (ListI w (elsI s)) (fun _ _ _ => False) ?hI (fun _ _ _ _ h _ => h.elim) ?hT ?h0
    (fun x => { tmps := #[.int .u64 (s : Int), undef, .slice none 0 0, .pointer (some ⟨w.heap.size, 0, none⟩), x, .int .u64 (s : Int), .func (.func 393) #[] #[.pointer (some ⟨w.heap.size + 1, 0, none⟩)], x, undef, undef, undef, undef, undef], defers := [] }) ?assign ?body ?done (fun _ _ _ _ _ _ h => h.elim)
  case hI =>
    rintro k W W' ⟨v, h1, h2, h3⟩ hS
    exact ⟨v, hS.cell (by omega) (by omega) h1, hS.row (by omega) h2, hS.below (by omega) (by omega) h3 h3.size⟩
  case hT =>
    rintro k W ⟨v, h1, h2, h3⟩
    exact hTw.below h3
  case h0 => exact ⟨_, hbx0, World.ownsRow_nil _ _ _ _, hbw⟩
  case assign =>
    intro l x W K hK
    simp only [World.size_alloc]
    gi_wp2
    exact hK
  case body =>
    rintro l k x W ⟨v, hbx, hown, hb⟩ hx hlt
    have hc := hbx.1
    have hf := hbx.2
    have hk : k < (elsI s).length := by
      have := (List.getElem?_eq_some_iff.1 hx).1
      simpa using this
    obtain rfl : x = .int .i64 (elsI s)[k] := by
      rw [List.getElem?_map, List.getElem?_eq_getElem hk] at hx
      exact (Option.some.inj hx).symm
    have HS : Hid (intV ((elsI s).take (k + 1)) = intV ((elsI s).take k) ++ [.int .i64 (elsI s)[k]]) := by
      unfold Hid intV
      rw [List.take_succ_eq_append_getElem hk, List.map_append]
      rfl
    have hbs := hb.size
    gi_wp2_with (gi_at_builtin; refine wpListIn_append_own _ rfl _ _ 272 rfl (w.heap.size + 2) 3 i0 (.int .i64 0) 1 8 Tryz.underlying272 hi hz0 hz1 hz2 rfl (by decide) _ _ _ rfl (hown.alloc _) ⟨W.heap.size, 0, none⟩ 1 1 [.int .i64 (elsI s)[k]] rfl rfl ?c1 ?c2 ?c3 ?c4 ?c5 ?_)
    case c1 =>
      intro j u hj
      match j, hj with
      | 0, hj => simp at hj; subst hj; simp [Addr.add]
    case c2 => intro u hu; simp at hu; subst hu; rfl
    case c3 => unfold maxLen; omega
    case c4 => omega
    case c5 => simp; omega
    intro v' w1 hown' hgrow _
    obtain ⟨g', cap', rfl⟩ := ownsRow_succ hown'
    obtain ⟨q1, q2, q3, q4, q5, q6⟩ := box_append (by omega) hbx hown (by omega) hown' hgrow
    have hc1 := q1.1
    have hf1 := q1.2
    have HQ := Lib.hid (And.intro q2 (And.intro q3 (And.intro q4 (And.intro q5 q6))))
    clear q1 q2 q3 q4 q5 q6 hgrow hown'
    gi_wp2
    obtain ⟨q2, q3, q4, q5, q6⟩ := HQ.out
    exact ⟨q4, fun u hu => q5 _ u (by omega) (by omega) hu, _, q2, by rw [HS.out]; unfold intV; rw [List.map_take]; exact q3, hb.trans (q6 _ (Nat.le_refl _))⟩
  case done =>
    rintro D W hD ⟨v, hbx, hown, hb⟩ hK
    have hc := hbx.1
    have HT : Hid ((elsI s).take (intV (elsI s)).length = elsI s) := List.take_of_length_le (by simp [intV])
    have HL : Hid ((intV (elsI s)).length = (elsI s).length) := List.length_map ..
    rw [HT.out, HL.out] at hown
    gi_wp2
    refine ⟨by simp, .inl ⟨_, _, rfl, run_takeDeferred hK, ?_⟩⟩
    exact ⟨_, results_tmp rfl _ _ _, _, rfl, ownsRow_base (ownsRow_putObj hown _ hK rfl) (by omega), hb.trans (belowK_b (w := w) (Nat.le_refl _) W D _ _ (by omega) hK rfl rfl)⟩
end Go.Proofs.YteahiphmhaedpaaGreatDoor

namespace Go.Proofs.YteahiphmhaedpaaGreatDoor
open Go
set_option linter.unusedVariables false
set_option linter.unusedSimpArgs false

theorem els_sorted (s : Nat) : (els s).Pairwise (· < ·) := by
  unfold els
  exact List.Pairwise.filter _ List.pairwise_lt_range
theorem els_nodup (s : Nat) : (els s).Nodup := (els_sorted s).imp (fun h => Nat.ne_of_lt h)
theorem filter_mem_take : ∀ (k : Nat) (l : List Nat), l.Nodup → l.filter (fun i => (l.take k).contains i) = l.take k
  | 0, l, _ => by simp
  | k + 1, [], _ => rfl
  | k + 1, a :: l, h => by
    have h2 := List.nodup_cons.1 h
    have ih := filter_mem_take k l h2.2
    rw [List.take_succ_cons, List.filter_cons]
    have e : (a :: l.take k).contains a = true := by simp
    rw [e, if_pos rfl]
    congr 1
    have e2 : ∀ i ∈ l, (a :: l.take k).contains i = (l.take k).contains i := by
      intro i hi
      have : i ≠ a := fun h => h2.1 (h ▸ hi)
      simp [this]
    exact (List.filter_congr e2).trans ih
theorem filter_mem_drop : ∀ (k : Nat) (l : List Nat), l.Nodup → l.filter (fun i => !(l.take k).contains i) = l.drop k
  | 0, l, _ => by simp
  | k + 1, [], _ => rfl
  | k + 1, a :: l, h => by
    have h2 := List.nodup_cons.1 h
    have ih := filter_mem_drop k l h2.2
    rw [List.take_succ_cons, List.filter_cons]
    have e : (a :: l.take k).contains a = true := by simp
    rw [e, List.drop_succ_cons]
    have e2 : ∀ i ∈ l, (!(a :: l.take k).contains i) = (!(l.take k).contains i) := by
      intro i hi
      have : i ≠ a := fun h => h2.1 (h ▸ hi)
      simp [this]
    simp only [Bool.not_true, Bool.false_eq_true, if_false]
    exact (List.filter_congr e2).trans ih
/-- The first ones. -/
theorem els_first {s : Nat} (hs : s < 2 ^ 64) (k : Nat) : els (firstN k s 0) = (els s).take k := by
  have h1 : els (firstN k s 0) = (els s).filter fun i => ((els s).take k).contains i := by
    unfold els
    rw [List.filter_filter]
    apply List.filter_congr
    intro j hj
    rw [testBit_firstN k s 0 j hs (List.mem_range.1 hj), Nat.zero_testBit, Bool.false_or]
    rw [Bool.eq_iff_iff, Bool.and_eq_true]
    constructor
    · intro h
      exact ⟨h, (mem_els.1 (List.mem_of_mem_take (List.contains_iff_mem.1 h))).2⟩
    · exact fun h => h.1
  rw [h1, filter_mem_take k _ (els_nodup s)]
/-- The others. -/
def restN (k s : Nat) : Nat := s ^^^ (s &&& firstN k s 0)
theorem restN_lt {s : Nat} (hs : s < 2 ^ 64) (k : Nat) : restN k s < 2 ^ 64 := andNot_lt hs
theorem els_others {s : Nat} (hs : s < 2 ^ 64) (k : Nat) : els (restN k s) = (els s).drop k := by
  have h1 : els (restN k s) = (els s).filter fun i => !((els s).take k).contains i := by
    unfold els
    rw [List.filter_filter]
    apply List.filter_congr
    intro j hj
    unfold restN
    rw [Nat.testBit_xor, Nat.testBit_and, testBit_firstN k s 0 j hs (List.mem_range.1 hj), Nat.zero_testBit, Bool.false_or]
    show (s.testBit j ^^ (s.testBit j && ((els s).take k).contains j)) = (!((els s).take k).contains j && s.testBit j)
    cases s.testBit j <;> cases ((els s).take k).contains j <;> rfl
  rw [h1, filter_mem_drop k _ (els_nodup s)]
theorem first_in {s : Nat} (hs : s < 2 ^ 64) (k : Nat) : firstN k s 0 ^^^ (firstN k s 0 &&& s) = 0 := by
  refine eq_of_bits (andNot_lt (firstN_lt k s 0 hs (Nat.two_pow_pos 64))) (Nat.two_pow_pos 64) fun j hj => ?_
  rw [Nat.testBit_xor, Nat.testBit_and, testBit_firstN k s 0 j hs hj, Nat.zero_testBit, Bool.false_or]
  cases h : ((els s).take k).contains j
  · rfl
  · have := (mem_els.1 (List.mem_of_mem_take (List.contains_iff_mem.1 h))).2
    rw [this]
    rfl
theorem first_count {s : Nat} (hs : s < 2 ^ 64) (k : Nat) : (els (firstN k s 0)).length = min k (els s).length := by
  rw [els_first hs, List.length_take]
/-- None that is left is below one of the first ones. -/
theorem first_below {s : Nat} (hs : s < 2 ^ 64) (k : Nat) (h0 : restN k s ≠ 0) : belowN (firstN k s 0) (low (restN k s) : Int) = (els (firstN k s 0)).length := by
  unfold belowN elsI
  rw [List.filter_map, List.length_map, els_first hs]
  have hp := els_sorted s
  have hd := els_others hs k
  rw [els_cons h0 (restN_lt hs k)] at hd
  have hta : (els s).take k ++ (els s).drop k = els s := List.take_append_drop _ _
  rw [← hta, List.pairwise_append] at hp
  have hall : ((els s).take k).filter ((fun z : Int => decide (z < (low (restN k s) : Int))) ∘ Int.ofNat) = (els s).take k := by
    rw [List.filter_eq_self]
    intro a ha
    have := hp.2.2 a ha (low (restN k s)) (by rw [← hd]; simp)
    show decide ((a : Int) < (low (restN k s) : Int)) = true
    rw [decide_eq_true_eq]
    omega
  rw [hall]

/-! ### with one, and without it -/
theorem inL_one (k : Int) (j : Nat) : inL [k] j = (k == (j : Int)) := by simp [inL]
theorem back_one {s : Nat} (hs : s < 2 ^ 64) (k : Int) : withoutN (withN s [k]) [k] = withoutN s [k] :=
  eq_of_bits (withoutN_lt _ _ (withN_lt _ _ hs)) (withoutN_lt _ _ hs) fun j hj => by
    rw [testBit_withoutN _ _ j hj, testBit_withN _ _ j hj, testBit_withoutN _ _ j hj, inL_one]
    cases s.testBit j <;> cases (k == (j : Int)) <;> rfl
theorem back_has (s : Nat) (k : Nat) (hk : k < 64) : (withN s [(k : Int)]).testBit k = true := by
  rw [testBit_withN _ _ k hk, inL_one]
  simp
theorem back_not (s : Nat) (k : Nat) (hk : k < 64) : (withoutN s [(k : Int)]).testBit k = false := by
  rw [testBit_withoutN _ _ k hk, inL_one]
  simp
end Go.Proofs.YteahiphmhaedpaaGreatDoor

namespace Go.Proofs.YteahiphmhaedpaaGreatDoor
set_option linter.unusedVariables false
set_option linter.unusedSimpArgs false

/-- Is there a link between two nodes? -/
def adjB (L : List (Int × Int)) (a b : Int) : Bool := L.any fun l => (l.1 == a && l.2 == b) || (l.1 == b && l.2 == a)
theorem adjB_symm (L : List (Int × Int)) (a b : Int) : adjB L a b = adjB L b a := by
  unfold adjB
  congr 1
  funext l
  rw [Bool.or_comm]
theorem adjB_snoc (L : List (Int × Int)) (x : Int × Int) (a b : Int) : adjB (L ++ [x]) a b = (adjB L a b || ((x.1 == a && x.2 == b) || (x.1 == b && x.2 == a))) := by
  unfold adjB
  rw [List.any_append]
  simp
/-- What is reached from a node, going over nodes that are there. -/
inductive Rch (P : Nat → Prop) (E : Nat → Nat → Prop) (i : Nat) : Nat → Prop where
  | base : P i → Rch P E i i
  | step {j k : Nat} : Rch P E i j → E j k → P k → Rch P E i k
section
variable {P : Nat → Prop} {E : Nat → Nat → Prop} {i j k : Nat}
theorem Rch.here (h : Rch P E i j) : P i ∧ P j := by
  induction h with
  | base h => exact ⟨h, h⟩
  | step _ _ hk ih => exact ⟨ih.1, hk⟩
theorem Rch.trans (h : Rch P E i j) (h2 : Rch P E j k) : Rch P E i k := by
  induction h2 with
  | base _ => exact h
  | step _ he hk ih => exact .step ih he hk
theorem Rch.symm (hE : ∀ a b, E a b → E b a) (h : Rch P E i j) : Rch P E j i := by
  induction h with
  | base h => exact .base h
  | step hj he hk ih => exact (Rch.step (.base hk) (hE _ _ he) hj.here.2).trans ih
/-- A set that is closed holds all that is reached from one in it. -/
theorem Rch.closed {S : Nat → Prop} (h : Rch P E i j) (hi : S i) (hc : ∀ a b, S a → E a b → P b → S b) : S j := by
  induction h with
  | base _ => exact hi
  | step _ he hk ih => exact hc _ _ ih he hk
end
/-- The graph without some nodes is whole. -/
def Conn (P : Nat → Prop) (E : Nat → Nat → Prop) : Prop := (∃ j, P j) ∧ ∀ i j, P i → P j → Rch P E i j
theorem conn_of_one {P : Nat → Prop} {E : Nat → Nat → Prop} (hE : ∀ a b, E a b → E b a) {i : Nat} (hi : P i) (h : ∀ j, P j → Rch P E i j) : Conn P E :=
  ⟨⟨i, hi⟩, fun a b ha hb => ((h a ha).symm hE).trans (h b hb)⟩

/-! ### rings -/
def andNot (a b : Nat) : Nat := a ^^^ (a &&& b)
theorem testBit_andNot (a b k : Nat) : (andNot a b).testBit k = (a.testBit k && !b.testBit k) := by
  unfold andNot
  rw [Nat.testBit_xor, Nat.testBit_and]
  cases a.testBit k <;> cases b.testBit k <;> rfl
/-- All that the nodes of a set are linked with. -/
def nearsN (near : Nat → Nat) (s : Nat) : List Nat → Nat
  | [] => s
  | i :: r => nearsN near (s ||| near i) r
theorem testBit_nears (near : Nat → Nat) (k : Nat) : ∀ (l : List Nat) (s : Nat), (nearsN near s l).testBit k = (s.testBit k || l.any fun i => (near i).testBit k)
  | [], s => by simp [nearsN]
  | i :: r, s => by
    unfold nearsN
    rw [testBit_nears near k r, Nat.testBit_or, List.any_cons, Bool.or_assoc]
theorem nears_snoc (near : Nat → Nat) : ∀ (l : List Nat) (s i : Nat), nearsN near s (l ++ [i]) = nearsN near s l ||| near i
  | [], s, i => rfl
  | x :: r, s, i => nears_snoc near r (s ||| near x) i
def growN (near : Nat → Nat) (s off : Nat) : Nat := andNot (nearsN near s (els s)) off
def unionL (l : List Nat) : Nat := l.foldl (· ||| ·) 0
theorem unionL_snoc (l : List Nat) (x : Nat) : unionL (l ++ [x]) = unionL l ||| x := by
  unfold unionL; rw [List.foldl_append]; rfl
theorem or_lt64 {a b : Nat} (ha : a < 18446744073709551616) (hb : b < 18446744073709551616) : a ||| b < 18446744073709551616 := by
  have := @or_lt a b ha hb
  exact this
theorem andNot_lt64 {a b : Nat} (ha : a < 18446744073709551616) : andNot a b < 18446744073709551616 := by
  have := @andNot_lt a b ha
  exact this
theorem nears_lt {near : Nat → Nat} (hn : ∀ i, near i < 18446744073709551616) : ∀ (l : List Nat) (s : Nat), s < 18446744073709551616 → nearsN near s l < 18446744073709551616
  | [], s, h => h
  | i :: r, s, h => nears_lt hn r _ (or_lt64 h (hn i))
/-- How the nodes stand while the rings are found: all that came, the last ring. -/
structure RingI (P : Nat → Prop) (E : Nat → Nat → Prop) (i : Nat) (all ring : Nat) : Prop where
  lt1 : all < 18446744073709551616
  lt2 : ring < 18446744073709551616
  sub : ∀ k, k < 64 → (all.testBit k = true ∨ ring.testBit k = true) → Rch P E i k
  apart : ∀ k, k < 64 → ring.testBit k = true → all.testBit k = false
  front : ∀ j k, j < 64 → k < 64 → all.testBit j = true → E j k → P k → all.testBit k = true ∨ ring.testBit k = true
  start : i < 64 → P i → all.testBit i = true ∨ ring.testBit i = true
section
variable {P : Nat → Prop} {E : Nat → Nat → Prop} {i : Nat} {near : Nat → Nat} {off : Nat}
theorem RingI.next (hP : ∀ k, P k → k < 64) (hE : ∀ j k, j < 64 → k < 64 → ((near j).testBit k = true ↔ E j k)) (hn : ∀ j, near j < 18446744073709551616)
    (hoff : ∀ j k, j < 64 → k < 64 → E j k → (off.testBit k = false ↔ P k)) (hoff2 : ∀ k, k < 64 → P k → off.testBit k = false) {all ring : Nat} (h : RingI P E i all ring) : RingI P E i (all ||| ring) (andNot (growN near ring off) (all ||| ring)) := by
  have hb : ∀ k, (andNot (growN near ring off) (all ||| ring)).testBit k = (((ring.testBit k || (els ring).any fun i => (near i).testBit k) && !off.testBit k) && !(all.testBit k || ring.testBit k)) := fun k => by
    unfold growN
    rw [testBit_andNot, testBit_andNot, testBit_nears, Nat.testBit_or]
  refine ⟨or_lt64 h.lt1 h.lt2, andNot_lt64 (by unfold growN; exact andNot_lt64 (nears_lt hn _ _ h.lt2)), fun k hk hor => ?_, fun k hk hr => ?_, fun j k hj hk ha he hp => ?_, fun hi hp => ?_⟩
  · rw [Nat.testBit_or, hb k] at hor
    rcases hor with hor | hor
    · exact h.sub k hk (by simpa using hor)
    · simp only [Bool.and_eq_true, Bool.or_eq_true, Bool.not_eq_true'] at hor
      obtain ⟨⟨h1, h2⟩, h3⟩ := hor
      rcases h1 with h1 | h1
      · exact h.sub k hk (.inr h1)
      · obtain ⟨j, hj, hjk⟩ := List.any_eq_true.1 h1
        obtain ⟨hj64, hjr⟩ := mem_els.1 hj
        have he := (hE j k hj64 hk).1 hjk
        exact .step (h.sub j hj64 (.inr hjr)) he ((hoff j k hj64 hk he).1 h2)
  · rw [hb k] at hr
    simp only [Bool.and_eq_true, Bool.not_eq_true'] at hr
    rw [Nat.testBit_or]; exact hr.2
  · rw [Nat.testBit_or, hb k]
    rw [Nat.testBit_or] at ha
    simp only [Bool.or_eq_true] at ha ⊢
    rcases ha with ha | ha
    · exact .inl (h.front j k hj hk ha he hp)
    · by_cases hin : all.testBit k = true ∨ ring.testBit k = true
      · exact .inl hin
      · refine .inr ?_
        have h1 : ((els ring).any fun i => (near i).testBit k) = true := List.any_eq_true.2 ⟨j, mem_els.2 ⟨hj, ha⟩, (hE j k hj hk).2 he⟩
        have h2 := hoff2 k hk hp
        have h3 : all.testBit k = false := by simpa using fun e => hin (.inl e)
        have h4 : ring.testBit k = false := by simpa using fun e => hin (.inr e)
        rw [h1, h2, h3, h4]; rfl
  · rw [Nat.testBit_or, hb i]
    refine .inl ?_
    simpa using h.start hi hp
theorem RingI.done (hP : ∀ k, P k → k < 64) {all : Nat} (h : RingI P E i all 0) (k : Nat) (hk : k < 64) : all.testBit k = true ↔ Rch P E i k := by
  refine ⟨fun hb => h.sub k hk (.inl hb), fun hr => ?_⟩
  have h0 : ∀ x, (0 : Nat).testBit x = false := fun x => Nat.zero_testBit x
  have hi := hr.here.1
  have hs : all.testBit i = true := by
    rcases h.start (hP i hi) hi with e | e
    · exact e
    · rw [h0] at e; cases e
  refine (Rch.closed (S := fun x => x < 64 ∧ all.testBit x = true) hr ⟨hP i hi, hs⟩ (fun a b ha he hb => ?_)).2
  refine ⟨hP b hb, ?_⟩
  rcases h.front a b ha.1 (hP b hb) ha.2 he hb with e | e
  · exact e
  · rw [h0] at e; cases e
end
/-- A ring that is not empty makes the set of all greater. -/
theorem els_or_lt {a r : Nat} (hr0 : r ≠ 0) (hr : r < 18446744073709551616) (ha : ∀ k, k < 64 → r.testBit k = true → a.testBit k = false) : (els a).length < (els (a ||| r)).length := by
  have hsub : els (a ||| r) = (List.range 64).filter (fun k => a.testBit k || r.testBit k) := by
    unfold els
    apply List.filter_congr
    intro k _
    rw [Nat.testBit_or]
  obtain ⟨k, hk⟩ : ∃ k, k ∈ els r := by
    cases h : els r with
    | nil =>
      have e := els_ofP (s := r) hr
      rw [h] at e
      have : ofP (fun i => ([] : List Nat).contains i) 64 = 0 := by decide +kernel
      rw [this] at e
      exact absurd e.symm hr0
    | cons x l => exact ⟨x, by simp⟩
  obtain ⟨hk64, hkr⟩ := mem_els.1 hk
  have hlen : ∀ l : List Nat, (∀ x ∈ l, x < 64) → (l.filter a.testBit).length + (l.filter r.testBit).length = (l.filter (fun k => a.testBit k || r.testBit k)).length := by
    intro l
    induction l with
    | nil => intro _; rfl
    | cons x l ih =>
      intro hl
      have hx := hl x (by simp)
      have hi := ih (fun y hy => hl y (by simp [hy]))
      have hax := ha x hx
      cases h1 : a.testBit x <;> cases h2 : r.testBit x
      · simp [h1, h2]; exact hi
      · simp [h1, h2]; omega
      · simp [h1, h2]; omega
      · rw [hax h2] at h1; cases h1
  have h1 := hlen (List.range 64) (fun x hx => by simpa using hx)
  have h2 : 0 < ((List.range 64).filter r.testBit).length := List.length_pos_of_mem hk
  rw [hsub]
  show ((List.range 64).filter a.testBit).length < _
  omega
end Go.Proofs.YteahiphmhaedpaaGreatDoor

namespace Go.Proofs.YteahiphmhaedpaaGreatDoor
open Go
set_option linter.unusedVariables false
set_option linter.unusedSimpArgs false
def eqElems (d : Nat) (e : TypeId) (n : Nat) (xs ys : Array Value) : List Nat → Sem Bool
  | [] => pure true
  | i :: r => do
    let a ← part e xs (i * n)
    let b ← part e ys (i * n)
    let q ← Op.equalIn d e a b
    if (!q) = true then pure false else eqElems d e n xs ys r
theorem run_equalIn_array {P : Program} (w : World) (d : Nat) (t : TypeId) (len : Nat) (e : TypeId) (n : Nat) (xs ys : Array Value) (ht : P.underlying t = some (.array len e)) (hz : (sizeOf e).run P w = .ok n w) :
    (Op.equalIn (d + 1) t (.agg xs) (.agg ys)).run P w = (eqElems d e n xs ys (List.range' 0 len)).run P w := by
  simp only [Op.equalIn, Sem.run_bind, run_underlying ht, Result.andThen_ok, hz]
  rw [Std.Legacy.Range.forIn_eq_forIn_range']
  simp only [Std.Legacy.Range.size, Nat.sub_zero, Nat.add_sub_cancel, Nat.div_one]
  generalize List.range' 0 len = l
  clear ht hz
  induction l generalizing w with
  | nil => simp [eqElems]
  | cons i l ih =>
    simp only [List.forIn_cons, eqElems, Sem.run_bind]
    generalize (part e xs (i * n)).run P w = r1
    cases r1 with
    | halt x w1 => simp [Result.andThen]
    | ok a w1 =>
      simp only [Result.andThen_ok]
      generalize (part e ys (i * n)).run P w1 = r2
      cases r2 with
      | halt x w2 => simp [Result.andThen]
      | ok b w2 =>
        simp only [Result.andThen_ok]
        generalize (Op.equalIn d e a b).run P w2 = r3
        cases r3 with
        | halt x w3 => simp [Result.andThen]
        | ok q w3 =>
          cases q
          · simp only [Result.andThen_ok, Bool.not_false, if_true, Sem.run_pure]
          · simp only [Result.andThen_ok, Bool.not_true, Bool.false_eq_true, if_false, Sem.run_pure]
            exact ih w3
/-- Two arrays of integers of one kind: equal where their numbers are. -/
theorem run_eqElems_int {P : Program} (w : World) (d : Nat) (e : TypeId) (k : IntKind) (xs ys : Array Value) (hu : P.underlying e = some (.int k)) (ha : ∀ w, (isAgg e).run P w = .ok false w) :
    ∀ (l : List Nat) (zs us : Nat → Int), (∀ i ∈ l, xs[i]? = some (.int k (zs i)) ∧ ys[i]? = some (.int k (us i))) → (eqElems (d + 1) e 1 xs ys l).run P w = .ok (l.all fun i => zs i == us i) w
  | [], _, _, _ => by simp [eqElems]
  | i :: l, zs, us, h => by
    obtain ⟨h1, h2⟩ := h i (by simp)
    have ih := run_eqElems_int w d e k xs ys hu ha l zs us (fun j hj => h j (by simp [hj]))
    simp only [eqElems, Sem.run_bind, Nat.mul_one, part, ha, Result.andThen_ok, Bool.false_eq_true, if_false]
    simp only [h1, h2, Sem.run_pure, Result.andThen_ok, run_equalIn_int w d e k k _ _ hu, List.all_cons]
    by_cases hq : zs i = us i
    · rw [if_neg (by simp [hq]), ih]
      simp [hq]
    · rw [if_pos (by simp [hq])]
      simp [hq]
/-- == of two such arrays. -/
theorem run_eqArr {P : Program} (t : TypeId) (len : Nat) (e : TypeId) (k : IntKind) (ht : P.underlying t = some (.array len e)) (hu : P.underlying e = some (.int k)) (ha : ∀ w, (isAgg e).run P w = .ok false w) (hz : ∀ w, (sizeOf e).run P w = .ok 1 w)
    (zs us : List Int) (h1 : zs.length = len) (h2 : us.length = len) (w : World) (d : Nat) : (Op.equalIn (d + 2) t (.agg (zs.map (Value.int k)).toArray) (.agg (us.map (Value.int k)).toArray)).run P w = .ok (zs == us) w := by
  rw [run_equalIn_array w (d + 1) t len e 1 _ _ ht (hz w), run_eqElems_int w d e k _ _ hu ha _ (fun i => zs.getD i 0) (fun i => us.getD i 0)]
  · congr 1
    rw [Bool.eq_iff_iff, List.all_eq_true, beq_iff_eq]
    constructor
    · intro h
      apply List.ext_getElem (by omega)
      intro i hi hi'
      have := h i (by simp; omega)
      simpa [List.getD, hi, hi'] using this
    · rintro rfl i _
      simp
  · intro i hi
    have hi' : i < len := by simpa using hi
    simp [List.getD, h1, h2, hi']
end Go.Proofs.YteahiphmhaedpaaGreatDoor

namespace Go.Proofs.YteahiphmhaedpaaGreatDoor
open Go
set_option linter.unusedVariables false
set_option linter.unusedSimpArgs false

section
variable {P : Program} {ops : Array Oper} {Q : Exit → Act → World → Prop} {md : Region.Mode} {S : World → Prop}
def wpAnyT (P : Program) (md : Region.Mode) (ops : Array Oper) (Q : Exit → Act → World → Prop) (S : World → Prop) (n : Nat) (L : Array Bool → Act → World → Prop) : Nat → Array Bool → Act → World → Prop
  | 0, listed, a, w => L listed a w
  | f + 1, listed, a, w => Region.ready md ops listed ≠ [] ∧ ∀ i ∈ Region.ready md ops listed, i < n ∧ wpOp P ops Q i (fun a' w' => S w' ∧ wpAnyT P md ops Q S n L f (listed.setIfInBounds i true) a' w') a w
theorem wpAny_of_T {n g : Nat} {L : Array Bool → Act → World → Prop} (hL : ∀ listed a w, L listed a w → wpAny P md ops Q g listed a w) :
    ∀ (f : Nat) (listed : Array Bool) (a : Act) (w : World), wpAnyT P md ops Q S n L f listed a w → wpAny P md ops Q (f + g) listed a w
  | 0, listed, a, w, h => by rw [Nat.zero_add]; exact hL _ _ _ h
  | f + 1, listed, a, w, h => by
    rw [show f + 1 + g = (f + g) + 1 by omega]
    exact ⟨fun h0 => absurd h0 h.1, fun i hi => wpOp_mono (fun a' w' h' => wpAny_of_T hL f _ a' w' h'.2) (h.2 i hi).2⟩
theorem wpAnyT_first {n i : Nat} {oi : Oper} {v : Value} {L : Array Bool → Act → World → Prop} (hi : ops[i]? = some oi) (hsel : ∀ (j : Nat) (o : Oper) cs b, ops[j]? = some o → o.op ≠ .select cs b)
    (hQ : ∀ c a w, Q (.panic c) (a.put oi.dst v) w → Q (.panic c) a w)
    (hs : Region.sinkB md ops n = true) (hc : Region.chainB md ops n = true) (hn : n < ops.size) (hin : i < n)
    (hdone : ∀ listed a w, L listed a w → ∀ j ∈ Region.ready md ops listed, n ≤ j) :
    ∀ (f : Nat) (listed : Array Bool) (a : Act) (w : World), HeadInv md ops n listed →
      (∀ j oj, ops[j]? = some oj → j ≠ i → listed.getD j true = false → (∀ e ∈ oj.after, Region.binds md e = true → e.on ≠ i) → oi.apart ops oj = true) →
      i ∈ Region.ready md ops listed → YieldsIf P ops S oi v a → S w →
      wpAnyT P md ops Q S n L f (listed.setIfInBounds i true) (a.put oi.dst v) w → wpAnyT P md ops Q S n L (f + 1) listed a w := by
  intro f
  induction f with
  | zero =>
    intro listed a w inv _ hr hy hS H
    have hun := (mem_ready.1 hr).1
    refine ⟨fun h => (by rw [h] at hr; cases hr), fun j hj => ?_⟩
    have hjn : j < n := by
      rcases Nat.lt_or_ge j n with h | h
      · exact h
      · exact absurd hj (tail_waits hs hc hn inv _ i rfl hin hun j h)
    refine ⟨hjn, ?_⟩
    by_cases hji : j = i
    · subst hji; exact hy.wpOp hi hS ⟨hS, H⟩
    · have := hdone _ _ _ H j (ready_mono hj hji)
      omega
  | succ f ih =>
    intro listed a w inv hfree hr hy hS H
    have hun := (mem_ready.1 hr).1
    refine ⟨fun h => (by rw [h] at hr; cases hr), fun j hj => ?_⟩
    have hjn : j < n := by
      rcases Nat.lt_or_ge j n with h | h
      · exact h
      · exact absurd hj (tail_waits hs hc hn inv _ i rfl hin hun j h)
    refine ⟨hjn, ?_⟩
    by_cases hji : j = i
    · subst hji; exact hy.wpOp hi hS ⟨hS, H⟩
    · have h1 := (H.2 j (ready_mono hj hji)).2
      obtain ⟨hjun, oj, hoj, hall⟩ := mem_ready.1 hj
      have hnot : ∀ e ∈ oj.after, Region.binds md e = true → e.on ≠ i := fun e he hb heq => by
        have h1 := hall e he hb
        rw [heq, getD_both hun] at h1
        cases h1
      have h2 := wpOp_putIf hoj (hfree j oj hoj hji hjun hnot) (fun cs b => hsel i oi cs b hi) (fun cs b => hsel j oj cs b hoj) hQ hy h1
      have hfree' : ∀ k ok, ops[k]? = some ok → k ≠ i → (listed.setIfInBounds j true).getD k true = false →
          (∀ e ∈ ok.after, Region.binds md e = true → e.on ≠ i) → oi.apart ops ok = true := fun k ok hk hki hun hno => by
        refine hfree k ok hk hki ?_ hno
        by_cases hjk : j = k
        · subst hjk; exact hjun
        · rw [getD_set_ne true hjk] at hun; exact hun
      refine wpOp_mono (fun a' w' h3 => ⟨h3.2.1, ih (listed.setIfInBounds j true) a' w' (inv.set hj hjn) hfree' (ready_mono hr (Ne.symm hji)) h3.1 h3.2.1 ?_⟩) h2
      rw [Array.setIfInBounds_comm _ _ hji]
      exact h3.2.2

/-- The operations that only read, one after another: each yields its value in every world that meets S. -/
def wpHead (P : Program) (ops : Array Oper) (S : World → Prop) (Lq : Act → Prop) : List Oper → Act → Prop
  | [], a => Lq a
  | o :: r, a => ∃ v, YieldsIf P ops S o v a ∧ wpHead P ops S Lq r (a.put o.dst v)
theorem wpHead_nil {Lq : Act → Prop} {a : Act} (h : Lq a) : wpHead P ops S Lq [] a := h
theorem wpHead_step {Lq : Act → Prop} {a : Act} {o : Oper} {r : List Oper} (v : Value) (hw : Region.wanted o (yielded ops a.tmps) = true) (hv : ∀ w, S w → (execOp a.eval o).run P w = .ok (.value v) w)
    (h : wpHead P ops S Lq r (a.put o.dst v)) : wpHead P ops S Lq (o :: r) a := ⟨v, .inl ⟨hw, hv⟩, h⟩
theorem wpHead_skip {Lq : Act → Prop} {a : Act} {o : Oper} {r : List Oper} (hw : Region.wanted o (yielded ops a.tmps) = false)
    (h : wpHead P ops S Lq r (a.put o.dst undef)) : wpHead P ops S Lq (o :: r) a := ⟨undef, .inr ⟨hw, rfl⟩, h⟩
/-- The middle ones, in one order, S shown anew behind each. -/
def wpMid (P : Program) (ops : Array Oper) (Q : Exit → Act → World → Prop) (S : World → Prop) (K : Act → World → Prop) : List Oper → Act → World → Prop
  | [], a, w => K a w
  | o :: r, a, w => Region.wanted o (yielded ops a.tmps) = true ∧ o.wp P a w (fun a' w' => S w' ∧ wpMid P ops Q S K r a' w') Q
theorem wpMid_nil {K : Act → World → Prop} {a : Act} {w : World} (h : K a w) : wpMid P ops Q S K [] a w := h
def midB (md : Region.Mode) (ops : Array Oper) (g : Nat) : Nat → Nat → Array Bool → Bool
  | 0, k, listed => Region.seqB md ops g k listed
  | c + 1, k, listed => decide (Region.ready md ops listed = [k]) && midB md ops g c (k + 1) (listed.setIfInBounds k true)
def headB (md : Region.Mode) (ops : Array Oper) (c g : Nat) : Nat → Nat → Array Bool → Bool
  | 0, k, listed => midB md ops g c k listed
  | h + 1, k, listed => (Region.ready md ops listed).contains k && (Region.free md ops listed k && headB md ops c g h (k + 1) (listed.setIfInBounds k true))
theorem wpAnyT_mid {n g : Nat} {K : Act → World → Prop} : ∀ (l : List Oper) (k : Nat) (listed : Array Bool) (a : Act) (w : World), (∀ j, j < l.length → l[j]? = ops[k + j]?) → k + l.length = n →
    midB md ops g l.length k listed = true → wpMid P ops Q S K l a w → wpAnyT P md ops Q S n (fun listed' a' w' => Region.seqB md ops g n listed' = true ∧ K a' w') l.length listed a w
  | [], k, listed, a, w, _, hk, hB, h => by
    have : k = n := by simpa using hk
    subst this
    exact ⟨hB, h⟩
  | o :: l, k, listed, a, w, hl, hk, hB, h => by
    have h0 : ops[k]? = some o := by simpa using (hl 0 (by simp)).symm
    simp only [List.length_cons, midB, Bool.and_eq_true, decide_eq_true_eq] at hB
    refine ⟨fun h1 => (by rw [hB.1] at h1; cases h1), fun i hi => ?_⟩
    rw [hB.1] at hi
    have hik : i = k := by simpa using hi
    subst hik
    refine ⟨by simp only [List.length_cons] at hk; omega, ?_⟩
    unfold wpOp
    simp only [h0]
    rw [if_pos h.1]
    refine .inl (Oper.wp_mono (fun a' w' h' => ⟨h'.1, ?_⟩) h.2)
    exact wpAnyT_mid l (i + 1) _ a' w' (fun j hj => by have := hl (j + 1) (by simp; omega); simpa [Nat.add_assoc, Nat.add_comm 1 j] using this) (by simp only [List.length_cons] at hk; omega) hB.2 h'.2
theorem wpAnyT_head {n c g : Nat} {K : Act → World → Prop} {mid : List Oper} {w : World} (hsel : Region.noSelect ops = true) (hs : Region.sinkB md ops n = true) (hc : Region.chainB md ops n = true) (hn : n < ops.size)
    (hQ : ∀ c a d v w, Q (.panic c) (a.put d v) w → Q (.panic c) a w) (hS : S w) (hmid : mid.length = c) (hml : ∀ j, j < mid.length → mid[j]? = ops[n - c + j]?) (hcn : c ≤ n) :
    ∀ (l : List Oper) (k : Nat) (listed : Array Bool) (a : Act), (∀ j, j < l.length → l[j]? = ops[k + j]?) → k + l.length + c = n → HeadInv md ops n listed →
    headB md ops c g l.length k listed = true → wpHead P ops S (fun a' => wpMid P ops Q S K mid a' w) l a →
    wpAnyT P md ops Q S n (fun listed' a' w' => Region.seqB md ops g n listed' = true ∧ K a' w') (l.length + c) listed a w
  | [], k, listed, a, _, hk, inv, hB, h => by
    have hk' : n - c = k := by simp only [List.length_nil] at hk; omega
    rw [hk'] at hml
    rw [← hmid] at hB hk ⊢
    simp only [List.length_nil, Nat.zero_add]
    exact wpAnyT_mid mid k listed a w hml (by simpa using hk) hB h
  | o :: l, k, listed, a, hl, hk, inv, hB, h => by
    have h0 : ops[k]? = some o := by simpa using (hl 0 (by simp)).symm
    simp only [List.length_cons, headB, Bool.and_eq_true] at hB
    obtain ⟨hr, hf, hB'⟩ := hB
    have hkn : k < n := by simp only [List.length_cons] at hk; omega
    have hr' : k ∈ Region.ready md ops listed := by simpa using hr
    obtain ⟨v, hy, hK⟩ := h
    rw [List.length_cons, show l.length + 1 + c = (l.length + c) + 1 by omega]
    exact wpAnyT_first h0 (Region.noSelect_spec hsel) (fun c a w => hQ c a _ _ w) hs hc hn hkn (fun listed' a' w' hL => seqB_ready hL.1) (l.length + c) listed a w inv (Region.free_spec h0 hf) hr' hy hS
      (wpAnyT_head hsel hs hc hn hQ hS hmid hml hcn l (k + 1) _ _ (fun j hj => by have := hl (j + 1) (by simp; omega); simpa [Nat.add_assoc, Nat.add_comm 1 j] using this) (by simp only [List.length_cons] at hk; omega) (inv.set hr' hkn) hB' hK)
end
def regHeadB (ops : Array Oper) (m n : Nat) : Bool :=
  Region.noSelect ops && (decide (m ≤ n) && (decide (n < ops.size) && (Region.sinkB .any ops n && (Region.chainB .any ops n && headB .any ops (n - m) (ops.size - n) m 0 (Array.replicate ops.size false)))))
/-- m operations that only read; up to n those in the middle; from n on those that wait for all. -/
theorem wp_region_head {P : Program} {id : Nat} {Q : Exit → Act → World → Prop} {a : Act} {w : World} {l : List Oper} (m n : Nat) (S : World → Prop) (hm : P.follows .mixedOrders = true) (hB : regHeadB l.toArray m n = true)
    (hQ : ∀ c a t v w, Q (.panic c) (a.put (some t) v) w → Q (.panic c) a w) (hS : S { w with drawn := w.drawn + 1 })
    (h : wpHead P l.toArray S (fun a' => wpMid P l.toArray Q S (wpList P l.toArray Q (l.drop n)) ((l.drop m).take (n - m)) a' { w with drawn := w.drawn + 1 }) (l.take m) a) : (Code.region id l.toArray true).wp P Q a w := by
  simp only [regHeadB, Bool.and_eq_true, decide_eq_true_eq] at hB
  obtain ⟨hsel, hmn, hn, hs, hc, hh⟩ := hB
  have hn' : n < l.length := by simpa using hn
  have htl : (l.take m).length = m := by simp; omega
  have hml : ((l.drop m).take (n - m)).length = n - m := by simp; omega
  have hdl : (l.drop n).length = l.toArray.size - n := by simp
  have inv0 : HeadInv .any l.toArray n (Array.replicate l.toArray.size false) :=
    ⟨by simp, fun j oj _ hl => (by rw [getD_replicate_false] at hl; cases hl), fun t _ ht => getD_in (by simpa using ht) (getD_replicate_false _ _)⟩
  have H := wpAnyT_head (md := .any) (g := l.toArray.size - n) (c := n - m) hsel hs hc hn (fun c a d v w h => by cases d with | none => exact h | some t => exact hQ c a t v w h) hS hml (fun j hj => by
    rw [hml] at hj
    simp [List.getElem?_take, hj, show n - (n - m) = m by omega]) (by omega) (l.take m) 0 _ a (fun j hj => by
    have hj' : j < m := by rw [htl] at hj; exact hj
    simp [hj']) (by rw [htl]; omega) inv0 (by rw [htl]; exact hh) h
  refine wp_region_any hm ?_
  have := wpAny_of_T (Q := Q) (g := l.toArray.size - n) (fun listed a' w' hL => by
    have := wpAny_of_seq (md := .any) (Q' := Q) (l.drop n) n listed a' w' (fun j => by simp [List.getElem?_drop]) (by rw [hdl]; exact hL.1) hL.2
    rwa [hdl] at this) _ _ _ _ H
  rw [htl, show m + (n - m) + (l.toArray.size - n) = l.toArray.size by omega] at this
  exact this
end Go.Proofs.YteahiphmhaedpaaGreatDoor

namespace Go.Proofs.YteahiphmhaedpaaGreatDoor
open Go Go.RowKit Law
set_option linter.unusedVariables false
set_option linter.unusedSimpArgs false

section
variable {P : Program} {ops : Array Oper} {Q : Exit → Act → World → Prop} {md : Region.Mode} {S : World → Prop}
/-- t waits for i, by so many steps at most. -/
def reachB (md : Region.Mode) (ops : Array Oper) : Nat → Nat → Nat → Bool
  | 0, _, _ => false
  | f + 1, t, i => Region.waitsFor md ops t i || (List.range ops.size).any fun k => decide (k < t) && (Region.waitsFor md ops t k && reachB md ops f k i)
/-- What stands from n on waits for each of those ahead of n. -/
def transB (md : Region.Mode) (ops : Array Oper) (d n : Nat) (pre : List Nat) : Bool :=
  (List.range ops.size).all fun t => decide (t < n) || (pre.contains t || (List.range n).all fun i => pre.contains i || reachB md ops d t i)
/-- Those ahead of all are done. -/
def PreIn (pre : List Nat) (listed : Array Bool) : Prop := ∀ i ∈ pre, listed.getD i true = true
theorem waits_of {md : Region.Mode} {ops : Array Oper} {t i : Nat} (h : Region.waitsFor md ops t i = true) : ∃ o, ops[t]? = some o ∧ ∃ e ∈ o.after, Region.binds md e = true ∧ e.on = i := by
  unfold Region.waitsFor at h
  cases ho : ops[t]? with
  | none => simp [ho] at h
  | some o =>
    simp only [ho, Option.map_some, Option.getD_some] at h
    obtain ⟨e, he, hb⟩ := Array.any_eq_true'.1 h
    simp only [Bool.and_eq_true, beq_iff_eq] at hb
    exact ⟨o, rfl, e, he, hb.1, hb.2⟩
theorem reach_listed {n : Nat} {listed : Array Bool} (inv : HeadInv md ops n listed) : ∀ (d t i : Nat), reachB md ops d t i = true → (∀ o, ops[t]? = some o → ∀ e ∈ o.after, Region.binds md e = true → listed.getD e.on false = true) → listed.getD i false = true
  | 0, _, _, h, _ => by simp [reachB] at h
  | d + 1, t, i, h, hall => by
    unfold reachB at h
    simp only [Bool.or_eq_true] at h
    rcases h with h | h
    · obtain ⟨o, ho, e, he, hb, heq⟩ := waits_of h
      rw [← heq]
      exact hall o ho e he hb
    · obtain ⟨k, _, h⟩ := List.any_eq_true.1 h
      simp only [Bool.and_eq_true] at h
      obtain ⟨o, ho, e, he, hb, heq⟩ := waits_of h.2.1
      have hk := hall o ho e he hb
      rw [heq] at hk
      exact reach_listed inv d k i h.2.2 (fun ok hok e2 he2 hb2 => inv.closed k ok hok hk e2 he2 hb2)
theorem PreIn.set {pre : List Nat} {listed : Array Bool} (h : PreIn pre listed) (j : Nat) : PreIn pre (listed.setIfInBounds j true) := fun i hi => by
  by_cases hij : j = i
  · subst hij
    have h1 := h j hi
    by_cases hs : j < listed.size
    · simp [Array.getD, hs]
    · simp [Array.getD, hs]
  · rw [getD_set_ne true hij]
    exact h i hi
theorem trans_tail {d n : Nat} {pre : List Nat} (ht : transB md ops d n pre = true) {listed : Array Bool} (inv : HeadInv md ops n listed) (hp : PreIn pre listed) {i : Nat} (hin : i < n) (hun : listed.getD i true = false) {j : Nat} (hj : j ∈ Region.ready md ops listed) : j < n := by
  rcases Nat.lt_or_ge j n with h | h
  · exact h
  · exfalso
    obtain ⟨hjun, oj, hoj, hall⟩ := mem_ready.1 hj
    have hjs : j < ops.size := (Array.getElem?_eq_some_iff.1 hoj).1
    have hb := List.all_eq_true.1 ht j (List.mem_range.2 hjs)
    simp only [Bool.or_eq_true, decide_eq_true_eq] at hb
    rcases hb with hb | hb | hb
    · omega
    · have := hp j (by simpa using hb)
      rw [this] at hjun
      cases hjun
    · have hb' := List.all_eq_true.1 hb i (List.mem_range.2 hin)
      simp only [Bool.or_eq_true] at hb'
      rcases hb' with hb' | hb'
      · have := hp i (by simpa using hb')
        rw [this] at hun
        cases hun
      have h1 := reach_listed inv d j i hb' (fun o ho e he hbi => by
        rw [hoj] at ho
        cases ho
        exact hall e he hbi)
      rw [getD_both hun] at h1
      cases h1
theorem wpAnyT_first2 {d n i : Nat} {pre : List Nat} {oi : Oper} {v : Value} {L : Array Bool → Act → World → Prop} (hi : ops[i]? = some oi) (hsel : ∀ (j : Nat) (o : Oper) cs b, ops[j]? = some o → o.op ≠ .select cs b)
    (hQ : ∀ c a w, Q (.panic c) (a.put oi.dst v) w → Q (.panic c) a w) (ht : transB md ops d n pre = true) (hin : i < n)
    (hdone : ∀ listed a w, L listed a w → ∀ j ∈ Region.ready md ops listed, n ≤ j) :
    ∀ (f : Nat) (listed : Array Bool) (a : Act) (w : World), HeadInv md ops n listed → PreIn pre listed →
      (∀ j oj, ops[j]? = some oj → j ≠ i → listed.getD j true = false → (∀ e ∈ oj.after, Region.binds md e = true → e.on ≠ i) → oi.apart ops oj = true) →
      i ∈ Region.ready md ops listed → YieldsIf P ops S oi v a → S w →
      wpAnyT P md ops Q S n L f (listed.setIfInBounds i true) (a.put oi.dst v) w → wpAnyT P md ops Q S n L (f + 1) listed a w := by
  intro f
  induction f with
  | zero =>
    intro listed a w inv hp _ hr hy hS H
    have hun := (mem_ready.1 hr).1
    refine ⟨fun h => (by rw [h] at hr; cases hr), fun j hj => ?_⟩
    have hjn : j < n := trans_tail ht inv hp hin hun hj
    refine ⟨hjn, ?_⟩
    by_cases hji : j = i
    · subst hji; exact hy.wpOp hi hS ⟨hS, H⟩
    · have := hdone _ _ _ H j (ready_mono hj hji)
      omega
  | succ f ih =>
    intro listed a w inv hp hfree hr hy hS H
    have hun := (mem_ready.1 hr).1
    refine ⟨fun h => (by rw [h] at hr; cases hr), fun j hj => ?_⟩
    have hjn : j < n := trans_tail ht inv hp hin hun hj
    refine ⟨hjn, ?_⟩
    by_cases hji : j = i
    · subst hji; exact hy.wpOp hi hS ⟨hS, H⟩
    · have h1 := (H.2 j (ready_mono hj hji)).2
      obtain ⟨hjun, oj, hoj, hall⟩ := mem_ready.1 hj
      have hnot : ∀ e ∈ oj.after, Region.binds md e = true → e.on ≠ i := fun e he hb heq => by
        have h1 := hall e he hb
        rw [heq, getD_both hun] at h1
        cases h1
      have h2 := wpOp_putIf hoj (hfree j oj hoj hji hjun hnot) (fun cs b => hsel i oi cs b hi) (fun cs b => hsel j oj cs b hoj) hQ hy h1
      have hfree' : ∀ k ok, ops[k]? = some ok → k ≠ i → (listed.setIfInBounds j true).getD k true = false →
          (∀ e ∈ ok.after, Region.binds md e = true → e.on ≠ i) → oi.apart ops ok = true := fun k ok hk hki hun hno => by
        refine hfree k ok hk hki ?_ hno
        by_cases hjk : j = k
        · subst hjk; exact hjun
        · rw [getD_set_ne true hjk] at hun; exact hun
      refine wpOp_mono (fun a' w' h3 => ⟨h3.2.1, ih (listed.setIfInBounds j true) a' w' (inv.set hj hjn) (hp.set j) hfree' (ready_mono hr (Ne.symm hji)) h3.1 h3.2.1 ?_⟩) h2
      rw [Array.setIfInBounds_comm _ _ hji]
      exact h3.2.2
def invB (md : Region.Mode) (ops : Array Oper) (n : Nat) (listed : Array Bool) : Bool :=
  decide (listed.size = ops.size) && (((List.range ops.size).all fun j => !listed.getD j false || ((ops[j]?).map fun o => o.after.all fun e => !Region.binds md e || listed.getD e.on false).getD true) && (List.range ops.size).all fun t => decide (t < n) || !listed.getD t true)
theorem inv_of {n : Nat} {listed : Array Bool} (h : invB md ops n listed = true) : HeadInv md ops n listed := by
  simp only [invB, Bool.and_eq_true, decide_eq_true_eq] at h
  obtain ⟨h1, h2, h3⟩ := h
  refine ⟨h1, fun j oj hoj hl e he hb => ?_, fun t hn ht => ?_⟩
  · have hjs : j < ops.size := (Array.getElem?_eq_some_iff.1 hoj).1
    have h := List.all_eq_true.1 h2 j (List.mem_range.2 hjs)
    rw [hl, hoj] at h
    simp only [Bool.not_true, Bool.false_or, Option.map_some, Option.getD_some] at h
    have := Array.all_eq_true_iff_forall_mem.1 h e he
    rw [hb] at this
    simpa using this
  · have h := List.all_eq_true.1 h3 t (List.mem_range.2 ht)
    simp only [Bool.or_eq_true, decide_eq_true_eq, Bool.not_eq_true'] at h
    rcases h with h | h
    · omega
    · exact h
/-- What holds when all ahead of n are done. -/
def DoneAt (P : Program) (md : Region.Mode) (ops : Array Oper) (Q : Exit → Act → World → Prop) (n g : Nat) (listed : Array Bool) (a : Act) (w : World) : Prop :=
  ((Region.ready md ops listed).all fun j => decide (n ≤ j)) = true ∧ wpAny P md ops Q g listed a w
variable {n g : Nat} {pre : List Nat}
theorem T_done {listed : Array Bool} {a : Act} {w : World} (hB : ((Region.ready md ops listed).all fun j => decide (n ≤ j)) = true) (h : wpAny P md ops Q g listed a w) : wpAnyT P md ops Q S n (DoneAt P md ops Q n g) 0 listed a w := ⟨hB, h⟩
/-- Operation i only reads: it is taken first. -/
theorem T_first {listed : Array Bool} {a : Act} {w : World} {o : Oper} {f : Nat} (i d : Nat) (v : Value) (h0 : ops[i]? = some o) (hB1 : Hid (Region.noSelect ops = true)) (hB2 : Hid (transB md ops d n pre = true)) (hB3 : (invB md ops n listed && pre.all fun k => listed.getD k true) = true)
    (hB4 : (decide (i < n) && ((Region.ready md ops listed).contains i && Region.free md ops listed i)) = true)
    (hQ : ∀ c a t v w, Q (.panic c) (a.put (some t) v) w → Q (.panic c) a w) (hS : S w) (hw : Region.wanted o (yielded ops a.tmps) = true) (hv : ∀ w, S w → (execOp a.eval o).run P w = .ok (.value v) w)
    (h : wpAnyT P md ops Q S n (DoneAt P md ops Q n g) f (listed.setIfInBounds i true) (a.put o.dst v) w) : wpAnyT P md ops Q S n (DoneAt P md ops Q n g) (f + 1) listed a w := by
  simp only [Bool.and_eq_true, decide_eq_true_eq] at hB4 hB3
  obtain ⟨hin, hr, hf⟩ := hB4
  have hr' : i ∈ Region.ready md ops listed := by simpa using hr
  exact wpAnyT_first2 h0 (Region.noSelect_spec hB1.out) (fun c a w h => by cases hd : o.dst with | none => rw [hd] at h; exact h | some t => rw [hd] at h; exact hQ c a t _ w h) hB2.out hin (fun listed' a' w' hL j hj => by simpa using List.all_eq_true.1 hL.1 j hj) f listed a w (inv_of hB3.1) (fun k hk => List.all_eq_true.1 hB3.2 k hk) (Region.free_spec h0 hf) hr' (.inl ⟨hw, hv⟩) hS h
theorem T_one {f i : Nat} {listed : Array Bool} {a : Act} {w : World} {o : Oper}
    (hr : Region.ready md ops listed = [i]) (h0 : ops[i]? = some o) (hin : i < n) (h : if Region.wanted o (yielded ops a.tmps) = true then Oper.wp P o a w (fun a' w' => S w' ∧ wpAnyT P md ops Q S n (DoneAt P md ops Q n g) f (listed.setIfInBounds i true) a' w') Q else False) : wpAnyT P md ops Q S n (DoneAt P md ops Q n g) (f + 1) listed a w := by
  refine ⟨fun e => (by rw [hr] at e; cases e), fun j hj => ?_⟩
  rw [hr] at hj
  obtain rfl : j = i := by simpa using hj
  refine ⟨hin, ?_⟩
  unfold wpOp
  simp only [h0]
  split
  · rename_i hw; rw [if_pos hw] at h; exact .inl h
  · rename_i hw; rw [if_neg hw] at h; exact h.elim
theorem T_two {f i k : Nat} {listed : Array Bool} {a : Act} {w : World} {o p : Oper}
    (hr : Region.ready md ops listed = [i, k]) (h0 : ops[i]? = some o) (h1 : ops[k]? = some p) (hin : i < n) (hkn : k < n) (h : if Region.wanted o (yielded ops a.tmps) = true then Oper.wp P o a w (fun a' w' => S w' ∧ wpAnyT P md ops Q S n (DoneAt P md ops Q n g) f (listed.setIfInBounds i true) a' w') Q else False)
    (h' : if Region.wanted p (yielded ops a.tmps) = true then Oper.wp P p a w (fun a' w' => S w' ∧ wpAnyT P md ops Q S n (DoneAt P md ops Q n g) f (listed.setIfInBounds k true) a' w') Q else False) : wpAnyT P md ops Q S n (DoneAt P md ops Q n g) (f + 1) listed a w := by
  refine ⟨fun e => (by rw [hr] at e; cases e), fun j hj => ?_⟩
  rw [hr] at hj
  rcases (show j = i ∨ j = k by simpa using hj) with rfl | rfl
  · refine ⟨hin, ?_⟩
    unfold wpOp
    simp only [h0]
    split
    · rename_i hw; rw [if_pos hw] at h; exact .inl h
    · rename_i hw; rw [if_neg hw] at h; exact h.elim
  · refine ⟨hkn, ?_⟩
    unfold wpOp
    simp only [h1]
    split
    · rename_i hw; rw [if_pos hw] at h'; exact .inl h'
    · rename_i hw; rw [if_neg hw] at h'; exact h'.elim
/-- What is left comes in one order. -/
theorem wpAny_seq {g : Nat} {listed : Array Bool} {a : Act} {w : World} (k : Nat) {l : List Oper} (hB : Region.seqB md ops g k listed = true) (hg : ops.size = k + g) (hl : ops.toList.drop k = l) (h : wpList P ops Q l a w) : wpAny P md ops Q g listed a w := by
  subst hl
  have hlen : (ops.toList.drop k).length = g := by simp; omega
  have := wpAny_of_seq (P := P) (ops := ops) (md := md) (Q' := Q) (ops.toList.drop k) k listed a w (fun j => by simp [List.getElem?_drop]) (by rw [hlen]; exact hB) h
  rwa [hlen] at this
end
def pickL (l : List Oper) : List Nat → List Oper
  | [] => []
  | i :: r => (l.drop i).head?.toList ++ pickL l r
def midPB (md : Region.Mode) (ops : Array Oper) (n g : Nat) : List Nat → Array Bool → Bool
  | [], listed => Region.seqB md ops g n listed
  | i :: r, listed => decide (Region.ready md ops listed = [i]) && (decide (i < n) && midPB md ops n g r (listed.setIfInBounds i true))
def headPB (md : Region.Mode) (ops : Array Oper) (n g : Nat) (mid : List Nat) : List Nat → Array Bool → Bool
  | [], listed => midPB md ops n g mid listed
  | i :: r, listed => decide (i < n) && ((Region.ready md ops listed).contains i && (Region.free md ops listed i && headPB md ops n g mid r (listed.setIfInBounds i true)))
section
variable {P : Program} {l : List Oper} {Q : Exit → Act → World → Prop} {md : Region.Mode} {S : World → Prop}
theorem pick_at {i : Nat} {r : List Nat} {o : Oper} {t : List Oper} (h : l[i]? = some o) : pickL l (i :: r) = o :: pickL l r := by
  have : (l.drop i).head? = some o := by rw [List.head?_drop]; exact h
  simp [pickL, this]
theorem wpHead_mono {ops : Array Oper} {L L' : Act → Prop} : ∀ {l : List Oper} {a : Act}, (∀ a, L a → L' a) → wpHead P ops S L l a → wpHead P ops S L' l a
  | [], _, h, k => h _ k
  | _ :: _, _, h, ⟨v, hy, hk⟩ => ⟨v, hy, wpHead_mono h hk⟩
theorem wpAnyT_midP {n g : Nat} {K : Act → World → Prop} : ∀ (mid : List Nat) (listed : Array Bool) (a : Act) (w : World),
    midPB md l.toArray n g mid listed = true → (∀ i ∈ mid, i < l.length) → wpMid P l.toArray Q S K (pickL l mid) a w → wpAnyT P md l.toArray Q S n (fun listed' a' w' => Region.seqB md l.toArray g n listed' = true ∧ K a' w') mid.length listed a w
  | [], listed, a, w, hB, _, h => ⟨hB, h⟩
  | i :: r, listed, a, w, hB, hl, h => by
    have hi : i < l.length := hl i (by simp)
    obtain ⟨o, ho⟩ : ∃ o, l[i]? = some o := ⟨_, List.getElem?_eq_getElem hi⟩
    rw [pick_at (t := []) ho] at h
    simp only [midPB, Bool.and_eq_true, decide_eq_true_eq] at hB
    refine ⟨fun h1 => (by rw [hB.1] at h1; cases h1), fun j hj => ?_⟩
    rw [hB.1] at hj
    obtain rfl : j = i := by simpa using hj
    refine ⟨hB.2.1, ?_⟩
    have ho' : l.toArray[j]? = some o := by simpa using ho
    unfold wpOp
    simp only [ho']
    rw [if_pos h.1]
    refine .inl (Oper.wp_mono (fun a' w' h' => ⟨h'.1, ?_⟩) h.2)
    exact wpAnyT_midP r _ a' w' hB.2.2 (fun k hk => hl k (by simp [hk])) h'.2
theorem wpAnyT_headP {n g d : Nat} {pre : List Nat} {K : Act → World → Prop} {mid : List Nat} {w : World} (hsel : Region.noSelect l.toArray = true) (ht : transB md l.toArray d n pre = true)
    (hQ : ∀ c a d v w, Q (.panic c) (a.put d v) w → Q (.panic c) a w) (hS : S w) (hml : ∀ i ∈ mid, i < l.length) :
    ∀ (rd : List Nat) (listed : Array Bool) (a : Act), (∀ i ∈ rd, i < l.length) → HeadInv md l.toArray n listed → PreIn pre listed →
    headPB md l.toArray n g mid rd listed = true → wpHead P l.toArray S (fun a' => wpMid P l.toArray Q S K (pickL l mid) a' w) (pickL l rd) a →
    wpAnyT P md l.toArray Q S n (fun listed' a' w' => Region.seqB md l.toArray g n listed' = true ∧ K a' w') (rd.length + mid.length) listed a w
  | [], listed, a, _, inv, hp, hB, h => by
    rw [List.length_nil, Nat.zero_add]
    exact wpAnyT_midP mid listed a w hB hml h
  | i :: r, listed, a, hl, inv, hp, hB, h => by
    have hi : i < l.length := hl i (by simp)
    obtain ⟨o, ho⟩ : ∃ o, l[i]? = some o := ⟨_, List.getElem?_eq_getElem hi⟩
    rw [pick_at (t := []) ho] at h
    have ho' : l.toArray[i]? = some o := by simpa using ho
    simp only [headPB, Bool.and_eq_true, decide_eq_true_eq] at hB
    obtain ⟨hin, hr, hf, hB'⟩ := hB
    have hr' : i ∈ Region.ready md l.toArray listed := by simpa using hr
    obtain ⟨v, hy, hK⟩ := h
    rw [List.length_cons, show r.length + 1 + mid.length = (r.length + mid.length) + 1 by omega]
    exact wpAnyT_first2 ho' (Region.noSelect_spec hsel) (fun c a w => hQ c a _ _ w) ht hin (fun listed' a' w' hL => seqB_ready hL.1) (r.length + mid.length) listed a w inv hp (Region.free_spec ho' hf) hr' hy hS
      (wpAnyT_headP hsel ht hQ hS hml r _ _ (fun k hk => hl k (by simp [hk])) (inv.set hr' hin) (hp.set i) hB' hK)
end
/-- Those that read nothing are taken ahead of all. -/
def prePB (md : Region.Mode) (ops : Array Oper) : List Nat → Array Bool → Bool
  | [], _ => true
  | i :: r, listed => (Region.ready md ops listed).contains i && (Region.free md ops listed i && prePB md ops r (listed.setIfInBounds i true))
def preL (listed : Array Bool) : List Nat → Array Bool
  | [] => listed
  | i :: r => preL (listed.setIfInBounds i true) r
theorem wpAny_pre {P : Program} {l : List Oper} {Q : Exit → Act → World → Prop} {md : Region.Mode} {f : Nat} {w : World} (hsel : Region.noSelect l.toArray = true) (hQ : ∀ c a d v w, Q (.panic c) (a.put d v) w → Q (.panic c) a w) :
    ∀ (pre : List Nat) (listed : Array Bool) (a : Act), (∀ i ∈ pre, i < l.length) → prePB md l.toArray pre listed = true →
    wpHead P l.toArray (fun _ => True) (fun a' => wpAny P md l.toArray Q f (preL listed pre) a' w) (pickL l pre) a → wpAny P md l.toArray Q (pre.length + f) listed a w
  | [], listed, a, _, _, h => by rw [List.length_nil, Nat.zero_add]; exact h
  | i :: r, listed, a, hl, hB, h => by
    have hi : i < l.length := hl i (by simp)
    obtain ⟨o, ho⟩ : ∃ o, l[i]? = some o := ⟨_, List.getElem?_eq_getElem hi⟩
    rw [pick_at (t := []) ho] at h
    have ho' : l.toArray[i]? = some o := by simpa using ho
    simp only [prePB, Bool.and_eq_true] at hB
    obtain ⟨v, hy, hK⟩ := h
    rw [List.length_cons, show r.length + 1 + f = (r.length + f) + 1 by omega]
    refine wpAny_take ho' hsel hB.2.1 hB.1 (fun c a w => hQ c a _ _ w) (v := v) ?_ (wpAny_pre hsel hQ r _ _ (fun k hk => hl k (by simp [hk])) hB.2.2 hK)
    rcases hy with ⟨hw, hv⟩ | ⟨hw, hv⟩
    · exact .inl ⟨hw, fun w => hv w trivial⟩
    · exact .inr ⟨hw, hv⟩
def regPermB (ops : Array Oper) (pre rd mid : List Nat) (n d : Nat) : Bool :=
  Region.noSelect ops && (decide (pre.length + rd.length + mid.length = n) && (decide (n ≤ ops.size) && (transB .any ops d n pre && ((pre ++ rd ++ mid).all (fun i => decide (i < ops.size)) && (prePB .any ops pre (Array.replicate ops.size false) && (invB .any ops n (preL (Array.replicate ops.size false) pre) && (pre.all (fun k => (preL (Array.replicate ops.size false) pre).getD k true) && headPB .any ops n (ops.size - n) mid rd (preL (Array.replicate ops.size false) pre))))))))
/-- pre: operations that read nothing, taken ahead of all; rd: those that only read, in the order in which they are taken; mid: the others ahead of n, in their one order; n: how many these are; what stands from n on waits for all of them. d: how long a chain of waiting is. -/
theorem wp_region_perm {P : Program} {id : Nat} {Q : Exit → Act → World → Prop} {a : Act} {w : World} {l : List Oper} (pre rd mid : List Nat) (n d : Nat) (S : World → Prop) (hm : P.follows .mixedOrders = true) (hB : regPermB l.toArray pre rd mid n d = true)
    (hQ : ∀ c a t v w, Q (.panic c) (a.put (some t) v) w → Q (.panic c) a w) (hS : S w.drew)
    (h : wpHead P l.toArray (fun _ => True) (fun a0 => wpHead P l.toArray S (fun a' => wpMid P l.toArray Q S (wpList P l.toArray Q (l.drop n)) (pickL l mid) a' w.drew) (pickL l rd) a0) (pickL l pre) a) : (Code.region id l.toArray true).wp P Q a w := by
  simp only [regPermB, Bool.and_eq_true, decide_eq_true_eq, List.all_eq_true] at hB
  obtain ⟨hsel, hlen, hn, ht, hlt, hpr, hinv, hpin, hh⟩ := hB
  have hn' : n ≤ l.length := by simpa using hn
  have hdl : (l.drop n).length = l.toArray.size - n := by simp
  have hQ' : ∀ c a d v w, Q (.panic c) (a.put d v) w → Q (.panic c) a w := fun c a d v w h => by cases d with | none => exact h | some t => exact hQ c a t v w h
  refine wp_region_any hm ?_
  have H := wpAny_pre (P := P) (l := l) (Q := Q) (md := .any) (f := rd.length + mid.length + (l.toArray.size - n)) (w := w.drew) hsel hQ' pre (Array.replicate l.toArray.size false) a (fun i hi => by simpa using hlt i (by simp [hi])) hpr ?_
  · rw [show pre.length + (rd.length + mid.length + (l.toArray.size - n)) = l.toArray.size by omega] at H
    exact H
  · refine wpHead_mono (fun a0 h0 => ?_) h
    have H := wpAnyT_headP (md := .any) (g := l.toArray.size - n) hsel ht hQ' hS (fun i hi => by simpa using hlt i (by simp [hi])) rd _ a0 (fun i hi => by simpa using hlt i (by simp [hi])) (inv_of hinv) (fun k hk => hpin k hk) hh h0
    exact wpAny_of_T (Q := Q) (g := l.toArray.size - n) (fun listed' a' w' hL => by
      have := wpAny_of_seq (md := .any) (Q' := Q) (l.drop n) n listed' a' w' (fun j => by simp [List.getElem?_drop]) (by rw [hdl]; exact hL.1) hL.2
      rwa [hdl] at this) _ _ _ _ H
/-- The region, by single steps: n operations stand ahead, g behind. -/
theorem wp_region_phase {P : Program} {id : Nat} {Q : Exit → Act → World → Prop} {a : Act} {w : World} {l : List Oper} (pre : List Nat) (n g : Nat) (S : World → Prop) (hm : P.follows .mixedOrders = true) (hz : l.length = n + g)
    (d : Nat) (hNS : Region.noSelect l.toArray = true) (hTB : transB .any l.toArray d n pre = true) (hpl : (decide (pre.length ≤ n) && ((pre.all fun i => decide (i < l.toArray.size)) && prePB .any l.toArray pre (Array.replicate l.toArray.size false))) = true)
    (hQ : ∀ c a t v w, Q (.panic c) (a.put (some t) v) w → Q (.panic c) a w)
    (h : Hid (Region.noSelect l.toArray = true) → Hid (transB .any l.toArray d n pre = true) → wpHead P l.toArray (fun _ => True) (fun a0 => wpAnyT P .any l.toArray Q S n (DoneAt P .any l.toArray Q n g) (n - pre.length) (preL (Array.replicate l.toArray.size false) pre) a0 w.drew) (pickL l pre) a) : (Code.region id l.toArray true).wp P Q a w := by
  simp only [Bool.and_eq_true, decide_eq_true_eq, List.all_eq_true] at hpl
  have hz' : l.toArray.size = n + g := by simpa using hz
  refine wp_region_any hm ?_
  have H := wpAny_pre (P := P) (l := l) (Q := Q) (md := .any) (f := n - pre.length + g) (w := w.drew) hNS (fun c a d v w h => by cases d with | none => exact h | some t => exact hQ c a t v w h) pre (Array.replicate l.toArray.size false) a (fun i hi => by simpa using hpl.2.1 i hi) hpl.2.2 ?_
  · rw [show pre.length + (n - pre.length + g) = l.toArray.size by omega] at H
    exact H
  · refine wpHead_mono (fun a0 h0 => ?_) (h hNS hTB)
    exact wpAny_of_T (g := g) (fun listed a' w' hL => hL.2) _ _ _ _ h0
end Go.Proofs.YteahiphmhaedpaaGreatDoor

namespace Go.Proofs.YteahiphmhaedpaaGreatDoor
open Go Go.RowKit Law
set_option linter.unusedVariables false
set_option linter.unusedSimpArgs false

def planB (md : Region.Mode) (ops : Array Oper) (n g : Nat) : List (Bool × Nat) → Array Bool → Bool
  | [], listed => Region.seqB md ops g n listed
  | (true, i) :: r, listed => decide (i < n) && ((Region.ready md ops listed).contains i && (Region.free md ops listed i && planB md ops n g r (listed.setIfInBounds i true)))
  | (false, i) :: r, listed => decide (Region.ready md ops listed = [i]) && (decide (i < n) && planB md ops n g r (listed.setIfInBounds i true))
def pickB (l : List Oper) : List (Bool × Nat) → List (Bool × Oper)
  | [] => []
  | (b, i) :: r => ((l.drop i).head?.toList.map fun o => (b, o)) ++ pickB l r
def wpPlan (P : Program) (ops : Array Oper) (Q : Exit → Act → World → Prop) (S : World → Prop) (K : Act → World → Prop) : List (Bool × Oper) → Act → World → Prop
  | [], a, w => K a w
  | (true, o) :: r, a, w => ∃ v, YieldsIf P ops S o v a ∧ wpPlan P ops Q S K r (a.put o.dst v) w
  | (false, o) :: r, a, w => (Region.wanted o (yielded ops a.tmps) = true ∧ o.wp P a w (fun a' w' => S w' ∧ wpPlan P ops Q S K r a' w') Q) ∨ (Region.wanted o (yielded ops a.tmps) = false ∧ wpPlan P ops Q S K r (a.put o.dst undef) w)
section
variable {P : Program} {l : List Oper} {Q : Exit → Act → World → Prop} {md : Region.Mode} {S : World → Prop} {ops : Array Oper}
theorem wpPlan_nil {K : Act → World → Prop} {a : Act} {w : World} (h : K a w) : wpPlan P ops Q S K [] a w := h
theorem wpPlan_rd {K : Act → World → Prop} {a : Act} {w : World} {o : Oper} {r : List (Bool × Oper)} (v : Value) (hw : Region.wanted o (yielded ops a.tmps) = true) (hv : ∀ w, S w → (execOp a.eval o).run P w = .ok (.value v) w)
    (h : wpPlan P ops Q S K r (a.put o.dst v) w) : wpPlan P ops Q S K ((true, o) :: r) a w := ⟨v, .inl ⟨hw, hv⟩, h⟩
theorem wpPlan_skip {K : Act → World → Prop} {a : Act} {w : World} {o : Oper} {r : List (Bool × Oper)} (hw : Region.wanted o (yielded ops a.tmps) = false)
    (h : wpPlan P ops Q S K r (a.put o.dst undef) w) : wpPlan P ops Q S K ((true, o) :: r) a w := ⟨undef, .inr ⟨hw, rfl⟩, h⟩
theorem wpPlan_do {K : Act → World → Prop} {a : Act} {w : World} {o : Oper} {r : List (Bool × Oper)} (hw : Region.wanted o (yielded ops a.tmps) = true)
    (h : o.wp P a w (fun a' w' => S w' ∧ wpPlan P ops Q S K r a' w') Q) : wpPlan P ops Q S K ((false, o) :: r) a w := .inl ⟨hw, h⟩
theorem wpPlan_pass {K : Act → World → Prop} {a : Act} {w : World} {o : Oper} {r : List (Bool × Oper)} (hw : Region.wanted o (yielded ops a.tmps) = false)
    (h : wpPlan P ops Q S K r (a.put o.dst undef) w) : wpPlan P ops Q S K ((false, o) :: r) a w := .inr ⟨hw, h⟩
theorem pickB_at {b : Bool} {i : Nat} {r : List (Bool × Nat)} {o : Oper} (h : l[i]? = some o) : pickB l ((b, i) :: r) = (b, o) :: pickB l r := by
  have : (l.drop i).head? = some o := by rw [List.head?_drop]; exact h
  simp [pickB, this]
theorem wpAnyT_plan {n g d : Nat} {pre : List Nat} {K : Act → World → Prop} (hsel : Region.noSelect l.toArray = true) (ht : transB md l.toArray d n pre = true)
    (hQ : ∀ c a d v w, Q (.panic c) (a.put d v) w → Q (.panic c) a w) :
    ∀ (pl : List (Bool × Nat)) (listed : Array Bool) (a : Act) (w : World), (∀ x ∈ pl, x.2 < l.length) → HeadInv md l.toArray n listed → PreIn pre listed →
    planB md l.toArray n g pl listed = true → S w → wpPlan P l.toArray Q S K (pickB l pl) a w →
    wpAnyT P md l.toArray Q S n (fun listed' a' w' => Region.seqB md l.toArray g n listed' = true ∧ K a' w') pl.length listed a w
  | [], listed, a, w, _, inv, hp, hB, hS, h => ⟨hB, h⟩
  | (true, i) :: r, listed, a, w, hl, inv, hp, hB, hS, h => by
    have hi : i < l.length := hl (true, i) (by simp)
    obtain ⟨o, ho⟩ : ∃ o, l[i]? = some o := ⟨_, List.getElem?_eq_getElem hi⟩
    rw [pickB_at ho] at h
    have ho' : l.toArray[i]? = some o := by simpa using ho
    simp only [planB, Bool.and_eq_true, decide_eq_true_eq] at hB
    obtain ⟨hin, hr, hf, hB'⟩ := hB
    have hr' : i ∈ Region.ready md l.toArray listed := by simpa using hr
    obtain ⟨v, hy, hK⟩ := h
    rw [List.length_cons]
    exact wpAnyT_first2 ho' (Region.noSelect_spec hsel) (fun c a w => hQ c a _ _ w) ht hin (fun listed' a' w' hL => seqB_ready hL.1) r.length listed a w inv hp (Region.free_spec ho' hf) hr' hy hS
      (wpAnyT_plan hsel ht hQ r _ _ w (fun k hk => hl k (by simp [hk])) (inv.set hr' hin) (hp.set i) hB' hS hK)
  | (false, i) :: r, listed, a, w, hl, inv, hp, hB, hS, h => by
    have hi : i < l.length := hl (false, i) (by simp)
    obtain ⟨o, ho⟩ : ∃ o, l[i]? = some o := ⟨_, List.getElem?_eq_getElem hi⟩
    rw [pickB_at ho] at h
    have ho' : l.toArray[i]? = some o := by simpa using ho
    simp only [planB, Bool.and_eq_true, decide_eq_true_eq] at hB
    obtain ⟨hr, hin, hB'⟩ := hB
    have hr' : i ∈ Region.ready md l.toArray listed := by rw [hr]; simp
    rw [List.length_cons]
    refine ⟨fun h1 => (by rw [hr] at h1; cases h1), fun j hj => ?_⟩
    rw [hr] at hj
    obtain rfl : j = i := by simpa using hj
    refine ⟨hin, ?_⟩
    unfold wpOp
    simp only [ho']
    rcases h with ⟨hw, h⟩ | ⟨hw, h⟩
    · rw [if_pos hw]
      refine .inl (Oper.wp_mono (fun a' w' h' => ⟨h'.1, ?_⟩) h)
      exact wpAnyT_plan hsel ht hQ r _ a' w' (fun k hk => hl k (by simp [hk])) (inv.set hr' hin) (hp.set j) hB' h'.1 h'.2
    · rw [if_neg (by rw [hw]; simp)]
      exact ⟨hS, wpAnyT_plan hsel ht hQ r _ _ w (fun k hk => hl k (by simp [hk])) (inv.set hr' hin) (hp.set j) hB' hS h⟩
end
def regPlanB (ops : Array Oper) (pre : List Nat) (pl : List (Bool × Nat)) (n d : Nat) : Bool :=
  Region.noSelect ops && (decide (pre.length + pl.length = n) && (decide (n ≤ ops.size) && (transB .any ops d n pre && (pre.all (fun i => decide (i < ops.size)) && (pl.all (fun x => decide (x.2 < ops.size)) && (prePB .any ops pre (Array.replicate ops.size false) && (invB .any ops n (preL (Array.replicate ops.size false) pre) && (pre.all (fun k => (preL (Array.replicate ops.size false) pre).getD k true) && planB .any ops n (ops.size - n) pl (preL (Array.replicate ops.size false) pre)))))))))
/-- pre: operations that read nothing, taken ahead of all; pl: the plan; n: how many these are; what stands from n on waits for all of them. d: how long a chain of waiting is. -/
theorem wp_region_plan {P : Program} {id : Nat} {Q : Exit → Act → World → Prop} {a : Act} {w : World} {l : List Oper} (pre : List Nat) (pl : List (Bool × Nat)) (n d : Nat) (S : World → Prop) (hm : P.follows .mixedOrders = true) (hB : regPlanB l.toArray pre pl n d = true)
    (hQ : ∀ c a t v w, Q (.panic c) (a.put (some t) v) w → Q (.panic c) a w) (hS : S w.drew)
    (h : wpHead P l.toArray (fun _ => True) (fun a0 => wpPlan P l.toArray Q S (wpList P l.toArray Q (l.drop n)) (pickB l pl) a0 w.drew) (pickL l pre) a) : (Code.region id l.toArray true).wp P Q a w := by
  simp only [regPlanB, Bool.and_eq_true, decide_eq_true_eq, List.all_eq_true] at hB
  obtain ⟨hsel, hlen, hn, ht, hlt, hlp, hpr, hinv, hpin, hh⟩ := hB
  have hn' : n ≤ l.length := by simpa using hn
  have hdl : (l.drop n).length = l.toArray.size - n := by simp
  have hQ' : ∀ c a d v w, Q (.panic c) (a.put d v) w → Q (.panic c) a w := fun c a d v w h => by cases d with | none => exact h | some t => exact hQ c a t v w h
  refine wp_region_any hm ?_
  have H := wpAny_pre (P := P) (l := l) (Q := Q) (md := .any) (f := pl.length + (l.toArray.size - n)) (w := w.drew) hsel hQ' pre (Array.replicate l.toArray.size false) a (fun i hi => by simpa using hlt i hi) hpr ?_
  · rw [show pre.length + (pl.length + (l.toArray.size - n)) = l.toArray.size by omega] at H
    exact H
  · refine wpHead_mono (fun a0 h0 => ?_) h
    have H := wpAnyT_plan (md := .any) (g := l.toArray.size - n) hsel ht hQ' pl _ a0 w.drew (fun x hx => by simpa using hlp x hx) (inv_of hinv) (fun k hk => hpin k hk) hh hS h0
    exact wpAny_of_T (Q := Q) (g := l.toArray.size - n) (fun listed' a' w' hL => by
      have := wpAny_of_seq (md := .any) (Q' := Q) (l.drop n) n listed' a' w' (fun j => by simp [List.getElem?_drop]) (by rw [hdl]; exact hL.1) hL.2
      rwa [hdl] at this) _ _ _ _ H
end Go.Proofs.YteahiphmhaedpaaGreatDoor

namespace Go.Proofs.YteahiphmhaedpaaGreatDoor
open Go Go.RowKit Law
set_option linter.unusedVariables false
set_option linter.unusedSimpArgs false

section
variable {P : Program} {ops : Array Oper} {Q : Exit → Act → World → Prop} {md : Region.Mode}
theorem rowsIn_wide {l n : Nat} {row : String} {args : Array Value} {w : World} {R : Value → World → Prop} (h : Rows P row args w R) : RowsIn (Fence.wide.inRound l) n P row args w R :=
  fun c cs _ => let ⟨v, w', r, s⟩ := h c cs; ⟨v, w', r, stepsIn_wide.2 s⟩
theorem operIn_of {l n : Nat} {o : Oper} {a : Act} {w : World} {K : Act → World → Prop} (hd : ∀ c : Call, o.op ≠ .defer c) (h : o.wp P a w K Q) : o.wpIn (Fence.wide.inRound l) n P a w K Q := by
  refine ⟨fun _ _ => trivial, ?_⟩
  rw [show (o.semAt (Fence.wide.inRound l).round a.eval) = execOp a.eval o from Oper.semAt_eq _ _ _ hd]
  unfold Oper.wp at h
  generalize (execOp a.eval o).run P w = r at *
  cases r with
  | ok nx w' =>
    cases nx <;> first | exact h | exact ⟨fun e => (Bool.false_ne_true e).elim, CallsIn.inRound l (callsIn_wide.2 h)⟩ | exact ⟨fun e => (Bool.false_ne_true e).elim, rowsIn_wide h⟩ | exact False.elim h
  | halt x w' =>
    cases x <;> first | exact h | exact False.elim h
theorem wpOpIn_of {l n i : Nat} {K : Act → World → Prop} {a : Act} {w : World} (hd : ∀ (j : Nat) (o : Oper), ops[j]? = some o → ∀ c : Call, o.op ≠ .defer c) (hlo : ∀ a w, ¬ Q .outgrown a w) (h : wpOp P ops Q i K a w) : wpOpIn (Fence.wide.inRound l) n P ops Q i K a w := by
  unfold wpOp at h
  unfold wpOpIn
  cases ho : ops[i]? with
  | none => rw [ho] at h; exact h
  | some o =>
    rw [ho] at h
    simp only at h ⊢
    split
    · rename_i hw
      rw [if_pos hw] at h
      rcases h with h | ⟨_, a, w, h⟩
      · exact operIn_of (hd i o ho) h
      · exact absurd h (hlo a w)
    · rename_i hw
      rw [if_neg hw] at h
      exact ⟨fun _ _ => trivial, h⟩
theorem wpAnyIn_of {l n : Nat} (hd : ∀ (j : Nat) (o : Oper), ops[j]? = some o → ∀ c : Call, o.op ≠ .defer c) (hlo : ∀ a w, ¬ Q .outgrown a w) : ∀ (f : Nat) (listed : Array Bool) (a : Act) (w : World), wpAny P md ops Q f listed a w → wpAnyIn (Fence.wide.inRound l) n P md ops Q f listed a w
  | 0, _, _, _, h => h
  | f + 1, _, _, _, h => ⟨h.1, fun i hi => wpOpIn_of hd hlo (wpOp_mono (fun a' w' h' => wpAnyIn_of hd hlo f _ a' w' h') (h.2 i hi))⟩
end
def noDeferB (ops : Array Oper) : Bool := (List.range ops.size).all fun j => match ops[j]? with
  | some o => match o.op with
    | .defer _ => false
    | _ => true
  | none => true
theorem noDefer_spec {ops : Array Oper} (h : noDeferB ops = true) (j : Nat) (o : Oper) (ho : ops[j]? = some o) (c : Call) : o.op ≠ .defer c := by
  intro e
  have h1 := List.all_eq_true.1 h j (List.mem_range.2 (Array.getElem?_eq_some_iff.1 ho).1)
  rw [ho] at h1
  simp only [e] at h1
  cases h1
/-- Reads and calls that keep what was there, then what waits for all: in a round. -/
theorem wpIn_region_later_tail {P : Program} {id lr nr : Nat} {Q : Exit → Act → World → Prop} {a : Act} {w : World} {l : List Oper} (n : Nat) (hm : P.follows .mixedOrders = true) (hB : Region.lexTailB .any l.toArray n = true) (hdf : noDeferB l.toArray = true) (hlo : ∀ a w, ¬ Q .outgrown a w)
    (h : wpQuiet P l.toArray (fun w' => ∃ W : Later w, w' = W.val) (fun a' => ∀ W : Later w, wpList P l.toArray Q (l.drop n) a' W.val) (l.take n) a) : (Code.region id l.toArray true).wpIn (Fence.wide.inRound lr) nr P Q a w := by
  simp only [Region.lexTailB, Bool.and_eq_true, decide_eq_true_eq] at hB
  obtain ⟨⟨⟨⟨hsel, hn⟩, hs⟩, hc⟩, hlex⟩ := hB
  have hn' : n < l.length := by simpa using hn
  have htl : (l.take n).length = n := by simp; omega
  have hdl : (l.drop n).length = l.toArray.size - n := by simp
  have inv0 : HeadInv .any l.toArray n (Array.replicate l.toArray.size false) :=
    ⟨by simp, fun j oj _ hl => (by rw [getD_replicate_false] at hl; cases hl), fun t _ ht => getD_in (by simpa using ht) (getD_replicate_false _ _)⟩
  have H := wpAnyQL_lex (md := .any) (g := l.toArray.size - n) hsel hs hc hn (l.take n) 0 _ a (fun j hj => by
    have hj' : j < n := by rw [htl] at hj; exact hj
    simp [hj']) (by simpa using htl) inv0 (by rw [htl]; exact hlex) h
  refine wpIn_region_any hm (wpAnyIn_of (noDefer_spec hdf) hlo _ _ _ _ ?_)
  have := wpAny_of_headQ (Q' := Q) (g := l.toArray.size - n) (fun listed a' w' hw' hL => by
    obtain ⟨W, rfl⟩ := hw'
    have := wpAny_of_seq (md := .any) (Q' := Q) (l.drop n) n listed a' W.val (fun j => by simp [List.getElem?_drop]) (by rw [hdl]; exact hL.1) (hL.2 W)
    rwa [hdl] at this) _ _ _ { w with drawn := w.drawn + 1 } ⟨⟨_, (Below.refl _ w).drew⟩, rfl⟩ H
  rw [htl, show n + (l.toArray.size - n) = l.toArray.size by omega] at this
  exact this
end Go.Proofs.YteahiphmhaedpaaGreatDoor
