/- Sets of nodes as numbers below 2^64: what is in one, in order; its least one; how many; the number that a list makes. Plain Lean, no program. -/
import Derived.Lib.TrailingZeros
namespace Go.Proofs.YtfkfheddhnjaaaaGreat
open Go
set_option linter.unusedVariables false
set_option linter.unusedSimpArgs false

/-! ### the number of a predicate -/
def ofP (p : Nat → Bool) : Nat → Nat
  | 0 => 0
  | k + 1 => ofP p k + if p k then 2 ^ k else 0
theorem ofP_lt (p : Nat → Bool) : ∀ k, ofP p k < 2 ^ k
  | 0 => by simp [ofP]
  | k + 1 => by
    have := ofP_lt p k
    unfold ofP
    rw [Nat.pow_succ]
    split <;> omega
theorem testBit_ofP (p : Nat → Bool) : ∀ k i, (ofP p k).testBit i = (decide (i < k) && p i)
  | 0, i => by simp [ofP]
  | k + 1, i => by
    have ih := testBit_ofP p k i
    have hlt := ofP_lt p k
    unfold ofP
    by_cases hp : p k = true
    · rw [if_pos hp, Nat.add_comm]
      by_cases hik : i = k
      · subst hik
        rw [Nat.testBit_two_pow_add_eq, Nat.testBit_lt_two_pow hlt]
        simp [hp]
      · by_cases hlt' : i < k
        · rw [Nat.testBit_two_pow_add_gt hlt', ih]
          simp [hlt', show i < k + 1 by omega]
        · have h2 : 2 ^ k + ofP p k < 2 ^ i := by
            have : 2 ^ (k + 1) ≤ 2 ^ i := Nat.pow_le_pow_right (by decide) (by omega)
            rw [Nat.pow_succ] at this
            omega
          rw [Nat.testBit_lt_two_pow h2]
          simp [show ¬ i < k + 1 by omega]
    · rw [if_neg hp, Nat.add_zero, ih]
      by_cases hik : i = k
      · subst hik
        simp only [Bool.not_eq_true] at hp
        simp [hp]
      · simp [show (i < k + 1) = (i < k) by rw [eq_iff_iff]; omega]
theorem ofP_congr {p q : Nat → Bool} {k : Nat} (h : ∀ i, i < k → p i = q i) : ofP p k = ofP q k := by
  apply Nat.eq_of_testBit_eq
  intro i
  rw [testBit_ofP, testBit_ofP]
  by_cases hi : i < k
  · rw [h i hi]
  · simp [hi]
/-- A number below 2^64 is told by its first 64 bits. -/
theorem eq_of_bits {a b : Nat} (ha : a < 2 ^ 64) (hb : b < 2 ^ 64) (h : ∀ i, i < 64 → a.testBit i = b.testBit i) : a = b := by
  apply Nat.eq_of_testBit_eq
  intro i
  by_cases hi : i < 64
  · exact h i hi
  · have hp : 2 ^ 64 ≤ 2 ^ i := Nat.pow_le_pow_right (by decide) (by omega)
    rw [Nat.testBit_lt_two_pow (Nat.lt_of_lt_of_le ha hp), Nat.testBit_lt_two_pow (Nat.lt_of_lt_of_le hb hp)]
theorem ofP_bits {s : Nat} (hs : s < 2 ^ 64) : ofP s.testBit 64 = s :=
  eq_of_bits (ofP_lt _ _) hs fun i hi => by rw [testBit_ofP]; simp [hi]

/-! ### what is in a set, rising -/
def els (s : Nat) : List Nat := (List.range 64).filter s.testBit
theorem mem_els {s i : Nat} : i ∈ els s ↔ i < 64 ∧ s.testBit i = true := by simp [els]
theorem els_len (s : Nat) : (els s).length ≤ 64 := by
  have := List.length_filter_le s.testBit (List.range 64)
  simpa [els] using this
theorem els_zero : els 0 = [] := by decide +kernel
theorem els_ofP {s : Nat} (hs : s < 2 ^ 64) : ofP (fun i => (els s).contains i) 64 = s :=
  eq_of_bits (ofP_lt _ _) hs fun i hi => by
    rw [testBit_ofP, Bool.eq_iff_iff]
    simp [mem_els, hi]
theorem filter_split {p q : Nat → Bool} {n k : Nat} (hk : k < n) (h0 : ∀ i, i < k → p i = false) (h1 : p k = true) (hq : ∀ i, q i = (p i && decide (i ≠ k))) :
    (List.range n).filter p = k :: (List.range n).filter q := by
  have e : List.range n = List.range' 0 k ++ (k :: List.range' (k + 1) (n - k - 1)) := by
    have e2 : List.range' k (n - k) = k :: List.range' (k + 1) (n - k - 1) := by
      rw [show n - k = (n - k - 1) + 1 by omega, List.range'_succ]
      simp
    rw [← e2, List.range_eq_range']
    have := List.range'_append (s := 0) (m := k) (n := n - k) (step := 1)
    simp at this
    rw [this]
    congr 1
    omega
  rw [e, List.filter_append, List.filter_append, List.filter_cons, List.filter_cons]
  have f1 : (List.range' 0 k).filter p = [] := by
    rw [List.filter_eq_nil_iff]
    intro i hi
    have : i < k := by simpa [List.mem_range'] using hi
    simp [h0 i this]
  have f2 : (List.range' 0 k).filter q = [] := by
    rw [List.filter_eq_nil_iff]
    intro i hi
    have : i < k := by simpa [List.mem_range'] using hi
    simp [hq, h0 i this]
  have f3 : (List.range' (k + 1) (n - k - 1)).filter q = (List.range' (k + 1) (n - k - 1)).filter p := by
    apply List.filter_congr
    intro i hi
    have : k + 1 ≤ i := by
      rw [List.mem_range'] at hi
      obtain ⟨j, _, rfl⟩ := hi
      omega
    simp [hq, show i ≠ k by omega]
  have hqk : q k = false := by simp [hq]
  rw [f1, f2, f3, h1, hqk]
  simp

/-! ### the least one, and the others -/
def low (s : Nat) : Nat := Lib.ctz 64 s
def rest (s : Nat) : Nat := s &&& (s - 1)
theorem rest_lt {s : Nat} (hs : s < 2 ^ 64) : rest s < 2 ^ 64 := Nat.lt_of_le_of_lt Nat.and_le_left hs
theorem low_spec {s : Nat} (h0 : s ≠ 0) (hs : s < 2 ^ 64) : ∃ m, s = 2 ^ low s * (2 * m + 1) ∧ low s < 64 := by
  obtain ⟨m, hm, hk⟩ := Lib.ctzFrom_spec 64 s (by omega) hs
  have e : low s = Lib.ctzFrom 64 s := by simp [low, Lib.ctz, h0]
  rw [e]
  exact ⟨m, hm, hk⟩
theorem low_and {s : Nat} (h0 : s ≠ 0) (hs : s < 2 ^ 64) : s &&& (18446744073709551616 - s) = 2 ^ low s := (Lib.lowest_bit 64 s h0 hs).1
theorem bits_of_low {k m i : Nat} : (2 ^ k * (2 * m + 1)).testBit i = if i < k then false else if i = k then true else m.testBit (i - k - 1) := by
  rw [Nat.mul_comm, Nat.testBit_mul_two_pow]
  by_cases h1 : i < k
  · simp [h1, show ¬ k ≤ i by omega]
  · by_cases h2 : i = k
    · subst h2
      simp [Nat.testBit_zero]
    · rw [if_neg h1, if_neg h2, show i - k = (i - k - 1) + 1 by omega, Nat.testBit_succ, show (2 * m + 1) / 2 = m by omega]
      simp [show k ≤ i by omega]
theorem testBit_rest {s : Nat} (h0 : s ≠ 0) (hs : s < 2 ^ 64) (i : Nat) : (rest s).testBit i = (s.testBit i && decide (i ≠ low s)) := by
  obtain ⟨m, hm, _⟩ := low_spec h0 hs
  generalize low s = k at hm
  subst hm
  unfold rest
  rw [Nat.testBit_and]
  have e : 2 ^ k * (2 * m + 1) - 1 = m * 2 ^ (k + 1) + (2 ^ k - 1) := by
    have hp : 0 < 2 ^ k := Nat.two_pow_pos k
    rw [Nat.mul_add, Nat.pow_succ, Nat.mul_one]
    have e2 : 2 ^ k * (2 * m) = m * (2 ^ k * 2) := by
      rw [Nat.mul_comm m, Nat.mul_assoc]
    omega
  rw [e]
  have hb : 2 ^ k - 1 < 2 ^ (k + 1) := by
    have hp : 0 < 2 ^ k := Nat.two_pow_pos k
    rw [Nat.pow_succ]; omega
  have ht : (m * 2 ^ (k + 1) + (2 ^ k - 1)).testBit i = if i < k + 1 then (2 ^ k - 1).testBit i else m.testBit (i - (k + 1)) := by
    rw [Nat.mul_comm]
    exact Nat.testBit_two_pow_mul_add m hb i
  rw [ht, bits_of_low]
  by_cases h1 : i < k
  · simp [h1]
  · by_cases h2 : i = k
    · subst h2
      simp
    · rw [if_neg h1, if_neg h2, if_neg (by omega), show i - (k + 1) = i - k - 1 by omega]
      simp [h2]
theorem els_cons {s : Nat} (h0 : s ≠ 0) (hs : s < 2 ^ 64) : els s = low s :: els (rest s) := by
  obtain ⟨m, hm, hk⟩ := low_spec h0 hs
  refine filter_split hk (fun i hi => ?_) ?_ (testBit_rest h0 hs)
  · have : (2 ^ low s * (2 * m + 1)).testBit i = false := by rw [bits_of_low, if_pos hi]
    rwa [← hm] at this
  · have : (2 ^ low s * (2 * m + 1)).testBit (low s) = true := by rw [bits_of_low, if_neg (by omega), if_pos rfl]
    rwa [← hm] at this
theorem els_rest_lt {s : Nat} (h0 : s ≠ 0) (hs : s < 2 ^ 64) : (els (rest s)).length < (els s).length := by
  rw [els_cons h0 hs]; simp

/-! ### with and without -/
def bitN (i : Int) : Nat := if 0 ≤ i ∧ i < 64 then 2 ^ i.toNat else 0
theorem bitN_lt (i : Int) : bitN i < 2 ^ 64 := by
  unfold bitN
  split
  · exact Nat.pow_lt_pow_right (by decide) (by omega)
  · exact Nat.two_pow_pos 64
theorem testBit_bitN (i : Int) (j : Nat) (hj : j < 64) : (bitN i).testBit j = decide (i = j) := by
  unfold bitN
  split
  · rw [Nat.testBit_two_pow]
    rw [Bool.eq_iff_iff]; simp; omega
  · rw [Nat.zero_testBit, eq_comm]
    simp; omega
def withN : Nat → List Int → Nat
  | s, [] => s
  | s, i :: l => withN (s ||| bitN i) l
def withoutN : Nat → List Int → Nat
  | s, [] => s
  | s, i :: l => withoutN (s ^^^ (s &&& bitN i)) l
theorem or_lt {a b : Nat} (ha : a < 2 ^ 64) (hb : b < 2 ^ 64) : a ||| b < 2 ^ 64 := Nat.or_lt_two_pow ha hb
theorem andNot_lt {a b : Nat} (ha : a < 2 ^ 64) : a ^^^ (a &&& b) < 2 ^ 64 := Nat.xor_lt_two_pow ha (Nat.lt_of_le_of_lt Nat.and_le_left ha)
theorem withN_lt : ∀ (l : List Int) (s : Nat), s < 2 ^ 64 → withN s l < 2 ^ 64
  | [], _, h => h
  | i :: l, s, h => withN_lt l _ (or_lt h (bitN_lt i))
theorem withoutN_lt : ∀ (l : List Int) (s : Nat), s < 2 ^ 64 → withoutN s l < 2 ^ 64
  | [], _, h => h
  | i :: l, s, h => withoutN_lt l _ (andNot_lt h)
theorem withN_snoc : ∀ (l : List Int) (s : Nat) (i : Int), withN s (l ++ [i]) = withN s l ||| bitN i
  | [], _, _ => rfl
  | _ :: l, s, i => withN_snoc l _ i
theorem withoutN_snoc : ∀ (l : List Int) (s : Nat) (i : Int), withoutN s (l ++ [i]) = withoutN s l ^^^ (withoutN s l &&& bitN i)
  | [], _, _ => rfl
  | _ :: l, s, i => withoutN_snoc l _ i
def inL (l : List Int) (i : Nat) : Bool := l.any (· == (i : Int))
theorem testBit_withN : ∀ (l : List Int) (s j : Nat), j < 64 → (withN s l).testBit j = (s.testBit j || inL l j)
  | [], s, j, _ => by simp [withN, inL]
  | i :: l, s, j, hj => by
    show (withN (s ||| bitN i) l).testBit j = _
    rw [testBit_withN l _ j hj, Nat.testBit_or, testBit_bitN i j hj, Bool.or_assoc]
    congr 1
theorem testBit_withoutN : ∀ (l : List Int) (s j : Nat), j < 64 → (withoutN s l).testBit j = (s.testBit j && !inL l j)
  | [], s, j, _ => by simp [withoutN, inL]
  | i :: l, s, j, hj => by
    show (withoutN (s ^^^ (s &&& bitN i)) l).testBit j = _
    rw [testBit_withoutN l _ j hj, Nat.testBit_xor, Nat.testBit_and, testBit_bitN i j hj]
    show _ = (s.testBit j && !(decide (i = (j : Int)) || inL l j))
    cases s.testBit j <;> cases decide (i = (j : Int)) <;> simp
/-- The reference's set of a list. -/
def ofN (l : List Int) : Nat := ofP (inL l) 64
theorem ofN_lt (l : List Int) : ofN l < 2 ^ 64 := ofP_lt _ _
theorem testBit_ofN (l : List Int) (j : Nat) (hj : j < 64) : (ofN l).testBit j = inL l j := by
  unfold ofN
  rw [testBit_ofP]
  simp [hj]
theorem ofN_eq (l : List Int) : withN 0 l = ofN l :=
  eq_of_bits (withN_lt l 0 (Nat.two_pow_pos 64)) (ofN_lt l) fun j hj => by rw [testBit_withN l 0 j hj, testBit_ofN l j hj]; simp
def elsI (s : Nat) : List Int := (els s).map Int.ofNat
theorem inL_elsI (s j : Nat) (hj : j < 64) : inL (elsI s) j = s.testBit j := by
  unfold inL elsI
  rw [Bool.eq_iff_iff, List.any_eq_true]
  constructor
  · rintro ⟨x, hx, hx2⟩
    obtain ⟨i, hi, rfl⟩ := List.mem_map.1 hx
    have : i = j := by simp at hx2; omega
    subst this
    exact (mem_els.1 hi).2
  · intro h
    exact ⟨(j : Int), List.mem_map.2 ⟨j, mem_els.2 ⟨hj, h⟩, rfl⟩, by simp⟩
theorem inL_append (a b : List Int) (j : Nat) : inL (a ++ b) j = (inL a j || inL b j) := List.any_append
theorem ofN_elsI {s : Nat} (hs : s < 2 ^ 64) : ofN (elsI s) = s :=
  eq_of_bits (ofN_lt _) hs fun j hj => by rw [testBit_ofN _ j hj, inL_elsI s j hj]
theorem withN_eq {s : Nat} (hs : s < 2 ^ 64) (l : List Int) : withN s l = ofN (elsI s ++ l) :=
  eq_of_bits (withN_lt l s hs) (ofN_lt _) fun j hj => by rw [testBit_withN l s j hj, testBit_ofN _ j hj, inL_append, inL_elsI s j hj]
/-- The reference's list of those that are not in another list. -/
def leaves (s : Nat) (l : List Int) : List Int := (elsI s).filter fun i => !(l.any (· == i))
theorem withoutN_eq {s : Nat} (hs : s < 2 ^ 64) (l : List Int) : withoutN s l = ofN (leaves s l) :=
  eq_of_bits (withoutN_lt l s hs) (ofN_lt _) fun j hj => by
    rw [testBit_withoutN l s j hj, testBit_ofN _ j hj, ← inL_elsI s j hj]
    unfold leaves inL
    rw [Bool.eq_iff_iff]
    simp only [Bool.and_eq_true, List.any_eq_true, List.mem_filter, beq_iff_eq, Bool.not_eq_true', List.any_eq_false]
    constructor
    · rintro ⟨⟨x, hx, rfl⟩, h⟩
      exact ⟨_, ⟨hx, fun y hy => by simpa using h y hy⟩, rfl⟩
    · rintro ⟨x, ⟨hx, h⟩, rfl⟩
      exact ⟨⟨_, hx, rfl⟩, fun y hy => by simpa using h y hy⟩

/-! ### all below a number -/
def allN (n : Int) : Nat := if 64 ≤ n then 18446744073709551615 else if n < 1 then 0 else 2 ^ n.toNat - 1
theorem allN_lt (n : Int) : allN n < 2 ^ 64 := by
  unfold allN
  split
  · decide
  · split
    · decide
    · have : 2 ^ n.toNat < 2 ^ 64 := Nat.pow_lt_pow_right (by decide) (by omega)
      omega
theorem testBit_allN (n : Int) (j : Nat) (hj : j < 64) : (allN n).testBit j = decide ((j : Int) < n) := by
  unfold allN
  split
  · rw [show (18446744073709551615 : Nat) = 2 ^ 64 - 1 from rfl, Nat.testBit_two_pow_sub_one]
    rw [Bool.eq_iff_iff, decide_eq_true_eq, decide_eq_true_eq]; omega
  · split
    · rw [Nat.zero_testBit, eq_comm, decide_eq_false_iff_not]; omega
    · rw [Nat.testBit_two_pow_sub_one, Bool.eq_iff_iff, decide_eq_true_eq, decide_eq_true_eq]; omega
/-- The reference's list below a number, 100 at most. -/
def upToN (n : Int) : List Int := (List.range (min n.toNat 100)).map Int.ofNat
theorem allN_eq (n : Int) : allN n = ofN (upToN n) :=
  eq_of_bits (allN_lt n) (ofN_lt _) fun j hj => by
    rw [testBit_allN n j hj, testBit_ofN _ j hj, Bool.eq_iff_iff]
    unfold inL upToN
    simp only [decide_eq_true_eq, List.any_eq_true, List.mem_map, List.mem_range, beq_iff_eq]
    constructor
    · intro h
      exact ⟨_, ⟨j, by omega, rfl⟩, rfl⟩
    · rintro ⟨_, ⟨i, hi, rfl⟩, h2⟩
      have : i = j := by simp at h2; omega
      omega
def belowN (s : Nat) (i : Int) : Nat := ((elsI s).filter fun k => decide (k < i)).length
theorem els_and_all (s : Nat) (i : Int) : (els (s &&& allN i)).length = belowN s i := by
  have e : els (s &&& allN i) = (els s).filter fun k : Nat => decide ((k : Int) < i) := by
    unfold els
    rw [List.filter_filter]
    apply List.filter_congr
    intro k hk
    rw [Nat.testBit_and, testBit_allN i k (List.mem_range.1 hk), Bool.and_comm]
  rw [e]
  unfold belowN elsI
  rw [List.filter_map, List.length_map]
  rfl

/-! ### the first ones -/
def firstN : Nat → Nat → Nat → Nat
  | 0, _, o => o
  | k + 1, s, o => if s = 0 then o else firstN k (rest s) (o ||| 2 ^ low s)
theorem testBit_firstN : ∀ (k s o j : Nat), s < 2 ^ 64 → j < 64 → (firstN k s o).testBit j = (o.testBit j || ((els s).take k).contains j)
  | 0, s, o, j, _, _ => by simp [firstN]
  | k + 1, s, o, j, hs, hj => by
    unfold firstN
    split
    · rename_i h0
      subst h0
      simp [els_zero]
    · rename_i h0
      rw [testBit_firstN k _ _ j (rest_lt hs) hj, els_cons h0 hs, Nat.testBit_or, Nat.testBit_two_pow]
      have e : decide (low s = j) = (j == low s) := by
        rw [Bool.eq_iff_iff, decide_eq_true_eq, beq_iff_eq]; exact eq_comm
      rw [List.take_succ_cons, List.contains_cons, Bool.or_assoc, e]
theorem firstN_lt : ∀ (k s o : Nat), s < 2 ^ 64 → o < 2 ^ 64 → firstN k s o < 2 ^ 64
  | 0, _, _, _, ho => ho
  | k + 1, s, o, hs, ho => by
    unfold firstN
    split
    · exact ho
    · rename_i h0
      obtain ⟨m, _, hk⟩ := low_spec h0 hs
      exact firstN_lt k _ _ (rest_lt hs) (or_lt ho (Nat.pow_lt_pow_right (by decide) hk))
theorem firstN_eq {s : Nat} (hs : s < 2 ^ 64) (k : Nat) : firstN k s 0 = ofN ((elsI s).take k) :=
  eq_of_bits (firstN_lt k s 0 hs (Nat.two_pow_pos 64)) (ofN_lt _) fun j hj => by
    rw [testBit_firstN k s 0 j hs hj, testBit_ofN _ j hj, Nat.zero_testBit, Bool.false_or]
    unfold elsI inL
    rw [← List.map_take, Bool.eq_iff_iff, List.any_eq_true]
    simp only [List.contains_iff_mem, List.mem_map, beq_iff_eq]
    constructor
    · intro h
      exact ⟨_, ⟨j, h, rfl⟩, rfl⟩
    · rintro ⟨_, ⟨i, hi, rfl⟩, h2⟩
      have : i = j := by simp at h2; omega
      subst this
      exact hi
end Go.Proofs.YtfkfheddhnjaaaaGreat
