/- More on sets as numbers: the first ones and the others; with and without one. Plain Lean, no program. -/
import Derived.Test.YtfkfheddhnjaaaaGreatSetP
namespace Go.Proofs.YtfkfheddhnjaaaaGreat
open Go
set_option linter.unusedVariables false
set_option linter.unusedSimpArgs false

theorem els_sorted (s : Nat) : (els s).Pairwise (· < ·) := by
  unfold els
  exact List.Pairwise.filter _ List.pairwise_lt_range
theorem els_nodup (s : Nat) : (els s).Nodup := (els_sorted s).imp (fun h => Nat.ne_of_lt h)
theorem filter_mem_take : ∀ (k : Nat) (l : List Nat), l.Nodup → l.filter (fun i => (l.take k).contains i) = l.take k
  | 0, l, _ => by simp
  | k + 1, [], _ => rfl
  | k + 1, a :: l, h => by
    have h2 := List.nodup_cons.1 h
    have ih := filter_mem_take k l h2.2
    rw [List.take_succ_cons, List.filter_cons]
    have e : (a :: l.take k).contains a = true := by simp
    rw [e, if_pos rfl]
    congr 1
    have e2 : ∀ i ∈ l, (a :: l.take k).contains i = (l.take k).contains i := by
      intro i hi
      have : i ≠ a := fun h => h2.1 (h ▸ hi)
      simp [this]
    exact (List.filter_congr e2).trans ih
theorem filter_mem_drop : ∀ (k : Nat) (l : List Nat), l.Nodup → l.filter (fun i => !(l.take k).contains i) = l.drop k
  | 0, l, _ => by simp
  | k + 1, [], _ => rfl
  | k + 1, a :: l, h => by
    have h2 := List.nodup_cons.1 h
    have ih := filter_mem_drop k l h2.2
    rw [List.take_succ_cons, List.filter_cons]
    have e : (a :: l.take k).contains a = true := by simp
    rw [e, List.drop_succ_cons]
    have e2 : ∀ i ∈ l, (!(a :: l.take k).contains i) = (!(l.take k).contains i) := by
      intro i hi
      have : i ≠ a := fun h => h2.1 (h ▸ hi)
      simp [this]
    simp only [Bool.not_true, Bool.false_eq_true, if_false]
    exact (List.filter_congr e2).trans ih
/-- The first ones. -/
theorem els_first {s : Nat} (hs : s < 2 ^ 64) (k : Nat) : els (firstN k s 0) = (els s).take k := by
  have h1 : els (firstN k s 0) = (els s).filter fun i => ((els s).take k).contains i := by
    unfold els
    rw [List.filter_filter]
    apply List.filter_congr
    intro j hj
    rw [testBit_firstN k s 0 j hs (List.mem_range.1 hj), Nat.zero_testBit, Bool.false_or]
    rw [Bool.eq_iff_iff, Bool.and_eq_true]
    constructor
    · intro h
      exact ⟨h, (mem_els.1 (List.mem_of_mem_take (List.contains_iff_mem.1 h))).2⟩
    · exact fun h => h.1
  rw [h1, filter_mem_take k _ (els_nodup s)]
/-- The others. -/
def restN (k s : Nat) : Nat := s ^^^ (s &&& firstN k s 0)
theorem restN_lt {s : Nat} (hs : s < 2 ^ 64) (k : Nat) : restN k s < 2 ^ 64 := andNot_lt hs
theorem els_others {s : Nat} (hs : s < 2 ^ 64) (k : Nat) : els (restN k s) = (els s).drop k := by
  have h1 : els (restN k s) = (els s).filter fun i => !((els s).take k).contains i := by
    unfold els
    rw [List.filter_filter]
    apply List.filter_congr
    intro j hj
    unfold restN
    rw [Nat.testBit_xor, Nat.testBit_and, testBit_firstN k s 0 j hs (List.mem_range.1 hj), Nat.zero_testBit, Bool.false_or]
    show (s.testBit j ^^ (s.testBit j && ((els s).take k).contains j)) = (!((els s).take k).contains j && s.testBit j)
    cases s.testBit j <;> cases ((els s).take k).contains j <;> rfl
  rw [h1, filter_mem_drop k _ (els_nodup s)]
theorem first_in {s : Nat} (hs : s < 2 ^ 64) (k : Nat) : firstN k s 0 ^^^ (firstN k s 0 &&& s) = 0 := by
  refine eq_of_bits (andNot_lt (firstN_lt k s 0 hs (Nat.two_pow_pos 64))) (Nat.two_pow_pos 64) fun j hj => ?_
  rw [Nat.testBit_xor, Nat.testBit_and, testBit_firstN k s 0 j hs hj, Nat.zero_testBit, Bool.false_or]
  cases h : ((els s).take k).contains j
  · rfl
  · have := (mem_els.1 (List.mem_of_mem_take (List.contains_iff_mem.1 h))).2
    rw [this]
    rfl
theorem first_count {s : Nat} (hs : s < 2 ^ 64) (k : Nat) : (els (firstN k s 0)).length = min k (els s).length := by
  rw [els_first hs, List.length_take]
/-- None that is left is below one of the first ones. -/
theorem first_below {s : Nat} (hs : s < 2 ^ 64) (k : Nat) (h0 : restN k s ≠ 0) : belowN (firstN k s 0) (low (restN k s) : Int) = (els (firstN k s 0)).length := by
  unfold belowN elsI
  rw [List.filter_map, List.length_map, els_first hs]
  have hp := els_sorted s
  have hd := els_others hs k
  rw [els_cons h0 (restN_lt hs k)] at hd
  have hta : (els s).take k ++ (els s).drop k = els s := List.take_append_drop _ _
  rw [← hta, List.pairwise_append] at hp
  have hall : ((els s).take k).filter ((fun z : Int => decide (z < (low (restN k s) : Int))) ∘ Int.ofNat) = (els s).take k := by
    rw [List.filter_eq_self]
    intro a ha
    have := hp.2.2 a ha (low (restN k s)) (by rw [← hd]; simp)
    show decide ((a : Int) < (low (restN k s) : Int)) = true
    rw [decide_eq_true_eq]
    omega
  rw [hall]

/-! ### with one, and without it -/
theorem inL_one (k : Int) (j : Nat) : inL [k] j = (k == (j : Int)) := by simp [inL]
theorem back_one {s : Nat} (hs : s < 2 ^ 64) (k : Int) : withoutN (withN s [k]) [k] = withoutN s [k] :=
  eq_of_bits (withoutN_lt _ _ (withN_lt _ _ hs)) (withoutN_lt _ _ hs) fun j hj => by
    rw [testBit_withoutN _ _ j hj, testBit_withN _ _ j hj, testBit_withoutN _ _ j hj, inL_one]
    cases s.testBit j <;> cases (k == (j : Int)) <;> rfl
theorem back_has (s : Nat) (k : Nat) (hk : k < 64) : (withN s [(k : Int)]).testBit k = true := by
  rw [testBit_withN _ _ k hk, inL_one]
  simp
theorem back_not (s : Nat) (k : Nat) (hk : k < 64) : (withoutN s [(k : Int)]).testBit k = false := by
  rw [testBit_withoutN _ _ k hk, inL_one]
  simp
end Go.Proofs.YtfkfheddhnjaaaaGreat
