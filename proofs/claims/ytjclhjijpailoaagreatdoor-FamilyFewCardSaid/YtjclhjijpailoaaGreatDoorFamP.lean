/- The plain law: of what a maker's choices make. -/
import Derived.Test.YtjclhjijpailoaaGreatDoorFam
namespace Go.Proofs.YtjclhjijpailoaaGreatDoor
open Go.RowKit Law
set_option linter.unusedVariables false
set_option linter.unusedSimpArgs false

theorem filter_or (p : Nat → Bool) (i : Nat) : ∀ n, ((List.range n).filter fun j => p j || decide (j = i)).length = ((List.range n).filter p).length + if i < n ∧ p i = false then 1 else 0
  | 0 => by simp
  | n + 1 => by
    have ih := filter_or p i n
    rw [List.range_succ, List.filter_append, List.filter_append, List.length_append, List.length_append, ih]
    by_cases hi : n = i
    · subst hi
      cases hp : p n <;> simp [hp]
    · cases hp : p n
      · simp only [List.filter_cons, hp, decide_eq_false hi, Bool.or_false, Bool.false_eq_true, if_false, List.filter_nil, List.length_nil]
        by_cases h1 : i < n ∧ p i = false
        · rw [if_pos h1, if_pos ⟨by omega, h1.2⟩]
        · rw [if_neg h1, if_neg (fun h => h1 ⟨by omega, h.2⟩)]
      · simp only [List.filter_cons, hp, Bool.true_or, if_true, List.filter_nil, List.length_cons, List.length_nil]
        by_cases h1 : i < n ∧ p i = false
        · rw [if_pos h1, if_pos ⟨by omega, h1.2⟩]
        · rw [if_neg h1, if_neg (fun h => h1 ⟨by omega, h.2⟩)]
theorem els_or {s i : Nat} (hi : i < 64) : (els (s ||| 2 ^ i)).length = (els s).length + if s.testBit i then 0 else 1 := by
  have e : els (s ||| 2 ^ i) = (List.range 64).filter fun j => s.testBit j || decide (j = i) := by
    unfold els
    apply List.filter_congr
    intro j _
    rw [Nat.testBit_or, Nat.testBit_two_pow]
    by_cases h : i = j
    · subst h; simp
    · have h2 : ¬ j = i := fun e => h e.symm
      simp [h, h2]
  rw [e, filter_or]
  show _ = ((List.range 64).filter s.testBit).length + _
  cases s.testBit i <;> simp [hi]
theorem hasB_bit {s i : Nat} (hi : i < 64) : hasB s (i : Int) = s.testBit i := by
  have h1 : (i : Int) < 64 := by omega
  simp [hasB, h1]
/-- Which nodes are down behind an act; none: it may not be. -/
def dstep (N : Nat) (o : Option Nat) (a : Fd) : Option Nat :=
  match o with
  | none => none
  | some dn =>
    if 0 ≤ a.node ∧ a.node < (N : Int) then
      if a.k = 4 then (if dn.testBit a.node.toNat then none else some (dn ||| 2 ^ a.node.toNat))
      else if a.k = 5 then (if dn.testBit a.node.toNat then some (dn ^^^ (dn &&& 2 ^ a.node.toNat)) else none)
      else if a.k = 7 then (if dn.testBit a.node.toNat then none else some dn)
      else some dn
    else none
def downs (N : Nat) (l : List Fd) : Option Nat := l.foldl (dstep N) (some 0)
theorem downs_snoc (N : Nat) (l : List Fd) (a : Fd) : downs N (l ++ [a]) = dstep N (downs N l) a := by simp [downs, List.foldl_append]
theorem downs_none (N : Nat) : ∀ (l : List Fd), l.foldl (dstep N) none = none
  | [] => rfl
  | a :: l => by rw [List.foldl_cons]; exact downs_none N l
theorem downs_take {N : Nat} {l : List Fd} {d : Nat} (h : downs N l = some d) (k : Nat) : ∃ e, downs N (l.take k) = some e := by
  rw [← List.take_append_drop k l] at h
  unfold downs at h ⊢
  rw [List.foldl_append] at h
  cases hx : (l.take k).foldl (dstep N) (some 0) with
  | none => rw [hx, downs_none] at h; cases h
  | some e => exact ⟨e, rfl⟩
structure FInv (N : Nat) (c : Cn) (S : MS) : Prop where
  dn : downs N S.acts = some S.dn
  sub : ∀ j, S.dn.testBit j = true → S.fy.testBit j = true
  few : ((els S.fy).length : Int) ≤ c.f
theorem dstep_idle {N : Nat} (hN : 1 ≤ N) {k i n x y z : Int} (h4 : k ≠ 4) (h5 : k ≠ 5) (h7 : k ≠ 7) (h0 : 0 ≤ i) (hi : i < (N : Int)) (d : Nat) : dstep N (some d) ⟨k, i, n, x, y, z⟩ = some d := by
  unfold dstep
  simp only []
  rw [if_pos ⟨h0, hi⟩, if_neg h4, if_neg h5, if_neg h7]
theorem FInv.idle {N : Nat} {c : Cn} {S : MS} (h : FInv N c S) (hN : 1 ≤ N) {k i n x y z : Int} (h4 : k ≠ 4) (h5 : k ≠ 5) (h7 : k ≠ 7) (h0 : 0 ≤ i) (hi : i < (N : Int)) : FInv N c (S.add ⟨k, i, n, x, y, z⟩) :=
  ⟨by show downs N (S.acts ++ [_]) = _; rw [downs_snoc, h.dn]; exact dstep_idle hN h4 h5 h7 h0 hi _, h.sub, h.few⟩
theorem FInv.fts {N : Nat} {c : Cn} {S : MS} (h : FInv N c S) (hN : 1 ≤ N) (fn : Nat → Int × Int × Int) : ∀ k, FInv N c (ftsN S fn k)
  | 0 => h
  | k + 1 => (h.fts hN fn k).idle hN (by decide) (by decide) (by decide) (by decide) (by omega)
theorem FInv.send {N : Nat} {c : Cn} {S : MS} (h : FInv N c S) (hN : 1 ≤ N) {i : Nat} (hi : i < N) : FInv N c (sendN S i) := by
  have := h.idle hN (k := 6) (i := (i : Int)) (n := 0) (x := 0) (y := 0) (z := 0) (by decide) (by decide) (by decide) (by omega) (by omega)
  exact ⟨this.dn, this.sub, this.few⟩
theorem FInv.crash {N : Nat} {c : Cn} {S : MS} (h : FInv N c S) {i : Nat} (hi : i < N) (h64 : N ≤ 64) (hd : S.dn.testBit i = false) (hf : S.fy.testBit i = true ∨ ((els S.fy).length : Int) < c.f) : FInv N c (crashN S i) := by
  refine ⟨?_, fun j hj => ?_, ?_⟩
  · show downs N (S.acts ++ [_]) = some (S.dn ||| 2 ^ i)
    rw [downs_snoc, h.dn]
    unfold dstep
    simp only []
    rw [if_pos ⟨by omega, by omega⟩, if_pos trivial, Int.toNat_natCast, hd]
    rfl
  · have hj : (S.dn ||| 2 ^ i).testBit j = true := hj
    show (S.fy ||| 2 ^ i).testBit j = true
    rw [Nat.testBit_or, Bool.or_eq_true] at hj ⊢
    exact hj.imp (h.sub j) id
  · show ((els (S.fy ||| 2 ^ i)).length : Int) ≤ c.f
    rw [els_or (by omega)]
    have := h.few
    rcases hf with hf | hf
    · rw [if_pos hf]; omega
    · split <;> omega
theorem FInv.rise {N : Nat} {c : Cn} {S : MS} (h : FInv N c S) {i : Nat} (hi : i < N) (hd : S.dn.testBit i = true) : FInv N c (riseN S i) := by
  have hb : (S.dn ^^^ (S.dn &&& 2 ^ i)).testBit i = false := by
    rw [Nat.testBit_xor, Nat.testBit_and, Nat.testBit_two_pow, hd]; simp
  refine ⟨?_, fun j hj => ?_, h.few⟩
  · show downs N (S.acts ++ [_] ++ [_]) = some (S.dn ^^^ (S.dn &&& 2 ^ i))
    rw [downs_snoc, downs_snoc, h.dn]
    have e1 : dstep N (some S.dn) ⟨5, i, 0, 0, 0, 0⟩ = some (S.dn ^^^ (S.dn &&& 2 ^ i)) := by
      unfold dstep
      simp only []
      rw [if_pos ⟨by omega, by omega⟩, if_neg (by decide), if_pos trivial, Int.toNat_natCast, hd]
      rfl
    rw [e1]
    unfold dstep
    simp only []
    rw [if_pos ⟨by omega, by omega⟩, if_neg (by decide), if_neg (by decide), if_pos trivial, Int.toNat_natCast, hb]
    rfl
  · have hj : (S.dn ^^^ (S.dn &&& 2 ^ i)).testBit j = true := hj
    refine h.sub j ?_
    rw [Nat.testBit_xor, Nat.testBit_and] at hj
    cases hx : S.dn.testBit j
    · rw [hx] at hj; simp at hj
    · rfl
theorem FInv.addN {near : List Nat} {c : Cn} {S : MS} (h : FInv near.length c S) (hN : 1 ≤ near.length) (h64 : near.length ≤ 64) (b : Nat) : FInv near.length c (addN near c S b) := by
  have hi : b / 8 % near.length < near.length := Nat.mod_lt _ (by omega)
  unfold Go.Proofs.YtjclhjijpailoaaGreatDoor.addN
  simp only []
  obtain ⟨i, hii⟩ : ∃ i, b / 8 % near.length = i := ⟨_, rfl⟩
  rw [hii] at hi ⊢
  have hsub : S.fy.testBit i = false → S.dn.testBit i = false := fun hf => by
    cases hx : S.dn.testBit i
    · rfl
    · rw [h.sub i hx] at hf; cases hf
  rw [hasB_bit (by omega), hasB_bit (by omega)]
  have tick : ∀ n, FInv near.length c (S.add ⟨1, 0, n, 0, 0, 0⟩) := fun n => h.idle hN (by decide) (by decide) (by decide) (by decide) (by omega)
  have hs : sureB c S i = true → S.fy.testBit i = false := fun hq => by
    unfold sureB at hq
    rw [hasB_bit (by omega)] at hq
    cases hx : S.fy.testBit i
    · rfl
    · rw [hx] at hq; cases hq
  have hm : moreB c S = true → ((els S.fy).length : Int) < c.f := fun hq => by simpa [moreB] using hq
  split
  · exact tick 1
  split
  · exact tick 4
  split
  · exact tick 16
  split
  · split
    · exact (h.fts hN _ _).send hN hi
    · exact h.send hN hi
  split
  · exact h.idle hN (by decide) (by decide) (by decide) (by omega) (by omega)
  split
  · split
    · rename_i hd
      exact h.rise hi hd
    · exact tick 2
  split
  · split
    · exact tick 3
    · rename_i hq
      cases hd : S.dn.testBit i
      · refine h.crash hi h64 hd ?_
        cases hf : S.fy.testBit i
        · cases hmm : moreB c S
          · rw [hd, hf, hmm] at hq; exact absurd rfl hq
          · exact .inr (hm hmm)
        · exact .inl rfl
      · rw [hd] at hq; exact absurd rfl hq
  · split
    · exact tick 8
    · rename_i hq
      have h1 : sureB c S i = true := by cases hx : sureB c S i <;> simp [hx] at hq ⊢
      have h2 : moreB c S = true := by cases hx : moreB c S <;> simp [hx] at hq ⊢
      have g := (h.fts hN (fun k => amidN c k (cnt near i)) (cnt near i)).send hN hi
      have e := ftsN_fy S (fun k => amidN c k (cnt near i)) (cnt near i)
      refine g.crash hi h64 ?_ (.inr ?_)
      · show (ftsN S _ _).dn.testBit i = false
        rw [e.2.1]
        exact hsub (hs h1)
      · show ((els (ftsN S _ _).fy).length : Int) < c.f
        rw [e.1]
        exact hm h2
theorem FInv.start {N : Nat} {c : Cn} (hf : 0 ≤ c.f) : FInv N c S0 := ⟨rfl, fun j hj => by simp [S0] at hj, by
  show ((els 0).length : Int) ≤ c.f
  rw [els_zero]
  simpa using hf⟩
end Go.Proofs.YtjclhjijpailoaaGreatDoor
