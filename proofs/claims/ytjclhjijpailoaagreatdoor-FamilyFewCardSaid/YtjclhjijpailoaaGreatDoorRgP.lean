/- Plain law: distances that are bettered till none is: whose is not below 0 is reached. -/
import Derived.Test.YtjclhjijpailoaaGreatDoorCfF
namespace Go.Proofs.YtjclhjijpailoaaGreatDoor
open Go.RowKit Law
set_option linter.unusedVariables false
set_option linter.unusedSimpArgs false

/-- Nodes that are there. -/
def PP (n off : Nat) (k : Nat) : Prop := k < n ∧ off.testBit k = false
def EE (L : List Pr) (j k : Nat) : Prop := adjB L (j : Int) (k : Int) = true
def gI (d : List Int) (k : Nat) : Int := d.getD k 0
def betterB (L : List Pr) (off : Nat) (d : List Int) (a b : Nat) : Bool := decide (0 ≤ gI d a) && (!hasB off (b : Int) && (adjB L (a : Int) (b : Int) && (decide (gI d b < 0) || decide (gI d b > gI d a + 1))))
def sumI (f : Int → Nat) (d : List Int) : Nat := (d.map f).sum
theorem sumI_set (f : Int → Nat) : ∀ (d : List Int) (b : Nat) (x : Int), b < d.length → sumI f (d.set b x) + f (gI d b) = sumI f d + f x
  | [], b, x, h => by simp at h
  | y :: r, 0, x, h => by simp [sumI, gI]; omega
  | y :: r, b + 1, x, h => by
    have ih := sumI_set f r b x (by simpa using h)
    have hg : gI (y :: r) (b + 1) = gI r b := rfl
    rw [hg]
    simp only [List.set_cons_succ, sumI, List.map_cons, List.sum_cons] at ih ⊢
    omega
def cntI (d : List Int) : Nat := sumI (fun x => if 0 ≤ x then 1 else 0) d
def muI (n : Nat) (d : List Int) : Nat := sumI (fun x => if x < 0 then n else x.toNat) d
theorem cntI_le : ∀ d : List Int, cntI d ≤ d.length
  | [] => by simp [cntI, sumI]
  | x :: r => by
    have ih := cntI_le r
    unfold cntI sumI at ih ⊢
    simp only [List.map_cons, List.sum_cons, List.length_cons]
    split <;> omega
/-- How distances stand. -/
structure DI (n : Nat) (L : List Pr) (off i : Nat) (d : List Int) : Prop where
  len : d.length = n
  start : gI d i = 0
  low : ∀ k, k < n → -1 ≤ gI d k
  bound : ∀ k, k < n → gI d k < (cntI d : Int)
  sound : ∀ k, k < n → 0 ≤ gI d k → Rch (PP n off) (EE L) i k
theorem getD_set' (d : List Int) (b k : Nat) (x : Int) (hb : b < d.length) : gI (d.set b x) k = if b = k then x else gI d k := by
  by_cases e : b = k
  · subst e; simp [gI, hb]
  · simp [gI, e, List.getElem?_set_ne e]
theorem DI.better {n : Nat} {L : List Pr} {off i : Nat} {d : List Int} (h : DI n L off i d) {a b : Nat} (ha : a < n) (hb : b < n) (hb64 : b < 64) (hq : betterB L off d a b = true) : DI n L off i (d.set b (gI d a + 1)) ∧ muI n (d.set b (gI d a + 1)) < muI n d := by
  unfold betterB at hq
  simp only [Bool.and_eq_true, decide_eq_true_eq, Bool.not_eq_true', Bool.or_eq_true] at hq
  obtain ⟨h0, h1, h2, h3⟩ := hq
  have hbl : b < d.length := by rw [h.len]; exact hb
  have hs := h.start
  have hba := h.bound a ha
  have hbb := h.bound b hb
  have hcn : cntI d ≤ n := by have := cntI_le d; rw [h.len] at this; exact this
  have hc := sumI_set (fun x => if 0 ≤ x then 1 else 0) d b (gI d a + 1) hbl
  have hm := sumI_set (fun x => if x < 0 then n else x.toNat) d b (gI d a + 1) hbl
  have hcd : cntI d = sumI (fun x => if 0 ≤ x then 1 else 0) d := rfl
  have hcd2 : cntI (d.set b (gI d a + 1)) = sumI (fun x => if 0 ≤ x then 1 else 0) (d.set b (gI d a + 1)) := rfl
  have hlen := h.low b hb
  have hpb : off.testBit b = false := by
    rw [hasB_yes off b hb64] at h1; exact h1
  have hra := h.sound a ha h0
  simp only [if_pos (show (0 : Int) ≤ gI d a + 1 by omega)] at hc
  simp only [if_neg (show ¬ gI d a + 1 < 0 by omega)] at hm
  refine ⟨⟨by simp [h.len], ?_, fun k hk => ?_, fun k hk => ?_, fun k hk hk0 => ?_⟩, ?_⟩
  · rw [getD_set' _ _ _ _ hbl]
    split
    · rename_i e; rw [e] at h3; clear hc hm; rcases h3 with h3 | h3 <;> omega
    · exact hs
  · rw [getD_set' _ _ _ _ hbl]
    split
    · omega
    · exact h.low k hk
  · rw [getD_set' _ _ _ _ hbl]
    have hbk := h.bound k hk
    split
    · rcases h3 with h3 | h3
      · rw [if_neg (by omega)] at hc; omega
      · rw [if_pos (by omega)] at hc; omega
    · rcases h3 with h3 | h3
      · rw [if_neg (by omega)] at hc; omega
      · rw [if_pos (by omega)] at hc; omega
  · rw [getD_set' _ _ _ _ hbl] at hk0
    split at hk0
    · rename_i e; subst e
      exact .step hra h2 ⟨hb, hpb⟩
    · exact h.sound k hk hk0
  · show sumI _ _ < sumI _ _
    rcases h3 with h3 | h3
    · have hc2 := cntI_le (d.set b (gI d a + 1))
      rw [List.length_set, h.len] at hc2
      rw [if_neg (by omega)] at hc
      rw [if_pos h3] at hm; omega
    · rw [if_neg (by omega)] at hm; omega
theorem DI.done {n : Nat} {L : List Pr} {off i : Nat} {d : List Int} (h : DI n L off i d) (hn : n ≤ 64) (hi : PP n off i) (hno : ∀ a b, a < n → b < n → betterB L off d a b = false) (k : Nat) (hk : k < n) : 0 ≤ gI d k ↔ Rch (PP n off) (EE L) i k := by
  refine ⟨h.sound k hk, fun hr => ?_⟩
  refine (Rch.closed (S := fun x => x < n ∧ 0 ≤ gI d x) hr ⟨hi.1, by rw [h.start]; exact Int.le_refl _⟩ (fun a b ha he hb => ⟨hb.1, ?_⟩)).2
  have h1 := hno a b ha.1 hb.1
  unfold betterB at h1
  have he' : adjB L (a : Int) (b : Int) = true := he
  rw [decide_eq_true ha.2, hasB_yes off b (by have := hb.1; omega), hb.2, he'] at h1
  simp at h1
  omega
/-- To begin with. -/
theorem DI.first {n : Nat} {L : List Pr} {off i : Nat} (hi : PP n off i) : DI n L off i ((List.replicate n (-1)).set i 0) := by
  have hl : i < (List.replicate n (-1 : Int)).length := by simpa using hi.1
  have hg : ∀ k, k < n → gI (List.replicate n (-1)) k = -1 := fun k hk => by simp [gI, hk]
  have hc := sumI_set (fun x => if 0 ≤ x then 1 else 0) (List.replicate n (-1)) i 0 hl
  rw [hg i hi.1] at hc
  have hcd2 : cntI ((List.replicate n (-1)).set i 0) = sumI (fun x => if 0 ≤ x then 1 else 0) ((List.replicate n (-1)).set i 0) := rfl
  simp only [if_neg (show ¬ (0 : Int) ≤ -1 by decide), if_pos (Int.le_refl 0)] at hc
  refine ⟨by simp, ?_, fun k hk => ?_, fun k hk => ?_, fun k hk h0 => ?_⟩
  · rw [getD_set' _ _ _ _ hl, if_pos rfl]
  · rw [getD_set' _ _ _ _ hl]; split
    · omega
    · rw [hg k hk]; omega
  · rw [getD_set' _ _ _ _ hl]; split
    · omega
    · rw [hg k hk]; omega
  · rw [getD_set' _ _ _ _ hl] at h0
    split at h0
    · rename_i e; subst e; exact .base hi
    · rw [hg k hk] at h0; omega
/-- The graph without some nodes is whole just where the program says so. -/
theorem whole_iff {n : Nat} {L : List Pr} (hL : ∀ l ∈ L, nodeB n l.1 = true ∧ nodeB n l.2 = true) (hn : n ≤ 64) (off : Nat) : wholeB n (nr (nearL n L)) off = true ↔ Conn (PP n off) (EE L) := by
  have hall : ∀ k, k < 64 → ((thereN n off).testBit k = true ↔ PP n off k) := fun k hk => by
    unfold thereN
    rw [testBit_andNot]
    have ha : (allN (n : Int)).testBit k = decide (k < n) := by
      unfold allN
      split
      · rename_i h1
        rw [show (18446744073709551615 : Nat) = 2 ^ 64 - 1 from rfl, Nat.testBit_two_pow_sub_one, decide_eq_true hk, decide_eq_true (by omega)]
      · split
        · rename_i h1 h2
          rw [Nat.zero_testBit, decide_eq_false (by omega)]
        · rw [Int.toNat_natCast, Nat.testBit_two_pow_sub_one]
    rw [ha]
    unfold PP
    simp
  have hlt := thereN_lt n off
  have hP : ∀ k, PP n off k → k < 64 := fun k h => by have := h.1; omega
  have hE : ∀ j k, j < 64 → k < 64 → ((nr (nearL n L) j).testBit k = true ↔ EE L j k) := fun j k _ _ => by rw [nearL_bits L hL]; exact Iff.rfl
  have hnl : ∀ j, nr (nearL n L) j < 18446744073709551616 := fun j => pow64 (nearL_pow hL j) hn
  have hoff : ∀ j k, j < 64 → k < 64 → EE L j k → (off.testBit k = false ↔ PP n off k) := fun j k _ _ he => ⟨fun h => ⟨(adj_lt hL he).2, h⟩, fun h => h.2⟩
  have hsym : ∀ a b, EE L a b → EE L b a := fun a b h => by unfold EE at *; rw [adjB_symm]; exact h
  unfold wholeB
  rw [Bool.and_eq_true, decide_eq_true_eq]
  by_cases h0 : thereN n off = 0
  · refine ⟨fun h => absurd h0 h.1, fun h => ?_⟩
    obtain ⟨⟨j, hj⟩, _⟩ := h
    have := (hall j (hP j hj)).2 hj
    rw [h0, Nat.zero_testBit] at this
    cases this
  · obtain ⟨m, hm, hl64⟩ := low_spec h0 hlt
    have hlow : (thereN n off).testBit (low (thereN n off)) = true := by
      have := mem_els.1 (show low (thereN n off) ∈ els (thereN n off) by rw [els_cons h0 hlt]; simp)
      exact this.2
    clear hm
    generalize hi : low (thereN n off) = i at *
    have hPi : PP n off i := (hall i hl64).1 hlow
    have hst : startN n i off = 2 ^ i := by
      refine Nat.eq_of_testBit_eq fun k => ?_
      unfold startN
      rw [testBit_andNot, Nat.testBit_and, Nat.testBit_two_pow]
      by_cases e : i = k
      · subst e
        have h1 : (allN (n : Int)).testBit i = true := by
          have := hlow
          unfold thereN at this
          rw [testBit_andNot] at this
          simp only [Bool.and_eq_true] at this
          exact this.1
        rw [h1, hPi.2]; simp
      · simp [e]
    have hI : RingI (PP n off) (EE L) i 0 (startN n i off) := by
      rw [hst]
      refine ⟨by decide, Nat.pow_lt_pow_right (m := i) (n := 64) (show 1 < 2 by decide) hl64, fun k hk h => ?_, fun k _ _ => Nat.zero_testBit k, fun j k _ _ h _ _ => absurd (h.symm.trans (Nat.zero_testBit j)) (by decide), fun _ _ => .inr (by rw [Nat.testBit_two_pow]; simp)⟩
      rcases h with h | h
      · rw [Nat.zero_testBit] at h; cases h
      · rw [Nat.testBit_two_pow] at h
        have : i = k := by simpa using h
        subst this
        exact .base hPi
    have hun := rings_union hP hE hnl hoff (fun k _ h => h.2) 65 0 (startN n i off) (by rw [els_zero]; decide) hI
    have hfl : fromN n (nr (nearL n L)) off i < 18446744073709551616 := by
      unfold fromN
      exact unionL_lt _ (fun x hx => pow64 (ringsN_lt (nearL_pow hL) 65 0 _ (startN_lt n i off hn) x hx) hn)
    have hfr : ∀ k, k < 64 → ((fromN n (nr (nearL n L)) off i).testBit k = true ↔ Rch (PP n off) (EE L) i k) := fun k hk => by
      have := hun k hk
      rw [Nat.zero_or] at this
      exact this
    constructor
    · rintro ⟨_, h⟩
      have heq : fromN n (nr (nearL n L)) off i = thereN n off := by simpa using h
      refine conn_of_one hsym hPi fun j hj => ?_
      rw [← hfr j (hP j hj), heq, hall j (hP j hj)]
      exact hj
    · intro h
      refine ⟨h0, ?_⟩
      rw [beq_iff_eq]
      refine Nat.eq_of_testBit_eq fun k => ?_
      by_cases hk : k < 64
      · rw [Bool.eq_iff_iff, hfr k hk, hall k hk]
        exact ⟨fun hr => hr.here.2, fun hk' => h.2 i k hPi hk'⟩
      · rw [Nat.testBit_lt_two_pow (Nat.lt_of_lt_of_le hfl (Nat.pow_le_pow_right (show 0 < 2 by decide) (show 64 ≤ k by omega))), Nat.testBit_lt_two_pow (Nat.lt_of_lt_of_le hlt (Nat.pow_le_pow_right (show 0 < 2 by decide) (show 64 ≤ k by omega)))]
end Go.Proofs.YtjclhjijpailoaaGreatDoor
