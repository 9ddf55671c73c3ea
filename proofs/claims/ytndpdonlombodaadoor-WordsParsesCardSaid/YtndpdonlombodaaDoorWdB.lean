/- Words of acts as plain functions: an act's words, line and text; a line's act; a text's acts; each comes back from the other. -/
import Derived.Test.YtndpdonlombodaaDoorActD
import Derived.Test.YtndpdonlombodaaDoorWdA
namespace Go.Proofs.YtndpdonlombodaaDoor
open Go
set_option linter.unusedVariables false
set_option linter.unusedSimpArgs false

def wTick : List UInt8 := [116, 105, 99, 107]
def wDrift : List UInt8 := [100, 114, 105, 102, 116]
def wFate : List UInt8 := [102, 97, 116, 101]
def wCrash : List UInt8 := [99, 114, 97, 115, 104]
def wRestart : List UInt8 := [114, 101, 115, 116, 97, 114, 116]
def wSend : List UInt8 := [115, 101, 110, 100]
def wJoin : List UInt8 := [106, 111, 105, 110]
def wLeave : List UInt8 := [108, 101, 97, 118, 101]
def wGo : List UInt8 := [103, 111]
def wDrop : List UInt8 := [100, 114, 111, 112]
def wTwin : List UInt8 := [116, 119, 105, 110]
def wBend : List UInt8 := [98, 101, 110, 100]
def wordsOf (x : Ac) : List (List UInt8) :=
  if x.k = 1 then [wTick, Lib.itoa x.n]
  else if x.k = 2 then [wDrift, Lib.itoa x.node, Lib.itoa x.n]
  else if x.k = 3 then
    if x.f.k = 0 then [wFate, wGo, Lib.itoa x.f.d]
    else if x.f.k = 1 then [wFate, wDrop]
    else if x.f.k = 2 then [wFate, wTwin, Lib.itoa x.f.d, Lib.itoa x.f.a]
    else [wFate, wBend, Lib.itoa x.f.d, Lib.itoa x.f.p, Lib.itoa x.f.b]
  else if x.k = 4 then [wCrash, Lib.itoa x.node]
  else if x.k = 5 then [wRestart, Lib.itoa x.node]
  else if x.k = 7 then [wJoin, Lib.itoa x.node]
  else if x.k = 8 then [wLeave, Lib.itoa x.node]
  else if x.b = [] then [wSend, Lib.itoa x.node] else [wSend, Lib.itoa x.node, hexOf x.b]
def lineL (x : Ac) : List UInt8 := if goodA x then joinBy 32 (wordsOf x) else [63]
def printL (l : List Ac) : List UInt8 := l.flatMap fun x => lineL x ++ [10]
def kindL (w : List UInt8) : Int :=
  if w = wTick then 1 else if w = wDrift then 2 else if w = wFate then 3 else if w = wCrash then 4 else if w = wRestart then 5
  else if w = wSend then 6 else if w = wJoin then 7 else if w = wLeave then 8 else 0
def fateK (w : List UInt8) : Int := if w = wGo then 0 else if w = wDrop then 1 else if w = wTwin then 2 else if w = wBend then 3 else -1
def manyF (f : Int) : Nat := if f = 0 then 1 else if f = 1 then 0 else if f = 2 then 2 else 3
def Ac0 : Ac := ⟨0, 0, 0, Fa0, []⟩
def finW (wide : Bool) (x : Ac) : Ac × Int := if wide || !goodA x then (Ac0, 2) else (x, 0)
def numsL : List (List UInt8) → Option (List Int)
  | [] => some []
  | s :: r => match numL s with
    | none => none
    | some n => match numsL r with
      | none => none
      | some l => some (n :: l)
def wideN (n : Int) : Bool := decide (n % 4294967296 ≠ n)
def lowN (n : Int) : Nat := (n % 4294967296).toNat
/-- A fate of its words. -/
def fatedW (w : List (List UInt8)) : Fa × Int :=
  match w with
  | [] => (Fa0, 19)
  | v :: r =>
    if fateK v < 0 ∨ r.length ≠ manyF (fateK v) then (Fa0, 19)
    else match numsL r with
      | none => (Fa0, 5)
      | some l =>
        if fateK v = 0 then (⟨0, l.getD 0 0, 0, 0, 0⟩, 0)
        else if fateK v = 1 then (⟨1, 0, 0, 0, 0⟩, 0)
        else if fateK v = 2 then (⟨2, l.getD 0 0, l.getD 1 0, 0, 0⟩, 0)
        else if wideN (l.getD 1 0) || wideN (l.getD 2 0) then (Fa0, 2)
        else (⟨3, l.getD 0 0, 0, lowN (l.getD 1 0), lowN (l.getD 2 0)⟩, 0)
def manyK (k : Int) : Nat := if k = 2 then 2 else 1
/-- An act of its kind (not a fate's) and its words behind it. -/
def actW (k : Int) (w : List (List UInt8)) : Ac × Int :=
  if k = 6 ∧ w.length = 2 then
    match numL (w.getD 0 []), hexL (w.getD 1 []) with
    | some n, some b => (⟨6, n, 0, Fa0, b⟩, 0)
    | _, _ => (Ac0, 5)
  else if w.length ≠ manyK k then (Ac0, 19)
  else match numsL w with
    | none => (Ac0, 5)
    | some l =>
      if k = 1 then (⟨1, 0, l.getD 0 0, Fa0, []⟩, 0)
      else if k = 2 then (⟨2, l.getD 0 0, l.getD 1 0, Fa0, []⟩, 0)
      else (⟨k, l.getD 0 0, 0, Fa0, []⟩, 0)
/-- What a line's words are, before it is asked whether the act may be. -/
def rawW (w : List (List UInt8)) : Ac × Int :=
  if kindL (w.headD []) = 0 then (Ac0, 19)
  else if kindL (w.headD []) = 3 then (⟨3, 0, 0, (fatedW w.tail).1, []⟩, (fatedW w.tail).2)
  else actW (kindL (w.headD [])) w.tail
def oneW (w : List (List UInt8)) : Ac × Int :=
  if (rawW w).2 ≠ 0 then (Ac0, (rawW w).2) else if goodA (rawW w).1 then ((rawW w).1, 0) else (Ac0, 2)
def oneL (s : List UInt8) : Ac × Int := oneW (cutBy 32 s)
def goL (i : Nat) (acc : List Ac) : List (List UInt8) → List Ac × Int × Int
  | [] => (acc, i, 0)
  | s :: r => if (oneL s).2 ≠ 0 then ([], i, (oneL s).2) else goL (i + 1) (acc ++ [(oneL s).1]) r
def linesL (s : List UInt8) : List (List UInt8) := if (cutBy 10 s).getLastD [] = [] then (cutBy 10 s).dropLast else cutBy 10 s
def parseL (s : List UInt8) : List Ac × Int × Int :=
  if 1048576 < s.length then ([], 0, 4) else if 4096 < (linesL s).length then ([], 0, 4) else goL 0 [] (linesL s)

/-! ### from words to acts and back -/
theorem kindL_eq {w : List UInt8} : (kindL w = 1 → w = wTick) ∧ (kindL w = 2 → w = wDrift) ∧ (kindL w = 3 → w = wFate) ∧ (kindL w = 4 → w = wCrash) ∧ (kindL w = 5 → w = wRestart) ∧ (kindL w = 6 → w = wSend) ∧ (kindL w = 7 → w = wJoin) ∧ (kindL w = 8 → w = wLeave) ∧ 0 ≤ kindL w ∧ kindL w ≤ 8 := by
  unfold kindL
  repeat' split
  all_goals simp_all
theorem fateK_eq {w : List UInt8} : (fateK w = 0 → w = wGo) ∧ (fateK w = 1 → w = wDrop) ∧ (fateK w = 2 → w = wTwin) ∧ (fateK w = 3 → w = wBend) ∧ -1 ≤ fateK w ∧ fateK w ≤ 3 := by
  unfold fateK
  repeat' split
  all_goals simp_all
theorem numsL_len : ∀ {w : List (List UInt8)} {l : List Int}, numsL w = some l → l.length = w.length ∧ w = l.map Lib.itoa
  | [], l, h => by injection h with h; subst h; exact ⟨rfl, rfl⟩
  | s :: r, l, h => by
    unfold numsL at h
    cases hs : numL s with
    | none => rw [hs] at h; cases h
    | some n =>
      cases hr : numsL r with
      | none => rw [hs, hr] at h; cases h
      | some l2 =>
        rw [hs, hr] at h
        injection h with h
        subst h
        have h1 := (itoa_num hs).1
        have h2 := numsL_len hr
        exact ⟨by simp [h2.1], by rw [List.map_cons, h1, ← h2.2]⟩
theorem numsL_map : ∀ (l : List Int), (∀ n ∈ l, -9223372036854775808 ≤ n ∧ n ≤ 9223372036854775807) → numsL (l.map Lib.itoa) = some l
  | [], _ => rfl
  | n :: l, h => by
    have h1 := h n (by simp)
    rw [List.map_cons]
    unfold numsL
    rw [num_itoa n h1.1 h1.2, numsL_map l (fun m hm => h m (by simp [hm]))]
theorem low_wide {n : Int} (h : wideN n = false) : Lib.itoa (lowN n : Int) = Lib.itoa n ∧ ((lowN n : Nat) : Int) = n := by
  unfold wideN at h
  rw [decide_eq_false_iff_not, Decidable.not_not] at h
  have : ((lowN n : Nat) : Int) = n := by unfold lowN; omega
  exact ⟨by rw [this], this⟩
theorem fated_back {w : List (List UInt8)} (h : (fatedW w).2 = 0) : wordsOf ⟨3, 0, 0, (fatedW w).1, []⟩ = wFate :: w := by
  cases w with
  | nil => exact absurd h (by decide)
  | cons v r =>
    obtain ⟨f0, f1, f2, f3, lo, hi⟩ := @fateK_eq v
    unfold fatedW at h ⊢
    simp only [] at h ⊢
    split at h
    · exact absurd h (by decide)
    · rename_i hc
      rw [if_neg hc]
      have hc1 : ¬ fateK v < 0 := fun e => hc (Or.inl e)
      have hc2 : r.length = manyF (fateK v) := by
        rcases Decidable.em (r.length = manyF (fateK v)) with e | e
        · exact e
        · exact absurd (Or.inr e) hc
      cases hr : numsL r with
      | none => rw [hr] at h; exact absurd (show (5 : Int) = 0 from h) (by decide)
      | some l =>
        rw [hr] at h
        simp only [] at h ⊢
        obtain ⟨hl, hm⟩ := numsL_len hr
        rw [hc2] at hl
        split at h
        · rename_i hk
          rw [if_pos hk]
          rw [hk] at hl
          have hv := f0 hk
          subst hv
          match l, hl with
          | [a], _ => subst hm; rfl
        · rename_i hk0
          rw [if_neg hk0]
          split at h
          · rename_i hk
            rw [if_pos hk]
            rw [hk] at hl
            have hv := f1 hk
            subst hv
            match l, hl with
            | [], _ => subst hm; rfl
          · rename_i hk1
            rw [if_neg hk1]
            split at h
            · rename_i hk
              rw [if_pos hk]
              rw [hk] at hl
              have hv := f2 hk
              subst hv
              match l, hl with
              | [a, b], _ => subst hm; rfl
            · rename_i hk2
              rw [if_neg hk2]
              have hk : fateK v = 3 := by omega
              rw [hk] at hl
              have hv := f3 hk
              subst hv
              split at h
              · exact absurd h (by decide)
              · rename_i hw
                rw [if_neg hw]
                simp only [Bool.not_eq_true, Bool.or_eq_false_iff] at hw
                match l, hl with
                | [a, b, c], _ =>
                  subst hm
                  have hb := (low_wide (n := b) hw.1).1
                  have hc := (low_wide (n := c) hw.2).1
                  show [wFate, wBend, Lib.itoa a, Lib.itoa (lowN b : Int), Lib.itoa (lowN c : Int)] = _
                  rw [hb, hc]; rfl
theorem act_back {k : Int} {w : List (List UInt8)} (hk : k = 1 ∨ k = 2 ∨ k = 4 ∨ k = 5 ∨ k = 6 ∨ k = 7 ∨ k = 8) (h : (actW k w).2 = 0) :
    wordsOf (actW k w).1 = (if k = 1 then wTick else if k = 2 then wDrift else if k = 4 then wCrash else if k = 5 then wRestart else if k = 6 then wSend else if k = 7 then wJoin else wLeave) :: w := by
  unfold actW at h ⊢
  split at h
  · rename_i h6
    obtain ⟨h6, hl⟩ := h6
    subst h6
    rw [if_pos ⟨rfl, hl⟩]
    match w, hl with
    | [a, b], _ =>
      simp only [List.getD_cons_zero, List.getD_cons_succ] at h ⊢
      cases ha : numL a with
      | none => rw [ha] at h; exact absurd (show (5 : Int) = 0 from h) (by decide)
      | some n =>
        cases hb : hexL b with
        | none => rw [ha, hb] at h; exact absurd (show (5 : Int) = 0 from h) (by decide)
        | some c =>
          have h1 := (itoa_num ha).1
          obtain ⟨h2, h3⟩ := hexOf_L hb
          simp only []
          show (if c = [] then [wSend, Lib.itoa n] else [wSend, Lib.itoa n, hexOf c]) = _
          rw [if_neg h3, h1, h2]; rfl
  · rename_i h6
    rw [if_neg h6]
    split at h
    · exact absurd (show (19 : Int) = 0 from h) (by decide)
    · rename_i hl
      rw [if_neg hl]
      have hl : w.length = manyK k := Decidable.not_not.1 hl
      cases hr : numsL w with
      | none => rw [hr] at h; exact absurd (show (5 : Int) = 0 from h) (by decide)
      | some l =>
        simp only []
        obtain ⟨hll, hm⟩ := numsL_len hr
        rw [hl] at hll
        rcases hk with rfl | rfl | rfl | rfl | rfl | rfl | rfl
        all_goals first | (match l, hll with | [a], _ => subst hm; rfl) | (match l, hll with | [a, b], _ => subst hm; rfl)
theorem raw_back {w : List (List UInt8)} (hne : w ≠ []) (h : (rawW w).2 = 0) : wordsOf (rawW w).1 = w := by
  obtain ⟨k1, k2, k3, k4, k5, k6, k7, k8, lo, hi⟩ := @kindL_eq (w.headD [])
  have he : w.headD [] :: w.tail = w := by cases w with | nil => exact absurd rfl hne | cons a r => rfl
  unfold rawW at h ⊢
  split at h
  · exact absurd h (by decide)
  · rename_i hk0
    rw [if_neg hk0]
    split at h
    · rename_i hk3
      rw [if_pos hk3]
      show wordsOf ⟨3, 0, 0, (fatedW w.tail).1, []⟩ = w
      rw [fated_back h, ← k3 hk3, he]
    · rename_i hk3
      rw [if_neg hk3]
      have hc : kindL (w.headD []) = 1 ∨ kindL (w.headD []) = 2 ∨ kindL (w.headD []) = 4 ∨ kindL (w.headD []) = 5 ∨ kindL (w.headD []) = 6 ∨ kindL (w.headD []) = 7 ∨ kindL (w.headD []) = 8 := by omega
      rw [act_back hc h]
      rcases hc with e | e | e | e | e | e | e
      · rw [e, if_pos rfl, ← k1 e, he]
      · rw [e, if_neg (by decide), if_pos rfl, ← k2 e, he]
      · rw [e, if_neg (by decide), if_neg (by decide), if_pos rfl, ← k4 e, he]
      · rw [e, if_neg (by decide), if_neg (by decide), if_neg (by decide), if_pos rfl, ← k5 e, he]
      · rw [e, if_neg (by decide), if_neg (by decide), if_neg (by decide), if_neg (by decide), if_pos rfl, ← k6 e, he]
      · rw [e, if_neg (by decide), if_neg (by decide), if_neg (by decide), if_neg (by decide), if_neg (by decide), if_pos rfl, ← k7 e, he]
      · rw [e, if_neg (by decide), if_neg (by decide), if_neg (by decide), if_neg (by decide), if_neg (by decide), if_neg (by decide), ← k8 e, he]
theorem one_back {s : List UInt8} (h : (oneL s).2 = 0) : lineL (oneL s).1 = s := by
  unfold oneL oneW at h ⊢
  split at h
  · rename_i hr; exact absurd h hr
  · rename_i hr
    rw [if_neg hr]
    split at h
    · rename_i hg
      rw [if_pos hg]
      unfold lineL
      rw [if_pos hg]
      simp only []
      rw [raw_back (cutBy_ne _ _) (Decidable.not_not.1 hr), join_cut]
    · exact absurd h (by decide)
/-- What may be of an act: its shape. -/
theorem good_shape {x : Ac} (h : goodA x = true) :
    (∃ n, x = ⟨1, 0, n, Fa0, []⟩ ∧ 0 < n ∧ n < 65) ∨ (∃ f, x = ⟨3, 0, 0, f, []⟩ ∧ goodF f = true) ∨ (∃ i n, x = ⟨2, i, n, Fa0, []⟩ ∧ 0 ≤ i ∧ i ≤ 63 ∧ -1048576 ≤ n ∧ n ≤ 1048576) ∨
    (∃ i b, x = ⟨6, i, 0, Fa0, b⟩ ∧ 0 ≤ i ∧ i ≤ 63 ∧ b.length < 1025) ∨ (∃ k i, x = ⟨k, i, 0, Fa0, []⟩ ∧ 0 ≤ i ∧ i ≤ 63 ∧ (k = 4 ∨ k = 5 ∨ k = 7 ∨ k = 8)) := by
  obtain ⟨k, node, n, f, b⟩ := x
  unfold goodA acB at h
  simp only at h
  split at h
  · rename_i hk
    simp only [Bool.and_eq_true, decide_eq_true_eq, Ac.mk.injEq] at h
    obtain ⟨⟨h1, h2, h3, h4, h5⟩, h6, h7⟩ := h
    exact Or.inl ⟨n, by rw [h1, h2, h4, h5], h6, h7⟩
  · split at h
    · rename_i hk
      simp only [Bool.and_eq_true, decide_eq_true_eq, Ac.mk.injEq] at h
      obtain ⟨⟨h1, h2, h3, h4, h5⟩, h6⟩ := h
      exact Or.inr (Or.inl ⟨f, by rw [h1, h2, h3, h5], h6⟩)
    · split at h
      · cases h
      · rename_i hr
        split at h
        · simp only [Bool.and_eq_true, decide_eq_true_eq, Ac.mk.injEq] at h
          obtain ⟨⟨h1, h2, h3, h4, h5⟩, h6, h7⟩ := h
          exact Or.inr (Or.inr (Or.inl ⟨node, n, by rw [h1, h4, h5], by omega, by omega, h6, h7⟩))
        · split at h
          · simp only [Bool.and_eq_true, decide_eq_true_eq, Ac.mk.injEq] at h
            obtain ⟨⟨h1, h2, h3, h4, h5⟩, h6⟩ := h
            exact Or.inr (Or.inr (Or.inr (Or.inl ⟨node, b, by rw [h1, h3, h4], by omega, by omega, h6⟩)))
          · simp only [decide_eq_true_eq, Ac.mk.injEq] at h
            obtain ⟨h1, h2, h3, h4, h5⟩ := h
            exact Or.inr (Or.inr (Or.inr (Or.inr ⟨k, node, by rw [h3, h4, h5], by omega, by omega, by omega⟩)))
theorem goodF_shape {f : Fa} (h : goodF f = true) : (f = ⟨1, 0, 0, 0, 0⟩) ∨ (∃ d, f = ⟨0, d, 0, 0, 0⟩ ∧ 1 ≤ d ∧ d ≤ 64) ∨ (∃ d a, f = ⟨2, d, a, 0, 0⟩ ∧ 1 ≤ d ∧ d ≤ 64 ∧ 1 ≤ a ∧ a ≤ 64) ∨ (∃ d p b, f = ⟨3, d, 0, p, b⟩ ∧ 1 ≤ d ∧ d ≤ 64) := by
  obtain ⟨k, d, a, p, b⟩ := f
  unfold goodF at h
  simp only at h
  split at h
  · exact Or.inl (of_decide_eq_true h)
  · split at h
    · cases h
    · rename_i hk1 hr
      split at h
      · rename_i hk
        have h := of_decide_eq_true h
        obtain ⟨h1, h2, h3, h4⟩ := h
        exact Or.inr (Or.inr (Or.inl ⟨d, a, by rw [hk, h3, h4], by omega, by omega, h1, h2⟩))
      · have h := of_decide_eq_true h
        obtain ⟨h1, h2⟩ := h
        rcases h2 with h2 | ⟨h2, h3⟩
        · exact Or.inr (Or.inr (Or.inr ⟨d, p, b, by rw [h1, h2], by omega, by omega⟩))
        · by_cases h4 : k = 3
          · exact Or.inr (Or.inr (Or.inr ⟨d, p, b, by rw [h1, h4], by omega, by omega⟩))
          · exact Or.inr (Or.inl ⟨d, by rw [h1, h2, h3, show k = 0 by omega], by omega, by omega⟩)
theorem low_small (p : Nat) (h : p < 4294967296) : wideN (p : Int) = false ∧ lowN (p : Int) = p := by
  unfold wideN lowN
  exact ⟨by rw [decide_eq_false_iff_not]; omega, by omega⟩
/-- An act that may be comes back from its words. -/
theorem raw_words {x : Ac} (h : goodA x = true) (hp : x.f.p < 4294967296) (hb : x.f.b < 4294967296) : rawW (wordsOf x) = (x, 0) := by
  rcases good_shape h with ⟨n, rfl, h1, h2⟩ | ⟨f, rfl, hf⟩ | ⟨i, n, rfl, h1, h2, h3, h4⟩ | ⟨i, b, rfl, h1, h2, h3⟩ | ⟨k, i, rfl, h1, h2, hk⟩
  · have hn := numsL_map [n] (by simp; omega)
    show rawW [wTick, Lib.itoa n] = _
    show (match numsL ([n].map Lib.itoa) with | none => (Ac0, 5) | some l => ((⟨1, 0, l.getD 0 0, Fa0, []⟩ : Ac), (0 : Int))) = _
    rw [hn]; rfl
  · rcases goodF_shape hf with rfl | ⟨d, rfl, h1, h2⟩ | ⟨d, a, rfl, h1, h2, h3, h4⟩ | ⟨d, p, b, rfl, h1, h2⟩
    · rfl
    · have hn := numsL_map [d] (by simp; omega)
      have e : fatedW [wGo, Lib.itoa d] = (⟨0, d, 0, 0, 0⟩, 0) := by
        show (match numsL ([d].map Lib.itoa) with | none => (Fa0, 5) | some l => ((⟨0, l.getD 0 0, 0, 0, 0⟩ : Fa), (0 : Int))) = _
        rw [hn]; rfl
      show ((⟨3, 0, 0, (fatedW [wGo, Lib.itoa d]).1, []⟩ : Ac), (fatedW [wGo, Lib.itoa d]).2) = _
      rw [e]
    · have hn := numsL_map [d, a] (by simp; omega)
      have e : fatedW [wTwin, Lib.itoa d, Lib.itoa a] = (⟨2, d, a, 0, 0⟩, 0) := by
        show (match numsL ([d, a].map Lib.itoa) with | none => (Fa0, 5) | some l => ((⟨2, l.getD 0 0, l.getD 1 0, 0, 0⟩ : Fa), (0 : Int))) = _
        rw [hn]; rfl
      show ((⟨3, 0, 0, (fatedW [wTwin, Lib.itoa d, Lib.itoa a]).1, []⟩ : Ac), (fatedW [wTwin, Lib.itoa d, Lib.itoa a]).2) = _
      rw [e]
    · simp only at hp hb
      have hn := numsL_map [d, (p : Int), (b : Int)] (by simp; omega)
      obtain ⟨p1, p2⟩ := low_small p hp
      obtain ⟨b1, b2⟩ := low_small b hb
      have e : fatedW [wBend, Lib.itoa d, Lib.itoa p, Lib.itoa b] = (⟨3, d, 0, p, b⟩, 0) := by
        show (match numsL ([d, (p : Int), (b : Int)].map Lib.itoa) with | none => (Fa0, 5) | some l => if wideN (l.getD 1 0) || wideN (l.getD 2 0) then (Fa0, 2) else ((⟨3, l.getD 0 0, 0, lowN (l.getD 1 0), lowN (l.getD 2 0)⟩ : Fa), (0 : Int))) = _
        rw [hn]
        simp [p1, p2, b1, b2]
      show ((⟨3, 0, 0, (fatedW [wBend, Lib.itoa d, Lib.itoa p, Lib.itoa b]).1, []⟩ : Ac), (fatedW [wBend, Lib.itoa d, Lib.itoa p, Lib.itoa b]).2) = _
      rw [e]
  · have hn := numsL_map [i, n] (by simp; omega)
    show (match numsL ([i, n].map Lib.itoa) with | none => (Ac0, 5) | some l => ((⟨2, l.getD 0 0, l.getD 1 0, Fa0, []⟩ : Ac), (0 : Int))) = _
    rw [hn]; rfl
  · by_cases hb0 : b = []
    · subst hb0
      have hn := numsL_map [i] (by simp; omega)
      show (match numsL ([i].map Lib.itoa) with | none => (Ac0, 5) | some l => ((⟨6, l.getD 0 0, 0, Fa0, []⟩ : Ac), (0 : Int))) = _
      rw [hn]; rfl
    · have e : wordsOf ⟨6, i, 0, Fa0, b⟩ = [wSend, Lib.itoa i, hexOf b] := by
        show (if b = [] then [wSend, Lib.itoa i] else [wSend, Lib.itoa i, hexOf b]) = _
        rw [if_neg hb0]
      rw [e]
      show (match numL (Lib.itoa i), hexL (hexOf b) with | some n, some b => ((⟨6, n, 0, Fa0, b⟩ : Ac), (0 : Int)) | _, _ => (Ac0, 5)) = _
      rw [num_itoa i (by omega) (by omega), hexL_of b hb0]
  · have hn := numsL_map [i] (by simp; omega)
    rcases hk with rfl | rfl | rfl | rfl
    all_goals
      show (match numsL ([i].map Lib.itoa) with | none => (Ac0, 5) | some l => ((⟨_, l.getD 0 0, 0, Fa0, []⟩ : Ac), (0 : Int))) = _
      rw [hn]; rfl
/-- No word holds a byte that is no digit, no letter and no minus. -/
def plainB (x : UInt8) : Bool := decide (x ≠ 32) && decide (x ≠ 10)
theorem plain_itoa (n : Int) : (Lib.itoa n).all plainB = true := by
  rw [List.all_eq_true]
  intro x hx
  rcases itoa_chars n x hx with h | rfl
  · unfold isDig at h
    simp at h
    unfold plainB
    simp
    exact ⟨fun e => by subst e; simp at h, fun e => by subst e; simp at h⟩
  · rfl
theorem plain_hex (b : List UInt8) : (hexOf b).all plainB = true := by
  rw [List.all_eq_true]
  intro x hx
  have h := hexOf_chars b x hx
  unfold plainB
  simp
  exact ⟨fun e => by subst e; exact absurd h (by decide), fun e => by subst e; exact absurd h (by decide)⟩
theorem plain_words (x : Ac) : ∀ w ∈ wordsOf x, w.all plainB = true := by
  unfold wordsOf
  repeat' split
  all_goals
    intro w hw
    simp only [List.mem_cons, List.not_mem_nil, or_false] at hw
    first
      | (rcases hw with rfl | rfl | rfl | rfl | rfl <;> first | rfl | exact plain_itoa _ | exact plain_hex _)
      | (rcases hw with rfl | rfl | rfl | rfl <;> first | rfl | exact plain_itoa _ | exact plain_hex _)
      | (rcases hw with rfl | rfl | rfl <;> first | rfl | exact plain_itoa _ | exact plain_hex _)
      | (rcases hw with rfl | rfl <;> first | rfl | exact plain_itoa _ | exact plain_hex _)
theorem words_ne (x : Ac) : wordsOf x ≠ [] := by
  unfold wordsOf
  repeat' split
  all_goals simp
theorem no32 {w : List UInt8} (h : w.all plainB = true) : (32 : UInt8) ∉ w := fun hm => absurd (List.all_eq_true.1 h 32 hm) (by decide)
theorem no10 {w : List UInt8} (h : w.all plainB = true) : (10 : UInt8) ∉ w := fun hm => absurd (List.all_eq_true.1 h 10 hm) (by decide)
theorem join_no10 : ∀ (l : List (List UInt8)), (∀ w ∈ l, w.all plainB = true) → (10 : UInt8) ∉ joinBy 32 l
  | [], _ => by simp [joinBy]
  | [x], h => no10 (h x (by simp))
  | x :: y :: r, h => by
    have h1 := no10 (h x (by simp))
    have h2 := join_no10 (y :: r) (fun w hw => h w (List.mem_cons_of_mem _ hw))
    show 10 ∉ x ++ 32 :: joinBy 32 (y :: r)
    rw [List.mem_append, List.mem_cons]
    rintro (e | e | e)
    · exact h1 e
    · exact absurd e (by decide)
    · exact h2 e
theorem one_line {x : Ac} (h : goodA x = true) (hp : x.f.p < 4294967296) (hb : x.f.b < 4294967296) : oneL (lineL x) = (x, 0) := by
  unfold oneL lineL
  rw [if_pos h, cut_join _ (words_ne x) (fun w hw => no32 (plain_words x w hw))]
  unfold oneW
  rw [raw_words h hp hb]
  simp [h]
theorem line_no10 (x : Ac) : (10 : UInt8) ∉ lineL x := by
  unfold lineL
  split
  · exact join_no10 _ (plain_words x)
  · simp
/-! ### texts -/
theorem cut_print : ∀ (l : List Ac), cutBy 10 (printL l) = l.map lineL ++ [[]]
  | [] => rfl
  | x :: l => by
    show cutBy 10 ((lineL x ++ [10]) ++ printL l) = _
    rw [List.append_assoc]
    show cutBy 10 (lineL x ++ 10 :: printL l) = _
    rw [cut_app _ (line_no10 x), cut_print l]; rfl
theorem lines_print (l : List Ac) : linesL (printL l) = l.map lineL := by
  unfold linesL
  rw [cut_print, if_pos (by simp)]
  simp
theorem go_lines : ∀ (l acc : List Ac) (i : Nat), (∀ x ∈ l, goodA x = true ∧ x.f.p < 4294967296 ∧ x.f.b < 4294967296) → goL i acc (l.map lineL) = (acc ++ l, ((i + l.length : Nat) : Int), 0)
  | [], acc, i, _ => by simp [goL]
  | x :: l, acc, i, h => by
    have hx := h x (by simp)
    have h1 := one_line hx.1 hx.2.1 hx.2.2
    rw [List.map_cons]
    unfold goL
    rw [h1, if_neg (by simp), go_lines l _ _ (fun y hy => h y (by simp [hy]))]
    simp
    omega
/-- What was printed of acts that may be is parsed. -/
theorem parse_print (l : List Ac) (h : ∀ x ∈ l, goodA x = true ∧ x.f.p < 4294967296 ∧ x.f.b < 4294967296) (h1 : (printL l).length ≤ 1048576) (h2 : l.length ≤ 4096) : parseL (printL l) = (l, (l.length : Int), 0) := by
  unfold parseL
  rw [if_neg (by omega), lines_print, if_neg (by simp; omega), go_lines l [] 0 h]
  simp
theorem go_back : ∀ (ls : List (List UInt8)) (acc : List Ac) (i : Nat), (goL i acc ls).2.2 = 0 → ∃ l : List Ac, (goL i acc ls).1 = acc ++ l ∧ l.map lineL = ls
  | [], acc, i, _ => ⟨[], by simp [goL], rfl⟩
  | s :: r, acc, i, h => by
    unfold goL at h ⊢
    split at h
    · rename_i hs; exact absurd h hs
    · rename_i hs
      rw [if_neg hs]
      obtain ⟨l, h1, h2⟩ := go_back r _ _ h
      exact ⟨(oneL s).1 :: l, by rw [h1]; simp, by rw [List.map_cons, h2, one_back (Decidable.not_not.1 hs)]⟩
theorem join_last (c : UInt8) : ∀ (ls : List (List UInt8)), joinBy c (ls ++ [[]]) = ls.flatMap (fun s => s ++ [c])
  | [] => rfl
  | [x] => by show x ++ c :: [] = _; simp
  | x :: y :: r => by
    have ih := join_last c (y :: r)
    show x ++ c :: joinBy c ((y :: r) ++ [[]]) = _
    rw [ih]; simp
theorem join_more (c : UInt8) : ∀ (ls : List (List UInt8)), ls ≠ [] → joinBy c ls ++ [c] = ls.flatMap (fun s => s ++ [c])
  | [], h => absurd rfl h
  | [x], _ => by simp [joinBy]
  | x :: y :: r, _ => by
    have ih := join_more c (y :: r) (by simp)
    show (x ++ c :: joinBy c (y :: r)) ++ [c] = _
    rw [List.append_assoc, List.cons_append, ih]; simp
theorem print_map (l : List Ac) : printL l = (l.map lineL).flatMap (fun s => s ++ [10]) := by
  unfold printL
  rw [List.flatMap_map]
/-- What was parsed is printed as it was, but for the last line feed. -/
theorem print_parse (s : List UInt8) (h : (parseL s).2.2 = 0) : printL (parseL s).1 = s ∨ printL (parseL s).1 = s ++ [10] := by
  unfold parseL at h ⊢
  split at h
  · exact absurd h (by decide)
  · rename_i h1
    rw [if_neg h1]
    split at h
    · exact absurd h (by decide)
    · rename_i h2
      rw [if_neg h2]
      obtain ⟨l, hl, hm⟩ := go_back _ _ _ h
      rw [hl, List.nil_append, print_map, hm]
      have hj := join_cut 10 s
      have hne := cutBy_ne 10 s
      unfold linesL
      split
      · rename_i he
        left
        have hs : (cutBy 10 s).dropLast ++ [[]] = cutBy 10 s := by
          rw [← he, List.getLastD_eq_getLast?, List.getLast?_eq_some_getLast hne]
          exact List.dropLast_concat_getLast hne
        rw [← join_last, hs, hj]
      · right
        rw [← join_more _ _ hne, hj]
end Go.Proofs.YtndpdonlombodaaDoor
