/- The text of a configuration, in plain words: two ways to print it are one; of two texts that are the same the numbers are. -/
import Derived.Test.YtpbfacabafkheaaDoorCnA
import Derived.Test.YtpbfacabafkheaaDoorBase
namespace Go.Proofs.YtpbfacabafkheaaDoor
open Go.RowKit Law
set_option linter.unusedVariables false
set_option linter.unusedSimpArgs false
set_option maxRecDepth 100000

theorem IsB.below {B b : Nat} {bs : List Value} {w w' : World} (h : IsB B b bs w) (hb : Below w.heap.size w w') : IsB B b bs w' := by
  have H : ∀ p, Lib.BuilderAtF 76 5 B b p bs w → Lib.BuilderAtF 76 5 B b p bs w' := by
    rintro p h1
    have hlt := h1.lt
    obtain ⟨hB, v, hbk, hown, hne⟩ := h1
    refine ⟨hB, v, by rw [hb.block b hlt]; exact hbk, ?_, hne⟩
    exact hown.kept (row := none) ⟨hb.os, hb.tape, hb.output, hb.size, fun i hi _ => hb.block i hi⟩ (by cases hv : v.ownBlock <;> simp)
  exact h.elim (fun x => .inl (H _ x)) (fun x => .inr (H _ x))
theorem AtB.is {B b : Nat} {bs : List Value} {w : World} (h : AtB B b bs w) : IsB B b bs w := .inr h

/-! ### the words -/
def headT (ns : List Int) (k : Nat) : List UInt8 := (List.range k).flatMap fun i => nameL.getD i [] ++ Lib.itoa (ns.getD i 0)
def linkT (p : Pr) : List UInt8 := 32 :: (Lib.itoa p.1 ++ 45 :: Lib.itoa p.2)
def linksT (L : List Pr) : List UInt8 := L.flatMap linkT
def wordT : List UInt8 := [32, 108, 105, 110, 107, 115]
def textC (c : Cn) (L : List Pr) : List UInt8 := headT (numsC c) 14 ++ wordT ++ linksT L
theorem headT_succ (ns : List Int) (k : Nat) : headT ns (k + 1) = headT ns k ++ (nameL.getD k [] ++ Lib.itoa (ns.getD k 0)) := by
  unfold headT
  rw [List.range_succ, List.flatMap_append]
  simp
theorem linksT_succ (L : List Pr) (k : Nat) (hk : k < L.length) : linksT (L.take (k + 1)) = linksT (L.take k) ++ linkT L[k] := by
  unfold linksT
  rw [List.take_succ_eq_append_getElem hk, List.flatMap_append]
  simp
/-- The reference's words. -/
def rNameL : List (List UInt8) := [[110, 111, 100, 101, 115], [102, 97, 117, 108, 116, 115], [100, 101, 108, 97, 121], [], [100, 114, 105, 102, 116], [], [114, 111, 117, 110, 100], [119, 105, 110, 100, 111, 119], [97, 116, 116, 101, 110, 100], [115, 101, 101, 110], [104, 105, 115, 116], [102, 108, 121], [113, 117, 111, 116, 97], [98, 111, 100, 121]]
def rPre (i : Nat) : List UInt8 := if rNameL.getD i [] = [] then [] else rNameL.getD i [] ++ [32]
def rHead (ns : List Int) (k : Nat) : List UInt8 := (List.range k).flatMap fun i => rPre i ++ (Lib.itoa (ns.getD i 0) ++ [32])
theorem rHead_succ (ns : List Int) (k : Nat) : rHead ns (k + 1) = rHead ns k ++ (rPre k ++ (Lib.itoa (ns.getD k 0) ++ [32])) := by
  unfold rHead
  rw [List.range_succ, List.flatMap_append]
  simp
theorem rHead_all (ns : List Int) : rHead ns 14 ++ [108, 105, 110, 107, 115] = headT ns 14 ++ wordT := by
  simp [rHead, headT, wordT, rPre, rNameL, nameL, List.range, List.range.loop]
/-! ### how long they are -/
def FitsC (c : Cn) : Prop := ∀ x ∈ numsC c, -9223372036854775808 ≤ x ∧ x ≤ 9223372036854775807
theorem FitsC.at_ {c : Cn} (h : FitsC c) (k : Nat) : -9223372036854775808 ≤ (numsC c).getD k 0 ∧ (numsC c).getD k 0 ≤ 9223372036854775807 := by
  rw [List.getD_eq_getElem?_getD]
  cases hk : (numsC c)[k]? with
  | none => simp
  | some x => simpa using h x (List.mem_of_getElem? hk)
theorem itoa_le {n : Int} (h : -9223372036854775808 ≤ n ∧ n ≤ 9223372036854775807) : (Lib.itoa n).length ≤ 21 := by have := itoa_len h.1 h.2; omega
theorem nameL_le (k : Nat) : (nameL.getD k []).length ≤ 8 := by
  by_cases h : k < 14
  · revert h; revert k; decide
  · rw [List.getD_eq_getElem?_getD, List.getElem?_eq_none (by show 14 ≤ k; omega)]; simp
theorem rNameL_le (k : Nat) : (rNameL.getD k []).length ≤ 6 := by
  by_cases h : k < 14
  · revert h; revert k; decide
  · rw [List.getD_eq_getElem?_getD, List.getElem?_eq_none (by show 14 ≤ k; omega)]; simp
theorem rPre_le (k : Nat) : (rPre k).length ≤ 7 := by
  have := rNameL_le k
  unfold rPre
  split
  · simp
  · simp only [List.length_append, List.length_cons, List.length_nil]; omega
theorem headT_le {c : Cn} (h : FitsC c) : ∀ k, (headT (numsC c) k).length ≤ 29 * k
  | 0 => by simp [headT]
  | k + 1 => by
    have h1 := headT_le h k
    have h2 := nameL_le k
    have h3 := itoa_le (h.at_ k)
    rw [headT_succ, List.length_append, List.length_append]
    omega
theorem rHead_le {c : Cn} (h : FitsC c) : ∀ k, (rHead (numsC c) k).length ≤ 29 * k
  | 0 => by simp [rHead]
  | k + 1 => by
    have h1 := rHead_le h k
    have h2 := rPre_le k
    have h3 := itoa_le (h.at_ k)
    rw [rHead_succ, List.length_append, List.length_append, List.length_append]
    simp only [List.length_cons, List.length_nil]
    omega
theorem linkT_le {p : Pr} (h : PrF p) : (linkT p).length ≤ 44 := by
  obtain ⟨x, y⟩ := p
  unfold PrF at h
  simp only at h
  have h1 := itoa_le (n := x) (by omega)
  have h2 := itoa_le (n := y) (by omega)
  unfold linkT
  simp only [List.length_cons, List.length_append]
  omega
theorem linksT_le : ∀ {L : List Pr}, (∀ x ∈ L, PrF x) → (linksT L).length ≤ 44 * L.length
  | [], _ => by simp [linksT]
  | p :: r, h => by
    have h1 := linkT_le (h p (by simp))
    have h2 := linksT_le (L := r) (fun x hx => h x (by simp [hx]))
    have : linksT (p :: r) = linkT p ++ linksT r := by simp [linksT]
    rw [this, List.length_append, List.length_cons]
    omega
/-! ### same texts, same numbers -/
def valD (l : List UInt8) : Nat := l.foldl (fun a c => a * 10 + (c.toNat - 48)) 0
theorem valD_snoc (l : List UInt8) (x : UInt8) : valD (l ++ [x]) = valD l * 10 + (x.toNat - 48) := by unfold valD; rw [List.foldl_append]; rfl
theorem dec_valD (u : Nat) : valD (Lib.decDigits u) = u := by
  induction u using Nat.strongRecOn with
  | _ u ih =>
    rw [Lib.decDigits]
    split
    · simp [valD]; omega
    · rw [valD_snoc, ih (u / 10) (by omega)]
      simp; omega
theorem dec_chars (u : Nat) : ∀ x ∈ Lib.decDigits u, 48 ≤ x.toNat := by
  induction u using Nat.strongRecOn with
  | _ u ih =>
    intro x hx
    rw [Lib.decDigits] at hx
    split at hx
    · simp at hx; subst hx; simp; omega
    · rcases List.mem_append.1 hx with h | h
      · exact ih (u / 10) (by omega) x h
      · simp at h; subst h; simp; omega
theorem dec_ne' (u : Nat) : Lib.decDigits u ≠ [] := by rw [Lib.decDigits]; split <;> simp
theorem itoa_no32 (n : Int) : (32 : UInt8) ∉ Lib.itoa n := by
  intro h
  unfold Lib.itoa at h
  split at h
  · rcases List.mem_cons.1 h with h | h
    · exact absurd h (by decide)
    · exact absurd (dec_chars _ _ h) (by decide)
  · exact absurd (dec_chars _ _ h) (by decide)
theorem itoa_inj {a b : Int} (h : Lib.itoa a = Lib.itoa b) : a = b := by
  unfold Lib.itoa at h
  have neg : ∀ {u v : Nat}, (45 :: Lib.decDigits u) ≠ Lib.decDigits v := fun {u v} e => absurd (dec_chars v 45 (by rw [← e]; simp)) (by decide)
  split at h <;> split at h
  · have := congrArg valD (List.cons.inj h).2
    rw [dec_valD, dec_valD] at this
    omega
  · exact absurd h neg
  · exact absurd h.symm neg
  · have := congrArg valD h
    rw [dec_valD, dec_valD] at this
    omega
theorem cut32 : ∀ {a b r s : List UInt8}, (32 : UInt8) ∉ a → (32 : UInt8) ∉ b → a ++ 32 :: r = b ++ 32 :: s → a = b ∧ r = s
  | [], [], r, s, _, _, h => ⟨rfl, (List.cons.inj h).2⟩
  | [], y :: b, r, s, _, hb, h => absurd (by rw [← (List.cons.inj h).1]; simp) hb
  | x :: a, [], r, s, ha, _, h => absurd (by rw [(List.cons.inj h).1]; simp) ha
  | x :: a, y :: b, r, s, ha, hb, h => by
    obtain ⟨h1, h2⟩ := List.cons.inj h
    obtain ⟨h3, h4⟩ := cut32 (fun hx => ha (by simp [hx])) (fun hx => hb (by simp [hx])) h2
    exact ⟨by rw [h1, h3], h4⟩
theorem numF {a b : Int} {r s : List UInt8} (h : Lib.itoa a ++ 32 :: r = Lib.itoa b ++ 32 :: s) : a = b ∧ r = s := by
  obtain ⟨h1, h2⟩ := cut32 (itoa_no32 a) (itoa_no32 b) h
  exact ⟨itoa_inj h1, h2⟩
theorem headT_inj {a b : Cn} (h : headT (numsC a) 14 = headT (numsC b) 14) : numsC a = numsC b := by
  obtain ⟨a0, a1, a2, a3, a4, a5, a6, a7, a8, a9, a10, a11, a12, a13⟩ := a
  obtain ⟨b0, b1, b2, b3, b4, b5, b6, b7, b8, b9, b10, b11, b12, b13⟩ := b
  simp only [headT, numsC, nameL, List.range, List.range.loop, List.flatMap_cons, List.flatMap_nil, List.getD_cons_zero, List.getD_cons_succ, List.cons_append, List.nil_append, List.append_assoc, List.append_nil] at h
  simp only [List.cons.injEq, true_and] at h
  replace h := numF h
  obtain ⟨rfl, h⟩ := h
  simp only [List.cons.injEq, true_and] at h
  replace h := numF h
  obtain ⟨rfl, h⟩ := h
  simp only [List.cons.injEq, true_and] at h
  replace h := numF h
  obtain ⟨rfl, h⟩ := h
  replace h := numF h
  obtain ⟨rfl, h⟩ := h
  simp only [List.cons.injEq, true_and] at h
  replace h := numF h
  obtain ⟨rfl, h⟩ := h
  replace h := numF h
  obtain ⟨rfl, h⟩ := h
  simp only [List.cons.injEq, true_and] at h
  replace h := numF h
  obtain ⟨rfl, h⟩ := h
  simp only [List.cons.injEq, true_and] at h
  replace h := numF h
  obtain ⟨rfl, h⟩ := h
  simp only [List.cons.injEq, true_and] at h
  replace h := numF h
  obtain ⟨rfl, h⟩ := h
  simp only [List.cons.injEq, true_and] at h
  replace h := numF h
  obtain ⟨rfl, h⟩ := h
  simp only [List.cons.injEq, true_and] at h
  replace h := numF h
  obtain ⟨rfl, h⟩ := h
  simp only [List.cons.injEq, true_and] at h
  replace h := numF h
  obtain ⟨rfl, h⟩ := h
  simp only [List.cons.injEq, true_and] at h
  replace h := numF h
  obtain ⟨rfl, h⟩ := h
  simp only [List.cons.injEq, true_and] at h
  obtain rfl := itoa_inj h
  rfl
theorem textC_same (a b : Cn) (L : List Pr) : textC a L = textC b L ↔ numsC a = numsC b := by
  constructor
  · intro h
    unfold textC at h
    rw [List.append_assoc, List.append_assoc] at h
    exact headT_inj (List.append_cancel_right h)
  · intro h
    unfold textC
    rw [h]
end Go.Proofs.YtpbfacabafkheaaDoor
