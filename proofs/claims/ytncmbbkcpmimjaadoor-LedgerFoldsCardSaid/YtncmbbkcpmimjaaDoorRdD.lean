/- A ledger out of bytes: the plain law. -/
import Derived.Test.YtncmbbkcpmimjaaDoorRdC
namespace Go.Proofs.YtncmbbkcpmimjaaDoor
open Go.RowKit Law
set_option linter.unusedVariables false

def cutN (b : List UInt8) (o n : Nat) : Nat := leN ((b.drop o).take n)
theorem cutN_lt (b : List UInt8) (o n : Nat) : cutN b o n < 256 ^ n := by
  have h := leN_lt ((b.drop o).take n)
  have hl : ((b.drop o).take n).length ≤ n := by rw [List.length_take]; omega
  exact Nat.lt_of_lt_of_le h (Nat.pow_le_pow_right (by decide) hl)
def getOf (b : List UInt8) (k : Nat) : List Nat := (List.range k).map (fun j => cutN b (16 + 4 * j) 4) ++ List.replicate (64 - k) 0
def getL (b : List UInt8) (k : Nat) : Ld := ⟨wrapI (cutN b 0 8 : Int), cutN b 8 8, getOf b k⟩
theorem wrapI_bd (x : Int) : -9223372036854775808 ≤ wrapI x ∧ wrapI x ≤ 9223372036854775807 := by
  unfold wrapI
  rw [IntKind.wrap_i64]
  omega
theorem getOf_len (b : List UInt8) {k : Nat} (hk : k ≤ 64) : (getOf b k).length = 64 := by
  unfold getOf
  rw [List.length_append, List.length_map, List.length_range, List.length_replicate]
  omega
theorem getL_fits (b : List UInt8) {k : Nat} (hk : k ≤ 64) : (getL b k).Fits := by
  refine ⟨(wrapI_bd _).1, (wrapI_bd _).2, ?_, getOf_len b hk, fun c hc => ?_⟩
  · have := cutN_lt b 8 8
    exact Nat.lt_of_lt_of_eq this (by decide)
  · rcases List.mem_append.1 hc with h | h
    · obtain ⟨j, _, rfl⟩ := List.mem_map.1 h
      exact Nat.lt_of_lt_of_eq (cutN_lt b (16 + 4 * j) 4) (by decide)
    · have := (List.mem_replicate.1 h).2
      omega
theorem getOf_set (b : List UInt8) {k : Nat} (hk : k < 64) : (getOf b k).set k (cutN b (16 + 4 * k) 4) = getOf b (k + 1) := by
  unfold getOf
  have hl : ((List.range k).map (fun j => cutN b (16 + 4 * j) 4)).length = k := by simp
  rw [List.set_append_right _ _ (by omega), hl, Nat.sub_self]
  obtain ⟨m, hm⟩ : ∃ m, 64 - k = m + 1 := ⟨63 - k, by omega⟩
  rw [hm, show 64 - (k + 1) = m by omega, List.replicate_succ, List.set_cons_zero, List.range_succ, List.map_append, List.append_assoc]
  rfl
/-- What stands behind k of the nodes' numbers. -/
structure GInv (b : List UInt8) (e : Int) (L : List UInt8) (l : Ld) (k : Nat) : Prop where
  fits : l.Fits
  e03 : e = 0 ∨ e = 3
  good : e = 0 → 16 + 4 * k ≤ b.length ∧ L = b.drop (16 + 4 * k) ∧ l = getL b k
  back : 16 + 4 * k ≤ b.length → e = 0
theorem rdS_x (e : Int) (L : List UInt8) (n : Nat) : (rdS e L n).2.2 < 256 ^ n := by
  unfold rdS
  split
  · exact Nat.pow_pos (by decide)
  · split
    · exact Nat.pow_pos (by decide)
    · have h := leN_lt (L.take n)
      have hl : (L.take n).length ≤ n := by rw [List.length_take]; omega
      exact Nat.lt_of_lt_of_le h (Nat.pow_le_pow_right (by decide) hl)
theorem GInv.step {b : List UInt8} {e : Int} {L : List UInt8} {l : Ld} {k : Nat} (h : GInv b e L l k) (hk : k < 64) {e' : Int} {L' : List UInt8} {X : Nat} (hr : rdS e L 4 = (e', L', X)) :
    GInv b e' L' { l with of := l.of.set k X } (k + 1) := by
  have hX := rdS_x e L 4
  rw [hr] at hX
  have hX : X < 4294967296 := Nat.lt_of_lt_of_eq hX (by decide)
  have hfit : ({ l with of := l.of.set k X } : Ld).Fits := ⟨h.fits.c0, h.fits.c1, h.fits.s, by show (l.of.set k X).length = 64; rw [List.length_set]; exact h.fits.n, fun c hc => by
    rcases List.mem_or_eq_of_mem_set hc with h1 | h1
    · exact h.fits.o c h1
    · rw [h1]; exact hX⟩
  unfold rdS at hr
  rcases h.e03 with he | he
  · subst he
    obtain ⟨h1, h2, h3⟩ := h.good rfl
    rw [if_neg (by simp)] at hr
    subst h2 h3
    rw [List.length_drop] at hr
    split at hr
    · rename_i hlt
      obtain ⟨rfl, rfl, rfl⟩ : (3 : Int) = e' ∧ _ = L' ∧ (0 : Nat) = X := by simpa using hr
      exact ⟨hfit, .inr rfl, fun h => absurd h (by decide), fun h => by omega⟩
    · rename_i hlt
      obtain ⟨rfl, hL, hX⟩ : (0 : Int) = e' ∧ _ = L' ∧ _ = X := by simpa using hr
      refine ⟨hfit, .inl rfl, fun _ => ⟨by omega, ?_, ?_⟩, fun _ => rfl⟩
      · rw [← hL]
        first | rfl | congr 1
      · rw [← hX]
        show (⟨(getL b k).count, (getL b k).sum, (getL b k).of.set k (cutN b (16 + 4 * k) 4)⟩ : Ld) = getL b (k + 1)
        unfold getL
        rw [← getOf_set b hk]
  · subst he
    rw [if_pos (by simp)] at hr
    obtain ⟨rfl, rfl, rfl⟩ : (3 : Int) = e' ∧ _ = L' ∧ (0 : Nat) = X := by simpa using hr
    exact ⟨hfit, .inr rfl, fun h => absurd h (by decide), fun h9 => by have := h.back (by omega); omega⟩
theorem GInv.start {b : List UInt8} {e1 e2 : Int} {L1 L2 : List UInt8} {X1 X2 : Nat} (h1 : rdS 0 b 8 = (e1, L1, X1)) (h2 : rdS e1 L1 8 = (e2, L2, X2)) : GInv b e2 L2 ⟨wrapI (X1 : Int), X2, List.replicate 64 0⟩ 0 := by
  have hX := rdS_x e1 L1 8
  rw [h2] at hX
  have hX : X2 < 18446744073709551616 := Nat.lt_of_lt_of_eq hX (by decide)
  have hfit : (⟨wrapI (X1 : Int), X2, List.replicate 64 0⟩ : Ld).Fits := ⟨(wrapI_bd _).1, (wrapI_bd _).2, hX, by simp, fun c hc => by have := (List.mem_replicate.1 hc).2; omega⟩
  unfold rdS at h1 h2
  rw [if_neg (by simp)] at h1
  split at h1
  · rename_i hlt
    obtain ⟨rfl, rfl, rfl⟩ : (3 : Int) = e1 ∧ _ = L1 ∧ (0 : Nat) = X1 := by simpa using h1
    rw [if_pos (by simp)] at h2
    obtain ⟨rfl, rfl, rfl⟩ : (3 : Int) = e2 ∧ _ = L2 ∧ (0 : Nat) = X2 := by simpa using h2
    exact ⟨hfit, .inr rfl, fun h => absurd h (by decide), fun h => by omega⟩
  · rename_i hlt
    obtain ⟨rfl, rfl, rfl⟩ : (0 : Int) = e1 ∧ _ = L1 ∧ _ = X1 := by simpa using h1
    rw [if_neg (by simp), List.length_drop] at h2
    split at h2
    · rename_i hlt2
      obtain ⟨rfl, rfl, rfl⟩ : (3 : Int) = e2 ∧ _ = L2 ∧ (0 : Nat) = X2 := by simpa using h2
      exact ⟨hfit, .inr rfl, fun h => absurd h (by decide), fun h => by omega⟩
    · rename_i hlt2
      obtain ⟨rfl, hL, hX⟩ : (0 : Int) = e2 ∧ _ = L2 ∧ _ = X2 := by simpa using h2
      refine ⟨hfit, .inl rfl, fun _ => ⟨by omega, ?_, ?_⟩, fun _ => rfl⟩
      · rw [← hL]
      · rw [← hX]
        unfold getL getOf cutN
        rw [List.drop_zero]
        rfl
/-- What Get answers. -/
def getR (b : List UInt8) (q : Nat) : Ld × Int := if b.length < 16 + 4 * q then (Ld0, 3) else if (getL b q).count < 0 ∨ (getL b q).count ≠ (totK (getL b q) 64 : Int) then (Ld0, 5) else (getL b q, 0)
theorem getR_fits (b : List UInt8) {q : Nat} (hq : q ≤ 64) : (getR b q).1.Fits := by
  unfold getR
  split
  · exact Ld0.fits
  · split
    · exact Ld0.fits
    · exact getL_fits b hq
theorem LdBox.fr {w w' : World} {br b : Nat} {l : Ld} (h : LdBox w b l) (hf : FrR br w w') (hne : b ≠ br) : LdBox w' b l :=
  ⟨fun j v hj => (hf.cell ⟨b, 0 + j, none⟩ h.1.lt hne).trans (h.1 j v hj), fun j hj => (World.frozen?_of_block (a := ⟨b, j, none⟩) (hf.block b h.1.lt hne)).trans (h.2 j hj)⟩
end Go.Proofs.YtncmbbkcpmimjaaDoor
