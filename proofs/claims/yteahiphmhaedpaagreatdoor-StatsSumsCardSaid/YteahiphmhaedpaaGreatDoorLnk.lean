/- Links as one row of cells; a row of one's own made of them. -/
import Derived.Test.YteahiphmhaedpaaGreatDoorGrB
import Derived.Test.YteahiphmhaedpaaGreatDoorRgB
import Derived.Test.YteahiphmhaedpaaGreatDoorRhD
import Derived.Test.YteahiphmhaedpaaGreatDoorBase
namespace Go.Proofs.YteahiphmhaedpaaGreatDoor
open Go.RowKit Law
set_option linter.unusedVariables false
set_option linter.unusedSimpArgs false
set_option maxRecDepth 100000

theorem storeN_links {A : Option Addr} {L : List Pr} {B : Nat} (hA : ∀ b off, A = some ⟨b, off, none⟩ → B ≠ b) : ∀ (vs : List Value) (W : World) (j : Nat), LinksAt W A L → LinksAt (storeN B W vs j) A L
  | [], W, j, h => h
  | v :: r, W, j, h => storeN_links hA r _ (j + 1) (fun k e he => by
      obtain ⟨b, off, rfl, hlt, hc⟩ := h k e he
      exact ⟨b, off, rfl, by simpa using hlt, fun i x hx => by rw [World.cell?_setCell_far _ _ _ _ (hA b off rfl)]; exact hc i x hx⟩)
theorem own_base {w : World} {base n size : Nat} {e : TypeId} {A : Option Addr} {c : Nat} {xs : List Value} (h : w.ownsRow base e size (.slice A n c) n xs) : ∀ b off, A = some ⟨b, off, none⟩ → base ≤ b := fun b off hA => by
  rcases h.2 with ⟨hv, _⟩ | ⟨g, cap, cur, hv, hb, _⟩
  · injection hv with h1; rw [hA] at h1; cases h1
  · injection hv with h1; rw [hA] at h1; injection h1 with h1; injection h1 with h1; omega
theorem LinksAt.flat {w : World} {A : Option Addr} {L : List Pr} (h : LinksAt w A L) : ∀ ad, A = some ad → ∀ j u, (flatP L)[j]? = some u → w.cell? (ad.add j) = some u := by
  intro ad had j u hu
  have hlen : (flatP L).length = L.length * 2 := by
    clear h hu
    induction L with
    | nil => rfl
    | cons x r ih =>
      have : flatP (x :: r) = Pr.cells x ++ flatP r := by simp [flatP]
      rw [this, List.length_append, ih, List.length_cons]
      simp [Pr.cells]; omega
  have hj : j < (flatP L).length := (List.getElem?_eq_some_iff.1 hu).1
  have hk : j / 2 < L.length := by omega
  obtain ⟨b, off, hA, hlt, hc⟩ := h (j / 2) L[j / 2] (List.getElem?_eq_getElem hk)
  rw [had] at hA
  injection hA with hA
  subst hA
  have hm : j % 2 < 2 := by omega
  obtain ⟨v, hv⟩ : ∃ v, (Pr.cells L[j / 2])[j % 2]? = some v := ⟨_, List.getElem?_eq_getElem (show j % 2 < 2 from hm)⟩
  have h1 := flatP_at L (j / 2) (j % 2) _ v (List.getElem?_eq_getElem hk) hv
  rw [show j / 2 * 2 + j % 2 = j by omega, hu] at h1
  injection h1 with h1
  have h2 := hc (j % 2) v hv
  rw [Lib.add_plain, h1, ← h2]
  congr 2
  omega
theorem flatP_one {L : List Pr} : ∀ u ∈ flatP L, u.oneCell' = true := by
  intro u hu
  unfold flatP at hu
  obtain ⟨p, _, hp⟩ := List.mem_flatMap.1 hu
  simp only [Pr.cells, List.mem_cons, List.not_mem_nil, or_false] at hp
  rcases hp with rfl | rfl <;> rfl
theorem flatP_len (L : List Pr) : (flatP L).length = L.length * 2 := by
  induction L with
  | nil => rfl
  | cons x r ih =>
    have : flatP (x :: r) = Pr.cells x ++ flatP r := by simp [flatP]
    rw [this, List.length_append, ih, List.length_cons]
    simp [Pr.cells]; omega
theorem set_links {A : Option Addr} {L : List Pr} {B : Nat} (hA : ∀ b off, A = some ⟨b, off, none⟩ → B ≠ b) {W : World} (j : Nat) (v : Value) (h : LinksAt W A L) : LinksAt (W.setCell ⟨B, j, none⟩ v) A L := storeN_links hA [v] W j h
end Go.Proofs.YteahiphmhaedpaaGreatDoor
