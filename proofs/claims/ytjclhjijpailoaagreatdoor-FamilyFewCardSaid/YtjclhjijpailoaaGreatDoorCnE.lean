/- A small cluster, the program's. -/
import Derived.Test.YtjclhjijpailoaaGreatDoorCnD
import Derived.Test.YtjclhjijpailoaaGreatDoorCfF
namespace Go.Proofs.YtjclhjijpailoaaGreatDoor
open Go.RowKit Law Go.Shelf
set_option linter.unusedVariables false
set_option linter.unusedSimpArgs false
set_option maxRecDepth 100000
attribute [local go_sem] Oper.semAt_some

theorem storeN_links {A : Option Addr} {L : List Pr} {B : Nat} (hA : ∀ b off, A = some ⟨b, off, none⟩ → B ≠ b) : ∀ (vs : List Value) (W : World) (j : Nat), LinksAt W A L → LinksAt (storeN B W vs j) A L
  | [], W, j, h => h
  | v :: r, W, j, h => storeN_links hA r _ (j + 1) (fun k e he => by
      obtain ⟨b, off, rfl, hlt, hc⟩ := h k e he
      exact ⟨b, off, rfl, by simpa using hlt, fun i x hx => by rw [World.cell?_setCell_far _ _ _ _ (hA b off rfl)]; exact hc i x hx⟩)
theorem own_base {w : World} {base n size : Nat} {e : TypeId} {A : Option Addr} {c : Nat} {xs : List Value} (h : w.ownsRow base e size (.slice A n c) n xs) : ∀ b off, A = some ⟨b, off, none⟩ → base ≤ b := fun b off hA => by
  rcases h.2 with ⟨hv, _⟩ | ⟨g, cap, cur, hv, hb, _⟩
  · injection hv with h1; rw [hA] at h1; cases h1
  · injection hv with h1; rw [hA] at h1; injection h1 with h1; injection h1 with h1; omega
end Go.Proofs.YtjclhjijpailoaaGreatDoor
