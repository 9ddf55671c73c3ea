/- Several cells of a box written at once. -/
import Derived.Test.YteahiphmhaedpaaGreatDoorNdH
import Derived.Laws.IdiomCopy
namespace Go.Proofs.YteahiphmhaedpaaGreatDoor
open Go.RowKit Law
set_option linter.unusedVariables false
set_option linter.unusedSimpArgs false
set_option maxRecDepth 100000

def putL : List Value → Nat → List Value → List Value
  | cs, _, [] => cs
  | cs, j, v :: r => putL (cs.set j v) (j + 1) r
theorem putL_len : ∀ (vs cs : List Value) (j : Nat), (putL cs j vs).length = cs.length
  | [], _, _ => rfl
  | v :: r, cs, j => by unfold putL; rw [putL_len r]; simp
theorem BoxF.puts {B : Nat} : ∀ (vs : List Value) {w : World} {cs : List Value} (j : Nat), BoxF w B cs → j + vs.length ≤ cs.length → BoxF (w.setCells B j vs) B (putL cs j vs)
  | [], _, _, _, h, _ => h
  | v :: r, w, cs, j, h, hl => by
    simp only [List.length_cons] at hl
    exact BoxF.puts r (j + 1) (h.put j (by omega) v) (by simp; omega)
theorem setCells_below {N B : Nat} (hB : N ≤ B) : ∀ (vs : List Value) (w W : World) (j : Nat), Below N w W → Below N w (W.setCells B j vs)
  | [], _, _, _, h => h
  | v :: r, w, W, j, h => setCells_below hB r w _ (j + 1) (h.setCell (p := ⟨B, j, none⟩) hB v)
theorem setCells_at {B k : Nat} (hk : k ≠ B) : ∀ (vs : List Value) (W : World) (j : Nat), (W.setCells B j vs).heap[k]? = W.heap[k]?
  | [], _, _ => rfl
  | v :: r, W, j => (setCells_at hk r _ (j + 1)).trans (Below.heap_setCell _ _ _ _ hk)
theorem setCells_size {B : Nat} : ∀ (vs : List Value) (W : World) (j : Nat), (W.setCells B j vs).heap.size = W.heap.size
  | [], _, _ => rfl
  | v :: r, W, j => (setCells_size r _ (j + 1)).trans (by simp)
theorem setCells_fr {B : Nat} (vs : List Value) (W : World) (j : Nat) : FrB B W (W.setCells B j vs) :=
  have h := setCells_below (N := 0) (Nat.zero_le B) vs W W j (Below.refl _ _)
  ⟨h.os, h.tape, h.output, h.size, fun k _ hn => setCells_at hn vs W j⟩
theorem BoxF.storeN {w : World} {B : Nat} {cs : List Value} (h : BoxF w B cs) (o : Nat) (vs : List Value) (hl : o + vs.length ≤ cs.length) (h1 : ∀ v ∈ vs, v.oneCell' = true) : (storeCells ⟨B, o, none⟩ vs).run Tryz.prog w = .ok () (w.setCells B o vs) := by
  refine run_storeCells_cells B o vs 0 w (fun j hj => ?_) (fun j hj => ?_) h1
  · have hj' : o + 0 + j < cs.length := by omega
    rw [h.1 _ _ (List.getElem?_eq_getElem hj')]
    rfl
  · exact h.2 _ (by omega)
end Go.Proofs.YteahiphmhaedpaaGreatDoor
