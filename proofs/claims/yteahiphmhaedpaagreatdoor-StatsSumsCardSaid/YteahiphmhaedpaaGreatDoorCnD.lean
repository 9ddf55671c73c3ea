/- A small cluster: plain words for both. -/
import Derived.Test.YteahiphmhaedpaaGreatDoorRhC
import Derived.Test.YteahiphmhaedpaaGreatDoorRhB
import Derived.Test.YteahiphmhaedpaaGreatDoorRhD
namespace Go.Proofs.YteahiphmhaedpaaGreatDoor
open Go.RowKit Law Go.Shelf
set_option linter.unusedVariables false
set_option linter.unusedSimpArgs false
set_option maxRecDepth 100000

def smallC (n f dmax rho : Int) : Cn := ⟨n, f, 1, dmax, rho, 64, 0, 0, 0, 4096, 4096, 65536, 64, 64⟩
theorem sugF_n (c : Cn) : ∀ (f k : Nat), (sugF c f k).n = c.n
  | 0, k => rfl
  | f + 1, k => by
    show (if enoughB (stepC c k) then stepC c k else sugF c f (k + 1)).n = c.n
    split
    · rfl
    · exact sugF_n c f (k + 1)
theorem sugC_n (c : Cn) : (sugC c).n = c.n := sugF_n c 29 12
theorem full_mem {n : Nat} {p : Pr} (h : p ∈ fullL n) : ∃ x y : Nat, x < n ∧ y < n ∧ p = ((x : Int), (y : Int)) := by
  unfold fullL fullTo rowTo at h
  obtain ⟨x, hx, h⟩ := List.mem_flatMap.1 h
  obtain ⟨y, hy, rfl⟩ := List.mem_map.1 h
  exact ⟨x, y, List.mem_range.1 hx, List.mem_range.1 (List.mem_filter.1 hy).1, rfl⟩
theorem full_fit {n : Nat} (hn : n ≤ 64) : ∀ p ∈ fullL n, PrF p := fun p h => by
  obtain ⟨x, y, hx, hy, rfl⟩ := full_mem h
  unfold PrF
  simp only
  omega
def SmallPost (n f dmax rho : Int) (w : World) (e : Ending) (w' : World) : Prop :=
  Below w.heap.size w w' ∧
  ((n < 2 ∨ n > 8) → e = .returned (.tuple #[.agg #[.int .i64 0, .slice none 0 0, .int .i64 0, .int .i64 0, .int .i64 0, .int .i64 0, .int .i64 0, .int .i64 0, .int .i64 0, .int .i64 0, .int .i64 0, .int .i64 0, .int .i64 0, .int .i64 0, .int .i64 0], .int .i64 1])) ∧
  (¬ (n < 2 ∨ n > 8) → faultN (sugC (smallC n f dmax rho)) (fullL n.toNat) ≠ 0 → e = .returned (.tuple #[.agg #[.int .i64 0, .slice none 0 0, .int .i64 0, .int .i64 0, .int .i64 0, .int .i64 0, .int .i64 0, .int .i64 0, .int .i64 0, .int .i64 0, .int .i64 0, .int .i64 0, .int .i64 0, .int .i64 0, .int .i64 0], .int .i64 17])) ∧
  (¬ (n < 2 ∨ n > 8) → faultN (sugC (smallC n f dmax rho)) (fullL n.toNat) = 0 → ∃ A k, e = .returned (.tuple #[.agg ((sugC (smallC n f dmax rho)).cells A (fullL n.toNat).length k).toArray, .int .i64 0]) ∧ LinksAt w' A (fullL n.toNat) ∧ (fullL n.toNat).length ≤ k)
end Go.Proofs.YteahiphmhaedpaaGreatDoor
