/- Lists of entries in memory; angeluslaw36.Cut. -/
import Derived.Test.YtncmbbkcpmimjaaDoorFoA
import Derived.Test.YtncmbbkcpmimjaaDoorEntIn
namespace Go.Proofs.YtncmbbkcpmimjaaDoor
open Go.RowKit Law
set_option linter.unusedVariables false

/-- An entry as it lies: its numbers, its body's slice, the body's bytes. -/
structure Et where
  e : En
  A : Option Addr
  n : Nat
  c : Nat
  b : List UInt8
def Et.cells (x : Et) : List Value := [.int .i64 x.e.at_, .int .i64 x.e.t, .int .i64 x.e.f, .int .u32 (x.e.s : Int), .slice x.A x.n x.c]
def Et.dat (x : Et) : En × List UInt8 := (x.e, x.b)
structure Et.Ok (x : Et) : Prop where
  fits : x.e.Fits
  at0 : -9223372036854775808 ≤ x.e.at_
  at1 : x.e.at_ ≤ 9223372036854775807
  len : x.b.length = x.n
  cap : x.n ≤ x.c
structure Et.In (x : Et) : Prop where
  ok : x.Ok
  max : x.c ≤ maxLen
  nil : x.A = none → x.c = 0
/-- A list of entries at an address. -/
def EnsAt (w : World) (A : Option Addr) (xs : List Et) : Prop := ∀ (i : Nat) (x : Et), xs[i]? = some x → ∃ blk off, A = some ⟨blk, off, none⟩ ∧ (∀ j v, x.cells[j]? = some v → w.cell? ⟨blk, off + i * 5 + j, none⟩ = some v) ∧ U8At w x.A x.b
theorem EnsAt.keep {w w' : World} {A : Option Addr} {xs : List Et} (h : EnsAt w A xs) (hb : Below w.heap.size w w') : EnsAt w' A xs := fun i x hx => by
  obtain ⟨blk, off, rfl, hc, hU⟩ := h i x hx
  exact ⟨blk, off, rfl, fun j v hj => (hb.cell (p := ⟨blk, off + i * 5 + j, none⟩) (World.block_lt_of_cell? _ _ (hc j v hj))).trans (hc j v hj), hU.keep hb⟩
theorem EnsAt.take {w : World} {A : Option Addr} {xs : List Et} (h : EnsAt w A xs) (n : Nat) : EnsAt w A (xs.take n) := fun i x hx => h i x (by
  rw [List.getElem?_take] at hx
  split at hx
  · exact hx
  · cases hx)
theorem EnsAt.drop {w : World} {A : Option Addr} {xs : List Et} (h : EnsAt w A xs) (k c : Nat) (hc : xs.length ≤ c) : EnsAt w (if c = k then A else A.map (·.add (k * 5))) (xs.drop k) := by
  by_cases hck : c = k
  · have : xs.drop k = [] := List.drop_eq_nil_of_le (by omega)
    rw [this]
    intro i e he
    simp at he
  · rw [if_neg hck]
    intro i e he
    rw [List.getElem?_drop] at he
    obtain ⟨b, off, rfl, hcell, hU⟩ := h (k + i) e he
    refine ⟨b, off + k * 5, by rw [Option.map_some, Lib.add_plain], fun j v hj => ?_, hU⟩
    rw [show off + k * 5 + i * 5 + j = off + (k + i) * 5 + j by omega]
    exact hcell j v hj
def flatE (ys : List Et) : List Value := (ys.map Et.cells).flatten
theorem flatE_snoc (ys : List Et) (y : Et) : flatE (ys ++ [y]) = flatE ys ++ y.cells := by simp [flatE]
theorem flatE_len : ∀ ys : List Et, (flatE ys).length = ys.length * 5
  | [] => rfl
  | y :: ys => by
    have := flatE_len ys
    show (y.cells ++ flatE ys).length = _
    rw [List.length_append, this, List.length_cons]
    show 5 + _ = _
    omega
theorem flatE_at : ∀ (ys : List Et) (i : Nat) (y : Et), ys[i]? = some y → ∀ j v, y.cells[j]? = some v → (flatE ys)[i * 5 + j]? = some v
  | z :: ys, 0, y, h, j, v, hj => by
    obtain rfl : z = y := by simpa using h
    have hl : j < z.cells.length := (List.getElem?_eq_some_iff.1 hj).1
    show (z.cells ++ flatE ys)[0 * 5 + j]? = _
    rw [Nat.zero_mul, Nat.zero_add, List.getElem?_append_left hl]
    exact hj
  | z :: ys, i + 1, y, h, j, v, hj => by
    have := flatE_at ys i y (by simpa using h) j v hj
    show (z.cells ++ flatE ys)[(i + 1) * 5 + j]? = _
    have hz : z.cells.length = 5 := rfl
    rw [List.getElem?_append_right (by omega), hz, show (i + 1) * 5 + j - 5 = i * 5 + j by omega]
    exact this
theorem flatE_one {ys : List Et} : ∀ u ∈ flatE ys, u.oneCell' = true := by
  intro u hu
  obtain ⟨l, hl, hu⟩ := List.mem_flatten.1 hu
  obtain ⟨y, _, rfl⟩ := List.mem_map.1 hl
  simp [Et.cells] at hu
  rcases hu with rfl | rfl | rfl | rfl | rfl <;> rfl
/-- The body's bytes lie in a row of their own, from a base on. -/
def Et.Own (w : World) (B : Nat) (x : Et) : Prop := w.ownsRow B 5 1 (.slice x.A x.n x.c) x.n (u8V x.b)
theorem own_apart {w : World} {B B' n m : Nat} {v u : Value} {xs ys : List Value} (h : w.ownsRow B 31 5 v n xs) (h' : w.ownsRow B' 5 1 u m ys) : u.ownBlock = none ∨ u.ownBlock ≠ v.ownBlock := by
  rcases h'.2 with ⟨rfl, _⟩ | ⟨g, cap, cur, rfl, _, hg, _⟩
  · exact .inl rfl
  · refine .inr fun he => ?_
    rcases h.2 with ⟨rfl, _⟩ | ⟨g2, cap2, cur2, rfl, _, hg2, _⟩
    · simp [Value.ownBlock] at he
    · obtain rfl : g = g2 := by simpa [Value.ownBlock] using he
      rw [hg] at hg2
      cases hg2
def cutE (x : En × List UInt8) : En × List UInt8 := (x.1, x.2.take 60)
theorem entInfo : (Tryd.prog.info? 31).map (fun i => (i.zero, i.size, i.bytes)) = some (some (.agg #[.int .i64 0, .int .i64 0, .int .i64 0, .int .u32 0, .slice none 0 0]), 5, 56) := by kernel_rfl
/-- What Cut hands back. -/
def CutPost (es : List (En × List UInt8)) (w : World) (e : Ending) (w' : World) : Prop := ∃ v ys, e = .returned v ∧ w'.ownsRow w.heap.size 31 5 v ys.length (flatE ys) ∧ Below w.heap.size w w' ∧ (∀ y ∈ ys, (y.Ok ∧ y.n ≤ 60) ∧ y.Own w' w.heap.size) ∧ ys.map Et.dat = (es.take 40).map cutE
end Go.Proofs.YtncmbbkcpmimjaaDoor
