/- Slices of one-cell values as they are read: numbers, texts. -/
import Derived.Test.YtndpdonlombodaaDoorLaw
import Derived.Test.YtndpdonlombodaaDoorOwnOr
import Derived.Test.YtndpdonlombodaaDoorWdA
import Derived.Laws.IdiomStrings
import Derived.Lib.SmallJoins
import Derived.Lib.Hide
import Derived.Outline
import Derived.WalkSpells
namespace Go.Proofs.YtndpdonlombodaaDoor
open Go.RowKit Law
set_option linter.unusedVariables false
set_option linter.unusedSimpArgs false

/-- A slice's address and the one-cell values that it reads as. -/
def RowAt (w : World) (A : Option Addr) (vs : List Value) : Prop :=
  ∀ (k : Nat) (v : Value), vs[k]? = some v → ∃ blk off, A = some ⟨blk, off, none⟩ ∧ w.cell? ⟨blk, off + k, none⟩ = some v
theorem RowAt.keep {w w' : World} {A : Option Addr} {vs : List Value} (h : RowAt w A vs) (hb : Below w.heap.size w w') : RowAt w' A vs := fun k v hk => by
  obtain ⟨blk, off, rfl, hc⟩ := h k v hk
  exact ⟨blk, off, rfl, (hb.cell (p := ⟨blk, off + k, none⟩) (World.block_lt_of_cell? _ _ hc)).trans hc⟩
theorem RowAt.nil (w : World) (A : Option Addr) : RowAt w A [] := fun k v h => by simp at h
theorem RowAt.take {w : World} {A : Option Addr} {vs : List Value} (h : RowAt w A vs) (n : Nat) : RowAt w A (vs.take n) := fun k v hk => h k v (by
  rw [List.getElem?_take] at hk
  split at hk
  · exact hk
  · cases hk)
theorem RowAt.drop1 {w : World} {blk off : Nat} {vs : List Value} (h : RowAt w (some ⟨blk, off, none⟩) vs) (k : Nat) : RowAt w (some ⟨blk, off + k, none⟩) (vs.drop k) := fun j v hj => by
  rw [List.getElem?_drop] at hj
  obtain ⟨b, o, he, hc⟩ := h (k + j) v hj
  injection he with he
  injection he with h1 h2 h3
  subst h1 h2
  exact ⟨_, _, rfl, by rw [show off + k + j = off + (k + j) by omega]; exact hc⟩
theorem RowAt.of_own {w : World} {B : Nat} {e : TypeId} {A : Option Addr} {n c : Nat} {vs : List Value} (h : w.ownsRow B e 1 (.slice A n c) n vs) (hn : vs.length = n) : RowAt w A vs := by
  intro k v hv
  have hk : k < vs.length := (List.getElem?_eq_some_iff.1 hv).1
  obtain ⟨g, cap, hs⟩ := Joins.ownsRow_form h (by omega)
  obtain rfl : A = some ⟨g, 0, none⟩ := by injection hs
  refine ⟨g, 0, rfl, ?_⟩
  have := h.cells (g := g) rfl k v hv
  rwa [Lib.add_plain] at this
theorem RowAt.made (w : World) (vs : List Value) (t : TypeId) : RowAt (w.alloc (.cells vs.toArray t)) (some ⟨w.heap.size, 0, none⟩) vs := fun k v hv => by
  refine ⟨_, _, rfl, ?_⟩
  rw [World.cell?_alloc_at _ _ _ _ (by simp)]
  simpa using hv
def intV (l : List Int) : List Value := l.map (Value.int .i64)
def strV (l : List (List UInt8)) : List Value := l.map fun z => Value.string ⟨z.toArray⟩
def I64s (l : List Int) : Prop := ∀ z ∈ l, -9223372036854775808 ≤ z ∧ z ≤ 9223372036854775807

theorem strInfo : (Tryd.prog.info? 9).map (fun i => (i.zero, i.size, i.bytes)) = some (some (.string ⟨#[]⟩), 1, 16) := by kernel_rfl
/-- A list of texts that lies above a base. -/
def StrsPost (ls : List (List UInt8)) (w : World) (e : Ending) (w' : World) : Prop := ∃ A c, e = .returned (.slice A ls.length c) ∧ ls.length ≤ c ∧ RowAt w' A (strV ls) ∧ Below w.heap.size w w'
theorem strV_snoc (l : List (List UInt8)) (x : List UInt8) : strV (l ++ [x]) = strV l ++ [.string ⟨x.toArray⟩] := by simp [strV]
theorem OwnOr.row {w : World} {B : Nat} {e : TypeId} {A : Option Addr} {n c : Nat} {vs : List Value} (h : OwnOr w B e 1 (.slice A n c) n vs) (hn : vs.length = n) : RowAt w A vs := by
  rcases h with h | ⟨b, _, rfl, hx⟩
  · exact RowAt.of_own h hn
  · subst hx; exact RowAt.nil _ _
theorem ret_z {k : IntKind} {a b : Int} (h : a = b) : Ending.returned (.int k a) = .returned (.int k b) := by rw [h]
end Go.Proofs.YtndpdonlombodaaDoor
