/- A slice of bytes: what it reads as; as a string. -/
import Derived.Test.YtndpdonlombodaaDoorOwnOr
import Derived.Test.YtndpdonlombodaaDoorLaw
import Derived.Lib.ItoaMem
import Derived.Laws.IdiomStrings
import Derived.Lib.SmallJoins
import Derived.Lib.Hide
namespace Go.Proofs.YtndpdonlombodaaDoor
open Go.RowKit Law
set_option linter.unusedVariables false
set_option linter.unusedSimpArgs false

/-- A slice value's address and the bytes that it reads as. -/
def U8At (w : World) (A : Option Addr) (l : List UInt8) : Prop :=
  ∀ (k : Nat) (b : UInt8), l[k]? = some b → ∃ blk off, A = some ⟨blk, off, none⟩ ∧ w.cell? ⟨blk, off + k, none⟩ = some (.int .u8 b.toNat)
theorem U8At.at_ {w : World} {A : Option Addr} {l : List UInt8} (h : U8At w A l) {k : Nat} (hk : k < l.length) : ∃ blk off, A = some ⟨blk, off, none⟩ ∧ w.cell? ⟨blk, off + k, none⟩ = some (.int .u8 l[k].toNat) := h k l[k] (List.getElem?_eq_getElem hk)
theorem U8At.keep {w w' : World} {A : Option Addr} {l : List UInt8} (h : U8At w A l) (hb : Below w.heap.size w w') : U8At w' A l := fun k b hk => by
  obtain ⟨blk, off, rfl, hc⟩ := h k b hk
  exact ⟨blk, off, rfl, (hb.cell (p := ⟨blk, off + k, none⟩) (World.block_lt_of_cell? _ _ hc)).trans hc⟩
theorem U8At.take {w : World} {A : Option Addr} {b : List UInt8} (h : U8At w A b) (n : Nat) : U8At w A (b.take n) := fun k e he => h k e (by
  rw [List.getElem?_take] at he
  split at he
  · exact he
  · cases he)
theorem U8At.nil (w : World) (A : Option Addr) : U8At w A [] := fun k e he => by simp at he
theorem u8Info : (Tryd.prog.info? 5).map (fun i => (i.zero, i.size, i.bytes)) = some (some (.int .u8 0), 1, 1) := by kernel_rfl
def u8V (b : List UInt8) : List Value := b.map fun c => .int .u8 (c.toNat : Int)
theorem ownU8 {w : World} {base : Nat} {A : Option Addr} {n c : Nat} {b : List UInt8} (h : w.ownsRow base 5 1 (.slice A n c) n (u8V b)) (hn : b.length = n) : U8At w A b := by
  intro k e he
  have hk : k < b.length := (List.getElem?_eq_some_iff.1 he).1
  obtain ⟨g, cap, hv⟩ := Joins.ownsRow_form h (by omega)
  obtain rfl : A = some ⟨g, 0, none⟩ := by injection hv
  refine ⟨g, 0, rfl, ?_⟩
  have := h.cells (g := g) rfl k (.int .u8 (e.toNat : Int)) (by unfold u8V; rw [List.getElem?_map, he]; rfl)
  rwa [Lib.add_plain] at this
theorem U8At.other {w : World} {A : Option Addr} {b : List UInt8} (h : U8At w A b) {a : Addr} (hne : ∀ ad, A = some ad → ad.block ≠ a.block) (v : Value) : U8At (w.setCell a v) A b := fun k e hk => by
  obtain ⟨blk, off, rfl, hc⟩ := h k e hk
  exact ⟨blk, off, rfl, by rw [World.cell?_setCell_other _ _ _ _ (fun e => hne _ rfl (by rw [e]))]; exact hc⟩
theorem U8At.flat {w : World} {A : Option Addr} {b : List UInt8} (h : U8At w A b) (ad : Addr) (hA : A = some ad) (j : Nat) (u : Value) (hu : (u8V b)[j]? = some u) : w.cell? (ad.add j) = some u := by
  unfold u8V at hu
  rw [List.getElem?_map] at hu
  obtain ⟨c, hc, rfl⟩ := Option.map_eq_some_iff.1 hu
  obtain ⟨blk, off, hA2, hcell⟩ := h j c hc
  rw [hA] at hA2
  injection hA2 with hA2
  subst hA2
  rw [Lib.add_plain]
  exact hcell
theorem u8_one {b : List UInt8} : ∀ u ∈ u8V b, u.oneCell' = true := by
  intro u hu
  obtain ⟨c, _, rfl⟩ := List.mem_map.1 hu
  rfl
/-- Bytes as a string. -/
theorem conv_u8 {w : World} {A : Option Addr} {n c : Nat} {b : List UInt8} (h : U8At w A b) (hn : b.length = n) : (convert 27 9 (.slice A n c)).run Tryd.prog w = .ok (.string ⟨b.toArray⟩) w := by
  subst hn
  cases A with
  | some ad => exact run_convert_bytes_back (P := Tryd.prog) w 27 9 5 ad c b Tryd.underlying27 Tryd.underlying5 Tryd.underlying9 (fun j hj => h.flat ad rfl j _ (by unfold u8V; rw [List.getElem?_map, List.getElem?_eq_getElem hj]; rfl))
  | none =>
    have hb : b = [] := by
      cases b with
      | nil => rfl
      | cons x l =>
        obtain ⟨_, _, h1, _⟩ := h 0 x rfl
        cases h1
    subst hb
    rw [run_convert_bytes_string w 27 9 5 none _ c Tryd.underlying27 Tryd.underlying5 Tryd.underlying9]
    simp [Conv.bytesToString]
    rfl
end Go.Proofs.YtndpdonlombodaaDoor
