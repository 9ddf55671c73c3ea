/- nodes.Each: going over a set gives its nodes, rising. -/
import Derived.Test.YtfkfheddhnjaaaaGreatSetC
import Derived.Test.YtfkfheddhnjaaaaGreatSeqBox
import Derived.RangeFuncBox
import Derived.Shelf.Abstract
import Derived.Shelf.RegionOpen
import Derived.WalkKit
import Derived.OwnWalkIn
import Derived.TacticsInMore
import Derived.LoopNIn
import Derived.LoopIn
namespace Go.Proofs.YtfkfheddhnjaaaaGreat
open Go.RowKit Law Go.Shelf
set_option linter.unusedVariables false
set_option linter.unusedSimpArgs false
set_option maxRecDepth 100000
attribute [local go_sem] Oper.semAt_some

/-- What is left in the box. -/
def inBox (B : Nat) (W : World) : Nat := match W.cell? ⟨B, 0, none⟩ with
  | some (.int _ z) => (els z.toNat).length
  | _ => 0
theorem inBox_eq {B : Nat} {W : World} {x : Nat} (h : W.cell? ⟨B, 0, none⟩ = some (.int .u64 (x : Int))) : inBox B W = (els x).length := by
  unfold inBox
  rw [h]
  simp
theorem Side.below {N B0 B : Nat} {w W W' : World} (h : Side B0 B W W') (hN : N ≤ B0) (hNB : N ≤ B) (hb : Below N w W) (hW : N ≤ W.heap.size) : Below N w W' :=
  ⟨h.os.trans hb.os, h.tape.trans hb.tape, h.output.trans hb.output, Nat.le_trans hb.size h.size, fun k hk => (h.low k (by omega) (by omega) (by omega)).trans (hb.block k hk)⟩
theorem Side.row {B0 B base size n : Nat} {e : TypeId} {v : Value} {xs : List Value} {W W' : World} (h : Side B0 B W W') (hB : B < base) (hown : W.ownsRow base e size v n xs) : W'.ownsRow base e size v n xs := by
  refine ⟨hown.1, ?_⟩
  rcases hown.2 with hn | ⟨g, cap, cur, hv, hg, hc, rest⟩
  · exact .inl hn
  · exact .inr ⟨g, cap, cur, hv, hg, h.cells g _ (by omega) hc rfl, rest⟩
theorem Side.cell {B0 B b : Nat} {u : Value} {W W' : World} (h : Side B0 B W W') (hne : b ≠ B) (hb : b < B0) (hx : BoxIs b u W) : BoxIs b u W' :=
  hx.kept (h.low b hx.lt hne hb)

/-- 'out = append(out, ..)' where out lies in a box: behind the append and the store. -/
theorem box_append {W w1 : World} {base b : Nat} {e : TypeId} {size : Nat} {v v' : Value} {k m : Nat} {xs ys : List Value} {tmp : Obj}
    (hb : b < base) (hbx : BoxIs b v W) (hown : W.ownsRow base e size v k xs) (hbase : base ≤ W.heap.size) (hown' : w1.ownsRow base e size v' m ys) (hgrow : (W.alloc tmp).grownBy w1 v.ownBlock) :
    BoxIs b v w1 ∧ BoxIs b v' (w1.setCell ⟨b, 0, none⟩ v') ∧ (w1.setCell ⟨b, 0, none⟩ v').ownsRow base e size v' m ys ∧ KeepsOthers W (w1.setCell ⟨b, 0, none⟩ v') ∧
      (∀ B u, B < base → B ≠ b → BoxIs B u W → BoxIs B u (w1.setCell ⟨b, 0, none⟩ v')) ∧ (∀ N, N ≤ b → Below N W (w1.setCell ⟨b, 0, none⟩ v')) := by
  have hblk : ∀ j, j < base → w1.heap[j]? = W.heap[j]? := fun j hj => by
    rw [hgrow.block j (by simp; omega) (fun h => by have := (hown.lt j h.symm).1; omega)]
    exact Below.heap_alloc W tmp j (by omega)
  have h1 : BoxIs b v w1 := hbx.kept (hblk b hb)
  refine ⟨h1, ⟨?_, by rw [World.frozen?_setCell]; exact h1.2⟩, ?_, ?_, ?_, ?_⟩
  · exact World.cell?_setCell_same' _ _ _ (by rw [h1.1]; rfl)
  · refine hown'.kept (grownBy_setCell' w1 b v') ?_
    cases hv : v'.ownBlock with
    | none => exact .inl rfl
    | some g =>
      refine .inr fun h => ?_
      have := (hown'.lt g hv).1
      injection h
      omega
  · refine ((KeepsOthers.alloc W tmp).trans (KeepsOthers.of_grownBy hgrow fun j o ej hj => ?_)).trans (KeepsOthers.setCell _ _ _)
    rcases (hown.alloc tmp).2 with ⟨rfl, _⟩ | ⟨g, cap, cur, rfl, _, hgb, _⟩
    · simp [Value.ownBlock] at ej
    · obtain rfl : g = j := by simpa [Value.ownBlock] using ej
      rw [hgb] at hj; cases hj; rfl
  · intro B u hB hne hx
    exact (hx.kept (hblk B hB)).kept (Below.heap_setCell w1 ⟨b, 0, none⟩ v' B hne)
  · intro N hN
    refine (((Below.refl N W).alloc (by omega) tmp).grown hgrow (by simp; omega) fun j ej => ?_).setCell (p := ⟨b, 0, none⟩) hN v'
    have := (hown.lt j ej).1
    omega

/-! ### List -/
def ListI (w : World) (zs : List Int) (k : Nat) (W : World) : Prop :=
  ∃ v, BoxIs w.heap.size v W ∧ W.ownsRow (w.heap.size + 2) 3 1 v k (intV (zs.take k)) ∧ Below w.heap.size w W
end Go.Proofs.YtfkfheddhnjaaaaGreat
