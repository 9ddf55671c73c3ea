/- The small objects of a node that hold a map: how each is made, and that it is empty. -/
import Derived.Test.YtfkfheddhnjaaaaGreatNdA
namespace Go.Proofs.YtfkfheddhnjaaaaGreat
open Go.RowKit Law
set_option linter.unusedVariables false
set_option linter.unusedSimpArgs false
set_option maxRecDepth 100000

/-- A map that holds nothing. -/
def NoMap (w : World) (m : Nat) : Prop := w.heap[m]? = some (.map #[] 0)
theorem NoMap.keep {w w' : World} {m : Nat} (h : NoMap w m) (hb : Below w.heap.size w w') : NoMap w' m := by
  have hlt : m < w.heap.size := (Array.getElem?_eq_some_iff.1 h).1
  unfold NoMap
  rw [hb.block m hlt]
  exact h
theorem noMap_made (w : World) : NoMap (w.alloc (.map #[] 0)) w.heap.size := by
  show (w.heap.push _)[w.heap.size]? = _
  simp
/-- A new object that holds a new map. -/
def MadeM (w : World) (cs : Nat → List Value) (e : Ending) (w' : World) : Prop := ∃ b m, e = .returned (.pointer (some ⟨b, 0, none⟩)) ∧ BoxF w' b (cs m) ∧ NoMap w' m ∧ w.heap.size ≤ m ∧ m < b ∧ Below w.heap.size w w'
theorem madeM_here (w : World) (cs : Nat → List Value) (t : TypeId) : MadeM w cs (.returned (.pointer (some ⟨w.heap.size + 1, 0, none⟩))) ((w.alloc (.map #[] 0)).alloc (.cells (cs w.heap.size).toArray t)) := by
  have h1 : Below w.heap.size w (w.alloc (.map #[] 0)) := (Below.refl _ _).alloc (Nat.le_refl _) _
  have h2 : Below (w.alloc (.map #[] 0)).heap.size (w.alloc (.map #[] 0)) ((w.alloc (.map #[] 0)).alloc (.cells (cs w.heap.size).toArray t)) := (Below.refl _ _).alloc (Nat.le_refl _) _
  have hb := boxF_made (w.alloc (.map #[] 0)) (cs w.heap.size) t
  rw [show (w.alloc (.map #[] 0)).heap.size = w.heap.size + 1 by simp] at hb
  exact ⟨_, _, rfl, hb, (noMap_made w).keep h2, Nat.le_refl _, Nat.lt_succ_self _, h1.trans (h2.mono (by simp))⟩
theorem tabNewI (most : Int) (w : World) : Calls Tryz.prog 99 #[.int .i64 most] w (MadeM w fun m => [.slice none 0 0, .map (some m), .int .i64 (min (max most 0) 65536)]) := by
  have hmk : ∀ W : World, (Instr.makeMap 235 none).run Tryz.prog W = .ok (.map (some W.heap.size)) (W.alloc (.map #[] 0)) := fun W => by rfl
  go_enter Tryz.func99, Tryz.ntmps99
  go_wp2
  go_ret
  exact madeM_here w (fun m => [.slice none 0 0, .map (some m), .int .i64 (min (max most 0) 65536)]) _
theorem tabNewP (most : Int) (w : World) : Calls Tryz.prog 66 #[.int .i64 most] w (MadeM w fun m => [.slice none 0 0, .map (some m), .int .i64 (min (max most 0) 65536)]) := by
  have hmk : ∀ W : World, (Instr.makeMap 221 none).run Tryz.prog W = .ok (.map (some W.heap.size)) (W.alloc (.map #[] 0)) := fun W => by rfl
  go_enter Tryz.func66, Tryz.ntmps66
  go_wp2
  go_ret
  exact madeM_here w (fun m => [.slice none 0 0, .map (some m), .int .i64 (min (max most 0) 65536)]) _
theorem rollNew (most : Int) (w : World) : Calls Tryz.prog 19 #[.int .i64 most] w (MadeM w fun m => [.map (some m), .int .i64 (min (max most 0) 65536)]) := by
  have hmk : ∀ W : World, (Instr.makeMap 181 none).run Tryz.prog W = .ok (.map (some W.heap.size)) (W.alloc (.map #[] 0)) := fun W => by rfl
  go_enter Tryz.func19, Tryz.ntmps19
  go_wp2
  go_ret
  exact madeM_here w (fun m => [.map (some m), .int .i64 (min (max most 0) 65536)]) _
theorem pieceNew (self : Int) (w : World) : Calls Tryz.prog 23 #[.int .i64 self] w (MadeM w fun m => [.int .i64 self, .int .i64 0, .int .i64 0, .map (some m)]) := by
  have hmk : ∀ W : World, (Instr.makeMap 190 none).run Tryz.prog W = .ok (.map (some W.heap.size)) (W.alloc (.map #[] 0)) := fun W => by rfl
  go_enter Tryz.func23, Tryz.ntmps23
  go_wp2
  go_ret
  exact madeM_here w (fun m => [.int .i64 self, .int .i64 0, .int .i64 0, .map (some m)]) _
theorem roundNew (no : Int) (w : World) : Calls Tryz.prog 124 #[.int .i64 no] w (MadeM w fun m => [.int .i64 no, .map (some m)]) := by
  have hmk : ∀ W : World, (Instr.makeMap 249 none).run Tryz.prog W = .ok (.map (some W.heap.size)) (W.alloc (.map #[] 0)) := fun W => by rfl
  go_enter Tryz.func124, Tryz.ntmps124
  go_wp2
  go_ret
  exact madeM_here w (fun m => [.int .i64 no, .map (some m)]) _
end Go.Proofs.YtfkfheddhnjaaaaGreat
