/- The small objects of a node: how each is made, and what it tells. -/
import Derived.Test.YtfkfheddhnjaaaaGreatCfB
import Derived.Test.YtfkfheddhnjaaaaGreatSetA
import Derived.Lib.MinMax
namespace Go.Proofs.YtfkfheddhnjaaaaGreat
open Go.RowKit Law
set_option linter.unusedVariables false
set_option linter.unusedSimpArgs false
set_option maxRecDepth 100000

/-- A new object, in a block of its own. -/
def MadeAt (w : World) (cs : List Value) (e : Ending) (w' : World) : Prop := ∃ b, e = .returned (.pointer (some ⟨b, 0, none⟩)) ∧ BoxF w' b cs ∧ w.heap.size ≤ b ∧ Below w.heap.size w w'
theorem made_here (w : World) (cs : List Value) (t : TypeId) : MadeAt w cs (.returned (.pointer (some ⟨w.heap.size, 0, none⟩))) (w.alloc (.cells cs.toArray t)) := ⟨_, rfl, boxF_made w cs t, Nat.le_refl _, (Below.refl _ _).alloc (Nat.le_refl _) _⟩
def clampI (x lo hi : Int) : Int := if x < lo then lo else if hi < x then hi else x
theorem spanClamp (x lo hi : Int) (w : World) : Calls Tryz.prog 14 #[.int .i64 x, .int .i64 lo, .int .i64 hi] w fun e w' => e = .returned (.int .i64 (clampI x lo hi)) ∧ w = w' := by
  by_cases h1 : x < lo
  · have H : Hid (clampI x lo hi = lo) := by unfold Hid clampI; rw [if_pos h1]
    go_enter Tryz.func14, Tryz.ntmps14
    go_wp2
    go_ret
    exact ⟨ret_int H.out.symm, rfl⟩
  · by_cases h2 : hi < x
    · have H : Hid (clampI x lo hi = hi) := by unfold Hid clampI; rw [if_neg h1, if_pos h2]
      go_enter Tryz.func14, Tryz.ntmps14
      go_wp2
      go_ret
      exact ⟨ret_int H.out.symm, rfl⟩
    · have H : Hid (clampI x lo hi = x) := by unfold Hid clampI; rw [if_neg h1, if_neg h2]
      go_enter Tryz.func14, Tryz.ntmps14
      go_wp2
      go_ret
      exact ⟨ret_int H.out.symm, rfl⟩
theorem slewNew (most : Int) (w : World) : Calls Tryz.prog 64 #[.int .i64 most] w (MadeAt w [.int .i64 0, .int .i64 (clampI most 1 256)]) := by
  have C := Lib.hid (fun W => spanClamp most 1 256 W)
  go_enter Tryz.func64, Tryz.ntmps64
  go_wp2_with fail
  refine (C.out _).mono ?_
  rintro e w' ⟨rfl, rfl⟩
  go_wp2
  go_ret
  exact made_here _ _ _
theorem joinNew (w : World) : Calls Tryz.prog 20 #[] w (MadeAt w [.int .i64 0, .int .i64 (-1), .int .i64 0]) := by
  go_enter Tryz.func20, Tryz.ntmps20
  go_wp2
  go_ret
  exact made_here _ _ _
theorem quotaNew (most body : Int) (w : World) : Calls Tryz.prog 18 #[.int .i64 most, .int .i64 body] w (MadeAt w [.int .i64 (min (max most 0) 65536), .int .i64 (min (max body 0) 1024), .int .i64 0]) := by
  go_enter Tryz.func18, Tryz.ntmps18
  go_wp2
  go_ret
  exact made_here _ _ _
theorem serialNew (w : World) : Calls Tryz.prog 13 #[.int .u32 0] w (MadeAt w [.int .u64 0]) := by
  go_enter Tryz.func13, Tryz.ntmps13
  go_wp2
  go_ret
  exact made_here _ _ _
theorem viewNew (w : World) : Calls Tryz.prog 21 #[] w (MadeAt w [.slice none 0 0]) := by
  go_enter Tryz.func21, Tryz.ntmps21
  go_wp2
  go_ret
  exact made_here _ _ _
theorem logNew (w : World) : Calls Tryz.prog 22 #[] w (MadeAt w [.slice none 0 0]) := by
  go_enter Tryz.func22, Tryz.ntmps22
  go_wp2
  go_ret
  exact made_here _ _ _
theorem joinState {s : Int} {x y : Value} {w : World} {b : Nat} (h : BoxF w b [.int .i64 s, x, y]) : Calls Tryz.prog 81 #[.pointer (some ⟨b, 0, none⟩)] w fun e w' => e = .returned (.int .i64 s) ∧ w = w' := by
  have c0 := h.1 0 _ rfl
  go_enter Tryz.func81, Tryz.ntmps81
  go_wp2
  go_ret
  exact ⟨rfl, rfl⟩
theorem quotaWaiting {s : Int} {x y : Value} {w : World} {b : Nat} (h : BoxF w b [x, y, .int .i64 s]) : Calls Tryz.prog 87 #[.pointer (some ⟨b, 0, none⟩)] w fun e w' => e = .returned (.int .i64 s) ∧ w = w' := by
  have c2 := h.1 2 _ rfl
  go_enter Tryz.func87, Tryz.ntmps87
  go_wp2
  go_ret
  exact ⟨rfl, rfl⟩
theorem clockPhase {s : Int} {x y z : Value} {w : World} {b : Nat} (h : BoxF w b [x, .int .i64 s, y, z]) : Calls Tryz.prog 80 #[.pointer (some ⟨b, 0, none⟩)] w fun e w' => e = .returned (.int .i64 s) ∧ w = w' := by
  have c1 := h.1 1 _ rfl
  go_enter Tryz.func80, Tryz.ntmps80
  go_wp2
  go_ret
  exact ⟨rfl, rfl⟩
theorem logLen0 {A : Option Addr} {l k : Nat} {w : World} {b : Nat} (h : BoxF w b [.slice A l k]) : Calls Tryz.prog 105 #[.pointer (some ⟨b, 0, none⟩)] w fun e w' => e = .returned (.int .i64 (l : Int)) ∧ w = w' := by
  have c0 := h.1 0 _ rfl
  go_enter Tryz.func105, Tryz.ntmps105
  go_wp2
  go_ret
  exact ⟨rfl, rfl⟩
end Go.Proofs.YtfkfheddhnjaaaaGreat
