/- What a clock and a membership tell. -/
import Derived.Test.YtfkfheddhnjaaaaGreatNdF
namespace Go.Proofs.YtfkfheddhnjaaaaGreat
open Go.RowKit Law
set_option linter.unusedVariables false
set_option linter.unusedSimpArgs false
set_option maxRecDepth 100000

theorem clockNow {w : World} {b : Nat} {sl z : Value} {p a : Int} (h : BoxF w b [sl, .int .i64 p, .int .i64 a, z]) (hp : p ≠ 0) : Calls Tryz.prog 78 #[.pointer (some ⟨b, 0, none⟩)] w fun e w' => e = .returned (.tuple #[.int .i64 a, .bool true]) ∧ w = w' := by
  have C := Lib.hid (clockPhase h)
  have c2 := h.1 2 _ rfl
  have hp' : (p == 0) = false := beq_eq_false_iff_ne.2 hp
  clear h hp
  go_enter Tryz.func78, Tryz.ntmps78
  go_wp2_with fail
  refine C.out.mono ?_
  rintro e w1 ⟨rfl, rfl⟩
  go_wp2
  go_ret2
  exact ⟨rfl, rfl⟩
theorem joinMember {w : World} {b : Nat} {s : Int} {x y : Value} (h : BoxF w b [.int .i64 s, x, y]) (hs : s = 2 ∨ s = 3) : Calls Tryz.prog 102 #[.pointer (some ⟨b, 0, none⟩)] w fun e w' => e = .returned (.bool true) ∧ w = w' := by
  have C := Lib.hid (joinState h)
  clear h
  rcases hs with rfl | rfl
  all_goals
    go_enter Tryz.func102, Tryz.ntmps102
    go_wp2_with fail
    refine C.out.mono ?_
    rintro e w1 ⟨rfl, rfl⟩
    go_wp2
    go_ret
    exact ⟨rfl, rfl⟩
theorem joinSince {w : World} {b : Nat} {s q : Int} {x : Value} (h : BoxF w b [.int .i64 s, x, .int .i64 q]) (hs : s = 2 ∨ s = 3) : Calls Tryz.prog 79 #[.pointer (some ⟨b, 0, none⟩)] w fun e w' => e = .returned (.tuple #[.int .i64 q, .bool true]) ∧ w = w' := by
  have C := Lib.hid (joinMember h hs)
  have c2 := h.1 2 _ rfl
  clear h hs
  go_enter Tryz.func79, Tryz.ntmps79
  go_wp2_with fail
  refine C.out.mono ?_
  rintro e w1 ⟨rfl, rfl⟩
  go_wp2
  go_ret2
  exact ⟨rfl, rfl⟩
end Go.Proofs.YtfkfheddhnjaaaaGreat
