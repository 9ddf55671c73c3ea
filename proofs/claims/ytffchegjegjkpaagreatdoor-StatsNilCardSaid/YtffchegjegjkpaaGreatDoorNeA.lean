/- A node that keeps nothing of messages: what its tables' sizes are, and what it tells. -/
import Derived.Test.YtffchegjegjkpaaGreatDoorNdL
namespace Go.Proofs.YtffchegjegjkpaaGreatDoor
open Go.RowKit Law
set_option linter.unusedVariables false
set_option linter.unusedSimpArgs false
set_option maxRecDepth 100000

theorem len_nomap {w : World} {m : Nat} (t ty : TypeId) (h : NoMap w m) (ht : Tryz.prog.underlying t = some (.map (Tryz.prog.mapKeyOf t) (Tryz.prog.mapElemOf t))) : (Builtin.len_ #[t] ty #[.map (some m)]).run Tryz.prog w = .ok (.int .i64 0) w := by
  rw [run_len_map w t ty m #[] 0 ht h]
  rfl
theorem logPart0 (v : Value) (w : World) : Calls Tryz.prog 129 #[v, .int .i64 0, .int .i64 0] w fun e w' => e = .returned (.slice none 0 0) ∧ w = w' := by
  go_enter Tryz.func129, Tryz.ntmps129
  go_wp2
  refine wp_loop_rounds 1 ?_
  rw [rounds_succ]
  go_wp2
  go_ret
  exact ⟨rfl, rfl⟩
theorem logSince0 {w : World} {l : Nat} (h : BoxF w l [.slice none 0 0]) : Calls Tryz.prog 80 #[.pointer (some ⟨l, 0, none⟩), .int .i64 0] w fun e w' => e = .returned (.slice none 0 0) ∧ w = w' := by
  have C1 := Lib.hid (logLen0 h)
  have C2 := Lib.hid (logPart0 (.pointer (some ⟨l, 0, none⟩)) w)
  clear h
  go_enter Tryz.func80, Tryz.ntmps80
  go_wp2_with fail
  refine C1.out.mono ?_
  rintro e w1 ⟨rfl, rfl⟩
  go_wp2_with fail
  refine C2.out.mono ?_
  rintro e w1 ⟨rfl, rfl⟩
  go_wp2
  go_ret
  exact ⟨rfl, rfl⟩
theorem nodeLog0 {w : World} {lo : Nat} {b : NdO} {c : Cn} {x : NV} {s : NS} (h : NodeAt w lo b c x s) : Calls Tryz.prog 51 #[.pointer (some ⟨b.N, 0, none⟩), .int .i64 0] w fun e w' => e = .returned (.slice none 0 0) ∧ w = w' := by
  have C := Lib.hid (logSince0 h.lg)
  have c50 := h.box.cell 50 _ rfl
  generalize b.N = N at *
  clear h
  go_enter Tryz.func51, Tryz.ntmps51
  go_wp2_with fail
  refine C.out.mono ?_
  rintro e w1 ⟨rfl, rfl⟩
  go_wp2
  go_ret
  exact ⟨rfl, rfl⟩
theorem viewClone0 (w : World) : Calls Tryz.prog 188 #[.slice none 0 0] w fun e w' => e = .returned (.slice none 0 0) ∧ w = w' := by
  have hq : ∀ W, (binOp .eql 66 (.slice none 0 0) (.slice none 0 0)).run Tryz.prog W = .ok (.bool true) W := fun W => by kernel_rfl
  go_enter Tryz.func188, Tryz.ntmps188
  go_wp2
  go_ret
  exact ⟨rfl, rfl⟩
theorem viewList0 {w : World} {V : Nat} (h : BoxF w V [.slice none 0 0]) : Calls Tryz.prog 128 #[.pointer (some ⟨V, 0, none⟩)] w fun e w' => e = .returned (.slice none 0 0) ∧ w = w' := by
  have c0 := h.1 0 _ rfl
  have C := Lib.hid (viewClone0 w)
  clear h
  go_enter Tryz.func128, Tryz.ntmps128
  go_wp2_with fail
  refine C.out.mono ?_
  rintro e w1 ⟨rfl, rfl⟩
  go_wp2
  go_ret
  exact ⟨rfl, rfl⟩
theorem nodeViews0 {w : World} {lo : Nat} {b : NdO} {c : Cn} {x : NV} {s : NS} (h : NodeAt w lo b c x s) (hv : s.vw = .slice none 0 0) : Calls Tryz.prog 79 #[.pointer (some ⟨b.N, 0, none⟩)] w fun e w' => e = .returned (.slice none 0 0) ∧ w = w' := by
  have hv1 := h.vws
  rw [hv] at hv1
  have C := Lib.hid (viewList0 hv1)
  have c45 := h.box.cell 45 _ rfl
  generalize b.N = N at *
  clear h hv hv1
  go_enter Tryz.func79, Tryz.ntmps79
  go_wp2_with fail
  refine C.out.mono ?_
  rintro e w1 ⟨rfl, rfl⟩
  go_wp2
  go_ret
  exact ⟨rfl, rfl⟩
theorem nodePhase {w : World} {lo : Nat} {b : NdO} {c : Cn} {x : NV} {s : NS} (h : NodeAt w lo b c x s) : Calls Tryz.prog 36 #[.pointer (some ⟨b.N, 0, none⟩)] w fun e w' => e = .returned (.int .i64 s.ph) ∧ w = w' := by
  have C := Lib.hid (clockPhase h.clk)
  have c35 := h.box.cell 35 _ rfl
  generalize b.N = N at *
  clear h
  go_enter Tryz.func36, Tryz.ntmps36
  go_wp2_with fail
  refine C.out.mono ?_
  rintro e w1 ⟨rfl, rfl⟩
  go_wp2
  go_ret
  exact ⟨rfl, rfl⟩
theorem nodeState {w : World} {lo : Nat} {b : NdO} {c : Cn} {x : NV} {s : NS} (h : NodeAt w lo b c x s) : Calls Tryz.prog 71 #[.pointer (some ⟨b.N, 0, none⟩)] w fun e w' => e = .returned (.int .i64 s.js) ∧ w = w' := by
  have C := Lib.hid (joinState h.jn)
  have c44 := h.box.cell 44 _ rfl
  generalize b.N = N at *
  clear h
  go_enter Tryz.func71, Tryz.ntmps71
  go_wp2_with fail
  refine C.out.mono ?_
  rintro e w1 ⟨rfl, rfl⟩
  go_wp2
  go_ret
  exact ⟨rfl, rfl⟩
theorem clockNowCold {w : World} {b : Nat} {sl y z : Value} (h : BoxF w b [sl, .int .i64 0, y, z]) : Calls Tryz.prog 77 #[.pointer (some ⟨b, 0, none⟩)] w fun e w' => e = .returned (.tuple #[.int .i64 0, .bool false]) ∧ w = w' := by
  have C := Lib.hid (clockPhase h)
  clear h
  go_enter Tryz.func77, Tryz.ntmps77
  go_wp2_with fail
  refine C.out.mono ?_
  rintro e w1 ⟨rfl, rfl⟩
  go_wp2
  go_ret2
  exact ⟨rfl, rfl⟩
theorem nodeNowCold {w : World} {lo : Nat} {b : NdO} {c : Cn} {x : NV} {s : NS} (h : NodeAt w lo b c x s) (hp : s.ph = 0) : Calls Tryz.prog 47 #[.pointer (some ⟨b.N, 0, none⟩)] w fun e w' => e = .returned (.tuple #[.int .i64 0, .bool false]) ∧ w = w' := by
  have hc := h.clk
  rw [hp] at hc
  have C := Lib.hid (clockNowCold hc)
  have c35 := h.box.cell 35 _ rfl
  generalize b.N = N at *
  clear h hp hc
  go_enter Tryz.func47, Tryz.ntmps47
  go_wp2_with fail
  refine C.out.mono ?_
  rintro e w1 ⟨rfl, rfl⟩
  go_wp2
  go_ret2
  exact ⟨rfl, rfl⟩
theorem joinMember0 {w : World} {b : Nat} {x y : Value} (h : BoxF w b [.int .i64 0, x, y]) : Calls Tryz.prog 127 #[.pointer (some ⟨b, 0, none⟩)] w fun e w' => e = .returned (.bool false) ∧ w = w' := by
  have C := Lib.hid (joinState h)
  clear h
  go_enter Tryz.func127, Tryz.ntmps127
  go_wp2_with fail
  refine C.out.mono ?_
  rintro e w1 ⟨rfl, rfl⟩
  go_wp2
  go_ret
  exact ⟨rfl, rfl⟩
theorem joinSince0 {w : World} {b : Nat} {x y : Value} (h : BoxF w b [.int .i64 0, x, y]) : Calls Tryz.prog 78 #[.pointer (some ⟨b, 0, none⟩)] w fun e w' => e = .returned (.tuple #[.int .i64 0, .bool false]) ∧ w = w' := by
  have C := Lib.hid (joinMember0 h)
  clear h
  go_enter Tryz.func78, Tryz.ntmps78
  go_wp2_with fail
  refine C.out.mono ?_
  rintro e w1 ⟨rfl, rfl⟩
  go_wp2
  go_ret2
  exact ⟨rfl, rfl⟩
theorem nodeSince0 {w : World} {lo : Nat} {b : NdO} {c : Cn} {x : NV} {s : NS} (h : NodeAt w lo b c x s) (hj : s.js = 0) : Calls Tryz.prog 49 #[.pointer (some ⟨b.N, 0, none⟩)] w fun e w' => e = .returned (.tuple #[.int .i64 0, .bool false]) ∧ w = w' := by
  have hc := h.jn
  rw [hj] at hc
  have C := Lib.hid (joinSince0 hc)
  have c44 := h.box.cell 44 _ rfl
  generalize b.N = N at *
  clear h hj hc
  go_enter Tryz.func49, Tryz.ntmps49
  go_wp2_with fail
  refine C.out.mono ?_
  rintro e w1 ⟨rfl, rfl⟩
  go_wp2
  go_ret2
  exact ⟨rfl, rfl⟩
end Go.Proofs.YtffchegjegjkpaaGreatDoor
