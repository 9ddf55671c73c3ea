/- A node that keeps nothing of messages: what its tables' sizes are, and what it tells. -/
import Derived.Test.YteahiphmhaedpaaGreatDoorNdL
namespace Go.Proofs.YteahiphmhaedpaaGreatDoor
open Go.RowKit Law
set_option linter.unusedVariables false
set_option linter.unusedSimpArgs false
set_option maxRecDepth 100000

theorem len_nomap {w : World} {m : Nat} (t ty : TypeId) (h : NoMap w m) (ht : Tryz.prog.underlying t = some (.map (Tryz.prog.mapKeyOf t) (Tryz.prog.mapElemOf t))) : (Builtin.len_ #[t] ty #[.map (some m)]).run Tryz.prog w = .ok (.int .i64 0) w := by
  rw [run_len_map w t ty m #[] 0 ht h]
  rfl
theorem logPart0 (v : Value) (w : World) : Calls Tryz.prog 254 #[v, .int .i64 0, .int .i64 0] w fun e w' => e = .returned (.slice none 0 0) ∧ w = w' := by
  go_enter Tryz.func254, Tryz.ntmps254
  go_wp2
  refine wp_loop_rounds 1 ?_
  rw [rounds_succ]
  go_wp2
  go_ret
  exact ⟨rfl, rfl⟩
theorem logSince0 {w : World} {l : Nat} (h : BoxF w l [.slice none 0 0]) : Calls Tryz.prog 181 #[.pointer (some ⟨l, 0, none⟩), .int .i64 0] w fun e w' => e = .returned (.slice none 0 0) ∧ w = w' := by
  have C1 := Lib.hid (logLen0 h)
  have C2 := Lib.hid (logPart0 (.pointer (some ⟨l, 0, none⟩)) w)
  clear h
  go_enter Tryz.func181, Tryz.ntmps181
  go_wp2_with fail
  refine C1.out.mono ?_
  rintro e w1 ⟨rfl, rfl⟩
  go_wp2_with fail
  refine C2.out.mono ?_
  rintro e w1 ⟨rfl, rfl⟩
  go_wp2
  go_ret
  exact ⟨rfl, rfl⟩
theorem nodeLog0 {w : World} {lo : Nat} {b : NdO} {c : Cn} {x : NV} {s : NS} (h : NodeAt w lo b c x s) : Calls Tryz.prog 113 #[.pointer (some ⟨b.N, 0, none⟩), .int .i64 0] w fun e w' => e = .returned (.slice none 0 0) ∧ w = w' := by
  have C := Lib.hid (logSince0 h.lg)
  have c50 := h.box.cell 50 _ rfl
  generalize b.N = N at *
  clear h
  go_enter Tryz.func113, Tryz.ntmps113
  go_wp2_with fail
  refine C.out.mono ?_
  rintro e w1 ⟨rfl, rfl⟩
  go_wp2
  go_ret
  exact ⟨rfl, rfl⟩
theorem viewClone0 (w : World) : Calls Tryz.prog 316 #[.slice none 0 0] w fun e w' => e = .returned (.slice none 0 0) ∧ w = w' := by
  have hq : ∀ W, (binOp .eql 106 (.slice none 0 0) (.slice none 0 0)).run Tryz.prog W = .ok (.bool true) W := fun W => by kernel_rfl
  go_enter Tryz.func316, Tryz.ntmps316
  go_wp2
  go_ret
  exact ⟨rfl, rfl⟩
theorem viewList0 {w : World} {V : Nat} (h : BoxF w V [.slice none 0 0]) : Calls Tryz.prog 253 #[.pointer (some ⟨V, 0, none⟩)] w fun e w' => e = .returned (.slice none 0 0) ∧ w = w' := by
  have c0 := h.1 0 _ rfl
  have C := Lib.hid (viewClone0 w)
  clear h
  go_enter Tryz.func253, Tryz.ntmps253
  go_wp2_with fail
  refine C.out.mono ?_
  rintro e w1 ⟨rfl, rfl⟩
  go_wp2
  go_ret
  exact ⟨rfl, rfl⟩
theorem nodeViews0 {w : World} {lo : Nat} {b : NdO} {c : Cn} {x : NV} {s : NS} (h : NodeAt w lo b c x s) (hv : s.vw = .slice none 0 0) : Calls Tryz.prog 180 #[.pointer (some ⟨b.N, 0, none⟩)] w fun e w' => e = .returned (.slice none 0 0) ∧ w = w' := by
  have hv1 := h.vws
  rw [hv] at hv1
  have C := Lib.hid (viewList0 hv1)
  have c45 := h.box.cell 45 _ rfl
  generalize b.N = N at *
  clear h hv hv1
  go_enter Tryz.func180, Tryz.ntmps180
  go_wp2_with fail
  refine C.out.mono ?_
  rintro e w1 ⟨rfl, rfl⟩
  go_wp2
  go_ret
  exact ⟨rfl, rfl⟩
theorem nodePhase {w : World} {lo : Nat} {b : NdO} {c : Cn} {x : NV} {s : NS} (h : NodeAt w lo b c x s) : Calls Tryz.prog 98 #[.pointer (some ⟨b.N, 0, none⟩)] w fun e w' => e = .returned (.int .i64 s.ph) ∧ w = w' := by
  have C := Lib.hid (clockPhase h.clk)
  have c35 := h.box.cell 35 _ rfl
  generalize b.N = N at *
  clear h
  go_enter Tryz.func98, Tryz.ntmps98
  go_wp2_with fail
  refine C.out.mono ?_
  rintro e w1 ⟨rfl, rfl⟩
  go_wp2
  go_ret
  exact ⟨rfl, rfl⟩
theorem nodeState {w : World} {lo : Nat} {b : NdO} {c : Cn} {x : NV} {s : NS} (h : NodeAt w lo b c x s) : Calls Tryz.prog 172 #[.pointer (some ⟨b.N, 0, none⟩)] w fun e w' => e = .returned (.int .i64 s.js) ∧ w = w' := by
  have C := Lib.hid (joinState h.jn)
  have c44 := h.box.cell 44 _ rfl
  generalize b.N = N at *
  clear h
  go_enter Tryz.func172, Tryz.ntmps172
  go_wp2_with fail
  refine C.out.mono ?_
  rintro e w1 ⟨rfl, rfl⟩
  go_wp2
  go_ret
  exact ⟨rfl, rfl⟩
theorem clockNowCold {w : World} {b : Nat} {sl y z : Value} (h : BoxF w b [sl, .int .i64 0, y, z]) : Calls Tryz.prog 219 #[.pointer (some ⟨b, 0, none⟩)] w fun e w' => e = .returned (.tuple #[.int .i64 0, .bool false]) ∧ w = w' := by
  have C := Lib.hid (clockPhase h)
  clear h
  go_enter Tryz.func219, Tryz.ntmps219
  go_wp2_with fail
  refine C.out.mono ?_
  rintro e w1 ⟨rfl, rfl⟩
  go_wp2
  go_ret2
  exact ⟨rfl, rfl⟩
theorem nodeNowCold {w : World} {lo : Nat} {b : NdO} {c : Cn} {x : NV} {s : NS} (h : NodeAt w lo b c x s) (hp : s.ph = 0) : Calls Tryz.prog 173 #[.pointer (some ⟨b.N, 0, none⟩)] w fun e w' => e = .returned (.tuple #[.int .i64 0, .bool false]) ∧ w = w' := by
  have hc := h.clk
  rw [hp] at hc
  have C := Lib.hid (clockNowCold hc)
  have c35 := h.box.cell 35 _ rfl
  generalize b.N = N at *
  clear h hp hc
  go_enter Tryz.func173, Tryz.ntmps173
  go_wp2_with fail
  refine C.out.mono ?_
  rintro e w1 ⟨rfl, rfl⟩
  go_wp2
  go_ret2
  exact ⟨rfl, rfl⟩
theorem joinMember0 {w : World} {b : Nat} {x y : Value} (h : BoxF w b [.int .i64 0, x, y]) : Calls Tryz.prog 252 #[.pointer (some ⟨b, 0, none⟩)] w fun e w' => e = .returned (.bool false) ∧ w = w' := by
  have C := Lib.hid (joinState h)
  clear h
  go_enter Tryz.func252, Tryz.ntmps252
  go_wp2_with fail
  refine C.out.mono ?_
  rintro e w1 ⟨rfl, rfl⟩
  go_wp2
  go_ret
  exact ⟨rfl, rfl⟩
theorem joinSince0 {w : World} {b : Nat} {x y : Value} (h : BoxF w b [.int .i64 0, x, y]) : Calls Tryz.prog 179 #[.pointer (some ⟨b, 0, none⟩)] w fun e w' => e = .returned (.tuple #[.int .i64 0, .bool false]) ∧ w = w' := by
  have C := Lib.hid (joinMember0 h)
  clear h
  go_enter Tryz.func179, Tryz.ntmps179
  go_wp2_with fail
  refine C.out.mono ?_
  rintro e w1 ⟨rfl, rfl⟩
  go_wp2
  go_ret2
  exact ⟨rfl, rfl⟩
theorem nodeSince0 {w : World} {lo : Nat} {b : NdO} {c : Cn} {x : NV} {s : NS} (h : NodeAt w lo b c x s) (hj : s.js = 0) : Calls Tryz.prog 111 #[.pointer (some ⟨b.N, 0, none⟩)] w fun e w' => e = .returned (.tuple #[.int .i64 0, .bool false]) ∧ w = w' := by
  have hc := h.jn
  rw [hj] at hc
  have C := Lib.hid (joinSince0 hc)
  have c44 := h.box.cell 44 _ rfl
  generalize b.N = N at *
  clear h hj hc
  go_enter Tryz.func111, Tryz.ntmps111
  go_wp2_with fail
  refine C.out.mono ?_
  rintro e w1 ⟨rfl, rfl⟩
  go_wp2
  go_ret2
  exact ⟨rfl, rfl⟩
end Go.Proofs.YteahiphmhaedpaaGreatDoor
