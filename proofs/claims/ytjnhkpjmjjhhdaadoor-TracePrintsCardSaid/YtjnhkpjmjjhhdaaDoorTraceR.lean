/- The reference's Line and Print. -/
import Derived.Test.YtjnhkpjmjjhhdaaDoorTraceS
namespace Go.Proofs.YtjnhkpjmjjhhdaaDoor
open Go.RowKit Law
set_option linter.unusedVariables false

theorem dig06 (n : Int) (h0 : -9223372036854775808 ≤ n) (h1 : n ≤ 9223372036854775807) (w : World) :
    Calls Tryd.prog 26 #[.int .i64 n] w fun e w' => e = .returned (.string ⟨(Lib.itoa n).toArray⟩) ∧ Below w.heap.size w w' :=
  (digits06 n h0 h1 w).mono fun _ _ ⟨he, hw⟩ => ⟨he, by subst hw; exact Below.refl _ _⟩
def baseOf (e : Ev) : List UInt8 := Lib.itoa e.tick ++ [32] ++ Lib.itoa e.node ++ [32] ++ nameOf e.kind
theorem base_arr (e : Ev) : (⟨(Lib.itoa e.tick).toArray⟩ : ByteArray) ++ ⟨#[32]⟩ ++ ⟨(Lib.itoa e.node).toArray⟩ ++ ⟨#[32]⟩ ++ ⟨(nameOf e.kind).toArray⟩ = ⟨(baseOf e).toArray⟩ := by
  apply ByteArray.ext
  simp [baseOf]
theorem baseOf_len {e : Ev} (h : e.Fits) : ((baseOf e).length : Int) ≤ 60 := by
  have l1 := itoa_len h.tick.1 h.tick.2
  have l2 := itoa_len h.node.1 h.node.2
  have l3 := nameOf_len e.kind
  unfold baseOf
  simp only [List.length_append, List.length_cons, List.length_nil]
  omega
theorem line_more {e : Ev} {m : List UInt8} (h : moreOf e = 32 :: m) : (⟨(baseOf e).toArray⟩ : ByteArray) ++ ⟨#[32]⟩ ++ ⟨m.toArray⟩ = ⟨(lineOf e).toArray⟩ := by
  apply ByteArray.ext
  simp [lineOf, baseOf, h]
theorem line_none {e : Ev} (h : moreOf e = []) : (⟨(baseOf e).toArray⟩ : ByteArray) = ⟨(lineOf e).toArray⟩ := by
  apply ByteArray.ext
  simp [lineOf, baseOf, h]

set_option maxHeartbeats 1600000 in
theorem rl_key (e : Ev) (he : e.Fits) (hk : e.kind = 1 ∨ e.kind = 3) (w : World) : Calls Tryd.prog 16 #[.agg e.cells] w fun r w' => r = .returned (.string ⟨(lineOf e).toArray⟩) ∧ Below w.heap.size w w' := by
  have E : Hid (moreOf e = 32 :: textK e.key) := by unfold Hid moreOf; rw [if_pos hk]
  have F := Lib.hid (line_more E.out)
  have HB := Lib.hid (base_arr e)
  have lb := baseOf_len he
  have l1 := itoa_len he.tick.1 he.tick.2
  have l2 := itoa_len he.node.1 he.node.2
  have l3 := nameOf_len e.kind
  have l4 := textK_len he.key
  have hb0 : Below w.heap.size w (w.alloc (.cells e.cells 32)) := (Below.refl _ w).alloc (Nat.le_refl _) _
  have C1 := fun W : Later (w.alloc (.cells e.cells 32)) => dig06 e.tick he.tick.1 he.tick.2 W.val
  have C2 := fun W : Later (w.alloc (.cells e.cells 32)) => dig06 e.node he.node.1 he.node.2 W.val
  have C3 := fun W : Later (w.alloc (.cells e.cells 32)) => refName e.kind W.val
  have C4 := fun W : Later (w.alloc (.cells e.cells 32)) => refText e.key he.key W.val
  have c1 : ∀ W : Later (w.alloc (.cells e.cells 32)),
    W.val.cell? ⟨w.heap.size, 0, none⟩ = some (.int .i64 e.tick) ∧ W.val.cell? ⟨w.heap.size, 1, none⟩ = some (.int .i64 e.node) ∧ W.val.cell? ⟨w.heap.size, 2, none⟩ = some (.int .i64 e.kind) ∧
    W.val.cell? ⟨w.heap.size, 3, none⟩ = some (.int .i64 e.key.t) ∧ W.val.cell? ⟨w.heap.size, 4, none⟩ = some (.int .i64 e.key.f) ∧ W.val.cell? ⟨w.heap.size, 5, none⟩ = some (.int .u32 e.key.s) ∧
    W.val.cell? ⟨w.heap.size, 6, none⟩ = some (.int .i64 e.no) ∧ W.val.cell? ⟨w.heap.size, 7, none⟩ = some (.int .i64 e.err) :=
    fun W => ⟨Later.cell (by simp [Ev.cells]) W, Later.cell (by simp [Ev.cells]) W, Later.cell (by simp [Ev.cells]) W, Later.cell (by simp [Ev.cells]) W, Later.cell (by simp [Ev.cells]) W, Later.cell (by simp [Ev.cells]) W, Later.cell (by simp [Ev.cells]) W, Later.cell (by simp [Ev.cells]) W⟩
  have HC := Lib.hid (And.intro C1 (And.intro C2 (And.intro C3 C4)))
  clear C1 C2 C3 C4 he
  generalize baseOf e = bs at *
  generalize lineOf e = ls at *
  obtain ⟨tick, node, kind, key, no, err⟩ := e
  unfold Ev.cells at *
  dsimp only at *
  rcases hk with rfl | rfl
  all_goals
    go_enter Tryd.func16, Tryd.ntmps16
    go_wp2_with fail
    refine wp_region_later (by kernel_rfl) (by kernel_rfl) ?_
    iterate 2 (go_big_quiet_step (fail))
    go_big_quiet_step (exact later_of (HC.out.1 _))
    iterate 3 (go_big_quiet_step (fail))
    go_big_quiet_step (exact later_of (HC.out.2.1 _))
    iterate 4 (go_big_quiet_step (fail))
    go_big_quiet_step (exact later_of (HC.out.2.2.1 _))
    repeat (go_big_quiet_step (fail))
    refine wpQuiet_nil ?_
    rintro _ ⟨⟨W, hW⟩, rfl⟩
    have d1 := c1 ⟨_, hW⟩
    clear c1
    rw [HB.out]
    go_wp2_with (go_at_call 27; refine (HC.out.2.2.2 ⟨_, hW⟩).mono ?_; rintro r w1 ⟨rfl, hb1⟩)
    go_wp2
    go_ret
    exact ⟨ret_str F.out, hb0.trans ((hW.trans (hb1.mono hW.size)).mono hb0.size)⟩
set_option maxHeartbeats 1600000 in
theorem rl_no (e : Ev) (he : e.Fits) (hk : e.kind = 2 ∨ e.kind = 7 ∨ e.kind = 8) (w : World) : Calls Tryd.prog 16 #[.agg e.cells] w fun r w' => r = .returned (.string ⟨(lineOf e).toArray⟩) ∧ Below w.heap.size w w' := by
  have E : Hid (moreOf e = 32 :: Lib.itoa e.no) := by unfold Hid moreOf; rw [if_neg (by omega), if_pos hk]
  have F := Lib.hid (line_more E.out)
  have HB := Lib.hid (base_arr e)
  have lb := baseOf_len he
  have l1 := itoa_len he.tick.1 he.tick.2
  have l2 := itoa_len he.node.1 he.node.2
  have l3 := nameOf_len e.kind
  have l4 := itoa_len he.no.1 he.no.2
  have hb0 : Below w.heap.size w (w.alloc (.cells e.cells 32)) := (Below.refl _ w).alloc (Nat.le_refl _) _
  have C1 := fun W : Later (w.alloc (.cells e.cells 32)) => dig06 e.tick he.tick.1 he.tick.2 W.val
  have C2 := fun W : Later (w.alloc (.cells e.cells 32)) => dig06 e.node he.node.1 he.node.2 W.val
  have C3 := fun W : Later (w.alloc (.cells e.cells 32)) => refName e.kind W.val
  have C4 := fun W : Later (w.alloc (.cells e.cells 32)) => dig06 e.no he.no.1 he.no.2 W.val
  have c1 : ∀ W : Later (w.alloc (.cells e.cells 32)),
    W.val.cell? ⟨w.heap.size, 0, none⟩ = some (.int .i64 e.tick) ∧ W.val.cell? ⟨w.heap.size, 1, none⟩ = some (.int .i64 e.node) ∧ W.val.cell? ⟨w.heap.size, 2, none⟩ = some (.int .i64 e.kind) ∧
    W.val.cell? ⟨w.heap.size, 3, none⟩ = some (.int .i64 e.key.t) ∧ W.val.cell? ⟨w.heap.size, 4, none⟩ = some (.int .i64 e.key.f) ∧ W.val.cell? ⟨w.heap.size, 5, none⟩ = some (.int .u32 e.key.s) ∧
    W.val.cell? ⟨w.heap.size, 6, none⟩ = some (.int .i64 e.no) ∧ W.val.cell? ⟨w.heap.size, 7, none⟩ = some (.int .i64 e.err) :=
    fun W => ⟨Later.cell (by simp [Ev.cells]) W, Later.cell (by simp [Ev.cells]) W, Later.cell (by simp [Ev.cells]) W, Later.cell (by simp [Ev.cells]) W, Later.cell (by simp [Ev.cells]) W, Later.cell (by simp [Ev.cells]) W, Later.cell (by simp [Ev.cells]) W, Later.cell (by simp [Ev.cells]) W⟩
  have HC := Lib.hid (And.intro C1 (And.intro C2 (And.intro C3 C4)))
  clear C1 C2 C3 C4 he
  generalize baseOf e = bs at *
  generalize lineOf e = ls at *
  obtain ⟨tick, node, kind, key, no, err⟩ := e
  unfold Ev.cells at *
  dsimp only at *
  rcases hk with rfl | rfl | rfl
  all_goals
    go_enter Tryd.func16, Tryd.ntmps16
    go_wp2_with fail
    refine wp_region_later (by kernel_rfl) (by kernel_rfl) ?_
    iterate 2 (go_big_quiet_step (fail))
    go_big_quiet_step (exact later_of (HC.out.1 _))
    iterate 3 (go_big_quiet_step (fail))
    go_big_quiet_step (exact later_of (HC.out.2.1 _))
    iterate 4 (go_big_quiet_step (fail))
    go_big_quiet_step (exact later_of (HC.out.2.2.1 _))
    repeat (go_big_quiet_step (fail))
    refine wpQuiet_nil ?_
    rintro _ ⟨⟨W, hW⟩, rfl⟩
    have d1 := c1 ⟨_, hW⟩
    clear c1
    rw [HB.out]
    go_wp2_with (go_at_call 26; refine (HC.out.2.2.2 ⟨_, hW⟩).mono ?_; rintro r w1 ⟨rfl, hb1⟩)
    go_wp2
    go_ret
    exact ⟨ret_str F.out, hb0.trans ((hW.trans (hb1.mono hW.size)).mono hb0.size)⟩
set_option maxHeartbeats 1600000 in
theorem rl_err (e : Ev) (he : e.Fits) (hk : e.kind = 9) (w : World) : Calls Tryd.prog 16 #[.agg e.cells] w fun r w' => r = .returned (.string ⟨(lineOf e).toArray⟩) ∧ Below w.heap.size w w' := by
  have E : Hid (moreOf e = 32 :: errOf e.err) := by unfold Hid moreOf; rw [if_neg (by omega), if_neg (by omega), if_pos hk]
  have F := Lib.hid (line_more E.out)
  have HB := Lib.hid (base_arr e)
  have lb := baseOf_len he
  have l1 := itoa_len he.tick.1 he.tick.2
  have l2 := itoa_len he.node.1 he.node.2
  have l3 := nameOf_len e.kind
  have l4 := errOf_len e.err
  have hb0 : Below w.heap.size w (w.alloc (.cells e.cells 32)) := (Below.refl _ w).alloc (Nat.le_refl _) _
  have C1 := fun W : Later (w.alloc (.cells e.cells 32)) => dig06 e.tick he.tick.1 he.tick.2 W.val
  have C2 := fun W : Later (w.alloc (.cells e.cells 32)) => dig06 e.node he.node.1 he.node.2 W.val
  have C3 := fun W : Later (w.alloc (.cells e.cells 32)) => refName e.kind W.val
  have C4 := fun W : Later (w.alloc (.cells e.cells 32)) => refErr e.err W.val
  have c1 : ∀ W : Later (w.alloc (.cells e.cells 32)),
    W.val.cell? ⟨w.heap.size, 0, none⟩ = some (.int .i64 e.tick) ∧ W.val.cell? ⟨w.heap.size, 1, none⟩ = some (.int .i64 e.node) ∧ W.val.cell? ⟨w.heap.size, 2, none⟩ = some (.int .i64 e.kind) ∧
    W.val.cell? ⟨w.heap.size, 3, none⟩ = some (.int .i64 e.key.t) ∧ W.val.cell? ⟨w.heap.size, 4, none⟩ = some (.int .i64 e.key.f) ∧ W.val.cell? ⟨w.heap.size, 5, none⟩ = some (.int .u32 e.key.s) ∧
    W.val.cell? ⟨w.heap.size, 6, none⟩ = some (.int .i64 e.no) ∧ W.val.cell? ⟨w.heap.size, 7, none⟩ = some (.int .i64 e.err) :=
    fun W => ⟨Later.cell (by simp [Ev.cells]) W, Later.cell (by simp [Ev.cells]) W, Later.cell (by simp [Ev.cells]) W, Later.cell (by simp [Ev.cells]) W, Later.cell (by simp [Ev.cells]) W, Later.cell (by simp [Ev.cells]) W, Later.cell (by simp [Ev.cells]) W, Later.cell (by simp [Ev.cells]) W⟩
  have HC := Lib.hid (And.intro C1 (And.intro C2 (And.intro C3 C4)))
  clear C1 C2 C3 C4 he
  generalize baseOf e = bs at *
  generalize lineOf e = ls at *
  obtain ⟨tick, node, kind, key, no, err⟩ := e
  unfold Ev.cells at *
  dsimp only at *
  subst hk
  · skip
    go_enter Tryd.func16, Tryd.ntmps16
    go_wp2_with fail
    refine wp_region_later (by kernel_rfl) (by kernel_rfl) ?_
    iterate 2 (go_big_quiet_step (fail))
    go_big_quiet_step (exact later_of (HC.out.1 _))
    iterate 3 (go_big_quiet_step (fail))
    go_big_quiet_step (exact later_of (HC.out.2.1 _))
    iterate 4 (go_big_quiet_step (fail))
    go_big_quiet_step (exact later_of (HC.out.2.2.1 _))
    repeat (go_big_quiet_step (fail))
    refine wpQuiet_nil ?_
    rintro _ ⟨⟨W, hW⟩, rfl⟩
    have d1 := c1 ⟨_, hW⟩
    clear c1
    rw [HB.out]
    go_wp2_with (go_at_call 10; refine (HC.out.2.2.2 ⟨_, hW⟩).mono ?_; rintro r w1 ⟨rfl, hb1⟩)
    go_wp2
    go_ret
    exact ⟨ret_str F.out, hb0.trans ((hW.trans (hb1.mono hW.size)).mono hb0.size)⟩
set_option maxHeartbeats 1600000 in
theorem rl_none (e : Ev) (he : e.Fits) (h1 : e.kind ≠ 1) (h2 : e.kind ≠ 2) (h3 : e.kind ≠ 3) (h7 : e.kind ≠ 7) (h8 : e.kind ≠ 8) (h9 : e.kind ≠ 9) (w : World) : Calls Tryd.prog 16 #[.agg e.cells] w fun r w' => r = .returned (.string ⟨(lineOf e).toArray⟩) ∧ Below w.heap.size w w' := by
  have E : Hid (moreOf e = []) := by unfold Hid moreOf; rw [if_neg (by omega), if_neg (by omega), if_neg (by omega)]
  have F := Lib.hid (line_none E.out)
  have HB := Lib.hid (base_arr e)
  have lb := baseOf_len he
  have l1 := itoa_len he.tick.1 he.tick.2
  have l2 := itoa_len he.node.1 he.node.2
  have l3 := nameOf_len e.kind
  have hb0 : Below w.heap.size w (w.alloc (.cells e.cells 32)) := (Below.refl _ w).alloc (Nat.le_refl _) _
  have C1 := fun W : Later (w.alloc (.cells e.cells 32)) => dig06 e.tick he.tick.1 he.tick.2 W.val
  have C2 := fun W : Later (w.alloc (.cells e.cells 32)) => dig06 e.node he.node.1 he.node.2 W.val
  have C3 := fun W : Later (w.alloc (.cells e.cells 32)) => refName e.kind W.val
  have c1 : ∀ W : Later (w.alloc (.cells e.cells 32)),
    W.val.cell? ⟨w.heap.size, 0, none⟩ = some (.int .i64 e.tick) ∧ W.val.cell? ⟨w.heap.size, 1, none⟩ = some (.int .i64 e.node) ∧ W.val.cell? ⟨w.heap.size, 2, none⟩ = some (.int .i64 e.kind) ∧
    W.val.cell? ⟨w.heap.size, 3, none⟩ = some (.int .i64 e.key.t) ∧ W.val.cell? ⟨w.heap.size, 4, none⟩ = some (.int .i64 e.key.f) ∧ W.val.cell? ⟨w.heap.size, 5, none⟩ = some (.int .u32 e.key.s) ∧
    W.val.cell? ⟨w.heap.size, 6, none⟩ = some (.int .i64 e.no) ∧ W.val.cell? ⟨w.heap.size, 7, none⟩ = some (.int .i64 e.err) :=
    fun W => ⟨Later.cell (by simp [Ev.cells]) W, Later.cell (by simp [Ev.cells]) W, Later.cell (by simp [Ev.cells]) W, Later.cell (by simp [Ev.cells]) W, Later.cell (by simp [Ev.cells]) W, Later.cell (by simp [Ev.cells]) W, Later.cell (by simp [Ev.cells]) W, Later.cell (by simp [Ev.cells]) W⟩
  have HC := Lib.hid (And.intro C1 (And.intro C2 C3))
  clear C1 C2 C3 he
  generalize baseOf e = bs at *
  generalize lineOf e = ls at *
  obtain ⟨tick, node, kind, key, no, err⟩ := e
  unfold Ev.cells at *
  dsimp only at *
  have k1 : (kind == 1) = false := by simpa using h1
  have k2 : (kind == 2) = false := by simpa using h2
  have k3 : (kind == 3) = false := by simpa using h3
  have k7 : (kind == 7) = false := by simpa using h7
  have k8 : (kind == 8) = false := by simpa using h8
  have k9 : (kind == 9) = false := by simpa using h9
  clear h1 h2 h3 h7 h8 h9
  · skip
    go_enter Tryd.func16, Tryd.ntmps16
    go_wp2_with fail
    refine wp_region_later (by kernel_rfl) (by kernel_rfl) ?_
    iterate 2 (go_big_quiet_step (fail))
    go_big_quiet_step (exact later_of (HC.out.1 _))
    iterate 3 (go_big_quiet_step (fail))
    go_big_quiet_step (exact later_of (HC.out.2.1 _))
    iterate 4 (go_big_quiet_step (fail))
    go_big_quiet_step (exact later_of (HC.out.2.2 _))
    repeat (go_big_quiet_step (fail))
    refine wpQuiet_nil ?_
    rintro _ ⟨⟨W, hW⟩, rfl⟩
    have d1 := c1 ⟨_, hW⟩
    clear c1
    rw [HB.out]
    go_wp2
    go_ret
    exact ⟨ret_str F.out, hb0.trans (hW.mono hb0.size)⟩
theorem refLine (e : Ev) (he : e.Fits) (w : World) : Calls Tryd.prog 16 #[.agg e.cells] w fun r w' => r = .returned (.string ⟨(lineOf e).toArray⟩) ∧ Below w.heap.size w w' := by
  by_cases h1 : e.kind = 1 ∨ e.kind = 3
  · exact rl_key e he h1 w
  · by_cases h2 : e.kind = 2 ∨ e.kind = 7 ∨ e.kind = 8
    · exact rl_no e he h2 w
    · by_cases h3 : e.kind = 9
      · exact rl_err e he h3 w
      · exact rl_none e he (by omega) (by omega) (by omega) (by omega) (by omega) h3 w
end Go.Proofs.YtjnhkpjmjjhhdaaDoor
