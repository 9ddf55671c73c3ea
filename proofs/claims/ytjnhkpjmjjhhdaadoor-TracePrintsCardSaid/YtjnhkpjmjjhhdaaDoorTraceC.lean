/- trace.Line, the chapter's example, and TraceNames. -/
import Derived.Test.YtjnhkpjmjjhhdaaDoorTraceB
namespace Go.Proofs.YtjnhkpjmjjhhdaaDoor
open Go.RowKit Law
set_option linter.unusedVariables false

theorem line_arr (e : Ev) : (⟨(Lib.itoa e.tick).toArray⟩ : ByteArray) ++ ⟨#[32]⟩ ++ ⟨(Lib.itoa e.node).toArray⟩ ++ ⟨#[32]⟩ ++ ⟨(nameOf e.kind).toArray⟩ ++ ⟨(moreOf e).toArray⟩ = ⟨(lineOf e).toArray⟩ := by
  apply ByteArray.ext
  simp [lineOf]
set_option maxHeartbeats 1600000 in
theorem traceLine (e : Ev) (he : e.Fits) (w : World) (h : Tabs w) : Calls Tryd.prog 15 #[.agg e.cells] w fun r w' => r = .returned (.string ⟨(lineOf e).toArray⟩) ∧ Below w.heap.size w w' := by
  have E := Lib.hid (line_arr e)
  have l1 := itoa_len he.tick.1 he.tick.2
  have l2 := itoa_len he.node.1 he.node.2
  have l3 := nameOf_len e.kind
  have l4 := moreOf_len he
  have hb0 : Below w.heap.size w (w.alloc (.cells e.cells 32)) := (Below.refl _ w).alloc (Nat.le_refl _) _
  have h0 := h.below hb0
  have C1 := fun W : Later (w.alloc (.cells e.cells 32)) => fmtInt e.tick he.tick.1 he.tick.2 W.val (h0.later W).p10
  have C2 := fun W : Later (w.alloc (.cells e.cells 32)) => itoaInt e.node he.node.1 he.node.2 W.val (h0.later W).p10
  have C3 := fun W : Later (w.alloc (.cells e.cells 32)) => traceName e.kind W.val (h0.later W)
  have C4 := fun W : Later (w.alloc (.cells e.cells 32)) => traceMore e he W.val (h0.later W)
  have c1 : ∀ W : Later (w.alloc (.cells e.cells 32)),
    W.val.cell? ⟨w.heap.size, 0, none⟩ = some (.int .i64 e.tick) ∧ W.val.cell? ⟨w.heap.size, 1, none⟩ = some (.int .i64 e.node) ∧ W.val.cell? ⟨w.heap.size, 2, none⟩ = some (.int .i64 e.kind) ∧
    W.val.cell? ⟨w.heap.size, 3, none⟩ = some (.int .i64 e.key.t) ∧ W.val.cell? ⟨w.heap.size, 4, none⟩ = some (.int .i64 e.key.f) ∧ W.val.cell? ⟨w.heap.size, 5, none⟩ = some (.int .u32 e.key.s) ∧
    W.val.cell? ⟨w.heap.size, 6, none⟩ = some (.int .i64 e.no) ∧ W.val.cell? ⟨w.heap.size, 7, none⟩ = some (.int .i64 e.err) :=
    fun W => ⟨Later.cell (by simp [Ev.cells]) W, Later.cell (by simp [Ev.cells]) W, Later.cell (by simp [Ev.cells]) W, Later.cell (by simp [Ev.cells]) W, Later.cell (by simp [Ev.cells]) W, Later.cell (by simp [Ev.cells]) W, Later.cell (by simp [Ev.cells]) W, Later.cell (by simp [Ev.cells]) W⟩
  have HC := Lib.hid (And.intro C1 (And.intro C2 (And.intro C3 C4)))
  clear C1 C2 C3 C4 h he h0
  obtain ⟨tick, node, kind, key, no, err⟩ := e
  unfold Ev.cells at *
  dsimp only at *
  go_enter Tryd.func15, Tryd.ntmps15
  go_wp2_with fail
  refine wp_region_later (by kernel_rfl) (by kernel_rfl) ?_
  repeat (go_big_quiet_step (first | exact later_of (HC.out.1 _) | exact later_of (HC.out.2.1 _) | exact later_of (below_of_same (HC.out.2.2.1 _)) | exact later_of (HC.out.2.2.2 _)))
  refine wpQuiet_nil ?_
  rintro _ ⟨⟨W, hW⟩, rfl⟩
  clear c1
  go_wp2_with fail
  go_ret
  exact ⟨ret_str E.out, hb0.trans (hW.mono hb0.size)⟩
theorem traceLineB {e : Ev} {s : ByteArray} (hs : (⟨(lineOf e).toArray⟩ : ByteArray) = s) (he : e.Fits) (w : World) (h : Tabs w) : Calls Tryd.prog 15 #[.agg e.cells] w fun r w' => r = .returned (.string s) ∧ Below w.heap.size w w' := by
  subst hs; exact traceLine e he w h
def ev0 : Ev := ⟨12, 1, 1, ⟨5, 0, 2⟩, 0, 0⟩
theorem works50 (w : World) (h : Tabs w) : Calls Tryd.prog 11 #[] w fun e w' => e = .returned (.bool true) ∧ Below w.heap.size w w' := by
  have C := traceLineB (e := ev0) (s := ⟨#[49, 50, 32, 49, 32, 100, 101, 108, 105, 118, 101, 114, 32, 53, 46, 48, 46, 50]⟩) (by decide +kernel)
    ⟨by unfold I64 ev0; decide, by unfold I64 ev0; decide, by unfold I64 ev0; decide, by unfold K.Fits ev0; decide, by unfold I64 ev0; decide, by unfold I64 ev0; decide⟩ w h
  have HC := Lib.hid C
  clear C h
  go_enter Tryd.func11, Tryd.ntmps11
  go_wp2_with (go_at_call 15; refine HC.out.mono ?_; rintro r w1 ⟨rfl, hb1⟩)
  go_ret
  exact ⟨rfl, hb1⟩

theorem walkNames (k e : Int) (w : World) (h : Tabs w) : Calls Tryd.prog 3 #[.int .i64 k, .int .i64 e] w fun r w' => r = .returned (.bool true) ∧ Below w.heap.size w w' := by
  have C1 := fun W : Later w => traceName k W.val (h.later W)
  have C2 := fun W : Later w => refName k W.val
  have C3 := fun W : Later w => traceErr e W.val (h.later W)
  have C4 := fun W : Later w => refErr e W.val
  have C5 := fun W : Later w => works50 W.val (h.later W)
  have HC := Lib.hid (And.intro C1 (And.intro C2 (And.intro C3 (And.intro C4 C5))))
  clear C1 C2 C3 C4 C5 h
  go_enter Tryd.func3, Tryd.ntmps3
  go_upto_region 1 with (fail)
  refine wp_plain_later ?_
  repeat (go_big_quiet_step (first | exact later_of (below_of_same (HC.out.1 _)) | exact later_of (HC.out.2.1 _) | exact later_of (below_of_same (HC.out.2.2.1 _)) | exact later_of (HC.out.2.2.2.1 _) | exact later_of (HC.out.2.2.2.2 _)))
  refine wpQuiet_nil ?_
  rintro _ ⟨⟨W, hW⟩, rfl⟩
  go_wp2_with fail
  go_ret
  exact ⟨rfl, hW⟩
end Go.Proofs.YtjnhkpjmjjhhdaaDoor
