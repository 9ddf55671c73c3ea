/- An event's line: the program's; the chapter's example; TraceNames. -/
import Derived.Test.YtjnhkpjmjjhhdaaDoorTraceA
import Derived.Deep.Cut
namespace Go.Proofs.YtjnhkpjmjjhhdaaDoor
open Go.RowKit Law
set_option linter.unusedVariables false

structure Ev where
  tick : Int
  node : Int
  kind : Int
  key : K
  no : Int
  err : Int
def I64 (n : Int) : Prop := -9223372036854775808 ≤ n ∧ n ≤ 9223372036854775807
structure Ev.Fits (e : Ev) : Prop where
  tick : I64 e.tick
  node : I64 e.node
  kind : I64 e.kind
  key : e.key.Fits
  no : I64 e.no
  err : I64 e.err
/-- An event as cells. -/
def Ev.cells (e : Ev) : Array Value := #[.int .i64 e.tick, .int .i64 e.node, .int .i64 e.kind, .int .i64 e.key.t, .int .i64 e.key.f, .int .u32 e.key.s, .int .i64 e.no, .int .i64 e.err]
def moreOf (e : Ev) : List UInt8 :=
  if e.kind = 1 ∨ e.kind = 3 then 32 :: textK e.key else if e.kind = 2 ∨ e.kind = 7 ∨ e.kind = 8 then 32 :: Lib.itoa e.no else if e.kind = 9 then 32 :: errOf e.err else []
def lineOf (e : Ev) : List UInt8 := Lib.itoa e.tick ++ [32] ++ Lib.itoa e.node ++ [32] ++ nameOf e.kind ++ moreOf e

theorem getD_len {l : List (List UInt8)} (h : ∀ s ∈ l, s.length ≤ 10) (i : Nat) : ((l.getD i []).length : Int) ≤ 10 := by
  rw [List.getD_eq_getElem?_getD]
  cases hi : l[i]? with
  | none => simp
  | some s =>
    have := h s (List.mem_of_getElem? hi)
    simp
    omega
theorem nameOf_len (k : Int) : ((nameOf k).length : Int) ≤ 10 := by
  unfold nameOf
  split
  · exact getD_len (by decide) _
  · simp
theorem errOf_len (k : Int) : ((errOf k).length : Int) ≤ 10 := by
  unfold errOf
  split
  · exact getD_len (by decide) _
  · simp
theorem textK_len {k : K} (h : k.Fits) : ((textK k).length : Int) ≤ 65 := by
  obtain ⟨⟨t0, t1⟩, ⟨f0, f1⟩, s0, s1⟩ := h
  have lt := itoa_len t0 t1
  have lf := itoa_len f0 f1
  have ls := itoa_len (n := k.s) (by omega) (by omega)
  unfold textK
  simp only [List.length_append, List.length_cons, List.length_nil]
  omega
theorem moreOf_len {e : Ev} (h : e.Fits) : ((moreOf e).length : Int) ≤ 66 := by
  have h1 := textK_len h.key
  have h2 := itoa_len h.no.1 h.no.2
  have h3 := errOf_len e.err
  unfold moreOf
  repeat' split
  all_goals simp only [List.length_cons, List.length_nil]
  all_goals omega

theorem sp (l : List UInt8) : (⟨#[32]⟩ : ByteArray) ++ ⟨l.toArray⟩ = ⟨(32 :: l).toArray⟩ := str_app [32] l
theorem keyTextL {k : K} (hk : k.Fits) {w0 : World} (h : P10 w0) (W : Later w0) : Calls Tryd.prog 33 #[.agg #[.int .i64 k.t, .int .i64 k.f, .int .u32 k.s]] W.val fun e w' => e = .returned (.string ⟨(textK k).toArray⟩) ∧ Below W.val.heap.size W.val w' := keyText k hk W.val (h.later W)

set_option maxHeartbeats 1600000 in
theorem more_key (e : Ev) (he : e.Fits) (hk : e.kind = 1 ∨ e.kind = 3) (w : World) (h : Tabs w) : Calls Tryd.prog 25 #[.agg e.cells] w fun r w' => r = .returned (.string ⟨(moreOf e).toArray⟩) ∧ Below w.heap.size w w' := by
  have E : Hid (moreOf e = 32 :: textK e.key) := by unfold Hid moreOf; rw [if_pos hk]
  have l1 := textK_len he.key
  have hb0 : Below w.heap.size w (w.alloc (.cells e.cells 32)) := (Below.refl _ w).alloc (Nat.le_refl _) _
  have C := fun w' => fun hw => keyText e.key he.key w' (h.p10.below hw)
  have HC := Lib.hid C
  clear C h he
  obtain ⟨tick, node, kind, key, no, err⟩ := e
  unfold Ev.cells at *
  dsimp only at *
  rcases hk with rfl | rfl
  all_goals
    go_enter Tryd.func25, Tryd.ntmps25
    go_wp2_with (go_at_call 33; refine (HC.out _ hb0).mono ?_; rintro r w1 ⟨rfl, hb1⟩)
    go_ret
    exact ⟨ret_str ((sp _).trans (by rw [E.out])), hb0.trans (hb1.mono hb0.size)⟩
set_option maxHeartbeats 1600000 in
theorem more_no (e : Ev) (he : e.Fits) (hk : e.kind = 2 ∨ e.kind = 7 ∨ e.kind = 8) (w : World) (h : Tabs w) : Calls Tryd.prog 25 #[.agg e.cells] w fun r w' => r = .returned (.string ⟨(moreOf e).toArray⟩) ∧ Below w.heap.size w w' := by
  have E : Hid (moreOf e = 32 :: Lib.itoa e.no) := by unfold Hid moreOf; rw [if_neg (by omega), if_pos hk]
  have l1 := itoa_len he.no.1 he.no.2
  have hb0 : Below w.heap.size w (w.alloc (.cells e.cells 32)) := (Below.refl _ w).alloc (Nat.le_refl _) _
  have C := fun w' => fun hw => fmtInt e.no he.no.1 he.no.2 w' (h.p10.below hw)
  have HC := Lib.hid C
  clear C h he
  obtain ⟨tick, node, kind, key, no, err⟩ := e
  unfold Ev.cells at *
  dsimp only at *
  rcases hk with rfl | rfl | rfl
  all_goals
    go_enter Tryd.func25, Tryd.ntmps25
    go_wp2_with (go_at_call 23; refine (HC.out _ hb0).mono ?_; rintro r w1 ⟨rfl, hb1⟩)
    go_ret
    exact ⟨ret_str ((sp _).trans (by rw [E.out])), hb0.trans (hb1.mono hb0.size)⟩
set_option maxHeartbeats 1600000 in
theorem more_err (e : Ev) (hk : e.kind = 9) (w : World) (h : Tabs w) : Calls Tryd.prog 25 #[.agg e.cells] w fun r w' => r = .returned (.string ⟨(moreOf e).toArray⟩) ∧ Below w.heap.size w w' := by
  have E : Hid (moreOf e = 32 :: errOf e.err) := by unfold Hid moreOf; rw [if_neg (by omega), if_neg (by omega), if_pos hk]
  have l1 := errOf_len e.err
  have hb0 : Below w.heap.size w (w.alloc (.cells e.cells 32)) := (Below.refl _ w).alloc (Nat.le_refl _) _
  have C := fun w' => fun hw => traceErr e.err w' (h.below hw)
  have HC := Lib.hid C
  clear C h
  obtain ⟨tick, node, kind, key, no, err⟩ := e
  unfold Ev.cells at *
  dsimp only at *
  subst hk
  go_enter Tryd.func25, Tryd.ntmps25
  go_wp2_with (go_at_call 9; refine (HC.out _ hb0).mono ?_; rintro r w1 ⟨rfl, rfl⟩)
  go_ret
  exact ⟨ret_str ((sp _).trans (by rw [E.out])), hb0⟩
set_option maxHeartbeats 1600000 in
theorem more_none (e : Ev) (h1 : e.kind ≠ 1) (h2 : e.kind ≠ 2) (h3 : e.kind ≠ 3) (h7 : e.kind ≠ 7) (h8 : e.kind ≠ 8) (h9 : e.kind ≠ 9) (w : World) : Calls Tryd.prog 25 #[.agg e.cells] w fun r w' => r = .returned (.string ⟨(moreOf e).toArray⟩) ∧ Below w.heap.size w w' := by
  have E : Hid (moreOf e = []) := by unfold Hid moreOf; rw [if_neg (by omega), if_neg (by omega), if_neg (by omega)]
  have hb0 : Below w.heap.size w (w.alloc (.cells e.cells 32)) := (Below.refl _ w).alloc (Nat.le_refl _) _
  obtain ⟨tick, node, kind, key, no, err⟩ := e
  unfold Ev.cells at *
  dsimp only at *
  have k1 : (kind == 1) = false := by simpa using h1
  have k2 : (kind == 2) = false := by simpa using h2
  have k3 : (kind == 3) = false := by simpa using h3
  have k7 : (kind == 7) = false := by simpa using h7
  have k8 : (kind == 8) = false := by simpa using h8
  have k9 : (kind == 9) = false := by simpa using h9
  clear h1 h2 h3 h7 h8 h9
  go_enter Tryd.func25, Tryd.ntmps25
  go_wp2
  go_ret
  exact ⟨ret_str (by rw [E.out]), hb0⟩
theorem traceMore (e : Ev) (he : e.Fits) (w : World) (h : Tabs w) : Calls Tryd.prog 25 #[.agg e.cells] w fun r w' => r = .returned (.string ⟨(moreOf e).toArray⟩) ∧ Below w.heap.size w w' := by
  by_cases h1 : e.kind = 1 ∨ e.kind = 3
  · exact more_key e he h1 w h
  · by_cases h2 : e.kind = 2 ∨ e.kind = 7 ∨ e.kind = 8
    · exact more_no e he h2 w h
    · by_cases h3 : e.kind = 9
      · exact more_err e h3 w h
      · exact more_none e (by omega) (by omega) (by omega) (by omega) (by omega) h3 w
end Go.Proofs.YtjnhkpjmjjhhdaaDoor
