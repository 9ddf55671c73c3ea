/- A configuration's numbers, the names of them. -/
import Derived.Test.YtpbfacabafkheaaDoorCfF
namespace Go.Proofs.YtpbfacabafkheaaDoor
open Go.RowKit Law Go.Shelf
set_option linter.unusedVariables false
set_option linter.unusedSimpArgs false
set_option maxRecDepth 100000
attribute [local go_sem] Oper.semAt_some

/-- The fourteen numbers. -/
def numsC (c : Cn) : List Int := [c.n, c.f, c.dmin, c.dmax, c.rho, c.slew, c.round, c.window, c.attend, c.seen, c.hist, c.fly, c.quota, c.body]
theorem numsC_inj {a b : Cn} (h : numsC a = numsC b) : a = b := by
  obtain ⟨a0, a1, a2, a3, a4, a5, a6, a7, a8, a9, a10, a11, a12, a13⟩ := a
  obtain ⟨b0, b1, b2, b3, b4, b5, b6, b7, b8, b9, b10, b11, b12, b13⟩ := b
  unfold numsC at h
  simp only [List.cons.injEq, and_true] at h
  obtain ⟨rfl, rfl, rfl, rfl, rfl, rfl, rfl, rfl, rfl, rfl, rfl, rfl, rfl, rfl⟩ := h
  rfl
set_option maxHeartbeats 3200000 in
theorem cNumbers (c : Cn) (A : Option Addr) (l k : Nat) (w : World) : Calls Tryd.prog 44 #[.agg (c.cells A l k).toArray] w fun e w' => e = .returned (.agg (intV (numsC c)).toArray) ∧ Below w.heap.size w w' := by
  obtain ⟨n, f, dmin, dmax, rho, slew, round, window, attend, seen, hist, fly, quota, body⟩ := c
  obtain ⟨hz, hsz⟩ := zero_of_info (show (Tryd.prog.info? 77).map (fun i => (i.zero, i.size)) = some (some (.agg #[.int .i64 0, .int .i64 0, .int .i64 0, .int .i64 0, .int .i64 0, .int .i64 0, .int .i64 0, .int .i64 0, .int .i64 0, .int .i64 0, .int .i64 0, .int .i64 0, .int .i64 0, .int .i64 0]), 14) by kernel_rfl)
  have HB := Lib.hid (((Below.refl w.heap.size w).alloc (Nat.le_refl _) (.cells #[.int .i64 n, .slice A l k, .int .i64 f, .int .i64 dmin, .int .i64 dmax, .int .i64 rho, .int .i64 slew, .int .i64 round, .int .i64 window, .int .i64 attend, .int .i64 seen, .int .i64 hist, .int .i64 fly, .int .i64 quota, .int .i64 body] 24)).alloc (by simp) (.cells #[.int .i64 n, .int .i64 f, .int .i64 dmin, .int .i64 dmax, .int .i64 rho, .int .i64 slew, .int .i64 round, .int .i64 window, .int .i64 attend, .int .i64 seen, .int .i64 hist, .int .i64 fly, .int .i64 quota, .int .i64 body] 77))
  go_enter Tryd.func44, Tryd.ntmps44
  go_wp2
  refine bodyPost_ret (v := .agg #[.int .i64 n, .int .i64 f, .int .i64 dmin, .int .i64 dmax, .int .i64 rho, .int .i64 slew, .int .i64 round, .int .i64 window, .int .i64 attend, .int .i64 seen, .int .i64 hist, .int .i64 fly, .int .i64 quota, .int .i64 body]) (by simp [results, Tryd.results44, go_sem, hz, hsz]) rfl ?_
  exact ⟨rfl, HB.out⟩
def nameL : List (List UInt8) := [[110, 111, 100, 101, 115, 32], [32, 102, 97, 117, 108, 116, 115, 32], [32, 100, 101, 108, 97, 121, 32], [32], [32, 100, 114, 105, 102, 116, 32], [32], [32, 114, 111, 117, 110, 100, 32], [32, 119, 105, 110, 100, 111, 119, 32], [32, 97, 116, 116, 101, 110, 100, 32], [32, 115, 101, 101, 110, 32], [32, 104, 105, 115, 116, 32], [32, 102, 108, 121, 32], [32, 113, 117, 111, 116, 97, 32], [32, 98, 111, 100, 121, 32]]
theorem cName0 (w : World) : Calls Tryd.prog 46 #[.int .i64 0] w fun e w' => e = .returned (.string ⟨(nameL.getD 0 []).toArray⟩) ∧ w = w' := by
  have hix : ∀ W : World, (Instr.index 109 (.agg #[.string ⟨#[110, 111, 100, 101, 115, 32]⟩, .string ⟨#[32, 102, 97, 117, 108, 116, 115, 32]⟩, .string ⟨#[32, 100, 101, 108, 97, 121, 32]⟩, .string ⟨#[32]⟩, .string ⟨#[32, 100, 114, 105, 102, 116, 32]⟩, .string ⟨#[32]⟩, .string ⟨#[32, 114, 111, 117, 110, 100, 32]⟩, .string ⟨#[32, 119, 105, 110, 100, 111, 119, 32]⟩, .string ⟨#[32, 97, 116, 116, 101, 110, 100, 32]⟩, .string ⟨#[32, 115, 101, 101, 110, 32]⟩, .string ⟨#[32, 104, 105, 115, 116, 32]⟩, .string ⟨#[32, 102, 108, 121, 32]⟩, .string ⟨#[32, 113, 117, 111, 116, 97, 32]⟩, .string ⟨#[32, 98, 111, 100, 121, 32]⟩]) (.int .i64 0)).run Tryd.prog W = .ok (.string ⟨#[110, 111, 100, 101, 115, 32]⟩) W := fun _ => by kernel_rfl
  go_enter Tryd.func46, Tryd.ntmps46
  go_wp2
  go_ret
  exact ⟨rfl, rfl⟩
theorem cName1 (w : World) : Calls Tryd.prog 46 #[.int .i64 1] w fun e w' => e = .returned (.string ⟨(nameL.getD 1 []).toArray⟩) ∧ w = w' := by
  have hix : ∀ W : World, (Instr.index 109 (.agg #[.string ⟨#[110, 111, 100, 101, 115, 32]⟩, .string ⟨#[32, 102, 97, 117, 108, 116, 115, 32]⟩, .string ⟨#[32, 100, 101, 108, 97, 121, 32]⟩, .string ⟨#[32]⟩, .string ⟨#[32, 100, 114, 105, 102, 116, 32]⟩, .string ⟨#[32]⟩, .string ⟨#[32, 114, 111, 117, 110, 100, 32]⟩, .string ⟨#[32, 119, 105, 110, 100, 111, 119, 32]⟩, .string ⟨#[32, 97, 116, 116, 101, 110, 100, 32]⟩, .string ⟨#[32, 115, 101, 101, 110, 32]⟩, .string ⟨#[32, 104, 105, 115, 116, 32]⟩, .string ⟨#[32, 102, 108, 121, 32]⟩, .string ⟨#[32, 113, 117, 111, 116, 97, 32]⟩, .string ⟨#[32, 98, 111, 100, 121, 32]⟩]) (.int .i64 1)).run Tryd.prog W = .ok (.string ⟨#[32, 102, 97, 117, 108, 116, 115, 32]⟩) W := fun _ => by kernel_rfl
  go_enter Tryd.func46, Tryd.ntmps46
  go_wp2
  go_ret
  exact ⟨rfl, rfl⟩
theorem cName2 (w : World) : Calls Tryd.prog 46 #[.int .i64 2] w fun e w' => e = .returned (.string ⟨(nameL.getD 2 []).toArray⟩) ∧ w = w' := by
  have hix : ∀ W : World, (Instr.index 109 (.agg #[.string ⟨#[110, 111, 100, 101, 115, 32]⟩, .string ⟨#[32, 102, 97, 117, 108, 116, 115, 32]⟩, .string ⟨#[32, 100, 101, 108, 97, 121, 32]⟩, .string ⟨#[32]⟩, .string ⟨#[32, 100, 114, 105, 102, 116, 32]⟩, .string ⟨#[32]⟩, .string ⟨#[32, 114, 111, 117, 110, 100, 32]⟩, .string ⟨#[32, 119, 105, 110, 100, 111, 119, 32]⟩, .string ⟨#[32, 97, 116, 116, 101, 110, 100, 32]⟩, .string ⟨#[32, 115, 101, 101, 110, 32]⟩, .string ⟨#[32, 104, 105, 115, 116, 32]⟩, .string ⟨#[32, 102, 108, 121, 32]⟩, .string ⟨#[32, 113, 117, 111, 116, 97, 32]⟩, .string ⟨#[32, 98, 111, 100, 121, 32]⟩]) (.int .i64 2)).run Tryd.prog W = .ok (.string ⟨#[32, 100, 101, 108, 97, 121, 32]⟩) W := fun _ => by kernel_rfl
  go_enter Tryd.func46, Tryd.ntmps46
  go_wp2
  go_ret
  exact ⟨rfl, rfl⟩
theorem cName3 (w : World) : Calls Tryd.prog 46 #[.int .i64 3] w fun e w' => e = .returned (.string ⟨(nameL.getD 3 []).toArray⟩) ∧ w = w' := by
  have hix : ∀ W : World, (Instr.index 109 (.agg #[.string ⟨#[110, 111, 100, 101, 115, 32]⟩, .string ⟨#[32, 102, 97, 117, 108, 116, 115, 32]⟩, .string ⟨#[32, 100, 101, 108, 97, 121, 32]⟩, .string ⟨#[32]⟩, .string ⟨#[32, 100, 114, 105, 102, 116, 32]⟩, .string ⟨#[32]⟩, .string ⟨#[32, 114, 111, 117, 110, 100, 32]⟩, .string ⟨#[32, 119, 105, 110, 100, 111, 119, 32]⟩, .string ⟨#[32, 97, 116, 116, 101, 110, 100, 32]⟩, .string ⟨#[32, 115, 101, 101, 110, 32]⟩, .string ⟨#[32, 104, 105, 115, 116, 32]⟩, .string ⟨#[32, 102, 108, 121, 32]⟩, .string ⟨#[32, 113, 117, 111, 116, 97, 32]⟩, .string ⟨#[32, 98, 111, 100, 121, 32]⟩]) (.int .i64 3)).run Tryd.prog W = .ok (.string ⟨#[32]⟩) W := fun _ => by kernel_rfl
  go_enter Tryd.func46, Tryd.ntmps46
  go_wp2
  go_ret
  exact ⟨rfl, rfl⟩
theorem cName4 (w : World) : Calls Tryd.prog 46 #[.int .i64 4] w fun e w' => e = .returned (.string ⟨(nameL.getD 4 []).toArray⟩) ∧ w = w' := by
  have hix : ∀ W : World, (Instr.index 109 (.agg #[.string ⟨#[110, 111, 100, 101, 115, 32]⟩, .string ⟨#[32, 102, 97, 117, 108, 116, 115, 32]⟩, .string ⟨#[32, 100, 101, 108, 97, 121, 32]⟩, .string ⟨#[32]⟩, .string ⟨#[32, 100, 114, 105, 102, 116, 32]⟩, .string ⟨#[32]⟩, .string ⟨#[32, 114, 111, 117, 110, 100, 32]⟩, .string ⟨#[32, 119, 105, 110, 100, 111, 119, 32]⟩, .string ⟨#[32, 97, 116, 116, 101, 110, 100, 32]⟩, .string ⟨#[32, 115, 101, 101, 110, 32]⟩, .string ⟨#[32, 104, 105, 115, 116, 32]⟩, .string ⟨#[32, 102, 108, 121, 32]⟩, .string ⟨#[32, 113, 117, 111, 116, 97, 32]⟩, .string ⟨#[32, 98, 111, 100, 121, 32]⟩]) (.int .i64 4)).run Tryd.prog W = .ok (.string ⟨#[32, 100, 114, 105, 102, 116, 32]⟩) W := fun _ => by kernel_rfl
  go_enter Tryd.func46, Tryd.ntmps46
  go_wp2
  go_ret
  exact ⟨rfl, rfl⟩
theorem cName5 (w : World) : Calls Tryd.prog 46 #[.int .i64 5] w fun e w' => e = .returned (.string ⟨(nameL.getD 5 []).toArray⟩) ∧ w = w' := by
  have hix : ∀ W : World, (Instr.index 109 (.agg #[.string ⟨#[110, 111, 100, 101, 115, 32]⟩, .string ⟨#[32, 102, 97, 117, 108, 116, 115, 32]⟩, .string ⟨#[32, 100, 101, 108, 97, 121, 32]⟩, .string ⟨#[32]⟩, .string ⟨#[32, 100, 114, 105, 102, 116, 32]⟩, .string ⟨#[32]⟩, .string ⟨#[32, 114, 111, 117, 110, 100, 32]⟩, .string ⟨#[32, 119, 105, 110, 100, 111, 119, 32]⟩, .string ⟨#[32, 97, 116, 116, 101, 110, 100, 32]⟩, .string ⟨#[32, 115, 101, 101, 110, 32]⟩, .string ⟨#[32, 104, 105, 115, 116, 32]⟩, .string ⟨#[32, 102, 108, 121, 32]⟩, .string ⟨#[32, 113, 117, 111, 116, 97, 32]⟩, .string ⟨#[32, 98, 111, 100, 121, 32]⟩]) (.int .i64 5)).run Tryd.prog W = .ok (.string ⟨#[32]⟩) W := fun _ => by kernel_rfl
  go_enter Tryd.func46, Tryd.ntmps46
  go_wp2
  go_ret
  exact ⟨rfl, rfl⟩
theorem cName6 (w : World) : Calls Tryd.prog 46 #[.int .i64 6] w fun e w' => e = .returned (.string ⟨(nameL.getD 6 []).toArray⟩) ∧ w = w' := by
  have hix : ∀ W : World, (Instr.index 109 (.agg #[.string ⟨#[110, 111, 100, 101, 115, 32]⟩, .string ⟨#[32, 102, 97, 117, 108, 116, 115, 32]⟩, .string ⟨#[32, 100, 101, 108, 97, 121, 32]⟩, .string ⟨#[32]⟩, .string ⟨#[32, 100, 114, 105, 102, 116, 32]⟩, .string ⟨#[32]⟩, .string ⟨#[32, 114, 111, 117, 110, 100, 32]⟩, .string ⟨#[32, 119, 105, 110, 100, 111, 119, 32]⟩, .string ⟨#[32, 97, 116, 116, 101, 110, 100, 32]⟩, .string ⟨#[32, 115, 101, 101, 110, 32]⟩, .string ⟨#[32, 104, 105, 115, 116, 32]⟩, .string ⟨#[32, 102, 108, 121, 32]⟩, .string ⟨#[32, 113, 117, 111, 116, 97, 32]⟩, .string ⟨#[32, 98, 111, 100, 121, 32]⟩]) (.int .i64 6)).run Tryd.prog W = .ok (.string ⟨#[32, 114, 111, 117, 110, 100, 32]⟩) W := fun _ => by kernel_rfl
  go_enter Tryd.func46, Tryd.ntmps46
  go_wp2
  go_ret
  exact ⟨rfl, rfl⟩
theorem cName7 (w : World) : Calls Tryd.prog 46 #[.int .i64 7] w fun e w' => e = .returned (.string ⟨(nameL.getD 7 []).toArray⟩) ∧ w = w' := by
  have hix : ∀ W : World, (Instr.index 109 (.agg #[.string ⟨#[110, 111, 100, 101, 115, 32]⟩, .string ⟨#[32, 102, 97, 117, 108, 116, 115, 32]⟩, .string ⟨#[32, 100, 101, 108, 97, 121, 32]⟩, .string ⟨#[32]⟩, .string ⟨#[32, 100, 114, 105, 102, 116, 32]⟩, .string ⟨#[32]⟩, .string ⟨#[32, 114, 111, 117, 110, 100, 32]⟩, .string ⟨#[32, 119, 105, 110, 100, 111, 119, 32]⟩, .string ⟨#[32, 97, 116, 116, 101, 110, 100, 32]⟩, .string ⟨#[32, 115, 101, 101, 110, 32]⟩, .string ⟨#[32, 104, 105, 115, 116, 32]⟩, .string ⟨#[32, 102, 108, 121, 32]⟩, .string ⟨#[32, 113, 117, 111, 116, 97, 32]⟩, .string ⟨#[32, 98, 111, 100, 121, 32]⟩]) (.int .i64 7)).run Tryd.prog W = .ok (.string ⟨#[32, 119, 105, 110, 100, 111, 119, 32]⟩) W := fun _ => by kernel_rfl
  go_enter Tryd.func46, Tryd.ntmps46
  go_wp2
  go_ret
  exact ⟨rfl, rfl⟩
theorem cName8 (w : World) : Calls Tryd.prog 46 #[.int .i64 8] w fun e w' => e = .returned (.string ⟨(nameL.getD 8 []).toArray⟩) ∧ w = w' := by
  have hix : ∀ W : World, (Instr.index 109 (.agg #[.string ⟨#[110, 111, 100, 101, 115, 32]⟩, .string ⟨#[32, 102, 97, 117, 108, 116, 115, 32]⟩, .string ⟨#[32, 100, 101, 108, 97, 121, 32]⟩, .string ⟨#[32]⟩, .string ⟨#[32, 100, 114, 105, 102, 116, 32]⟩, .string ⟨#[32]⟩, .string ⟨#[32, 114, 111, 117, 110, 100, 32]⟩, .string ⟨#[32, 119, 105, 110, 100, 111, 119, 32]⟩, .string ⟨#[32, 97, 116, 116, 101, 110, 100, 32]⟩, .string ⟨#[32, 115, 101, 101, 110, 32]⟩, .string ⟨#[32, 104, 105, 115, 116, 32]⟩, .string ⟨#[32, 102, 108, 121, 32]⟩, .string ⟨#[32, 113, 117, 111, 116, 97, 32]⟩, .string ⟨#[32, 98, 111, 100, 121, 32]⟩]) (.int .i64 8)).run Tryd.prog W = .ok (.string ⟨#[32, 97, 116, 116, 101, 110, 100, 32]⟩) W := fun _ => by kernel_rfl
  go_enter Tryd.func46, Tryd.ntmps46
  go_wp2
  go_ret
  exact ⟨rfl, rfl⟩
theorem cName9 (w : World) : Calls Tryd.prog 46 #[.int .i64 9] w fun e w' => e = .returned (.string ⟨(nameL.getD 9 []).toArray⟩) ∧ w = w' := by
  have hix : ∀ W : World, (Instr.index 109 (.agg #[.string ⟨#[110, 111, 100, 101, 115, 32]⟩, .string ⟨#[32, 102, 97, 117, 108, 116, 115, 32]⟩, .string ⟨#[32, 100, 101, 108, 97, 121, 32]⟩, .string ⟨#[32]⟩, .string ⟨#[32, 100, 114, 105, 102, 116, 32]⟩, .string ⟨#[32]⟩, .string ⟨#[32, 114, 111, 117, 110, 100, 32]⟩, .string ⟨#[32, 119, 105, 110, 100, 111, 119, 32]⟩, .string ⟨#[32, 97, 116, 116, 101, 110, 100, 32]⟩, .string ⟨#[32, 115, 101, 101, 110, 32]⟩, .string ⟨#[32, 104, 105, 115, 116, 32]⟩, .string ⟨#[32, 102, 108, 121, 32]⟩, .string ⟨#[32, 113, 117, 111, 116, 97, 32]⟩, .string ⟨#[32, 98, 111, 100, 121, 32]⟩]) (.int .i64 9)).run Tryd.prog W = .ok (.string ⟨#[32, 115, 101, 101, 110, 32]⟩) W := fun _ => by kernel_rfl
  go_enter Tryd.func46, Tryd.ntmps46
  go_wp2
  go_ret
  exact ⟨rfl, rfl⟩
theorem cName10 (w : World) : Calls Tryd.prog 46 #[.int .i64 10] w fun e w' => e = .returned (.string ⟨(nameL.getD 10 []).toArray⟩) ∧ w = w' := by
  have hix : ∀ W : World, (Instr.index 109 (.agg #[.string ⟨#[110, 111, 100, 101, 115, 32]⟩, .string ⟨#[32, 102, 97, 117, 108, 116, 115, 32]⟩, .string ⟨#[32, 100, 101, 108, 97, 121, 32]⟩, .string ⟨#[32]⟩, .string ⟨#[32, 100, 114, 105, 102, 116, 32]⟩, .string ⟨#[32]⟩, .string ⟨#[32, 114, 111, 117, 110, 100, 32]⟩, .string ⟨#[32, 119, 105, 110, 100, 111, 119, 32]⟩, .string ⟨#[32, 97, 116, 116, 101, 110, 100, 32]⟩, .string ⟨#[32, 115, 101, 101, 110, 32]⟩, .string ⟨#[32, 104, 105, 115, 116, 32]⟩, .string ⟨#[32, 102, 108, 121, 32]⟩, .string ⟨#[32, 113, 117, 111, 116, 97, 32]⟩, .string ⟨#[32, 98, 111, 100, 121, 32]⟩]) (.int .i64 10)).run Tryd.prog W = .ok (.string ⟨#[32, 104, 105, 115, 116, 32]⟩) W := fun _ => by kernel_rfl
  go_enter Tryd.func46, Tryd.ntmps46
  go_wp2
  go_ret
  exact ⟨rfl, rfl⟩
theorem cName11 (w : World) : Calls Tryd.prog 46 #[.int .i64 11] w fun e w' => e = .returned (.string ⟨(nameL.getD 11 []).toArray⟩) ∧ w = w' := by
  have hix : ∀ W : World, (Instr.index 109 (.agg #[.string ⟨#[110, 111, 100, 101, 115, 32]⟩, .string ⟨#[32, 102, 97, 117, 108, 116, 115, 32]⟩, .string ⟨#[32, 100, 101, 108, 97, 121, 32]⟩, .string ⟨#[32]⟩, .string ⟨#[32, 100, 114, 105, 102, 116, 32]⟩, .string ⟨#[32]⟩, .string ⟨#[32, 114, 111, 117, 110, 100, 32]⟩, .string ⟨#[32, 119, 105, 110, 100, 111, 119, 32]⟩, .string ⟨#[32, 97, 116, 116, 101, 110, 100, 32]⟩, .string ⟨#[32, 115, 101, 101, 110, 32]⟩, .string ⟨#[32, 104, 105, 115, 116, 32]⟩, .string ⟨#[32, 102, 108, 121, 32]⟩, .string ⟨#[32, 113, 117, 111, 116, 97, 32]⟩, .string ⟨#[32, 98, 111, 100, 121, 32]⟩]) (.int .i64 11)).run Tryd.prog W = .ok (.string ⟨#[32, 102, 108, 121, 32]⟩) W := fun _ => by kernel_rfl
  go_enter Tryd.func46, Tryd.ntmps46
  go_wp2
  go_ret
  exact ⟨rfl, rfl⟩
theorem cName12 (w : World) : Calls Tryd.prog 46 #[.int .i64 12] w fun e w' => e = .returned (.string ⟨(nameL.getD 12 []).toArray⟩) ∧ w = w' := by
  have hix : ∀ W : World, (Instr.index 109 (.agg #[.string ⟨#[110, 111, 100, 101, 115, 32]⟩, .string ⟨#[32, 102, 97, 117, 108, 116, 115, 32]⟩, .string ⟨#[32, 100, 101, 108, 97, 121, 32]⟩, .string ⟨#[32]⟩, .string ⟨#[32, 100, 114, 105, 102, 116, 32]⟩, .string ⟨#[32]⟩, .string ⟨#[32, 114, 111, 117, 110, 100, 32]⟩, .string ⟨#[32, 119, 105, 110, 100, 111, 119, 32]⟩, .string ⟨#[32, 97, 116, 116, 101, 110, 100, 32]⟩, .string ⟨#[32, 115, 101, 101, 110, 32]⟩, .string ⟨#[32, 104, 105, 115, 116, 32]⟩, .string ⟨#[32, 102, 108, 121, 32]⟩, .string ⟨#[32, 113, 117, 111, 116, 97, 32]⟩, .string ⟨#[32, 98, 111, 100, 121, 32]⟩]) (.int .i64 12)).run Tryd.prog W = .ok (.string ⟨#[32, 113, 117, 111, 116, 97, 32]⟩) W := fun _ => by kernel_rfl
  go_enter Tryd.func46, Tryd.ntmps46
  go_wp2
  go_ret
  exact ⟨rfl, rfl⟩
theorem cName13 (w : World) : Calls Tryd.prog 46 #[.int .i64 13] w fun e w' => e = .returned (.string ⟨(nameL.getD 13 []).toArray⟩) ∧ w = w' := by
  have hix : ∀ W : World, (Instr.index 109 (.agg #[.string ⟨#[110, 111, 100, 101, 115, 32]⟩, .string ⟨#[32, 102, 97, 117, 108, 116, 115, 32]⟩, .string ⟨#[32, 100, 101, 108, 97, 121, 32]⟩, .string ⟨#[32]⟩, .string ⟨#[32, 100, 114, 105, 102, 116, 32]⟩, .string ⟨#[32]⟩, .string ⟨#[32, 114, 111, 117, 110, 100, 32]⟩, .string ⟨#[32, 119, 105, 110, 100, 111, 119, 32]⟩, .string ⟨#[32, 97, 116, 116, 101, 110, 100, 32]⟩, .string ⟨#[32, 115, 101, 101, 110, 32]⟩, .string ⟨#[32, 104, 105, 115, 116, 32]⟩, .string ⟨#[32, 102, 108, 121, 32]⟩, .string ⟨#[32, 113, 117, 111, 116, 97, 32]⟩, .string ⟨#[32, 98, 111, 100, 121, 32]⟩]) (.int .i64 13)).run Tryd.prog W = .ok (.string ⟨#[32, 98, 111, 100, 121, 32]⟩) W := fun _ => by kernel_rfl
  go_enter Tryd.func46, Tryd.ntmps46
  go_wp2
  go_ret
  exact ⟨rfl, rfl⟩
theorem cName (i : Nat) (hi : i < 14) (w : World) : Calls Tryd.prog 46 #[.int .i64 (i : Int)] w fun e w' => e = .returned (.string ⟨(nameL.getD i []).toArray⟩) ∧ w = w' := by
  rcases (show i = 0 ∨ i = 1 ∨ i = 2 ∨ i = 3 ∨ i = 4 ∨ i = 5 ∨ i = 6 ∨ i = 7 ∨ i = 8 ∨ i = 9 ∨ i = 10 ∨ i = 11 ∨ i = 12 ∨ i = 13 by omega) with rfl | rfl | rfl | rfl | rfl | rfl | rfl | rfl | rfl | rfl | rfl | rfl | rfl | rfl
  · exact cName0 w
  · exact cName1 w
  · exact cName2 w
  · exact cName3 w
  · exact cName4 w
  · exact cName5 w
  · exact cName6 w
  · exact cName7 w
  · exact cName8 w
  · exact cName9 w
  · exact cName10 w
  · exact cName11 w
  · exact cName12 w
  · exact cName13 w
end Go.Proofs.YtpbfacabafkheaaDoor
