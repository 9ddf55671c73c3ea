/- Keys compared by == and !=. -/
import Derived.Test.YtlkajpmfcibagaaDoorKeyT
import Derived.Test.YtlkajpmfcibagaaDoorEqArr
namespace Go.Proofs.YtlkajpmfcibagaaDoor
open Go.RowKit Law
set_option linter.unusedVariables false

def eqK (a b : K) : Bool := a.t == b.t && a.f == b.f && a.s == b.s
theorem run_eqK (a b : K) (w : World) : (binOp .eql 24 (.agg #[.int .i64 a.t, .int .i64 a.f, .int .u32 a.s]) (.agg #[.int .i64 b.t, .int .i64 b.f, .int .u32 b.s])).run Tryd.prog w = .ok (.bool (eqK a b)) w := by
  have u3 := Tryd.underlying2
  have u4 := Tryd.underlying3
  have u5 := Tryd.underlying22
  have hS : Tryd.prog.underlying 24 = some (.struct (Tryd.prog.fieldsOf 24)) := by kernel_rfl
  have hp : Tryd.prog.stoodInHeld 24 = false := by kernel_rfl
  rw [run_eql_struct, show (10000 : Nat) = 9999 + 1 from rfl, run_equalIn_agg w 9999 24 _ _ hS hp]
  simp only [Program.fieldsOf, Tryd.underlying24]
  go_simp
  unfold eqK
  by_cases h1 : a.t = b.t <;> by_cases h2 : a.f = b.f <;> by_cases h3 : a.s = b.s <;> simp [h1, h2, h3]
theorem run_neK (a b : K) (w : World) : (binOp .neq 24 (.agg #[.int .i64 a.t, .int .i64 a.f, .int .u32 a.s]) (.agg #[.int .i64 b.t, .int .i64 b.f, .int .u32 b.s])).run Tryd.prog w = .ok (.bool (!eqK a b)) w := by
  have u3 := Tryd.underlying2
  have u4 := Tryd.underlying3
  have u5 := Tryd.underlying22
  have hS : Tryd.prog.underlying 24 = some (.struct (Tryd.prog.fieldsOf 24)) := by kernel_rfl
  have hp : Tryd.prog.stoodInHeld 24 = false := by kernel_rfl
  rw [run_neq_struct, show (10000 : Nat) = 9999 + 1 from rfl, run_equalIn_agg w 9999 24 _ _ hS hp]
  simp only [Program.fieldsOf, Tryd.underlying24]
  go_simp
  unfold eqK
  by_cases h1 : a.t = b.t <;> by_cases h2 : a.f = b.f <;> by_cases h3 : a.s = b.s <;> simp [h1, h2, h3]
theorem run_eqA3 (x y z : Int) (w : World) : (binOp .eql 30 (.agg #[.int .i64 x, .int .i64 y, .int .i64 z]) (.agg #[.int .i64 x, .int .i64 y, .int .i64 z])).run Tryd.prog w = .ok (.bool true) w := by
  have h := run_eqArr (P := Tryd.prog) 30 3 2 .i64 Tryd.underlying30 Tryd.underlying2 Tryd.isAgg2 Tryd.sizeOf2 [x, y, z] [x, y, z] rfl rfl w 9998
  rw [run_eql_struct]
  have e : (Op.equalIn 10000 30 (.agg #[.int .i64 x, .int .i64 y, .int .i64 z]) (.agg #[.int .i64 x, .int .i64 y, .int .i64 z])).run Tryd.prog w = .ok ([x, y, z] == [x, y, z]) w := h
  rw [e]
  simp
end Go.Proofs.YtlkajpmfcibagaaDoor
