/- A ledger compared with itself. -/
import Derived.Test.YtncmbbkcpmimjaaDoorLedA
import Derived.Test.YtncmbbkcpmimjaaDoorEqArr
namespace Go.Proofs.YtncmbbkcpmimjaaDoor
open Go.RowKit Law
set_option linter.unusedVariables false

theorem ldPart {l : Ld} (hf : l.Fits) : l.cells.toArray.extract 2 66 = ((l.of.map (fun (c : Nat) => (c : Int))).map (Value.int .u32)).toArray := by
  have h : l.cells.toArray.extract 2 66 = (l.cells.drop 2).toArray := by
    apply Array.ext'
    simp
    exact List.take_of_length_le (by rw [List.length_drop, Ld.len hf]; omega)
  rw [h, List.map_map]
  rfl
set_option maxRecDepth 100000 in
theorem run_eqIn_Ld (l : Ld) (hf : l.Fits) (w : World) : (Op.equalIn 10000 26 (.agg l.cells.toArray) (.agg l.cells.toArray)).run Tryd.prog w = .ok true w := by
  have u1 := Tryd.underlying2
  have u2 := Tryd.underlying22
  have hS : Tryd.prog.underlying 26 = some (.struct (Tryd.prog.fieldsOf 26)) := by kernel_rfl
  have hp : Tryd.prog.stoodInHeld 26 = false := by kernel_rfl
  rw [show (10000 : Nat) = 9999 + 1 from rfl, run_equalIn_agg w 9999 26 _ _ hS hp]
  have p0 : ∀ w, (part 2 l.cells.toArray 0).run Tryd.prog w = .ok (.int .i64 l.count) w := fun w => by
    unfold part
    rw [Sem.run_bind, Tryd.isAgg2]
    rfl
  have p1 : ∀ w, (part 22 l.cells.toArray 1).run Tryd.prog w = .ok (.int .u64 (l.sum : Int)) w := fun w => by
    unfold part
    rw [Sem.run_bind, Tryd.isAgg22]
    rfl
  have ha : ∀ w, (isAgg 24).run Tryd.prog w = .ok true w := fun w => by
    unfold isAgg
    rw [Sem.run_bind, run_underlying Tryd.underlying24 w]
    rfl
  have hi64 : (Tryd.prog.info? 24).map (·.size) = some 64 := by kernel_rfl
  have hsz : ∀ w, (sizeOf 24).run Tryd.prog w = .ok 64 w := fun w => by
    cases hq : Tryd.prog.info? 24 with
    | none => rw [hq] at hi64; cases hi64
    | some i =>
      rw [hq] at hi64
      have : i.size = 64 := by simpa using hi64
      simp [sizeOf, typeInfo, hq, this]
  have p2 : ∀ w, (part 24 l.cells.toArray 2).run Tryd.prog w = .ok (.agg ((l.of.map (fun (c : Nat) => (c : Int))).map (Value.int .u32)).toArray) w := fun w => by
    unfold part
    rw [Sem.run_bind, ha]
    simp only [Result.andThen_ok, if_true, Sem.run_bind, hsz, Sem.run_pure]
    rw [← ldPart hf]
  have e0 : ∀ w, (Op.equalIn 9999 2 (.int .i64 l.count) (.int .i64 l.count)).run Tryd.prog w = .ok true w := fun w => by
    rw [show (9999 : Nat) = 9998 + 1 from rfl, run_equalIn_int w 9998 2 .i64 .i64 _ _ u1]
    simp
  have e1 : ∀ w, (Op.equalIn 9999 22 (.int .u64 (l.sum : Int)) (.int .u64 (l.sum : Int))).run Tryd.prog w = .ok true w := fun w => by
    rw [show (9999 : Nat) = 9998 + 1 from rfl, run_equalIn_int w 9998 22 .u64 .u64 _ _ u2]
    simp
  have hl : (l.of.map (fun (c : Nat) => (c : Int))).length = 64 := by rw [List.length_map]; exact hf.n
  have e2 : ∀ w, (Op.equalIn 9999 24 (.agg ((l.of.map (fun (c : Nat) => (c : Int))).map (Value.int .u32)).toArray) (.agg ((l.of.map (fun (c : Nat) => (c : Int))).map (Value.int .u32)).toArray)).run Tryd.prog w = .ok true w := fun w => by
    have h := run_eqArr (P := Tryd.prog) 24 64 23 .u32 Tryd.underlying24 Tryd.underlying23 Tryd.isAgg23 Tryd.sizeOf23 _ _ hl hl w 9997
    rw [show (9999 : Nat) = 9997 + 2 from rfl, h]
    simp
  obtain ⟨X, hX⟩ : ∃ X, ((l.of.map (fun (c : Nat) => (c : Int))).map (Value.int .u32)).toArray = X := ⟨_, rfl⟩
  simp only [hX] at p2 e2
  clear hX
  simp only [Program.fieldsOf, Tryd.underlying26]
  simp [Op.eqFields, p0, p1, p2, e0, e1, e2, Result.andThen]
theorem run_eqLd (l : Ld) (hf : l.Fits) (w : World) : (binOp .eql 26 (.agg l.cells.toArray) (.agg l.cells.toArray)).run Tryd.prog w = .ok (.bool true) w := by
  rw [run_eql_struct, run_eqIn_Ld l hf w]
  rfl
theorem run_neLd (l : Ld) (hf : l.Fits) (w : World) : (binOp .neq 26 (.agg l.cells.toArray) (.agg l.cells.toArray)).run Tryd.prog w = .ok (.bool false) w := by
  rw [run_neq_struct, run_eqIn_Ld l hf w]
  rfl
end Go.Proofs.YtncmbbkcpmimjaaDoor
