/- The sum of any numbers has the sum of each, whichever comes first: the law's walk. -/
import Derived.Test.YteahiphmhaedpaaGreatDoorSsB
import Derived.Test.YteahiphmhaedpaaGreatDoorStF
import Derived.Test.YteahiphmhaedpaaGreatDoorBase
import Derived.Deep.Cut
import Derived.Deep.CutRange
namespace Go.Proofs.YteahiphmhaedpaaGreatDoor
open Go.RowKit Law
set_option linter.unusedVariables false
set_option linter.unusedSimpArgs false
set_option maxRecDepth 100000

theorem byPart (v0 v1 v2 v3 v4 v5 v6 v7 v8 v9 v10 v11 v12 v13 v14 v15 v16 v17 v18 v19 v20 v21 v22 v23 v24 v25 v26 v27 v28 v29 v30 v31 : Int) : (#[.int .i64 v0, .int .i64 v1, .int .i64 v2, .int .i64 v3, .int .i64 v4, .int .i64 v5, .int .i64 v6, .int .i64 v7, .int .i64 v8, .int .i64 v9, .int .i64 v10, .int .i64 v11, .int .i64 v12, .int .i64 v13, .int .i64 v14, .int .i64 v15, .int .i64 v16, .int .i64 v17, .int .i64 v18, .int .i64 v19, .int .i64 v20, .int .i64 v21, .int .i64 v22, .int .i64 v23, .int .i64 v24, .int .i64 v25, .int .i64 v26, .int .i64 v27, .int .i64 v28, .int .i64 v29, .int .i64 v30, .int .i64 v31] : Array Value).extract 12 32 = (([v12, v13, v14, v15, v16, v17, v18, v19, v20, v21, v22, v23, v24, v25, v26, v27, v28, v29, v30, v31] : List Int).map (Value.int .i64)).toArray := by
  apply Array.ext'
  simp
set_option maxHeartbeats 3200000 in
theorem run_eqIn_St (v0 v1 v2 v3 v4 v5 v6 v7 v8 v9 v10 v11 v12 v13 v14 v15 v16 v17 v18 v19 v20 v21 v22 v23 v24 v25 v26 v27 v28 v29 v30 v31 : Int) (w : World) : (Op.equalIn 10000 25 (.agg #[.int .i64 v0, .int .i64 v1, .int .i64 v2, .int .i64 v3, .int .i64 v4, .int .i64 v5, .int .i64 v6, .int .i64 v7, .int .i64 v8, .int .i64 v9, .int .i64 v10, .int .i64 v11, .int .i64 v12, .int .i64 v13, .int .i64 v14, .int .i64 v15, .int .i64 v16, .int .i64 v17, .int .i64 v18, .int .i64 v19, .int .i64 v20, .int .i64 v21, .int .i64 v22, .int .i64 v23, .int .i64 v24, .int .i64 v25, .int .i64 v26, .int .i64 v27, .int .i64 v28, .int .i64 v29, .int .i64 v30, .int .i64 v31]) (.agg #[.int .i64 v0, .int .i64 v1, .int .i64 v2, .int .i64 v3, .int .i64 v4, .int .i64 v5, .int .i64 v6, .int .i64 v7, .int .i64 v8, .int .i64 v9, .int .i64 v10, .int .i64 v11, .int .i64 v12, .int .i64 v13, .int .i64 v14, .int .i64 v15, .int .i64 v16, .int .i64 v17, .int .i64 v18, .int .i64 v19, .int .i64 v20, .int .i64 v21, .int .i64 v22, .int .i64 v23, .int .i64 v24, .int .i64 v25, .int .i64 v26, .int .i64 v27, .int .i64 v28, .int .i64 v29, .int .i64 v30, .int .i64 v31])).run Tryz.prog w = .ok true w := by
  have u1 := Tryz.underlying2
  have u2 := Tryz.underlying3
  have hS : Tryz.prog.underlying 25 = some (.struct (Tryz.prog.fieldsOf 25)) := by kernel_rfl
  have hp : Tryz.prog.stoodInHeld 25 = false := by kernel_rfl
  rw [show (10000 : Nat) = 9999 + 1 from rfl, run_equalIn_agg w 9999 25 _ _ hS hp]
  have p0 : ∀ w, (part 2 #[.int .i64 v0, .int .i64 v1, .int .i64 v2, .int .i64 v3, .int .i64 v4, .int .i64 v5, .int .i64 v6, .int .i64 v7, .int .i64 v8, .int .i64 v9, .int .i64 v10, .int .i64 v11, .int .i64 v12, .int .i64 v13, .int .i64 v14, .int .i64 v15, .int .i64 v16, .int .i64 v17, .int .i64 v18, .int .i64 v19, .int .i64 v20, .int .i64 v21, .int .i64 v22, .int .i64 v23, .int .i64 v24, .int .i64 v25, .int .i64 v26, .int .i64 v27, .int .i64 v28, .int .i64 v29, .int .i64 v30, .int .i64 v31] 0).run Tryz.prog w = .ok (.int .i64 v0) w := fun w => by
    unfold part
    rw [Sem.run_bind, Tryz.isAgg2]
    rfl
  have e0 : ∀ w, (Op.equalIn 9999 2 (.int .i64 v0) (.int .i64 v0)).run Tryz.prog w = .ok true w := fun w => by
    rw [show (9999 : Nat) = 9998 + 1 from rfl, run_equalIn_int w 9998 2 .i64 .i64 _ _ u1]
    simp
  have p1 : ∀ w, (part 3 #[.int .i64 v0, .int .i64 v1, .int .i64 v2, .int .i64 v3, .int .i64 v4, .int .i64 v5, .int .i64 v6, .int .i64 v7, .int .i64 v8, .int .i64 v9, .int .i64 v10, .int .i64 v11, .int .i64 v12, .int .i64 v13, .int .i64 v14, .int .i64 v15, .int .i64 v16, .int .i64 v17, .int .i64 v18, .int .i64 v19, .int .i64 v20, .int .i64 v21, .int .i64 v22, .int .i64 v23, .int .i64 v24, .int .i64 v25, .int .i64 v26, .int .i64 v27, .int .i64 v28, .int .i64 v29, .int .i64 v30, .int .i64 v31] 1).run Tryz.prog w = .ok (.int .i64 v1) w := fun w => by
    unfold part
    rw [Sem.run_bind, Tryz.isAgg3]
    rfl
  have e1 : ∀ w, (Op.equalIn 9999 3 (.int .i64 v1) (.int .i64 v1)).run Tryz.prog w = .ok true w := fun w => by
    rw [show (9999 : Nat) = 9998 + 1 from rfl, run_equalIn_int w 9998 3 .i64 .i64 _ _ u2]
    simp
  have p2 : ∀ w, (part 3 #[.int .i64 v0, .int .i64 v1, .int .i64 v2, .int .i64 v3, .int .i64 v4, .int .i64 v5, .int .i64 v6, .int .i64 v7, .int .i64 v8, .int .i64 v9, .int .i64 v10, .int .i64 v11, .int .i64 v12, .int .i64 v13, .int .i64 v14, .int .i64 v15, .int .i64 v16, .int .i64 v17, .int .i64 v18, .int .i64 v19, .int .i64 v20, .int .i64 v21, .int .i64 v22, .int .i64 v23, .int .i64 v24, .int .i64 v25, .int .i64 v26, .int .i64 v27, .int .i64 v28, .int .i64 v29, .int .i64 v30, .int .i64 v31] 2).run Tryz.prog w = .ok (.int .i64 v2) w := fun w => by
    unfold part
    rw [Sem.run_bind, Tryz.isAgg3]
    rfl
  have e2 : ∀ w, (Op.equalIn 9999 3 (.int .i64 v2) (.int .i64 v2)).run Tryz.prog w = .ok true w := fun w => by
    rw [show (9999 : Nat) = 9998 + 1 from rfl, run_equalIn_int w 9998 3 .i64 .i64 _ _ u2]
    simp
  have p3 : ∀ w, (part 3 #[.int .i64 v0, .int .i64 v1, .int .i64 v2, .int .i64 v3, .int .i64 v4, .int .i64 v5, .int .i64 v6, .int .i64 v7, .int .i64 v8, .int .i64 v9, .int .i64 v10, .int .i64 v11, .int .i64 v12, .int .i64 v13, .int .i64 v14, .int .i64 v15, .int .i64 v16, .int .i64 v17, .int .i64 v18, .int .i64 v19, .int .i64 v20, .int .i64 v21, .int .i64 v22, .int .i64 v23, .int .i64 v24, .int .i64 v25, .int .i64 v26, .int .i64 v27, .int .i64 v28, .int .i64 v29, .int .i64 v30, .int .i64 v31] 3).run Tryz.prog w = .ok (.int .i64 v3) w := fun w => by
    unfold part
    rw [Sem.run_bind, Tryz.isAgg3]
    rfl
  have e3 : ∀ w, (Op.equalIn 9999 3 (.int .i64 v3) (.int .i64 v3)).run Tryz.prog w = .ok true w := fun w => by
    rw [show (9999 : Nat) = 9998 + 1 from rfl, run_equalIn_int w 9998 3 .i64 .i64 _ _ u2]
    simp
  have p4 : ∀ w, (part 2 #[.int .i64 v0, .int .i64 v1, .int .i64 v2, .int .i64 v3, .int .i64 v4, .int .i64 v5, .int .i64 v6, .int .i64 v7, .int .i64 v8, .int .i64 v9, .int .i64 v10, .int .i64 v11, .int .i64 v12, .int .i64 v13, .int .i64 v14, .int .i64 v15, .int .i64 v16, .int .i64 v17, .int .i64 v18, .int .i64 v19, .int .i64 v20, .int .i64 v21, .int .i64 v22, .int .i64 v23, .int .i64 v24, .int .i64 v25, .int .i64 v26, .int .i64 v27, .int .i64 v28, .int .i64 v29, .int .i64 v30, .int .i64 v31] 4).run Tryz.prog w = .ok (.int .i64 v4) w := fun w => by
    unfold part
    rw [Sem.run_bind, Tryz.isAgg2]
    rfl
  have e4 : ∀ w, (Op.equalIn 9999 2 (.int .i64 v4) (.int .i64 v4)).run Tryz.prog w = .ok true w := fun w => by
    rw [show (9999 : Nat) = 9998 + 1 from rfl, run_equalIn_int w 9998 2 .i64 .i64 _ _ u1]
    simp
  have p5 : ∀ w, (part 2 #[.int .i64 v0, .int .i64 v1, .int .i64 v2, .int .i64 v3, .int .i64 v4, .int .i64 v5, .int .i64 v6, .int .i64 v7, .int .i64 v8, .int .i64 v9, .int .i64 v10, .int .i64 v11, .int .i64 v12, .int .i64 v13, .int .i64 v14, .int .i64 v15, .int .i64 v16, .int .i64 v17, .int .i64 v18, .int .i64 v19, .int .i64 v20, .int .i64 v21, .int .i64 v22, .int .i64 v23, .int .i64 v24, .int .i64 v25, .int .i64 v26, .int .i64 v27, .int .i64 v28, .int .i64 v29, .int .i64 v30, .int .i64 v31] 5).run Tryz.prog w = .ok (.int .i64 v5) w := fun w => by
    unfold part
    rw [Sem.run_bind, Tryz.isAgg2]
    rfl
  have e5 : ∀ w, (Op.equalIn 9999 2 (.int .i64 v5) (.int .i64 v5)).run Tryz.prog w = .ok true w := fun w => by
    rw [show (9999 : Nat) = 9998 + 1 from rfl, run_equalIn_int w 9998 2 .i64 .i64 _ _ u1]
    simp
  have p6 : ∀ w, (part 2 #[.int .i64 v0, .int .i64 v1, .int .i64 v2, .int .i64 v3, .int .i64 v4, .int .i64 v5, .int .i64 v6, .int .i64 v7, .int .i64 v8, .int .i64 v9, .int .i64 v10, .int .i64 v11, .int .i64 v12, .int .i64 v13, .int .i64 v14, .int .i64 v15, .int .i64 v16, .int .i64 v17, .int .i64 v18, .int .i64 v19, .int .i64 v20, .int .i64 v21, .int .i64 v22, .int .i64 v23, .int .i64 v24, .int .i64 v25, .int .i64 v26, .int .i64 v27, .int .i64 v28, .int .i64 v29, .int .i64 v30, .int .i64 v31] 6).run Tryz.prog w = .ok (.int .i64 v6) w := fun w => by
    unfold part
    rw [Sem.run_bind, Tryz.isAgg2]
    rfl
  have e6 : ∀ w, (Op.equalIn 9999 2 (.int .i64 v6) (.int .i64 v6)).run Tryz.prog w = .ok true w := fun w => by
    rw [show (9999 : Nat) = 9998 + 1 from rfl, run_equalIn_int w 9998 2 .i64 .i64 _ _ u1]
    simp
  have p7 : ∀ w, (part 2 #[.int .i64 v0, .int .i64 v1, .int .i64 v2, .int .i64 v3, .int .i64 v4, .int .i64 v5, .int .i64 v6, .int .i64 v7, .int .i64 v8, .int .i64 v9, .int .i64 v10, .int .i64 v11, .int .i64 v12, .int .i64 v13, .int .i64 v14, .int .i64 v15, .int .i64 v16, .int .i64 v17, .int .i64 v18, .int .i64 v19, .int .i64 v20, .int .i64 v21, .int .i64 v22, .int .i64 v23, .int .i64 v24, .int .i64 v25, .int .i64 v26, .int .i64 v27, .int .i64 v28, .int .i64 v29, .int .i64 v30, .int .i64 v31] 7).run Tryz.prog w = .ok (.int .i64 v7) w := fun w => by
    unfold part
    rw [Sem.run_bind, Tryz.isAgg2]
    rfl
  have e7 : ∀ w, (Op.equalIn 9999 2 (.int .i64 v7) (.int .i64 v7)).run Tryz.prog w = .ok true w := fun w => by
    rw [show (9999 : Nat) = 9998 + 1 from rfl, run_equalIn_int w 9998 2 .i64 .i64 _ _ u1]
    simp
  have p8 : ∀ w, (part 2 #[.int .i64 v0, .int .i64 v1, .int .i64 v2, .int .i64 v3, .int .i64 v4, .int .i64 v5, .int .i64 v6, .int .i64 v7, .int .i64 v8, .int .i64 v9, .int .i64 v10, .int .i64 v11, .int .i64 v12, .int .i64 v13, .int .i64 v14, .int .i64 v15, .int .i64 v16, .int .i64 v17, .int .i64 v18, .int .i64 v19, .int .i64 v20, .int .i64 v21, .int .i64 v22, .int .i64 v23, .int .i64 v24, .int .i64 v25, .int .i64 v26, .int .i64 v27, .int .i64 v28, .int .i64 v29, .int .i64 v30, .int .i64 v31] 8).run Tryz.prog w = .ok (.int .i64 v8) w := fun w => by
    unfold part
    rw [Sem.run_bind, Tryz.isAgg2]
    rfl
  have e8 : ∀ w, (Op.equalIn 9999 2 (.int .i64 v8) (.int .i64 v8)).run Tryz.prog w = .ok true w := fun w => by
    rw [show (9999 : Nat) = 9998 + 1 from rfl, run_equalIn_int w 9998 2 .i64 .i64 _ _ u1]
    simp
  have p9 : ∀ w, (part 2 #[.int .i64 v0, .int .i64 v1, .int .i64 v2, .int .i64 v3, .int .i64 v4, .int .i64 v5, .int .i64 v6, .int .i64 v7, .int .i64 v8, .int .i64 v9, .int .i64 v10, .int .i64 v11, .int .i64 v12, .int .i64 v13, .int .i64 v14, .int .i64 v15, .int .i64 v16, .int .i64 v17, .int .i64 v18, .int .i64 v19, .int .i64 v20, .int .i64 v21, .int .i64 v22, .int .i64 v23, .int .i64 v24, .int .i64 v25, .int .i64 v26, .int .i64 v27, .int .i64 v28, .int .i64 v29, .int .i64 v30, .int .i64 v31] 9).run Tryz.prog w = .ok (.int .i64 v9) w := fun w => by
    unfold part
    rw [Sem.run_bind, Tryz.isAgg2]
    rfl
  have e9 : ∀ w, (Op.equalIn 9999 2 (.int .i64 v9) (.int .i64 v9)).run Tryz.prog w = .ok true w := fun w => by
    rw [show (9999 : Nat) = 9998 + 1 from rfl, run_equalIn_int w 9998 2 .i64 .i64 _ _ u1]
    simp
  have p10 : ∀ w, (part 2 #[.int .i64 v0, .int .i64 v1, .int .i64 v2, .int .i64 v3, .int .i64 v4, .int .i64 v5, .int .i64 v6, .int .i64 v7, .int .i64 v8, .int .i64 v9, .int .i64 v10, .int .i64 v11, .int .i64 v12, .int .i64 v13, .int .i64 v14, .int .i64 v15, .int .i64 v16, .int .i64 v17, .int .i64 v18, .int .i64 v19, .int .i64 v20, .int .i64 v21, .int .i64 v22, .int .i64 v23, .int .i64 v24, .int .i64 v25, .int .i64 v26, .int .i64 v27, .int .i64 v28, .int .i64 v29, .int .i64 v30, .int .i64 v31] 10).run Tryz.prog w = .ok (.int .i64 v10) w := fun w => by
    unfold part
    rw [Sem.run_bind, Tryz.isAgg2]
    rfl
  have e10 : ∀ w, (Op.equalIn 9999 2 (.int .i64 v10) (.int .i64 v10)).run Tryz.prog w = .ok true w := fun w => by
    rw [show (9999 : Nat) = 9998 + 1 from rfl, run_equalIn_int w 9998 2 .i64 .i64 _ _ u1]
    simp
  have p11 : ∀ w, (part 2 #[.int .i64 v0, .int .i64 v1, .int .i64 v2, .int .i64 v3, .int .i64 v4, .int .i64 v5, .int .i64 v6, .int .i64 v7, .int .i64 v8, .int .i64 v9, .int .i64 v10, .int .i64 v11, .int .i64 v12, .int .i64 v13, .int .i64 v14, .int .i64 v15, .int .i64 v16, .int .i64 v17, .int .i64 v18, .int .i64 v19, .int .i64 v20, .int .i64 v21, .int .i64 v22, .int .i64 v23, .int .i64 v24, .int .i64 v25, .int .i64 v26, .int .i64 v27, .int .i64 v28, .int .i64 v29, .int .i64 v30, .int .i64 v31] 11).run Tryz.prog w = .ok (.int .i64 v11) w := fun w => by
    unfold part
    rw [Sem.run_bind, Tryz.isAgg2]
    rfl
  have e11 : ∀ w, (Op.equalIn 9999 2 (.int .i64 v11) (.int .i64 v11)).run Tryz.prog w = .ok true w := fun w => by
    rw [show (9999 : Nat) = 9998 + 1 from rfl, run_equalIn_int w 9998 2 .i64 .i64 _ _ u1]
    simp
  have ha : ∀ w, (isAgg 23).run Tryz.prog w = .ok true w := fun w => by
    unfold isAgg
    rw [Sem.run_bind, run_underlying Tryz.underlying23 w]
    rfl
  have hi20 : (Tryz.prog.info? 23).map (·.size) = some 20 := by kernel_rfl
  have hsz : ∀ w, (sizeOf 23).run Tryz.prog w = .ok 20 w := fun w => by
    cases hq : Tryz.prog.info? 23 with
    | none => rw [hq] at hi20; cases hi20
    | some i =>
      rw [hq] at hi20
      have : i.size = 20 := by simpa using hi20
      simp [sizeOf, typeInfo, hq, this]
  have p12 : ∀ w, (part 23 #[.int .i64 v0, .int .i64 v1, .int .i64 v2, .int .i64 v3, .int .i64 v4, .int .i64 v5, .int .i64 v6, .int .i64 v7, .int .i64 v8, .int .i64 v9, .int .i64 v10, .int .i64 v11, .int .i64 v12, .int .i64 v13, .int .i64 v14, .int .i64 v15, .int .i64 v16, .int .i64 v17, .int .i64 v18, .int .i64 v19, .int .i64 v20, .int .i64 v21, .int .i64 v22, .int .i64 v23, .int .i64 v24, .int .i64 v25, .int .i64 v26, .int .i64 v27, .int .i64 v28, .int .i64 v29, .int .i64 v30, .int .i64 v31] 12).run Tryz.prog w = .ok (.agg (([v12, v13, v14, v15, v16, v17, v18, v19, v20, v21, v22, v23, v24, v25, v26, v27, v28, v29, v30, v31] : List Int).map (Value.int .i64)).toArray) w := fun w => by
    unfold part
    rw [Sem.run_bind, ha]
    simp only [Result.andThen_ok, if_true, Sem.run_bind, hsz, Sem.run_pure]
    rw [← byPart v0 v1 v2 v3 v4 v5 v6 v7 v8 v9 v10 v11 v12 v13 v14 v15 v16 v17 v18 v19 v20 v21 v22 v23 v24 v25 v26 v27 v28 v29 v30 v31]
  have e12 : ∀ w, (Op.equalIn 9999 23 (.agg (([v12, v13, v14, v15, v16, v17, v18, v19, v20, v21, v22, v23, v24, v25, v26, v27, v28, v29, v30, v31] : List Int).map (Value.int .i64)).toArray) (.agg (([v12, v13, v14, v15, v16, v17, v18, v19, v20, v21, v22, v23, v24, v25, v26, v27, v28, v29, v30, v31] : List Int).map (Value.int .i64)).toArray)).run Tryz.prog w = .ok true w := fun w => by
    have h := run_eqArr (P := Tryz.prog) 23 20 2 .i64 Tryz.underlying23 Tryz.underlying2 Tryz.isAgg2 Tryz.sizeOf2 [v12, v13, v14, v15, v16, v17, v18, v19, v20, v21, v22, v23, v24, v25, v26, v27, v28, v29, v30, v31] [v12, v13, v14, v15, v16, v17, v18, v19, v20, v21, v22, v23, v24, v25, v26, v27, v28, v29, v30, v31] (by rfl) (by rfl) w 9997
    rw [show (9999 : Nat) = 9997 + 2 from rfl, h]
    simp
  obtain ⟨X, hX⟩ : ∃ X, (([v12, v13, v14, v15, v16, v17, v18, v19, v20, v21, v22, v23, v24, v25, v26, v27, v28, v29, v30, v31] : List Int).map (Value.int .i64)).toArray = X := ⟨_, rfl⟩
  obtain ⟨Y, hY⟩ : ∃ Y : Array Value, #[.int .i64 v0, .int .i64 v1, .int .i64 v2, .int .i64 v3, .int .i64 v4, .int .i64 v5, .int .i64 v6, .int .i64 v7, .int .i64 v8, .int .i64 v9, .int .i64 v10, .int .i64 v11, .int .i64 v12, .int .i64 v13, .int .i64 v14, .int .i64 v15, .int .i64 v16, .int .i64 v17, .int .i64 v18, .int .i64 v19, .int .i64 v20, .int .i64 v21, .int .i64 v22, .int .i64 v23, .int .i64 v24, .int .i64 v25, .int .i64 v26, .int .i64 v27, .int .i64 v28, .int .i64 v29, .int .i64 v30, .int .i64 v31] = Y := ⟨_, rfl⟩
  simp only [hX, hY] at p0 p1 p2 p3 p4 p5 p6 p7 p8 p9 p10 p11 p12 e12
  simp only [hY]
  clear hX hY
  simp only [Program.fieldsOf, Tryz.underlying25]
  simp [Op.eqFields, p0, p1, p2, p3, p4, p5, p6, p7, p8, p9, p10, p11, p12, e0, e1, e2, e3, e4, e5, e6, e7, e8, e9, e10, e11, e12, Result.andThen]
theorem run_eqSt (v0 v1 v2 v3 v4 v5 v6 v7 v8 v9 v10 v11 v12 v13 v14 v15 v16 v17 v18 v19 v20 v21 v22 v23 v24 v25 v26 v27 v28 v29 v30 v31 : Int) (w : World) : (binOp .eql 25 (.agg #[.int .i64 v0, .int .i64 v1, .int .i64 v2, .int .i64 v3, .int .i64 v4, .int .i64 v5, .int .i64 v6, .int .i64 v7, .int .i64 v8, .int .i64 v9, .int .i64 v10, .int .i64 v11, .int .i64 v12, .int .i64 v13, .int .i64 v14, .int .i64 v15, .int .i64 v16, .int .i64 v17, .int .i64 v18, .int .i64 v19, .int .i64 v20, .int .i64 v21, .int .i64 v22, .int .i64 v23, .int .i64 v24, .int .i64 v25, .int .i64 v26, .int .i64 v27, .int .i64 v28, .int .i64 v29, .int .i64 v30, .int .i64 v31]) (.agg #[.int .i64 v0, .int .i64 v1, .int .i64 v2, .int .i64 v3, .int .i64 v4, .int .i64 v5, .int .i64 v6, .int .i64 v7, .int .i64 v8, .int .i64 v9, .int .i64 v10, .int .i64 v11, .int .i64 v12, .int .i64 v13, .int .i64 v14, .int .i64 v15, .int .i64 v16, .int .i64 v17, .int .i64 v18, .int .i64 v19, .int .i64 v20, .int .i64 v21, .int .i64 v22, .int .i64 v23, .int .i64 v24, .int .i64 v25, .int .i64 v26, .int .i64 v27, .int .i64 v28, .int .i64 v29, .int .i64 v30, .int .i64 v31])).run Tryz.prog w = .ok (.bool true) w := by
  rw [run_eql_struct, run_eqIn_St v0 v1 v2 v3 v4 v5 v6 v7 v8 v9 v10 v11 v12 v13 v14 v15 v16 v17 v18 v19 v20 v21 v22 v23 v24 v25 v26 v27 v28 v29 v30 v31 w]
  rfl
theorem sumG_comm (a b : List Int) : sumG a b = sumG b a := List.map_congr_left fun i _ => Int.add_comm _ _
theorem sumG_len (a b : List Int) : (sumG a b).length = 32 := by simp [sumG]
theorem sumG_gS (a b : List Int) {k : Nat} (h : k < 32) : gS (sumG a b) k = gS a k + gS b k := by
  rw [← mx_full, mx_gS a b 32 h, if_pos h]
theorem run_eqSum (a b : List Int) (w : World) : (binOp .eql 25 (.agg (vL (sumG a b)).toArray) (.agg (vL (sumG a b)).toArray)).run Tryz.prog w = .ok (.bool true) w := run_eqSt (gS a 0 + gS b 0) (gS a 1 + gS b 1) (gS a 2 + gS b 2) (gS a 3 + gS b 3) (gS a 4 + gS b 4) (gS a 5 + gS b 5) (gS a 6 + gS b 6) (gS a 7 + gS b 7) (gS a 8 + gS b 8) (gS a 9 + gS b 9) (gS a 10 + gS b 10) (gS a 11 + gS b 11) (gS a 12 + gS b 12) (gS a 13 + gS b 13) (gS a 14 + gS b 14) (gS a 15 + gS b 15) (gS a 16 + gS b 16) (gS a 17 + gS b 17) (gS a 18 + gS b 18) (gS a 19 + gS b 19) (gS a 20 + gS b 20) (gS a 21 + gS b 21) (gS a 22 + gS b 22) (gS a 23 + gS b 23) (gS a 24 + gS b 24) (gS a 25 + gS b 25) (gS a 26 + gS b 26) (gS a 27 + gS b 27) (gS a 28 + gS b 28) (gS a 29 + gS b 29) (gS a 30 + gS b 30) (gS a 31 + gS b 31) w
theorem numL_i32 {l : List Int} (h : ∀ x ∈ l, I32 x) : ∀ x ∈ numL l, I32 x := by
  intro x hx
  unfold numL at hx
  simp only [List.mem_append] at hx
  have h0 : I32 0 := ⟨by decide, by decide⟩
  rcases hx with hx | hx | hx | hx
  · exact h x hx
  · simp at hx; subst hx; exact h0
  · exact h x hx
  · simp at hx; subst hx; exact h0
theorem exec_ldBox {ev : Operand → Value} {x : Operand} {dst : Option Tmp} {ty : TypeId} {pos : String} {after : Array Edge} {guard : Option (Nat × Bool)} (w : World) (b : Nat) (L : List Value) (hx : ev x = .pointer (some ⟨b, 0, none⟩)) (h : w.rangeAt b 0 L) (hi : (Tryz.prog.info? 25).map (·.size) = some L.length) :
    (execOp ev ⟨dst, .load 25 x, ty, pos, after, guard⟩).run Tryz.prog w = .ok (.value (.agg L.toArray)) w := by
  have hl := run_loadAt_mid (P := Tryz.prog) w b 0 25 L _ h Tryz.underlying25 rfl hi
  unfold execOp
  simp only [hx, Sem.run_bind, hl, Result.andThen_ok, Sem.run_pure]
def rows9 : List (Nat × Option Nat × Nat) := [(0, some 34, 128), (0, some 35, 64), (0, some 36, 32), (6, some 37, 103079215104), (9, some 38, 154618822656), (24, some 39, 274877906944), (32, some 40, 549755814016), (96, some 41, 1649267441664), (32, some 42, 549755813920), (288, some 43, 4947802324992), (32, some 44, 549755813952), (1056, some 45, 18141941858304), (2592, some 46, 44530220924928), (4256, some 47, 73117523247104), (8224, some 48, 141287244169216), (16416, some 49, 281474976710656), (32768, some 50, 562949953421440), (98304, some 51, 1688849860263936), (32768, some 52, 562949953421344), (294912, some 53, 5066549580791808), (32768, some 54, 562949953421376), (1081344, some 55, 18577348462903296), (2654208, some 56, 45598946227126272), (4358144, some 57, 74872343805034496), (8421376, some 58, 144678138029277184), (16809984, some 59, 288230376151711744), (33554432, some 60, 576460752303423616), (100663296, some 61, 1729382256910270464), (33554432, some 62, 576460752303423520), (301989888, some 63, 5188146770730811392), (33554432, some 64, 576460752303423552), (1107296256, some 65, 19023204826012975104), (2717908992, some 66, 46693320936577302528), (4462739456, some 67, 76669280056355323904), (8623489024, some 68, 148150413341979836416), (17213423616, some 69, 295147905179352825856), (34359738368, some 70, 590295810358705651840), (103079215104, some 71, 1770887431076116955136), (34359738368, some 72, 590295810358705651744), (309237645312, some 73, 5312662293228350865408), (34359738368, some 74, 590295810358705651776), (1133871366144, some 75, 19479761741837286506496), (2783138807808, some 76, 47813960639055157788672), (4569845202944, some 77, 78509342777707851677696), (8830452760576, some 78, 151706023262187352489984), (17626545782784, some 79, 302231454903657293676544), (35184372088832, some 80, 604462909807314587353216), (105553116266496, some 81, 1813388729421943762059264), (35184372088832, some 82, 604462909807314587353120), (316659348799488, some 83, 5440166188265831286177792), (35184372088832, some 84, 604462909807314587353152), (1161084278931456, some 85, 19947276023641381382651904), (2849934139195392, some 86, 48961495694392481575600128), (4679521487814656, some 87, 80393567004372840117960704), (9042383626829824, some 88, 155346967820479848949743616), (18049582881570816, some 89, 309485009821345068724781056), (36028797018963968, some 90, 618970019642690137449562240), (108086391056891904, some 91, 1856910058928070412348686336), (36028797018963968, some 92, 618970019642690137449562144), (324259173170675712, some 93, 5570730176784211237046059008), (36028797018963968, some 94, 618970019642690137449562176), (1188950301625810944, some 95, 20426010648208774535835549696), (2918332558536081408, some 96, 50136571591057901133414531072), (4791830003522207744, some 97, 82323012612477788280791760896), (9259400833873739776, some 98, 159075295048171365324537462784), (18482772870728515584, some 99, 316912650057057350374175801344), (36893488147419103232, some 100, 633825300114114700748351602816), (110680464442257309696, some 101, 1901475900342344102245054808064), (36893488147419103232, some 102, 633825300114114700748351602720), (332041393326771929088, some 103, 5704427701027032306735164424192), (36893488147419103232, some 104, 633825300114114700748351602752), (1217485108864830406656, some 105, 20916234903765785124695602888704), (2988372539940947361792, some 106, 51339849309243290760616479817728), (4906833923606740729856, some 107, 84298764915177255199530763157504), (9481626453886709530624, some 108, 162893102129327478092326361890816), (18926359419625999958016, some 109, 324518553658426726783156020576256), (37778931862957161709568, some 110, 649037107316853453566312041152640), (113336795588871485128704, some 111, 1947111321950560360698936123457536), (37778931862957161709568, some 112, 649037107316853453566312041152544), (340010386766614455386112, some 113, 5841333965851681082096808370372608), (37778931862957161709568, some 114, 649037107316853453566312041152576), (1246704751477586336415744, some 115, 21418224541456163967688297358032896), (3060093480899530098475008, some 116, 52572005692665129738871275333353472), (5024597937773302507372544, some 117, 86321935273141509324319501473284096), (9709185488779990559358976, some 118, 166802536580431337566542194576195584), (19380592045697023957008384, some 119, 332306998946228968225951765070086144), (38685626227668133590597632, some 120, 664613997892457936451903530140172416), (116056878683004400771792896, some 121, 1993841993677373809355710590420516864), (38685626227668133590597632, some 122, 664613997892457936451903530140172320), (348170636049013202315378688, some 123, 5981525981032121428067131771261550592), (38685626227668133590597632, some 124, 664613997892457936451903530140172352), (1276625665513048408489721856, some 125, 21932261930451111902912816494625685504), (3133535724441118820838408192, some 126, 53833733829289092852604185941353955328), (5145188288279861767549485056, some 127, 88393661719696905548103169508642914304), (9942205940510710332783591424, some 128, 170805797458361689668139207246024278016), (19845726254793752531976585216, some 129, 340282366920938463463374607431768211456), (39614081257132168796771975168, some 130, 680564733841876926926749214863536423040), (118842243771396506390315925504, some 131, 2041694201525630780780247644590609268736), (39614081257132168796771975168, some 132, 680564733841876926926749214863536422944), (356526731314189519170947776512, some 133, 6125082604576892342340742933771827806208), (39614081257132168796771975168, some 134, 680564733841876926926749214863536422976), (1307264681485361570293475180544, some 135, 22458636216781938588582724090496701956096), (3208740581827705672538529988608, some 136, 55125743441192031081066686403946450255872), (5268672807198578449970672697344, some 137, 90515109600969631281257645576850344247296), (10180818883082967380770397618176, some 138, 174905136597362370220174548219928860688384), (20322023684908802592744023261184, some 139, 348449143727040986586495598010130648530944), (40564819207303340847894502572032, some 140, 696898287454081973172991196020261297062016), (121694457621910022543683507716096, some 141, 2090694862362245919518973588060783891185664), (40564819207303340847894502572032, some 142, 696898287454081973172991196020261297061920), (365083372865730067631050523148288, some 143, 6272084587086737758556920764182351673556992), (40564819207303340847894502572032, some 144, 696898287454081973172991196020261297061952), (1338639033841010247980518584877056, some 145, 22997643485984705114708709468668622803042304), (3285750355791570608679454708334592, some 146, 56448761283780639827012286877641165062012928), (5395120954571344332769968842080256, some 147, 92687472231392902432007829070694752509231104), (10425158536276958597908887161012224, some 148, 179102859875699067105458737377207153344905216), (20809752253346613854969879819452416, some 149, 356811923176489970264571492362373784095686656), (41538374868278621028243970633760768, some 150, 713623846352979940529142984724747568191373440), (124615124604835863084731911901282304, some 151, 2140871539058939821587428954174242704574119936), (41538374868278621028243970633760768, some 152, 713623846352979940529142984724747568191373344), (373845373814507589254195735703846912, some 153, 6422614617176819464762286862522728113722359808), (41538374868278621028243970633760768, some 154, 713623846352979940529142984724747568191373376), (1370766370653194493932051030914105344, some 155, 23549586929648338037461718495916669750315319296), (3364608364330568303287761621334622208, some 156, 57803531554591375182860581762704553023501238272), (5524603857481056596756448094290182144, some 157, 94911971564946332090376016968391426569452650496), (10675362341147605604258700452876517376, some 158, 183401328512715844715989747074260125025182941184), (21309186307426932587489156935119273984, some 159, 365375409332725729550921208179070754913983135744), (42535295865117307932921825928971026432, some 160, 730750818665451459101842416358141509827966271488), (127605887595351923798765477786913079296, some 161, 2192252455996354377305527249074424529483898814464), (340282366920938463463374607431768211455, some 4, 2923003274661805836407369665432566039311865085952)]
set_option maxHeartbeats 25600000 in
theorem walkStSums (x0 x1 x2 x3 x4 x5 x6 x7 x8 x9 x10 x11 y0 y1 y2 y3 y4 y5 y6 y7 y8 y9 y10 y11 : Int) (hx : ∀ x ∈ [x0, x1, x2, x3, x4, x5, x6, x7, x8, x9, x10, x11], I32 x) (hy : ∀ x ∈ [y0, y1, y2, y3, y4, y5, y6, y7, y8, y9, y10, y11], I32 x) (w : World) (hT : T64 w) :
    Calls Tryz.prog 3 #[.agg #[.int .i32 x0, .int .i32 x1, .int .i32 x2, .int .i32 x3, .int .i32 x4, .int .i32 x5, .int .i32 x6, .int .i32 x7, .int .i32 x8, .int .i32 x9, .int .i32 x10, .int .i32 x11], .agg #[.int .i32 y0, .int .i32 y1, .int .i32 y2, .int .i32 y3, .int .i32 y4, .int .i32 y5, .int .i32 y6, .int .i32 y7, .int .i32 y8, .int .i32 y9, .int .i32 y10, .int .i32 y11]] w fun e w' => e = .returned (.bool true) ∧ Below w.heap.size w w' := by
  have b1 := (Below.refl w.heap.size w).alloc (Nat.le_refl _) (.cells #[.int .i32 x0, .int .i32 x1, .int .i32 x2, .int .i32 x3, .int .i32 x4, .int .i32 x5, .int .i32 x6, .int .i32 x7, .int .i32 x8, .int .i32 x9, .int .i32 x10, .int .i32 x11] 22)
  have k1 := boxF_made w [.int .i32 x0, .int .i32 x1, .int .i32 x2, .int .i32 x3, .int .i32 x4, .int .i32 x5, .int .i32 x6, .int .i32 x7, .int .i32 x8, .int .i32 x9, .int .i32 x10, .int .i32 x11] 22
  obtain ⟨w1, hw1⟩ : ∃ W_, w.alloc (.cells #[.int .i32 x0, .int .i32 x1, .int .i32 x2, .int .i32 x3, .int .i32 x4, .int .i32 x5, .int .i32 x6, .int .i32 x7, .int .i32 x8, .int .i32 x9, .int .i32 x10, .int .i32 x11] 22) = W_ := ⟨_, rfl⟩
  have sw1 : w1.heap.size = w.heap.size + 1 := by rw [← hw1]; simp
  rw [hw1] at b1
  replace k1 : BoxF w1 w.heap.size [.int .i32 x0, .int .i32 x1, .int .i32 x2, .int .i32 x3, .int .i32 x4, .int .i32 x5, .int .i32 x6, .int .i32 x7, .int .i32 x8, .int .i32 x9, .int .i32 x10, .int .i32 x11] := hw1 ▸ k1
  have b2 := (Below.refl w1.heap.size w1).alloc (Nat.le_refl _) (.cells #[.int .i32 y0, .int .i32 y1, .int .i32 y2, .int .i32 y3, .int .i32 y4, .int .i32 y5, .int .i32 y6, .int .i32 y7, .int .i32 y8, .int .i32 y9, .int .i32 y10, .int .i32 y11] 22)
  have k2 := boxF_made w1 [.int .i32 y0, .int .i32 y1, .int .i32 y2, .int .i32 y3, .int .i32 y4, .int .i32 y5, .int .i32 y6, .int .i32 y7, .int .i32 y8, .int .i32 y9, .int .i32 y10, .int .i32 y11] 22
  obtain ⟨w2, hw2⟩ : ∃ W_, w1.alloc (.cells #[.int .i32 y0, .int .i32 y1, .int .i32 y2, .int .i32 y3, .int .i32 y4, .int .i32 y5, .int .i32 y6, .int .i32 y7, .int .i32 y8, .int .i32 y9, .int .i32 y10, .int .i32 y11] 22) = W_ := ⟨_, rfl⟩
  have sw2 : w2.heap.size = w1.heap.size + 1 := by rw [← hw2]; simp
  rw [hw2] at b2
  replace k2 : BoxF w2 w1.heap.size [.int .i32 y0, .int .i32 y1, .int .i32 y2, .int .i32 y3, .int .i32 y4, .int .i32 y5, .int .i32 y6, .int .i32 y7, .int .i32 y8, .int .i32 y9, .int .i32 y10, .int .i32 y11] := hw2 ▸ k2
  have HK : Hid (∀ W, Below w2.heap.size w2 W → BoxF W w.heap.size [.int .i32 x0, .int .i32 x1, .int .i32 x2, .int .i32 x3, .int .i32 x4, .int .i32 x5, .int .i32 x6, .int .i32 x7, .int .i32 x8, .int .i32 x9, .int .i32 x10, .int .i32 x11] ∧ BoxF W w1.heap.size [.int .i32 y0, .int .i32 y1, .int .i32 y2, .int .i32 y3, .int .i32 y4, .int .i32 y5, .int .i32 y6, .int .i32 y7, .int .i32 y8, .int .i32 y9, .int .i32 y10, .int .i32 y11]) := fun W hW => ⟨(k1.keep b2).keep hW, k2.keep hW⟩
  have HB2 := Lib.hid (And.intro (b1.trans (b2.mono b1.size)) hT)
  have CN1 := fun W => wNumbers x0 x1 x2 x3 x4 x5 x6 x7 x8 x9 x10 x11 hx W
  have CN2 := fun W => wNumbers y0 y1 y2 y3 y4 y5 y6 y7 y8 y9 y10 y11 hy W
  have hnx := numL_i32 hx
  have hny := numL_i32 hy
  obtain ⟨nx, hnX⟩ : ∃ nx, numL [x0, x1, x2, x3, x4, x5, x6, x7, x8, x9, x10, x11] = nx := ⟨_, rfl⟩
  obtain ⟨ny, hnY⟩ : ∃ ny, numL [y0, y1, y2, y3, y4, y5, y6, y7, y8, y9, y10, y11] = ny := ⟨_, rfl⟩
  have lx : nx.length = 32 := by rw [← hnX]; rfl
  have ly : ny.length = 32 := by rw [← hnY]; rfl
  rw [hnX] at CN1 hnx
  rw [hnY] at CN2 hny
  have HWR : ∀ k, IntKind.i64.wrap (gS nx k + gS ny k) = gS nx k + gS ny k := fun k => by have h1 := gS_i32 hnx k; have h2 := gS_i32 hny k; unfold I32 at h1 h2; rw [IntKind.wrap_i64]; omega
  have CS1 := fun W => wSum nx ny lx ly HWR W
  have CS2 := fun W => wSum ny nx ly lx (fun k => by rw [Int.add_comm]; exact HWR k) W
  rw [sumG_comm ny nx] at CS2
  have heq := run_eqSum nx ny
  obtain ⟨LX, hLX⟩ : ∃ L, vL nx = L := ⟨_, rfl⟩
  obtain ⟨LY, hLY⟩ : ∃ L, vL ny = L := ⟨_, rfl⟩
  obtain ⟨LS, hLS⟩ : ∃ L, vL (sumG nx ny) = L := ⟨_, rfl⟩
  have HA : Hid (LX.length = 32 ∧ (∀ k, k < 32 → LX[k]? = some (.int .i64 (gS nx k))) ∧ ∀ v ∈ LX, v.oneCell' = true) := by rw [← hLX]; exact ⟨by rw [vL_len, lx], fun k hk => vL_at (by omega), vL_one _⟩
  have HBY : Hid (LY.length = 32 ∧ (∀ k, k < 32 → LY[k]? = some (.int .i64 (gS ny k))) ∧ ∀ v ∈ LY, v.oneCell' = true) := by rw [← hLY]; exact ⟨by rw [vL_len, ly], fun k hk => vL_at (by omega), vL_one _⟩
  have HS : Hid (LS.length = 32 ∧ (∀ k, k < 32 → LS[k]? = some (.int .i64 (gS nx k + gS ny k))) ∧ ∀ v ∈ LS, v.oneCell' = true) := by rw [← hLS]; exact ⟨by rw [vL_len, sumG_len], fun k hk => by rw [vL_at (by rw [sumG_len]; exact hk), sumG_gS _ _ hk], vL_one _⟩
  rw [hLX] at CN1 CS1 CS2
  rw [hLY] at CN2 CS1 CS2
  rw [hLS] at CS1 CS2 heq
  have CN1 := Lib.hid CN1
  have CN2 := Lib.hid CN2
  have CS1 := Lib.hid CS1
  have CS2 := Lib.hid CS2
  have hwr := HWR
  have hinfo : Hid ((Tryz.prog.info? 25).map (·.size) = some LX.length ∧ (Tryz.prog.info? 25).map (·.size) = some LY.length ∧ (Tryz.prog.info? 25).map (·.size) = some LS.length) := ⟨by rw [HA.out.1]; exact st_info, by rw [HBY.out.1]; exact st_info, by rw [HS.out.1]; exact st_info⟩
  clear k1 k2 b1 b2 sw1 sw2 hx hy hnx hny hnX hnY lx ly HWR hLX hLY hLS hT
  go_enter Tryz.func3, Tryz.ntmps3
  go_upto_region 1 with fail
  go_cut [5, 6] from 9 to 12 (fun a5 a6 wx => ∃ p5 p6, a5 = .pointer (some ⟨p5, 0, none⟩) ∧ a6 = .pointer (some ⟨p6, 0, none⟩) ∧ BoxF wx p5 LX ∧ BoxF wx p6 LY ∧ Below w2.heap.size w2 wx)
  case first =>
    as_aux_lemma =>
      have HD : Hid (Below w2.heap.size w2 w2.drew) := (Below.refl _ _).drew
      refine wp_region_plan3 [] (.rd 0 (.rd 2 (.three 1 4 5 (.three 3 4 5 (.two 4 5 (.one 5 (.nil)) (.one 4 (.nil))) (.two 3 5 (.one 5 (.nil)) (.one 3 (.nil))) (.two 3 4 (.one 4 (.nil)) (.one 3 (.nil)))) (.two 1 5 (.two 3 5 (.one 5 (.nil)) (.one 3 (.nil))) (.one 1 (.one 3 (.nil)))) (.two 1 4 (.two 3 4 (.one 4 (.nil)) (.one 3 (.nil))) (.one 1 (.one 3 (.nil))))))) 6 12 (fun W => Below w2.heap.size w2 W) (by kernel_rfl) (by kernel_rfl) (by intro c a t v w h; exact h) HD.out ?_
      obtain ⟨u0_, hu0⟩ : ∃ W_, w2.drew = W_ := ⟨_, rfl⟩
      rw [hu0] at HD ⊢
      have Hu0_ := HD
      clear hu0
      simp only [pickL, List.drop_succ_cons, List.drop_zero, List.head?_cons, Option.toList_some, List.map_cons, List.map_nil, List.cons_append, List.nil_append]
      refine wpHead_nil ?_
      iterate 2 (refine wpPlan3_rd _ (by rfl) (by rfl) (by intro W hW; have hk := HK.out W hW; have z0 := hk.1.1 0 _ rfl; have t0 := hk.2.1 0 _ rfl; have z1 := hk.1.1 1 _ rfl; have t1 := hk.2.1 1 _ rfl; have z2 := hk.1.1 2 _ rfl; have t2 := hk.2.1 2 _ rfl; have z3 := hk.1.1 3 _ rfl; have t3 := hk.2.1 3 _ rfl; have z4 := hk.1.1 4 _ rfl; have t4 := hk.2.1 4 _ rfl; have z5 := hk.1.1 5 _ rfl; have t5 := hk.2.1 5 _ rfl; have z6 := hk.1.1 6 _ rfl; have t6 := hk.2.1 6 _ rfl; have z7 := hk.1.1 7 _ rfl; have t7 := hk.2.1 7 _ rfl; have z8 := hk.1.1 8 _ rfl; have t8 := hk.2.1 8 _ rfl; have z9 := hk.1.1 9 _ rfl; have t9 := hk.2.1 9 _ rfl; have z10 := hk.1.1 10 _ rfl; have t10 := hk.2.1 10 _ rfl; have z11 := hk.1.1 11 _ rfl; have t11 := hk.2.1 11 _ rfl; clear hk hW; go_simp; with_reducible rfl) ?_; simp only [Act.put, List.setIfInBounds_toArray, List.set_cons_zero, List.set_cons_succ])
      refine wpPlan3_three (by rfl) (by rfl) (by rfl) (by rfl) (by rfl) (by rfl) ?_ ?_ ?_
      · go_simp
        go_at_call 4
        refine (CN1.out _).mono ?_
        rintro e u1_ ⟨rfl, hb⟩
        have Hu1_ : Hid (Below w2.heap.size w2 u1_) := Hu0_.out.trans (hb.mono Hu0_.out.size)
        clear hb
        refine ⟨Hu1_.out, ?_⟩
        refine wpPlan3_three (by rfl) (by rfl) (by rfl) (by rfl) (by rfl) (by rfl) ?_ ?_ ?_
        · go_simp
          go_at_call 4
          refine (CN2.out _).mono ?_
          rintro e u2_ ⟨rfl, hb⟩
          have Hu2_ : Hid (Below w2.heap.size w2 u2_) := Hu1_.out.trans (hb.mono Hu1_.out.size)
          clear hb
          refine ⟨Hu2_.out, ?_⟩
          refine wpPlan3_two (by rfl) (by rfl) (by rfl) (by rfl) ?_ ?_
          · go_simp
            have hk := boxF_made u2_ [.int .i64 0, .int .i64 0, .int .i64 0, .int .i64 0, .int .i64 0, .int .i64 0, .int .i64 0, .int .i64 0, .int .i64 0, .int .i64 0, .int .i64 0, .int .i64 0, .int .i64 0, .int .i64 0, .int .i64 0, .int .i64 0, .int .i64 0, .int .i64 0, .int .i64 0, .int .i64 0, .int .i64 0, .int .i64 0, .int .i64 0, .int .i64 0, .int .i64 0, .int .i64 0, .int .i64 0, .int .i64 0, .int .i64 0, .int .i64 0, .int .i64 0, .int .i64 0] 25
            obtain ⟨u3_, hu3_⟩ : ∃ W_, u2_.alloc (.cells #[.int .i64 0, .int .i64 0, .int .i64 0, .int .i64 0, .int .i64 0, .int .i64 0, .int .i64 0, .int .i64 0, .int .i64 0, .int .i64 0, .int .i64 0, .int .i64 0, .int .i64 0, .int .i64 0, .int .i64 0, .int .i64 0, .int .i64 0, .int .i64 0, .int .i64 0, .int .i64 0, .int .i64 0, .int .i64 0, .int .i64 0, .int .i64 0, .int .i64 0, .int .i64 0, .int .i64 0, .int .i64 0, .int .i64 0, .int .i64 0, .int .i64 0, .int .i64 0] 25) = W_ := ⟨_, rfl⟩
            have hb : Below u2_.heap.size u2_ u3_ := by rw [← hu3_]; exact (Below.refl _ _).alloc (Nat.le_refl _) _
            rw [hu3_] at hk ⊢
            have Hu3_ : Hid (Below w2.heap.size w2 u3_) := Hu2_.out.trans (hb.mono Hu2_.out.size)
            have KF3 := Lib.hid hk
            have HP3 : Hid (w2.heap.size ≤ u2_.heap.size) := Hu2_.out.size
            clear hb hk hu3_
            refine ⟨Hu3_.out, ?_⟩
            refine wpPlan3_do (by rfl) (by rfl) ?_
            go_simp
            have hk := boxF_made u3_ [.int .i64 0, .int .i64 0, .int .i64 0, .int .i64 0, .int .i64 0, .int .i64 0, .int .i64 0, .int .i64 0, .int .i64 0, .int .i64 0, .int .i64 0, .int .i64 0, .int .i64 0, .int .i64 0, .int .i64 0, .int .i64 0, .int .i64 0, .int .i64 0, .int .i64 0, .int .i64 0, .int .i64 0, .int .i64 0, .int .i64 0, .int .i64 0, .int .i64 0, .int .i64 0, .int .i64 0, .int .i64 0, .int .i64 0, .int .i64 0, .int .i64 0, .int .i64 0] 25
            obtain ⟨u4_, hu4_⟩ : ∃ W_, u3_.alloc (.cells #[.int .i64 0, .int .i64 0, .int .i64 0, .int .i64 0, .int .i64 0, .int .i64 0, .int .i64 0, .int .i64 0, .int .i64 0, .int .i64 0, .int .i64 0, .int .i64 0, .int .i64 0, .int .i64 0, .int .i64 0, .int .i64 0, .int .i64 0, .int .i64 0, .int .i64 0, .int .i64 0, .int .i64 0, .int .i64 0, .int .i64 0, .int .i64 0, .int .i64 0, .int .i64 0, .int .i64 0, .int .i64 0, .int .i64 0, .int .i64 0, .int .i64 0, .int .i64 0] 25) = W_ := ⟨_, rfl⟩
            have hb : Below u3_.heap.size u3_ u4_ := by rw [← hu4_]; exact (Below.refl _ _).alloc (Nat.le_refl _) _
            rw [hu4_] at hk ⊢
            have Hu4_ : Hid (Below w2.heap.size w2 u4_) := Hu3_.out.trans (hb.mono Hu3_.out.size)
            have KF3a := Lib.hid (KF3.out.keep hb)
            have HNE : Hid (u2_.heap.size < u3_.heap.size) := KF3.out.lt (by simp)
            have KF4 := Lib.hid hk
            have HP4 : Hid (w2.heap.size ≤ u3_.heap.size) := Hu3_.out.size
            clear hb hk hu4_
            refine ⟨Hu4_.out, ?_⟩
            refine wpPlan3_nil ?_
            have hne5 : Hid (u2_.heap.size ≠ u3_.heap.size) := by have := HNE.out; show u2_.heap.size ≠ u3_.heap.size; omega
            go_wp2_with (first | (refine wp_boxStore rfl 25 _ _ rfl (u2_.heap.size) _ LX rfl rfl KF3a.out HA.out.1 hinfo.out.1 HA.out.2.2 ?_; intro w7 k7 hs7 F7) | (refine wp_boxStore rfl 25 _ _ rfl (u3_.heap.size) _ LY rfl rfl (F7.box KF4.out (by simp) (Ne.symm hne5.out)) HBY.out.1 hinfo.out.2.1 HBY.out.2.2 ?_; intro w8 k8 hs8 F8))
            have HEND : Hid (BoxF w8 (u2_.heap.size) LX ∧ BoxF w8 (u3_.heap.size) LY ∧ Below w2.heap.size w2 w8) := ⟨F8.box k7 (by rw [HA.out.1]; decide) hne5.out, k8, (Hu4_.out.trans ((frB_below F7 (by have := HP3.out; omega) Hu4_.out.size).trans (frB_below F8 (by have := HP4.out; omega) (by have := F7.size; have := Hu4_.out.size; omega))))⟩
            clear k7 k8 hs7 hs8 F7 F8
            go_meet
            case rel => exact ⟨u2_.heap.size, u3_.heap.size, rfl, rfl, HEND.out⟩
          · go_simp
            have hk := boxF_made u2_ [.int .i64 0, .int .i64 0, .int .i64 0, .int .i64 0, .int .i64 0, .int .i64 0, .int .i64 0, .int .i64 0, .int .i64 0, .int .i64 0, .int .i64 0, .int .i64 0, .int .i64 0, .int .i64 0, .int .i64 0, .int .i64 0, .int .i64 0, .int .i64 0, .int .i64 0, .int .i64 0, .int .i64 0, .int .i64 0, .int .i64 0, .int .i64 0, .int .i64 0, .int .i64 0, .int .i64 0, .int .i64 0, .int .i64 0, .int .i64 0, .int .i64 0, .int .i64 0] 25
            obtain ⟨u5_, hu5_⟩ : ∃ W_, u2_.alloc (.cells #[.int .i64 0, .int .i64 0, .int .i64 0, .int .i64 0, .int .i64 0, .int .i64 0, .int .i64 0, .int .i64 0, .int .i64 0, .int .i64 0, .int .i64 0, .int .i64 0, .int .i64 0, .int .i64 0, .int .i64 0, .int .i64 0, .int .i64 0, .int .i64 0, .int .i64 0, .int .i64 0, .int .i64 0, .int .i64 0, .int .i64 0, .int .i64 0, .int .i64 0, .int .i64 0, .int .i64 0, .int .i64 0, .int .i64 0, .int .i64 0, .int .i64 0, .int .i64 0] 25) = W_ := ⟨_, rfl⟩
            have hb : Below u2_.heap.size u2_ u5_ := by rw [← hu5_]; exact (Below.refl _ _).alloc (Nat.le_refl _) _
            rw [hu5_] at hk ⊢
            have Hu5_ : Hid (Below w2.heap.size w2 u5_) := Hu2_.out.trans (hb.mono Hu2_.out.size)
            have KF5 := Lib.hid hk
            have HP5 : Hid (w2.heap.size ≤ u2_.heap.size) := Hu2_.out.size
            clear hb hk hu5_
            refine ⟨Hu5_.out, ?_⟩
            refine wpPlan3_do (by rfl) (by rfl) ?_
            go_simp
            have hk := boxF_made u5_ [.int .i64 0, .int .i64 0, .int .i64 0, .int .i64 0, .int .i64 0, .int .i64 0, .int .i64 0, .int .i64 0, .int .i64 0, .int .i64 0, .int .i64 0, .int .i64 0, .int .i64 0, .int .i64 0, .int .i64 0, .int .i64 0, .int .i64 0, .int .i64 0, .int .i64 0, .int .i64 0, .int .i64 0, .int .i64 0, .int .i64 0, .int .i64 0, .int .i64 0, .int .i64 0, .int .i64 0, .int .i64 0, .int .i64 0, .int .i64 0, .int .i64 0, .int .i64 0] 25
            obtain ⟨u6_, hu6_⟩ : ∃ W_, u5_.alloc (.cells #[.int .i64 0, .int .i64 0, .int .i64 0, .int .i64 0, .int .i64 0, .int .i64 0, .int .i64 0, .int .i64 0, .int .i64 0, .int .i64 0, .int .i64 0, .int .i64 0, .int .i64 0, .int .i64 0, .int .i64 0, .int .i64 0, .int .i64 0, .int .i64 0, .int .i64 0, .int .i64 0, .int .i64 0, .int .i64 0, .int .i64 0, .int .i64 0, .int .i64 0, .int .i64 0, .int .i64 0, .int .i64 0, .int .i64 0, .int .i64 0, .int .i64 0, .int .i64 0] 25) = W_ := ⟨_, rfl⟩
            have hb : Below u5_.heap.size u5_ u6_ := by rw [← hu6_]; exact (Below.refl _ _).alloc (Nat.le_refl _) _
            rw [hu6_] at hk ⊢
            have Hu6_ : Hid (Below w2.heap.size w2 u6_) := Hu5_.out.trans (hb.mono Hu5_.out.size)
            have KF5a := Lib.hid (KF5.out.keep hb)
            have HNE : Hid (u2_.heap.size < u5_.heap.size) := KF5.out.lt (by simp)
            have KF6 := Lib.hid hk
            have HP6 : Hid (w2.heap.size ≤ u5_.heap.size) := Hu5_.out.size
            clear hb hk hu6_
            refine ⟨Hu6_.out, ?_⟩
            refine wpPlan3_nil ?_
            have hne5 : Hid (u5_.heap.size ≠ u2_.heap.size) := by have := HNE.out; show u5_.heap.size ≠ u2_.heap.size; omega
            go_wp2_with (first | (refine wp_boxStore rfl 25 _ _ rfl (u5_.heap.size) _ LX rfl rfl KF6.out HA.out.1 hinfo.out.1 HA.out.2.2 ?_; intro w7 k7 hs7 F7) | (refine wp_boxStore rfl 25 _ _ rfl (u2_.heap.size) _ LY rfl rfl (F7.box KF5a.out (by simp) (Ne.symm hne5.out)) HBY.out.1 hinfo.out.2.1 HBY.out.2.2 ?_; intro w8 k8 hs8 F8))
            have HEND : Hid (BoxF w8 (u5_.heap.size) LX ∧ BoxF w8 (u2_.heap.size) LY ∧ Below w2.heap.size w2 w8) := ⟨F8.box k7 (by rw [HA.out.1]; decide) hne5.out, k8, (Hu6_.out.trans ((frB_below F7 (by have := HP6.out; omega) Hu6_.out.size).trans (frB_below F8 (by have := HP5.out; omega) (by have := F7.size; have := Hu6_.out.size; omega))))⟩
            clear k7 k8 hs7 hs8 F7 F8
            go_meet
            case rel => exact ⟨u5_.heap.size, u2_.heap.size, rfl, rfl, HEND.out⟩
        · go_simp
          have hk := boxF_made u1_ [.int .i64 0, .int .i64 0, .int .i64 0, .int .i64 0, .int .i64 0, .int .i64 0, .int .i64 0, .int .i64 0, .int .i64 0, .int .i64 0, .int .i64 0, .int .i64 0, .int .i64 0, .int .i64 0, .int .i64 0, .int .i64 0, .int .i64 0, .int .i64 0, .int .i64 0, .int .i64 0, .int .i64 0, .int .i64 0, .int .i64 0, .int .i64 0, .int .i64 0, .int .i64 0, .int .i64 0, .int .i64 0, .int .i64 0, .int .i64 0, .int .i64 0, .int .i64 0] 25
          obtain ⟨u7_, hu7_⟩ : ∃ W_, u1_.alloc (.cells #[.int .i64 0, .int .i64 0, .int .i64 0, .int .i64 0, .int .i64 0, .int .i64 0, .int .i64 0, .int .i64 0, .int .i64 0, .int .i64 0, .int .i64 0, .int .i64 0, .int .i64 0, .int .i64 0, .int .i64 0, .int .i64 0, .int .i64 0, .int .i64 0, .int .i64 0, .int .i64 0, .int .i64 0, .int .i64 0, .int .i64 0, .int .i64 0, .int .i64 0, .int .i64 0, .int .i64 0, .int .i64 0, .int .i64 0, .int .i64 0, .int .i64 0, .int .i64 0] 25) = W_ := ⟨_, rfl⟩
          have hb : Below u1_.heap.size u1_ u7_ := by rw [← hu7_]; exact (Below.refl _ _).alloc (Nat.le_refl _) _
          rw [hu7_] at hk ⊢
          have Hu7_ : Hid (Below w2.heap.size w2 u7_) := Hu1_.out.trans (hb.mono Hu1_.out.size)
          have KF7 := Lib.hid hk
          have HP7 : Hid (w2.heap.size ≤ u1_.heap.size) := Hu1_.out.size
          clear hb hk hu7_
          refine ⟨Hu7_.out, ?_⟩
          refine wpPlan3_two (by rfl) (by rfl) (by rfl) (by rfl) ?_ ?_
          · go_simp
            go_at_call 4
            refine (CN2.out _).mono ?_
            rintro e u8_ ⟨rfl, hb⟩
            have Hu8_ : Hid (Below w2.heap.size w2 u8_) := Hu7_.out.trans (hb.mono Hu7_.out.size)
            have KF7a := Lib.hid (KF7.out.keep hb)
            clear hb
            refine ⟨Hu8_.out, ?_⟩
            refine wpPlan3_do (by rfl) (by rfl) ?_
            go_simp
            have hk := boxF_made u8_ [.int .i64 0, .int .i64 0, .int .i64 0, .int .i64 0, .int .i64 0, .int .i64 0, .int .i64 0, .int .i64 0, .int .i64 0, .int .i64 0, .int .i64 0, .int .i64 0, .int .i64 0, .int .i64 0, .int .i64 0, .int .i64 0, .int .i64 0, .int .i64 0, .int .i64 0, .int .i64 0, .int .i64 0, .int .i64 0, .int .i64 0, .int .i64 0, .int .i64 0, .int .i64 0, .int .i64 0, .int .i64 0, .int .i64 0, .int .i64 0, .int .i64 0, .int .i64 0] 25
            obtain ⟨u9_, hu9_⟩ : ∃ W_, u8_.alloc (.cells #[.int .i64 0, .int .i64 0, .int .i64 0, .int .i64 0, .int .i64 0, .int .i64 0, .int .i64 0, .int .i64 0, .int .i64 0, .int .i64 0, .int .i64 0, .int .i64 0, .int .i64 0, .int .i64 0, .int .i64 0, .int .i64 0, .int .i64 0, .int .i64 0, .int .i64 0, .int .i64 0, .int .i64 0, .int .i64 0, .int .i64 0, .int .i64 0, .int .i64 0, .int .i64 0, .int .i64 0, .int .i64 0, .int .i64 0, .int .i64 0, .int .i64 0, .int .i64 0] 25) = W_ := ⟨_, rfl⟩
            have hb : Below u8_.heap.size u8_ u9_ := by rw [← hu9_]; exact (Below.refl _ _).alloc (Nat.le_refl _) _
            rw [hu9_] at hk ⊢
            have Hu9_ : Hid (Below w2.heap.size w2 u9_) := Hu8_.out.trans (hb.mono Hu8_.out.size)
            have KF7aa := Lib.hid (KF7a.out.keep hb)
            have HNE : Hid (u1_.heap.size < u8_.heap.size) := KF7a.out.lt (by simp)
            have KF9 := Lib.hid hk
            have HP9 : Hid (w2.heap.size ≤ u8_.heap.size) := Hu8_.out.size
            clear hb hk hu9_
            refine ⟨Hu9_.out, ?_⟩
            refine wpPlan3_nil ?_
            have hne5 : Hid (u1_.heap.size ≠ u8_.heap.size) := by have := HNE.out; show u1_.heap.size ≠ u8_.heap.size; omega
            go_wp2_with (first | (refine wp_boxStore rfl 25 _ _ rfl (u1_.heap.size) _ LX rfl rfl KF7aa.out HA.out.1 hinfo.out.1 HA.out.2.2 ?_; intro w7 k7 hs7 F7) | (refine wp_boxStore rfl 25 _ _ rfl (u8_.heap.size) _ LY rfl rfl (F7.box KF9.out (by simp) (Ne.symm hne5.out)) HBY.out.1 hinfo.out.2.1 HBY.out.2.2 ?_; intro w8 k8 hs8 F8))
            have HEND : Hid (BoxF w8 (u1_.heap.size) LX ∧ BoxF w8 (u8_.heap.size) LY ∧ Below w2.heap.size w2 w8) := ⟨F8.box k7 (by rw [HA.out.1]; decide) hne5.out, k8, (Hu9_.out.trans ((frB_below F7 (by have := HP7.out; omega) Hu9_.out.size).trans (frB_below F8 (by have := HP9.out; omega) (by have := F7.size; have := Hu9_.out.size; omega))))⟩
            clear k7 k8 hs7 hs8 F7 F8
            go_meet
            case rel => exact ⟨u1_.heap.size, u8_.heap.size, rfl, rfl, HEND.out⟩
          · go_simp
            have hk := boxF_made u7_ [.int .i64 0, .int .i64 0, .int .i64 0, .int .i64 0, .int .i64 0, .int .i64 0, .int .i64 0, .int .i64 0, .int .i64 0, .int .i64 0, .int .i64 0, .int .i64 0, .int .i64 0, .int .i64 0, .int .i64 0, .int .i64 0, .int .i64 0, .int .i64 0, .int .i64 0, .int .i64 0, .int .i64 0, .int .i64 0, .int .i64 0, .int .i64 0, .int .i64 0, .int .i64 0, .int .i64 0, .int .i64 0, .int .i64 0, .int .i64 0, .int .i64 0, .int .i64 0] 25
            obtain ⟨u10_, hu10_⟩ : ∃ W_, u7_.alloc (.cells #[.int .i64 0, .int .i64 0, .int .i64 0, .int .i64 0, .int .i64 0, .int .i64 0, .int .i64 0, .int .i64 0, .int .i64 0, .int .i64 0, .int .i64 0, .int .i64 0, .int .i64 0, .int .i64 0, .int .i64 0, .int .i64 0, .int .i64 0, .int .i64 0, .int .i64 0, .int .i64 0, .int .i64 0, .int .i64 0, .int .i64 0, .int .i64 0, .int .i64 0, .int .i64 0, .int .i64 0, .int .i64 0, .int .i64 0, .int .i64 0, .int .i64 0, .int .i64 0] 25) = W_ := ⟨_, rfl⟩
            have hb : Below u7_.heap.size u7_ u10_ := by rw [← hu10_]; exact (Below.refl _ _).alloc (Nat.le_refl _) _
            rw [hu10_] at hk ⊢
            have Hu10_ : Hid (Below w2.heap.size w2 u10_) := Hu7_.out.trans (hb.mono Hu7_.out.size)
            have KF7a := Lib.hid (KF7.out.keep hb)
            have HNE : Hid (u1_.heap.size < u7_.heap.size) := KF7.out.lt (by simp)
            have KF10 := Lib.hid hk
            have HP10 : Hid (w2.heap.size ≤ u7_.heap.size) := Hu7_.out.size
            clear hb hk hu10_
            refine ⟨Hu10_.out, ?_⟩
            refine wpPlan3_do (by rfl) (by rfl) ?_
            go_simp
            go_at_call 4
            refine (CN2.out _).mono ?_
            rintro e u11_ ⟨rfl, hb⟩
            have Hu11_ : Hid (Below w2.heap.size w2 u11_) := Hu10_.out.trans (hb.mono Hu10_.out.size)
            have KF7aa := Lib.hid (KF7a.out.keep hb)
            have KF10a := Lib.hid (KF10.out.keep hb)
            clear hb
            refine ⟨Hu11_.out, ?_⟩
            refine wpPlan3_nil ?_
            have hne5 : Hid (u1_.heap.size ≠ u7_.heap.size) := by have := HNE.out; show u1_.heap.size ≠ u7_.heap.size; omega
            go_wp2_with (first | (refine wp_boxStore rfl 25 _ _ rfl (u1_.heap.size) _ LX rfl rfl KF7aa.out HA.out.1 hinfo.out.1 HA.out.2.2 ?_; intro w7 k7 hs7 F7) | (refine wp_boxStore rfl 25 _ _ rfl (u7_.heap.size) _ LY rfl rfl (F7.box KF10a.out (by simp) (Ne.symm hne5.out)) HBY.out.1 hinfo.out.2.1 HBY.out.2.2 ?_; intro w8 k8 hs8 F8))
            have HEND : Hid (BoxF w8 (u1_.heap.size) LX ∧ BoxF w8 (u7_.heap.size) LY ∧ Below w2.heap.size w2 w8) := ⟨F8.box k7 (by rw [HA.out.1]; decide) hne5.out, k8, (Hu11_.out.trans ((frB_below F7 (by have := HP7.out; omega) Hu11_.out.size).trans (frB_below F8 (by have := HP10.out; omega) (by have := F7.size; have := Hu11_.out.size; omega))))⟩
            clear k7 k8 hs7 hs8 F7 F8
            go_meet
            case rel => exact ⟨u1_.heap.size, u7_.heap.size, rfl, rfl, HEND.out⟩
        · go_simp
          have hk := boxF_made u1_ [.int .i64 0, .int .i64 0, .int .i64 0, .int .i64 0, .int .i64 0, .int .i64 0, .int .i64 0, .int .i64 0, .int .i64 0, .int .i64 0, .int .i64 0, .int .i64 0, .int .i64 0, .int .i64 0, .int .i64 0, .int .i64 0, .int .i64 0, .int .i64 0, .int .i64 0, .int .i64 0, .int .i64 0, .int .i64 0, .int .i64 0, .int .i64 0, .int .i64 0, .int .i64 0, .int .i64 0, .int .i64 0, .int .i64 0, .int .i64 0, .int .i64 0, .int .i64 0] 25
          obtain ⟨u12_, hu12_⟩ : ∃ W_, u1_.alloc (.cells #[.int .i64 0, .int .i64 0, .int .i64 0, .int .i64 0, .int .i64 0, .int .i64 0, .int .i64 0, .int .i64 0, .int .i64 0, .int .i64 0, .int .i64 0, .int .i64 0, .int .i64 0, .int .i64 0, .int .i64 0, .int .i64 0, .int .i64 0, .int .i64 0, .int .i64 0, .int .i64 0, .int .i64 0, .int .i64 0, .int .i64 0, .int .i64 0, .int .i64 0, .int .i64 0, .int .i64 0, .int .i64 0, .int .i64 0, .int .i64 0, .int .i64 0, .int .i64 0] 25) = W_ := ⟨_, rfl⟩
          have hb : Below u1_.heap.size u1_ u12_ := by rw [← hu12_]; exact (Below.refl _ _).alloc (Nat.le_refl _) _
          rw [hu12_] at hk ⊢
          have Hu12_ : Hid (Below w2.heap.size w2 u12_) := Hu1_.out.trans (hb.mono Hu1_.out.size)
          have KF12 := Lib.hid hk
          have HP12 : Hid (w2.heap.size ≤ u1_.heap.size) := Hu1_.out.size
          clear hb hk hu12_
          refine ⟨Hu12_.out, ?_⟩
          refine wpPlan3_two (by rfl) (by rfl) (by rfl) (by rfl) ?_ ?_
          · go_simp
            go_at_call 4
            refine (CN2.out _).mono ?_
            rintro e u13_ ⟨rfl, hb⟩
            have Hu13_ : Hid (Below w2.heap.size w2 u13_) := Hu12_.out.trans (hb.mono Hu12_.out.size)
            have KF12a := Lib.hid (KF12.out.keep hb)
            clear hb
            refine ⟨Hu13_.out, ?_⟩
            refine wpPlan3_do (by rfl) (by rfl) ?_
            go_simp
            have hk := boxF_made u13_ [.int .i64 0, .int .i64 0, .int .i64 0, .int .i64 0, .int .i64 0, .int .i64 0, .int .i64 0, .int .i64 0, .int .i64 0, .int .i64 0, .int .i64 0, .int .i64 0, .int .i64 0, .int .i64 0, .int .i64 0, .int .i64 0, .int .i64 0, .int .i64 0, .int .i64 0, .int .i64 0, .int .i64 0, .int .i64 0, .int .i64 0, .int .i64 0, .int .i64 0, .int .i64 0, .int .i64 0, .int .i64 0, .int .i64 0, .int .i64 0, .int .i64 0, .int .i64 0] 25
            obtain ⟨u14_, hu14_⟩ : ∃ W_, u13_.alloc (.cells #[.int .i64 0, .int .i64 0, .int .i64 0, .int .i64 0, .int .i64 0, .int .i64 0, .int .i64 0, .int .i64 0, .int .i64 0, .int .i64 0, .int .i64 0, .int .i64 0, .int .i64 0, .int .i64 0, .int .i64 0, .int .i64 0, .int .i64 0, .int .i64 0, .int .i64 0, .int .i64 0, .int .i64 0, .int .i64 0, .int .i64 0, .int .i64 0, .int .i64 0, .int .i64 0, .int .i64 0, .int .i64 0, .int .i64 0, .int .i64 0, .int .i64 0, .int .i64 0] 25) = W_ := ⟨_, rfl⟩
            have hb : Below u13_.heap.size u13_ u14_ := by rw [← hu14_]; exact (Below.refl _ _).alloc (Nat.le_refl _) _
            rw [hu14_] at hk ⊢
            have Hu14_ : Hid (Below w2.heap.size w2 u14_) := Hu13_.out.trans (hb.mono Hu13_.out.size)
            have KF12aa := Lib.hid (KF12a.out.keep hb)
            have HNE : Hid (u1_.heap.size < u13_.heap.size) := KF12a.out.lt (by simp)
            have KF14 := Lib.hid hk
            have HP14 : Hid (w2.heap.size ≤ u13_.heap.size) := Hu13_.out.size
            clear hb hk hu14_
            refine ⟨Hu14_.out, ?_⟩
            refine wpPlan3_nil ?_
            have hne5 : Hid (u13_.heap.size ≠ u1_.heap.size) := by have := HNE.out; show u13_.heap.size ≠ u1_.heap.size; omega
            go_wp2_with (first | (refine wp_boxStore rfl 25 _ _ rfl (u13_.heap.size) _ LX rfl rfl KF14.out HA.out.1 hinfo.out.1 HA.out.2.2 ?_; intro w7 k7 hs7 F7) | (refine wp_boxStore rfl 25 _ _ rfl (u1_.heap.size) _ LY rfl rfl (F7.box KF12aa.out (by simp) (Ne.symm hne5.out)) HBY.out.1 hinfo.out.2.1 HBY.out.2.2 ?_; intro w8 k8 hs8 F8))
            have HEND : Hid (BoxF w8 (u13_.heap.size) LX ∧ BoxF w8 (u1_.heap.size) LY ∧ Below w2.heap.size w2 w8) := ⟨F8.box k7 (by rw [HA.out.1]; decide) hne5.out, k8, (Hu14_.out.trans ((frB_below F7 (by have := HP14.out; omega) Hu14_.out.size).trans (frB_below F8 (by have := HP12.out; omega) (by have := F7.size; have := Hu14_.out.size; omega))))⟩
            clear k7 k8 hs7 hs8 F7 F8
            go_meet
            case rel => exact ⟨u13_.heap.size, u1_.heap.size, rfl, rfl, HEND.out⟩
          · go_simp
            have hk := boxF_made u12_ [.int .i64 0, .int .i64 0, .int .i64 0, .int .i64 0, .int .i64 0, .int .i64 0, .int .i64 0, .int .i64 0, .int .i64 0, .int .i64 0, .int .i64 0, .int .i64 0, .int .i64 0, .int .i64 0, .int .i64 0, .int .i64 0, .int .i64 0, .int .i64 0, .int .i64 0, .int .i64 0, .int .i64 0, .int .i64 0, .int .i64 0, .int .i64 0, .int .i64 0, .int .i64 0, .int .i64 0, .int .i64 0, .int .i64 0, .int .i64 0, .int .i64 0, .int .i64 0] 25
            obtain ⟨u15_, hu15_⟩ : ∃ W_, u12_.alloc (.cells #[.int .i64 0, .int .i64 0, .int .i64 0, .int .i64 0, .int .i64 0, .int .i64 0, .int .i64 0, .int .i64 0, .int .i64 0, .int .i64 0, .int .i64 0, .int .i64 0, .int .i64 0, .int .i64 0, .int .i64 0, .int .i64 0, .int .i64 0, .int .i64 0, .int .i64 0, .int .i64 0, .int .i64 0, .int .i64 0, .int .i64 0, .int .i64 0, .int .i64 0, .int .i64 0, .int .i64 0, .int .i64 0, .int .i64 0, .int .i64 0, .int .i64 0, .int .i64 0] 25) = W_ := ⟨_, rfl⟩
            have hb : Below u12_.heap.size u12_ u15_ := by rw [← hu15_]; exact (Below.refl _ _).alloc (Nat.le_refl _) _
            rw [hu15_] at hk ⊢
            have Hu15_ : Hid (Below w2.heap.size w2 u15_) := Hu12_.out.trans (hb.mono Hu12_.out.size)
            have KF12a := Lib.hid (KF12.out.keep hb)
            have HNE : Hid (u1_.heap.size < u12_.heap.size) := KF12.out.lt (by simp)
            have KF15 := Lib.hid hk
            have HP15 : Hid (w2.heap.size ≤ u12_.heap.size) := Hu12_.out.size
            clear hb hk hu15_
            refine ⟨Hu15_.out, ?_⟩
            refine wpPlan3_do (by rfl) (by rfl) ?_
            go_simp
            go_at_call 4
            refine (CN2.out _).mono ?_
            rintro e u16_ ⟨rfl, hb⟩
            have Hu16_ : Hid (Below w2.heap.size w2 u16_) := Hu15_.out.trans (hb.mono Hu15_.out.size)
            have KF12aa := Lib.hid (KF12a.out.keep hb)
            have KF15a := Lib.hid (KF15.out.keep hb)
            clear hb
            refine ⟨Hu16_.out, ?_⟩
            refine wpPlan3_nil ?_
            have hne5 : Hid (u12_.heap.size ≠ u1_.heap.size) := by have := HNE.out; show u12_.heap.size ≠ u1_.heap.size; omega
            go_wp2_with (first | (refine wp_boxStore rfl 25 _ _ rfl (u12_.heap.size) _ LX rfl rfl KF15a.out HA.out.1 hinfo.out.1 HA.out.2.2 ?_; intro w7 k7 hs7 F7) | (refine wp_boxStore rfl 25 _ _ rfl (u1_.heap.size) _ LY rfl rfl (F7.box KF12aa.out (by simp) (Ne.symm hne5.out)) HBY.out.1 hinfo.out.2.1 HBY.out.2.2 ?_; intro w8 k8 hs8 F8))
            have HEND : Hid (BoxF w8 (u12_.heap.size) LX ∧ BoxF w8 (u1_.heap.size) LY ∧ Below w2.heap.size w2 w8) := ⟨F8.box k7 (by rw [HA.out.1]; decide) hne5.out, k8, (Hu16_.out.trans ((frB_below F7 (by have := HP15.out; omega) Hu16_.out.size).trans (frB_below F8 (by have := HP12.out; omega) (by have := F7.size; have := Hu16_.out.size; omega))))⟩
            clear k7 k8 hs7 hs8 F7 F8
            go_meet
            case rel => exact ⟨u12_.heap.size, u1_.heap.size, rfl, rfl, HEND.out⟩
      · go_simp
        have hk := boxF_made u0_ [.int .i64 0, .int .i64 0, .int .i64 0, .int .i64 0, .int .i64 0, .int .i64 0, .int .i64 0, .int .i64 0, .int .i64 0, .int .i64 0, .int .i64 0, .int .i64 0, .int .i64 0, .int .i64 0, .int .i64 0, .int .i64 0, .int .i64 0, .int .i64 0, .int .i64 0, .int .i64 0, .int .i64 0, .int .i64 0, .int .i64 0, .int .i64 0, .int .i64 0, .int .i64 0, .int .i64 0, .int .i64 0, .int .i64 0, .int .i64 0, .int .i64 0, .int .i64 0] 25
        obtain ⟨u17_, hu17_⟩ : ∃ W_, u0_.alloc (.cells #[.int .i64 0, .int .i64 0, .int .i64 0, .int .i64 0, .int .i64 0, .int .i64 0, .int .i64 0, .int .i64 0, .int .i64 0, .int .i64 0, .int .i64 0, .int .i64 0, .int .i64 0, .int .i64 0, .int .i64 0, .int .i64 0, .int .i64 0, .int .i64 0, .int .i64 0, .int .i64 0, .int .i64 0, .int .i64 0, .int .i64 0, .int .i64 0, .int .i64 0, .int .i64 0, .int .i64 0, .int .i64 0, .int .i64 0, .int .i64 0, .int .i64 0, .int .i64 0] 25) = W_ := ⟨_, rfl⟩
        have hb : Below u0_.heap.size u0_ u17_ := by rw [← hu17_]; exact (Below.refl _ _).alloc (Nat.le_refl _) _
        rw [hu17_] at hk ⊢
        have Hu17_ : Hid (Below w2.heap.size w2 u17_) := Hu0_.out.trans (hb.mono Hu0_.out.size)
        have KF17 := Lib.hid hk
        have HP17 : Hid (w2.heap.size ≤ u0_.heap.size) := Hu0_.out.size
        clear hb hk hu17_
        refine ⟨Hu17_.out, ?_⟩
        refine wpPlan3_two (by rfl) (by rfl) (by rfl) (by rfl) ?_ ?_
        · go_simp
          go_at_call 4
          refine (CN1.out _).mono ?_
          rintro e u18_ ⟨rfl, hb⟩
          have Hu18_ : Hid (Below w2.heap.size w2 u18_) := Hu17_.out.trans (hb.mono Hu17_.out.size)
          have KF17a := Lib.hid (KF17.out.keep hb)
          clear hb
          refine ⟨Hu18_.out, ?_⟩
          refine wpPlan3_two (by rfl) (by rfl) (by rfl) (by rfl) ?_ ?_
          · go_simp
            go_at_call 4
            refine (CN2.out _).mono ?_
            rintro e u19_ ⟨rfl, hb⟩
            have Hu19_ : Hid (Below w2.heap.size w2 u19_) := Hu18_.out.trans (hb.mono Hu18_.out.size)
            have KF17aa := Lib.hid (KF17a.out.keep hb)
            clear hb
            refine ⟨Hu19_.out, ?_⟩
            refine wpPlan3_do (by rfl) (by rfl) ?_
            go_simp
            have hk := boxF_made u19_ [.int .i64 0, .int .i64 0, .int .i64 0, .int .i64 0, .int .i64 0, .int .i64 0, .int .i64 0, .int .i64 0, .int .i64 0, .int .i64 0, .int .i64 0, .int .i64 0, .int .i64 0, .int .i64 0, .int .i64 0, .int .i64 0, .int .i64 0, .int .i64 0, .int .i64 0, .int .i64 0, .int .i64 0, .int .i64 0, .int .i64 0, .int .i64 0, .int .i64 0, .int .i64 0, .int .i64 0, .int .i64 0, .int .i64 0, .int .i64 0, .int .i64 0, .int .i64 0] 25
            obtain ⟨u20_, hu20_⟩ : ∃ W_, u19_.alloc (.cells #[.int .i64 0, .int .i64 0, .int .i64 0, .int .i64 0, .int .i64 0, .int .i64 0, .int .i64 0, .int .i64 0, .int .i64 0, .int .i64 0, .int .i64 0, .int .i64 0, .int .i64 0, .int .i64 0, .int .i64 0, .int .i64 0, .int .i64 0, .int .i64 0, .int .i64 0, .int .i64 0, .int .i64 0, .int .i64 0, .int .i64 0, .int .i64 0, .int .i64 0, .int .i64 0, .int .i64 0, .int .i64 0, .int .i64 0, .int .i64 0, .int .i64 0, .int .i64 0] 25) = W_ := ⟨_, rfl⟩
            have hb : Below u19_.heap.size u19_ u20_ := by rw [← hu20_]; exact (Below.refl _ _).alloc (Nat.le_refl _) _
            rw [hu20_] at hk ⊢
            have Hu20_ : Hid (Below w2.heap.size w2 u20_) := Hu19_.out.trans (hb.mono Hu19_.out.size)
            have KF17aaa := Lib.hid (KF17aa.out.keep hb)
            have HNE : Hid (u0_.heap.size < u19_.heap.size) := KF17aa.out.lt (by simp)
            have KF20 := Lib.hid hk
            have HP20 : Hid (w2.heap.size ≤ u19_.heap.size) := Hu19_.out.size
            clear hb hk hu20_
            refine ⟨Hu20_.out, ?_⟩
            refine wpPlan3_nil ?_
            have hne5 : Hid (u0_.heap.size ≠ u19_.heap.size) := by have := HNE.out; show u0_.heap.size ≠ u19_.heap.size; omega
            go_wp2_with (first | (refine wp_boxStore rfl 25 _ _ rfl (u0_.heap.size) _ LX rfl rfl KF17aaa.out HA.out.1 hinfo.out.1 HA.out.2.2 ?_; intro w7 k7 hs7 F7) | (refine wp_boxStore rfl 25 _ _ rfl (u19_.heap.size) _ LY rfl rfl (F7.box KF20.out (by simp) (Ne.symm hne5.out)) HBY.out.1 hinfo.out.2.1 HBY.out.2.2 ?_; intro w8 k8 hs8 F8))
            have HEND : Hid (BoxF w8 (u0_.heap.size) LX ∧ BoxF w8 (u19_.heap.size) LY ∧ Below w2.heap.size w2 w8) := ⟨F8.box k7 (by rw [HA.out.1]; decide) hne5.out, k8, (Hu20_.out.trans ((frB_below F7 (by have := HP17.out; omega) Hu20_.out.size).trans (frB_below F8 (by have := HP20.out; omega) (by have := F7.size; have := Hu20_.out.size; omega))))⟩
            clear k7 k8 hs7 hs8 F7 F8
            go_meet
            case rel => exact ⟨u0_.heap.size, u19_.heap.size, rfl, rfl, HEND.out⟩
          · go_simp
            have hk := boxF_made u18_ [.int .i64 0, .int .i64 0, .int .i64 0, .int .i64 0, .int .i64 0, .int .i64 0, .int .i64 0, .int .i64 0, .int .i64 0, .int .i64 0, .int .i64 0, .int .i64 0, .int .i64 0, .int .i64 0, .int .i64 0, .int .i64 0, .int .i64 0, .int .i64 0, .int .i64 0, .int .i64 0, .int .i64 0, .int .i64 0, .int .i64 0, .int .i64 0, .int .i64 0, .int .i64 0, .int .i64 0, .int .i64 0, .int .i64 0, .int .i64 0, .int .i64 0, .int .i64 0] 25
            obtain ⟨u21_, hu21_⟩ : ∃ W_, u18_.alloc (.cells #[.int .i64 0, .int .i64 0, .int .i64 0, .int .i64 0, .int .i64 0, .int .i64 0, .int .i64 0, .int .i64 0, .int .i64 0, .int .i64 0, .int .i64 0, .int .i64 0, .int .i64 0, .int .i64 0, .int .i64 0, .int .i64 0, .int .i64 0, .int .i64 0, .int .i64 0, .int .i64 0, .int .i64 0, .int .i64 0, .int .i64 0, .int .i64 0, .int .i64 0, .int .i64 0, .int .i64 0, .int .i64 0, .int .i64 0, .int .i64 0, .int .i64 0, .int .i64 0] 25) = W_ := ⟨_, rfl⟩
            have hb : Below u18_.heap.size u18_ u21_ := by rw [← hu21_]; exact (Below.refl _ _).alloc (Nat.le_refl _) _
            rw [hu21_] at hk ⊢
            have Hu21_ : Hid (Below w2.heap.size w2 u21_) := Hu18_.out.trans (hb.mono Hu18_.out.size)
            have KF17aa := Lib.hid (KF17a.out.keep hb)
            have HNE : Hid (u0_.heap.size < u18_.heap.size) := KF17a.out.lt (by simp)
            have KF21 := Lib.hid hk
            have HP21 : Hid (w2.heap.size ≤ u18_.heap.size) := Hu18_.out.size
            clear hb hk hu21_
            refine ⟨Hu21_.out, ?_⟩
            refine wpPlan3_do (by rfl) (by rfl) ?_
            go_simp
            go_at_call 4
            refine (CN2.out _).mono ?_
            rintro e u22_ ⟨rfl, hb⟩
            have Hu22_ : Hid (Below w2.heap.size w2 u22_) := Hu21_.out.trans (hb.mono Hu21_.out.size)
            have KF17aaa := Lib.hid (KF17aa.out.keep hb)
            have KF21a := Lib.hid (KF21.out.keep hb)
            clear hb
            refine ⟨Hu22_.out, ?_⟩
            refine wpPlan3_nil ?_
            have hne5 : Hid (u0_.heap.size ≠ u18_.heap.size) := by have := HNE.out; show u0_.heap.size ≠ u18_.heap.size; omega
            go_wp2_with (first | (refine wp_boxStore rfl 25 _ _ rfl (u0_.heap.size) _ LX rfl rfl KF17aaa.out HA.out.1 hinfo.out.1 HA.out.2.2 ?_; intro w7 k7 hs7 F7) | (refine wp_boxStore rfl 25 _ _ rfl (u18_.heap.size) _ LY rfl rfl (F7.box KF21a.out (by simp) (Ne.symm hne5.out)) HBY.out.1 hinfo.out.2.1 HBY.out.2.2 ?_; intro w8 k8 hs8 F8))
            have HEND : Hid (BoxF w8 (u0_.heap.size) LX ∧ BoxF w8 (u18_.heap.size) LY ∧ Below w2.heap.size w2 w8) := ⟨F8.box k7 (by rw [HA.out.1]; decide) hne5.out, k8, (Hu22_.out.trans ((frB_below F7 (by have := HP17.out; omega) Hu22_.out.size).trans (frB_below F8 (by have := HP21.out; omega) (by have := F7.size; have := Hu22_.out.size; omega))))⟩
            clear k7 k8 hs7 hs8 F7 F8
            go_meet
            case rel => exact ⟨u0_.heap.size, u18_.heap.size, rfl, rfl, HEND.out⟩
        · go_simp
          have hk := boxF_made u17_ [.int .i64 0, .int .i64 0, .int .i64 0, .int .i64 0, .int .i64 0, .int .i64 0, .int .i64 0, .int .i64 0, .int .i64 0, .int .i64 0, .int .i64 0, .int .i64 0, .int .i64 0, .int .i64 0, .int .i64 0, .int .i64 0, .int .i64 0, .int .i64 0, .int .i64 0, .int .i64 0, .int .i64 0, .int .i64 0, .int .i64 0, .int .i64 0, .int .i64 0, .int .i64 0, .int .i64 0, .int .i64 0, .int .i64 0, .int .i64 0, .int .i64 0, .int .i64 0] 25
          obtain ⟨u23_, hu23_⟩ : ∃ W_, u17_.alloc (.cells #[.int .i64 0, .int .i64 0, .int .i64 0, .int .i64 0, .int .i64 0, .int .i64 0, .int .i64 0, .int .i64 0, .int .i64 0, .int .i64 0, .int .i64 0, .int .i64 0, .int .i64 0, .int .i64 0, .int .i64 0, .int .i64 0, .int .i64 0, .int .i64 0, .int .i64 0, .int .i64 0, .int .i64 0, .int .i64 0, .int .i64 0, .int .i64 0, .int .i64 0, .int .i64 0, .int .i64 0, .int .i64 0, .int .i64 0, .int .i64 0, .int .i64 0, .int .i64 0] 25) = W_ := ⟨_, rfl⟩
          have hb : Below u17_.heap.size u17_ u23_ := by rw [← hu23_]; exact (Below.refl _ _).alloc (Nat.le_refl _) _
          rw [hu23_] at hk ⊢
          have Hu23_ : Hid (Below w2.heap.size w2 u23_) := Hu17_.out.trans (hb.mono Hu17_.out.size)
          have KF17a := Lib.hid (KF17.out.keep hb)
          have HNE : Hid (u0_.heap.size < u17_.heap.size) := KF17.out.lt (by simp)
          have KF23 := Lib.hid hk
          have HP23 : Hid (w2.heap.size ≤ u17_.heap.size) := Hu17_.out.size
          clear hb hk hu23_
          refine ⟨Hu23_.out, ?_⟩
          refine wpPlan3_do (by rfl) (by rfl) ?_
          go_simp
          go_at_call 4
          refine (CN1.out _).mono ?_
          rintro e u24_ ⟨rfl, hb⟩
          have Hu24_ : Hid (Below w2.heap.size w2 u24_) := Hu23_.out.trans (hb.mono Hu23_.out.size)
          have KF17aa := Lib.hid (KF17a.out.keep hb)
          have KF23a := Lib.hid (KF23.out.keep hb)
          clear hb
          refine ⟨Hu24_.out, ?_⟩
          refine wpPlan3_do (by rfl) (by rfl) ?_
          go_simp
          go_at_call 4
          refine (CN2.out _).mono ?_
          rintro e u25_ ⟨rfl, hb⟩
          have Hu25_ : Hid (Below w2.heap.size w2 u25_) := Hu24_.out.trans (hb.mono Hu24_.out.size)
          have KF17aaa := Lib.hid (KF17aa.out.keep hb)
          have KF23aa := Lib.hid (KF23a.out.keep hb)
          clear hb
          refine ⟨Hu25_.out, ?_⟩
          refine wpPlan3_nil ?_
          have hne5 : Hid (u0_.heap.size ≠ u17_.heap.size) := by have := HNE.out; show u0_.heap.size ≠ u17_.heap.size; omega
          go_wp2_with (first | (refine wp_boxStore rfl 25 _ _ rfl (u0_.heap.size) _ LX rfl rfl KF17aaa.out HA.out.1 hinfo.out.1 HA.out.2.2 ?_; intro w7 k7 hs7 F7) | (refine wp_boxStore rfl 25 _ _ rfl (u17_.heap.size) _ LY rfl rfl (F7.box KF23aa.out (by simp) (Ne.symm hne5.out)) HBY.out.1 hinfo.out.2.1 HBY.out.2.2 ?_; intro w8 k8 hs8 F8))
          have HEND : Hid (BoxF w8 (u0_.heap.size) LX ∧ BoxF w8 (u17_.heap.size) LY ∧ Below w2.heap.size w2 w8) := ⟨F8.box k7 (by rw [HA.out.1]; decide) hne5.out, k8, (Hu25_.out.trans ((frB_below F7 (by have := HP17.out; omega) Hu25_.out.size).trans (frB_below F8 (by have := HP23.out; omega) (by have := F7.size; have := Hu25_.out.size; omega))))⟩
          clear k7 k8 hs7 hs8 F7 F8
          go_meet
          case rel => exact ⟨u0_.heap.size, u17_.heap.size, rfl, rfl, HEND.out⟩
      · go_simp
        have hk := boxF_made u0_ [.int .i64 0, .int .i64 0, .int .i64 0, .int .i64 0, .int .i64 0, .int .i64 0, .int .i64 0, .int .i64 0, .int .i64 0, .int .i64 0, .int .i64 0, .int .i64 0, .int .i64 0, .int .i64 0, .int .i64 0, .int .i64 0, .int .i64 0, .int .i64 0, .int .i64 0, .int .i64 0, .int .i64 0, .int .i64 0, .int .i64 0, .int .i64 0, .int .i64 0, .int .i64 0, .int .i64 0, .int .i64 0, .int .i64 0, .int .i64 0, .int .i64 0, .int .i64 0] 25
        obtain ⟨u26_, hu26_⟩ : ∃ W_, u0_.alloc (.cells #[.int .i64 0, .int .i64 0, .int .i64 0, .int .i64 0, .int .i64 0, .int .i64 0, .int .i64 0, .int .i64 0, .int .i64 0, .int .i64 0, .int .i64 0, .int .i64 0, .int .i64 0, .int .i64 0, .int .i64 0, .int .i64 0, .int .i64 0, .int .i64 0, .int .i64 0, .int .i64 0, .int .i64 0, .int .i64 0, .int .i64 0, .int .i64 0, .int .i64 0, .int .i64 0, .int .i64 0, .int .i64 0, .int .i64 0, .int .i64 0, .int .i64 0, .int .i64 0] 25) = W_ := ⟨_, rfl⟩
        have hb : Below u0_.heap.size u0_ u26_ := by rw [← hu26_]; exact (Below.refl _ _).alloc (Nat.le_refl _) _
        rw [hu26_] at hk ⊢
        have Hu26_ : Hid (Below w2.heap.size w2 u26_) := Hu0_.out.trans (hb.mono Hu0_.out.size)
        have KF26 := Lib.hid hk
        have HP26 : Hid (w2.heap.size ≤ u0_.heap.size) := Hu0_.out.size
        clear hb hk hu26_
        refine ⟨Hu26_.out, ?_⟩
        refine wpPlan3_two (by rfl) (by rfl) (by rfl) (by rfl) ?_ ?_
        · go_simp
          go_at_call 4
          refine (CN1.out _).mono ?_
          rintro e u27_ ⟨rfl, hb⟩
          have Hu27_ : Hid (Below w2.heap.size w2 u27_) := Hu26_.out.trans (hb.mono Hu26_.out.size)
          have KF26a := Lib.hid (KF26.out.keep hb)
          clear hb
          refine ⟨Hu27_.out, ?_⟩
          refine wpPlan3_two (by rfl) (by rfl) (by rfl) (by rfl) ?_ ?_
          · go_simp
            go_at_call 4
            refine (CN2.out _).mono ?_
            rintro e u28_ ⟨rfl, hb⟩
            have Hu28_ : Hid (Below w2.heap.size w2 u28_) := Hu27_.out.trans (hb.mono Hu27_.out.size)
            have KF26aa := Lib.hid (KF26a.out.keep hb)
            clear hb
            refine ⟨Hu28_.out, ?_⟩
            refine wpPlan3_do (by rfl) (by rfl) ?_
            go_simp
            have hk := boxF_made u28_ [.int .i64 0, .int .i64 0, .int .i64 0, .int .i64 0, .int .i64 0, .int .i64 0, .int .i64 0, .int .i64 0, .int .i64 0, .int .i64 0, .int .i64 0, .int .i64 0, .int .i64 0, .int .i64 0, .int .i64 0, .int .i64 0, .int .i64 0, .int .i64 0, .int .i64 0, .int .i64 0, .int .i64 0, .int .i64 0, .int .i64 0, .int .i64 0, .int .i64 0, .int .i64 0, .int .i64 0, .int .i64 0, .int .i64 0, .int .i64 0, .int .i64 0, .int .i64 0] 25
            obtain ⟨u29_, hu29_⟩ : ∃ W_, u28_.alloc (.cells #[.int .i64 0, .int .i64 0, .int .i64 0, .int .i64 0, .int .i64 0, .int .i64 0, .int .i64 0, .int .i64 0, .int .i64 0, .int .i64 0, .int .i64 0, .int .i64 0, .int .i64 0, .int .i64 0, .int .i64 0, .int .i64 0, .int .i64 0, .int .i64 0, .int .i64 0, .int .i64 0, .int .i64 0, .int .i64 0, .int .i64 0, .int .i64 0, .int .i64 0, .int .i64 0, .int .i64 0, .int .i64 0, .int .i64 0, .int .i64 0, .int .i64 0, .int .i64 0] 25) = W_ := ⟨_, rfl⟩
            have hb : Below u28_.heap.size u28_ u29_ := by rw [← hu29_]; exact (Below.refl _ _).alloc (Nat.le_refl _) _
            rw [hu29_] at hk ⊢
            have Hu29_ : Hid (Below w2.heap.size w2 u29_) := Hu28_.out.trans (hb.mono Hu28_.out.size)
            have KF26aaa := Lib.hid (KF26aa.out.keep hb)
            have HNE : Hid (u0_.heap.size < u28_.heap.size) := KF26aa.out.lt (by simp)
            have KF29 := Lib.hid hk
            have HP29 : Hid (w2.heap.size ≤ u28_.heap.size) := Hu28_.out.size
            clear hb hk hu29_
            refine ⟨Hu29_.out, ?_⟩
            refine wpPlan3_nil ?_
            have hne5 : Hid (u28_.heap.size ≠ u0_.heap.size) := by have := HNE.out; show u28_.heap.size ≠ u0_.heap.size; omega
            go_wp2_with (first | (refine wp_boxStore rfl 25 _ _ rfl (u28_.heap.size) _ LX rfl rfl KF29.out HA.out.1 hinfo.out.1 HA.out.2.2 ?_; intro w7 k7 hs7 F7) | (refine wp_boxStore rfl 25 _ _ rfl (u0_.heap.size) _ LY rfl rfl (F7.box KF26aaa.out (by simp) (Ne.symm hne5.out)) HBY.out.1 hinfo.out.2.1 HBY.out.2.2 ?_; intro w8 k8 hs8 F8))
            have HEND : Hid (BoxF w8 (u28_.heap.size) LX ∧ BoxF w8 (u0_.heap.size) LY ∧ Below w2.heap.size w2 w8) := ⟨F8.box k7 (by rw [HA.out.1]; decide) hne5.out, k8, (Hu29_.out.trans ((frB_below F7 (by have := HP29.out; omega) Hu29_.out.size).trans (frB_below F8 (by have := HP26.out; omega) (by have := F7.size; have := Hu29_.out.size; omega))))⟩
            clear k7 k8 hs7 hs8 F7 F8
            go_meet
            case rel => exact ⟨u28_.heap.size, u0_.heap.size, rfl, rfl, HEND.out⟩
          · go_simp
            have hk := boxF_made u27_ [.int .i64 0, .int .i64 0, .int .i64 0, .int .i64 0, .int .i64 0, .int .i64 0, .int .i64 0, .int .i64 0, .int .i64 0, .int .i64 0, .int .i64 0, .int .i64 0, .int .i64 0, .int .i64 0, .int .i64 0, .int .i64 0, .int .i64 0, .int .i64 0, .int .i64 0, .int .i64 0, .int .i64 0, .int .i64 0, .int .i64 0, .int .i64 0, .int .i64 0, .int .i64 0, .int .i64 0, .int .i64 0, .int .i64 0, .int .i64 0, .int .i64 0, .int .i64 0] 25
            obtain ⟨u30_, hu30_⟩ : ∃ W_, u27_.alloc (.cells #[.int .i64 0, .int .i64 0, .int .i64 0, .int .i64 0, .int .i64 0, .int .i64 0, .int .i64 0, .int .i64 0, .int .i64 0, .int .i64 0, .int .i64 0, .int .i64 0, .int .i64 0, .int .i64 0, .int .i64 0, .int .i64 0, .int .i64 0, .int .i64 0, .int .i64 0, .int .i64 0, .int .i64 0, .int .i64 0, .int .i64 0, .int .i64 0, .int .i64 0, .int .i64 0, .int .i64 0, .int .i64 0, .int .i64 0, .int .i64 0, .int .i64 0, .int .i64 0] 25) = W_ := ⟨_, rfl⟩
            have hb : Below u27_.heap.size u27_ u30_ := by rw [← hu30_]; exact (Below.refl _ _).alloc (Nat.le_refl _) _
            rw [hu30_] at hk ⊢
            have Hu30_ : Hid (Below w2.heap.size w2 u30_) := Hu27_.out.trans (hb.mono Hu27_.out.size)
            have KF26aa := Lib.hid (KF26a.out.keep hb)
            have HNE : Hid (u0_.heap.size < u27_.heap.size) := KF26a.out.lt (by simp)
            have KF30 := Lib.hid hk
            have HP30 : Hid (w2.heap.size ≤ u27_.heap.size) := Hu27_.out.size
            clear hb hk hu30_
            refine ⟨Hu30_.out, ?_⟩
            refine wpPlan3_do (by rfl) (by rfl) ?_
            go_simp
            go_at_call 4
            refine (CN2.out _).mono ?_
            rintro e u31_ ⟨rfl, hb⟩
            have Hu31_ : Hid (Below w2.heap.size w2 u31_) := Hu30_.out.trans (hb.mono Hu30_.out.size)
            have KF26aaa := Lib.hid (KF26aa.out.keep hb)
            have KF30a := Lib.hid (KF30.out.keep hb)
            clear hb
            refine ⟨Hu31_.out, ?_⟩
            refine wpPlan3_nil ?_
            have hne5 : Hid (u27_.heap.size ≠ u0_.heap.size) := by have := HNE.out; show u27_.heap.size ≠ u0_.heap.size; omega
            go_wp2_with (first | (refine wp_boxStore rfl 25 _ _ rfl (u27_.heap.size) _ LX rfl rfl KF30a.out HA.out.1 hinfo.out.1 HA.out.2.2 ?_; intro w7 k7 hs7 F7) | (refine wp_boxStore rfl 25 _ _ rfl (u0_.heap.size) _ LY rfl rfl (F7.box KF26aaa.out (by simp) (Ne.symm hne5.out)) HBY.out.1 hinfo.out.2.1 HBY.out.2.2 ?_; intro w8 k8 hs8 F8))
            have HEND : Hid (BoxF w8 (u27_.heap.size) LX ∧ BoxF w8 (u0_.heap.size) LY ∧ Below w2.heap.size w2 w8) := ⟨F8.box k7 (by rw [HA.out.1]; decide) hne5.out, k8, (Hu31_.out.trans ((frB_below F7 (by have := HP30.out; omega) Hu31_.out.size).trans (frB_below F8 (by have := HP26.out; omega) (by have := F7.size; have := Hu31_.out.size; omega))))⟩
            clear k7 k8 hs7 hs8 F7 F8
            go_meet
            case rel => exact ⟨u27_.heap.size, u0_.heap.size, rfl, rfl, HEND.out⟩
        · go_simp
          have hk := boxF_made u26_ [.int .i64 0, .int .i64 0, .int .i64 0, .int .i64 0, .int .i64 0, .int .i64 0, .int .i64 0, .int .i64 0, .int .i64 0, .int .i64 0, .int .i64 0, .int .i64 0, .int .i64 0, .int .i64 0, .int .i64 0, .int .i64 0, .int .i64 0, .int .i64 0, .int .i64 0, .int .i64 0, .int .i64 0, .int .i64 0, .int .i64 0, .int .i64 0, .int .i64 0, .int .i64 0, .int .i64 0, .int .i64 0, .int .i64 0, .int .i64 0, .int .i64 0, .int .i64 0] 25
          obtain ⟨u32_, hu32_⟩ : ∃ W_, u26_.alloc (.cells #[.int .i64 0, .int .i64 0, .int .i64 0, .int .i64 0, .int .i64 0, .int .i64 0, .int .i64 0, .int .i64 0, .int .i64 0, .int .i64 0, .int .i64 0, .int .i64 0, .int .i64 0, .int .i64 0, .int .i64 0, .int .i64 0, .int .i64 0, .int .i64 0, .int .i64 0, .int .i64 0, .int .i64 0, .int .i64 0, .int .i64 0, .int .i64 0, .int .i64 0, .int .i64 0, .int .i64 0, .int .i64 0, .int .i64 0, .int .i64 0, .int .i64 0, .int .i64 0] 25) = W_ := ⟨_, rfl⟩
          have hb : Below u26_.heap.size u26_ u32_ := by rw [← hu32_]; exact (Below.refl _ _).alloc (Nat.le_refl _) _
          rw [hu32_] at hk ⊢
          have Hu32_ : Hid (Below w2.heap.size w2 u32_) := Hu26_.out.trans (hb.mono Hu26_.out.size)
          have KF26a := Lib.hid (KF26.out.keep hb)
          have HNE : Hid (u0_.heap.size < u26_.heap.size) := KF26.out.lt (by simp)
          have KF32 := Lib.hid hk
          have HP32 : Hid (w2.heap.size ≤ u26_.heap.size) := Hu26_.out.size
          clear hb hk hu32_
          refine ⟨Hu32_.out, ?_⟩
          refine wpPlan3_do (by rfl) (by rfl) ?_
          go_simp
          go_at_call 4
          refine (CN1.out _).mono ?_
          rintro e u33_ ⟨rfl, hb⟩
          have Hu33_ : Hid (Below w2.heap.size w2 u33_) := Hu32_.out.trans (hb.mono Hu32_.out.size)
          have KF26aa := Lib.hid (KF26a.out.keep hb)
          have KF32a := Lib.hid (KF32.out.keep hb)
          clear hb
          refine ⟨Hu33_.out, ?_⟩
          refine wpPlan3_do (by rfl) (by rfl) ?_
          go_simp
          go_at_call 4
          refine (CN2.out _).mono ?_
          rintro e u34_ ⟨rfl, hb⟩
          have Hu34_ : Hid (Below w2.heap.size w2 u34_) := Hu33_.out.trans (hb.mono Hu33_.out.size)
          have KF26aaa := Lib.hid (KF26aa.out.keep hb)
          have KF32aa := Lib.hid (KF32a.out.keep hb)
          clear hb
          refine ⟨Hu34_.out, ?_⟩
          refine wpPlan3_nil ?_
          have hne5 : Hid (u26_.heap.size ≠ u0_.heap.size) := by have := HNE.out; show u26_.heap.size ≠ u0_.heap.size; omega
          go_wp2_with (first | (refine wp_boxStore rfl 25 _ _ rfl (u26_.heap.size) _ LX rfl rfl KF32aa.out HA.out.1 hinfo.out.1 HA.out.2.2 ?_; intro w7 k7 hs7 F7) | (refine wp_boxStore rfl 25 _ _ rfl (u0_.heap.size) _ LY rfl rfl (F7.box KF26aaa.out (by simp) (Ne.symm hne5.out)) HBY.out.1 hinfo.out.2.1 HBY.out.2.2 ?_; intro w8 k8 hs8 F8))
          have HEND : Hid (BoxF w8 (u26_.heap.size) LX ∧ BoxF w8 (u0_.heap.size) LY ∧ Below w2.heap.size w2 w8) := ⟨F8.box k7 (by rw [HA.out.1]; decide) hne5.out, k8, (Hu34_.out.trans ((frB_below F7 (by have := HP32.out; omega) Hu34_.out.size).trans (frB_below F8 (by have := HP26.out; omega) (by have := F7.size; have := Hu34_.out.size; omega))))⟩
          clear k7 k8 hs7 hs8 F7 F8
          go_meet
          case rel => exact ⟨u26_.heap.size, u0_.heap.size, rfl, rfl, HEND.out⟩
  case rest =>
    as_aux_lemma =>
      obtain ⟨p5, p6, rfl, rfl, k5, k6, hb5⟩ := hcut
      have H5 := Lib.hid (And.intro (World.rangeAt_of k5) (And.intro (World.rangeAt_of k6) (And.intro k5 (And.intro k6 (HB2.out.1.trans (hb5.mono HB2.out.1.size))))))
      clear k5 k6 hb5
      go_wp2_with (first | (refine wpList_load_mid rfl 25 _ rfl p5 0 rfl LX _ H5.out.1 Tryz.underlying25 rfl hinfo.out.1 ?_) | (refine wpList_load_mid rfl 25 _ rfl p6 0 rfl LY _ H5.out.2.1 Tryz.underlying25 rfl hinfo.out.2.1 ?_))
      refine (CS1.out wc).mono ?_
      rintro e w3 ⟨rfl, hb3⟩
      have b4 := (Below.refl w3.heap.size w3).alloc (Nat.le_refl _) (.cells #[.int .i64 0, .int .i64 0, .int .i64 0, .int .i64 0, .int .i64 0, .int .i64 0, .int .i64 0, .int .i64 0, .int .i64 0, .int .i64 0, .int .i64 0, .int .i64 0, .int .i64 0, .int .i64 0, .int .i64 0, .int .i64 0, .int .i64 0, .int .i64 0, .int .i64 0, .int .i64 0, .int .i64 0, .int .i64 0, .int .i64 0, .int .i64 0, .int .i64 0, .int .i64 0, .int .i64 0, .int .i64 0, .int .i64 0, .int .i64 0, .int .i64 0, .int .i64 0] 25)
      have HZ := Lib.hid (And.intro (boxF_made w3 [.int .i64 0, .int .i64 0, .int .i64 0, .int .i64 0, .int .i64 0, .int .i64 0, .int .i64 0, .int .i64 0, .int .i64 0, .int .i64 0, .int .i64 0, .int .i64 0, .int .i64 0, .int .i64 0, .int .i64 0, .int .i64 0, .int .i64 0, .int .i64 0, .int .i64 0, .int .i64 0, .int .i64 0, .int .i64 0, .int .i64 0, .int .i64 0, .int .i64 0, .int .i64 0, .int .i64 0, .int .i64 0, .int .i64 0, .int .i64 0, .int .i64 0, .int .i64 0] 25) (And.intro b4 hb3))
      have HP5 : Hid (p5 < w3.heap.size ∧ p6 < w3.heap.size) := by
        have h1 := H5.out.2.2.1.lt (by rw [HA.out.1]; decide)
        have h2 := H5.out.2.2.2.1.lt (by rw [HBY.out.1]; decide)
        have := hb3.size
        exact ⟨by omega, by omega⟩
      clear hb3 b4
      go_wp2_with (refine wp_boxStore rfl 25 _ _ rfl w3.heap.size _ LS rfl rfl HZ.out.1 HS.out.1 hinfo.out.2.2 HS.out.2.2 ?_; intro w4 k4 hs4 F4)
      have hb34 : Below w3.heap.size w3 w4 := HZ.out.2.1.trans (frB_below F4 (Nat.le_refl _) HZ.out.2.1.size)
      have hb54 : Below wc.heap.size wc w4 := HZ.out.2.2.trans (hb34.mono HZ.out.2.2.size)
      have H4 := Lib.hid (And.intro k4 (And.intro (H5.out.2.2.1.keep hb54) (And.intro (H5.out.2.2.2.1.keep hb54) (H5.out.2.2.2.2.trans (hb54.mono H5.out.2.2.2.2.size)))))
      clear k4 hs4 F4 hb34 hb54
      go_loopw [8, 16] (fun s i wr => ∃ q : Nat, q ≤ 20 ∧ i = .int .i64 (q : Int) ∧ Below w4.heap.size w4 wr) (fun _ i _ => 20 - (intOf i).toNat)
      case atStart => exact ⟨0, Nat.zero_le _, rfl, Below.refl _ _⟩
      case round =>
        obtain ⟨q, hq, rfl, hbr⟩ := hrel
        by_cases hqt : q < 20
        · have hqI : (q : Int) < 20 := by omega
          have HKQ : Hid (∀ X, Below w4.heap.size w4 X → X.cell? ⟨w3.heap.size, 12 + q, none⟩ = some (.int .i64 (gS nx (12 + q) + gS ny (12 + q))) ∧ X.cell? ⟨p5, 12 + q, none⟩ = some (.int .i64 (gS nx (12 + q))) ∧ X.cell? ⟨p6, 12 + q, none⟩ = some (.int .i64 (gS ny (12 + q)))) := fun X hX => ⟨(H4.out.1.keep hX).1 (12 + q) _ (HS.out.2.1 (12 + q) (by omega)), (H4.out.2.1.keep hX).1 (12 + q) _ (HA.out.2.1 (12 + q) (by omega)), (H4.out.2.2.1.keep hX).1 (12 + q) _ (HBY.out.2.1 (12 + q) (by omega))⟩
          have HD : Hid (Below w4.heap.size w4 wr.drew) := hbr.drew
          clear hbr
          go_wp2_with fail
          refine wp_region_plan [] [(true, 0), (true, 1), (true, 2), (true, 3), (true, 4), (true, 5), (true, 6), (true, 7), (true, 8), (true, 9), (true, 10), (true, 11), (true, 12), (true, 13)] 14 12 (fun X => Below w4.heap.size w4 X) (by kernel_rfl) (by kernel_rfl) (by intro c a t v w h; exact h) HD.out ?_
          simp only [pickB, pickL, List.drop_succ_cons, List.drop_zero, List.head?_cons, Option.toList_some, List.map_cons, List.map_nil, List.cons_append, List.nil_append]
          refine wpHead_nil ?_
          iterate 14 (refine wpPlan_rd _ (by rfl) (by intro W hW; have hk := HKQ.out W hW; have c1 := hk.1; have c2 := hk.2.1; have c3 := hk.2.2; clear hk hW; go_simp; with_reducible rfl) ?_; simp only [Act.put, List.setIfInBounds_toArray, List.set_cons_zero, List.set_cons_succ])
          refine wpPlan_nil ?_
          go_wp2
          go_roundw
          case rel => exact ⟨q + 1, by omega, by go_num, HD.out⟩
          case measure => simp [intOf]; omega
        · as_aux_lemma =>
            obtain rfl : q = 20 := by omega
            have HRR := Lib.hid (And.intro (World.rangeAt_of (H4.out.1.keep hbr)) (And.intro (World.rangeAt_of (H4.out.2.1.keep hbr)) (And.intro (World.rangeAt_of (H4.out.2.2.1.keep hbr)) hbr)))
            clear hbr
            go_wp2_with fail
            have HD9 : Hid (Below w4.heap.size w4 wr.drew) := HRR.out.2.2.2.drew
            have HKW : Hid (∀ X, Below w4.heap.size w4 X → BoxF X w3.heap.size LS ∧ BoxF X p5 LX ∧ BoxF X p6 LY) := fun X hX => ⟨H4.out.1.keep hX, H4.out.2.1.keep hX, H4.out.2.2.1.keep hX⟩
            clear HRR
            refine wp_region_plan [] [(true, 0), (true, 1), (true, 2), (false, 3), (true, 4), (true, 5), (true, 6), (true, 7), (true, 8), (true, 9), (true, 10), (true, 11), (true, 12), (true, 13), (true, 14), (true, 15), (true, 16), (true, 17), (true, 18), (true, 19), (true, 20), (true, 21), (true, 22), (true, 23), (true, 24), (true, 25), (true, 26), (true, 27), (true, 28), (true, 29), (true, 30), (true, 31), (true, 32), (true, 33), (true, 34), (true, 35), (true, 36), (true, 37), (true, 38), (true, 39), (true, 40), (true, 41), (true, 42), (true, 43), (true, 44), (true, 45), (true, 46), (true, 47), (true, 48), (true, 49), (true, 50), (true, 51), (true, 52), (true, 53), (true, 54), (true, 55), (true, 56), (true, 57), (true, 58), (true, 59), (true, 60), (true, 61), (true, 62), (true, 63), (true, 64), (true, 65), (true, 66), (true, 67), (true, 68), (true, 69), (true, 70), (true, 71), (true, 72), (true, 73), (true, 74), (true, 75), (true, 76), (true, 77), (true, 78), (true, 79), (true, 80), (true, 81), (true, 82), (true, 83), (true, 84), (true, 85), (true, 86), (true, 87), (true, 88), (true, 89), (true, 90), (true, 91), (true, 92), (true, 93), (true, 94), (true, 95), (true, 96), (true, 97), (true, 98), (true, 99), (true, 100), (true, 101), (true, 102), (true, 103), (true, 104), (true, 105), (true, 106), (true, 107), (true, 108), (true, 109), (true, 110), (true, 111), (true, 112), (true, 113), (true, 114), (true, 115), (true, 116), (true, 117), (true, 118), (true, 119), (true, 120), (true, 121), (true, 122), (true, 123), (true, 124), (true, 125), (false, 126), (true, 127), (true, 128)] 129 _ (fun X => Below w4.heap.size w4 X) (by kernel_rfl) (regPlanF_ok (rows := rows9) (L' := 2 ^ 129 - 1) (by as_aux_lemma => kernel_rfl)) (by intro c a t v w h; exact h) HD9.out ?_
            simp only [List.append_eq, List.cons_append, List.nil_append, pickB, pickL, List.drop_succ_cons, List.drop_zero, List.head?_cons, Option.toList_some, List.map_cons, List.map_nil]
            refine wpHead_nil ?_
            refine wpPlan_rd (.agg LS.toArray) (by rfl) (by intro W9 hW9; exact exec_ldBox W9 w3.heap.size LS (by rfl) (World.rangeAt_of (HKW.out W9 hW9).1) hinfo.out.2.2) ?_; simp only [Act.put, List.setIfInBounds_toArray, List.set_cons_zero, List.set_cons_succ]
            refine wpPlan_rd (.agg LY.toArray) (by rfl) (by intro W9 hW9; exact exec_ldBox W9 p6 LY (by rfl) (World.rangeAt_of (HKW.out W9 hW9).2.2) hinfo.out.2.1) ?_; simp only [Act.put, List.setIfInBounds_toArray, List.set_cons_zero, List.set_cons_succ]
            refine wpPlan_rd (.agg LX.toArray) (by rfl) (by intro W9 hW9; exact exec_ldBox W9 p5 LX (by rfl) (World.rangeAt_of (HKW.out W9 hW9).2.1) hinfo.out.1) ?_; simp only [Act.put, List.setIfInBounds_toArray, List.set_cons_zero, List.set_cons_succ]
            refine wpPlan_do (by rfl) ?_
            go_simp
            go_at_call 5
            refine (CS2.out _).mono ?_
            rintro e w6 ⟨rfl, hb6⟩
            have H6 : Hid (Below w4.heap.size w4 w6) := HD9.out.trans (hb6.mono HD9.out.size)
            clear hb6
            refine ⟨H6.out, ?_⟩
            refine wpPlan_rd (.bool true) (by rfl) (by intro W9 hW9; go_simp) ?_; simp only [Act.put, List.setIfInBounds_toArray, List.set_cons_zero, List.set_cons_succ]
            refine wpPlan_rd (.bool true) (by rfl) (by intro W9 hW9; go_simp) ?_; simp only [Act.put, List.setIfInBounds_toArray, List.set_cons_zero, List.set_cons_succ]
            as_aux_lemma =>
              iterate 10 (refine wpPlan_rd _ (by rfl) (by intro W9 hW9; have hk := HKW.out W9 hW9; have s := hk.1.1 0 _ (HS.out.2.1 0 (by omega)); have a := hk.2.1.1 0 _ (HA.out.2.1 0 (by omega)); have b := hk.2.2.1 0 _ (HBY.out.2.1 0 (by omega)); clear hk hW9; go_simp; with_reducible rfl) ?_; simp only [Act.put, List.setIfInBounds_toArray, List.set_cons_zero, List.set_cons_succ])
              as_aux_lemma =>
                iterate 10 (refine wpPlan_rd _ (by rfl) (by intro W9 hW9; have hk := HKW.out W9 hW9; have s := hk.1.1 1 _ (HS.out.2.1 1 (by omega)); have a := hk.2.1.1 1 _ (HA.out.2.1 1 (by omega)); have b := hk.2.2.1 1 _ (HBY.out.2.1 1 (by omega)); clear hk hW9; go_simp; with_reducible rfl) ?_; simp only [Act.put, List.setIfInBounds_toArray, List.set_cons_zero, List.set_cons_succ])
                as_aux_lemma =>
                  iterate 10 (refine wpPlan_rd _ (by rfl) (by intro W9 hW9; have hk := HKW.out W9 hW9; have s := hk.1.1 2 _ (HS.out.2.1 2 (by omega)); have a := hk.2.1.1 2 _ (HA.out.2.1 2 (by omega)); have b := hk.2.2.1 2 _ (HBY.out.2.1 2 (by omega)); clear hk hW9; go_simp; with_reducible rfl) ?_; simp only [Act.put, List.setIfInBounds_toArray, List.set_cons_zero, List.set_cons_succ])
                  as_aux_lemma =>
                    iterate 10 (refine wpPlan_rd _ (by rfl) (by intro W9 hW9; have hk := HKW.out W9 hW9; have s := hk.1.1 3 _ (HS.out.2.1 3 (by omega)); have a := hk.2.1.1 3 _ (HA.out.2.1 3 (by omega)); have b := hk.2.2.1 3 _ (HBY.out.2.1 3 (by omega)); clear hk hW9; go_simp; with_reducible rfl) ?_; simp only [Act.put, List.setIfInBounds_toArray, List.set_cons_zero, List.set_cons_succ])
                    as_aux_lemma =>
                      iterate 10 (refine wpPlan_rd _ (by rfl) (by intro W9 hW9; have hk := HKW.out W9 hW9; have s := hk.1.1 4 _ (HS.out.2.1 4 (by omega)); have a := hk.2.1.1 4 _ (HA.out.2.1 4 (by omega)); have b := hk.2.2.1 4 _ (HBY.out.2.1 4 (by omega)); clear hk hW9; go_simp; with_reducible rfl) ?_; simp only [Act.put, List.setIfInBounds_toArray, List.set_cons_zero, List.set_cons_succ])
                      as_aux_lemma =>
                        iterate 10 (refine wpPlan_rd _ (by rfl) (by intro W9 hW9; have hk := HKW.out W9 hW9; have s := hk.1.1 5 _ (HS.out.2.1 5 (by omega)); have a := hk.2.1.1 5 _ (HA.out.2.1 5 (by omega)); have b := hk.2.2.1 5 _ (HBY.out.2.1 5 (by omega)); clear hk hW9; go_simp; with_reducible rfl) ?_; simp only [Act.put, List.setIfInBounds_toArray, List.set_cons_zero, List.set_cons_succ])
                        as_aux_lemma =>
                          iterate 10 (refine wpPlan_rd _ (by rfl) (by intro W9 hW9; have hk := HKW.out W9 hW9; have s := hk.1.1 6 _ (HS.out.2.1 6 (by omega)); have a := hk.2.1.1 6 _ (HA.out.2.1 6 (by omega)); have b := hk.2.2.1 6 _ (HBY.out.2.1 6 (by omega)); clear hk hW9; go_simp; with_reducible rfl) ?_; simp only [Act.put, List.setIfInBounds_toArray, List.set_cons_zero, List.set_cons_succ])
                          as_aux_lemma =>
                            iterate 10 (refine wpPlan_rd _ (by rfl) (by intro W9 hW9; have hk := HKW.out W9 hW9; have s := hk.1.1 7 _ (HS.out.2.1 7 (by omega)); have a := hk.2.1.1 7 _ (HA.out.2.1 7 (by omega)); have b := hk.2.2.1 7 _ (HBY.out.2.1 7 (by omega)); clear hk hW9; go_simp; with_reducible rfl) ?_; simp only [Act.put, List.setIfInBounds_toArray, List.set_cons_zero, List.set_cons_succ])
                            as_aux_lemma =>
                              iterate 10 (refine wpPlan_rd _ (by rfl) (by intro W9 hW9; have hk := HKW.out W9 hW9; have s := hk.1.1 8 _ (HS.out.2.1 8 (by omega)); have a := hk.2.1.1 8 _ (HA.out.2.1 8 (by omega)); have b := hk.2.2.1 8 _ (HBY.out.2.1 8 (by omega)); clear hk hW9; go_simp; with_reducible rfl) ?_; simp only [Act.put, List.setIfInBounds_toArray, List.set_cons_zero, List.set_cons_succ])
                              as_aux_lemma =>
                                iterate 10 (refine wpPlan_rd _ (by rfl) (by intro W9 hW9; have hk := HKW.out W9 hW9; have s := hk.1.1 9 _ (HS.out.2.1 9 (by omega)); have a := hk.2.1.1 9 _ (HA.out.2.1 9 (by omega)); have b := hk.2.2.1 9 _ (HBY.out.2.1 9 (by omega)); clear hk hW9; go_simp; with_reducible rfl) ?_; simp only [Act.put, List.setIfInBounds_toArray, List.set_cons_zero, List.set_cons_succ])
                                as_aux_lemma =>
                                  iterate 10 (refine wpPlan_rd _ (by rfl) (by intro W9 hW9; have hk := HKW.out W9 hW9; have s := hk.1.1 10 _ (HS.out.2.1 10 (by omega)); have a := hk.2.1.1 10 _ (HA.out.2.1 10 (by omega)); have b := hk.2.2.1 10 _ (HBY.out.2.1 10 (by omega)); clear hk hW9; go_simp; with_reducible rfl) ?_; simp only [Act.put, List.setIfInBounds_toArray, List.set_cons_zero, List.set_cons_succ])
                                  as_aux_lemma =>
                                    iterate 10 (refine wpPlan_rd _ (by rfl) (by intro W9 hW9; have hk := HKW.out W9 hW9; have s := hk.1.1 11 _ (HS.out.2.1 11 (by omega)); have a := hk.2.1.1 11 _ (HA.out.2.1 11 (by omega)); have b := hk.2.2.1 11 _ (HBY.out.2.1 11 (by omega)); clear hk hW9; go_simp; with_reducible rfl) ?_; simp only [Act.put, List.setIfInBounds_toArray, List.set_cons_zero, List.set_cons_succ])
                                    as_aux_lemma =>
                                      refine wpPlan_do (by rfl) ?_
                                      go_simp
                                      go_at_call 6
                                      refine (works55 w6 (HB2.out.2.below (H4.out.2.2.2.trans (H6.out.mono H4.out.2.2.2.size)))).mono ?_
                                      rintro e w9 ⟨rfl, hb9⟩
                                      have H9 : Hid (Below w4.heap.size w4 w9) := H6.out.trans (hb9.mono H6.out.size)
                                      clear hb9
                                      refine ⟨H9.out, ?_⟩
                                      iterate 2 (refine wpPlan_rd _ (by rfl) (by intro W9 hW9; clear hW9; go_simp; with_reducible rfl) ?_; simp only [Act.put, List.setIfInBounds_toArray, List.set_cons_zero, List.set_cons_succ])
                                      refine wpPlan_nil ?_
                                      have HF : Hid (Below w.heap.size w w9) := H4.out.2.2.2.trans (H9.out.mono H4.out.2.2.2.size)
                                      go_wp2
                                      go_ret
                                      exact ⟨rfl, HF.out⟩
end Go.Proofs.YteahiphmhaedpaaGreatDoor
