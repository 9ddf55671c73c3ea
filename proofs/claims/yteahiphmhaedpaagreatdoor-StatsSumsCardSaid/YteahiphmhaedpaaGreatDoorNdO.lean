/- A node that is nil has no ledger. -/
import Derived.Test.YteahiphmhaedpaaGreatDoorNdI
import Derived.Test.YteahiphmhaedpaaGreatDoorNdP
import Derived.Deep.MidRow
namespace Go.Proofs.YteahiphmhaedpaaGreatDoor
open Go.RowKit Law
set_option linter.unusedVariables false
set_option linter.unusedSimpArgs false
set_option maxRecDepth 100000

theorem led_zero : Tryz.zeroCells152 = ledZ.toArray := by kernel_rfl
theorem led_info : (Tryz.prog.info? 152).map (·.size) = some ledZ.length := by kernel_rfl
theorem led_one : ∀ v ∈ ledZ, v.oneCell' = true := by
  intro v hv
  simp [ledZ, List.mem_replicate] at hv
  rcases hv with rfl | rfl | rfl <;> rfl
theorem putL_self : ∀ (vs a : List Value), putL (a ++ vs) a.length vs = a ++ vs
  | [], _ => rfl
  | v :: r, a => by
    have h := putL_self r (a ++ [v])
    simp only [List.length_append, List.length_cons, List.length_nil, List.append_assoc, List.cons_append, List.nil_append] at h
    unfold putL
    rw [List.set_append_right _ _ (Nat.le_refl _)]
    simpa using h
theorem nilLedger (w : World) : Calls Tryz.prog 361 #[.pointer none] w fun e w' => e = .returned (.tuple #[.agg ledZ.toArray, .bool false]) ∧ Below w.heap.size w w' := by
  have z := boxF_made w ledZ 152
  have hst := z.storeN 0 ledZ (by simp) led_one
  have z2 := BoxF.puts ledZ 0 z (by simp)
  rw [show putL ledZ 0 ledZ = ledZ from putL_self ledZ []] at z2
  have hb : Below w.heap.size w ((w.alloc (.cells ledZ.toArray 152)).setCells w.heap.size 0 ledZ) := setCells_below (Nat.le_refl _) _ _ _ _ ((Below.refl _ _).alloc (Nat.le_refl _) _)
  obtain ⟨w2, hw2⟩ : ∃ w2, (w.alloc (.cells ledZ.toArray 152)).setCells w.heap.size 0 ledZ = w2 := ⟨_, rfl⟩
  rw [hw2] at hst z2 hb
  have hst : ∀ A, A = Tryz.zeroCells152 → (storeCells ⟨w.heap.size, 0, none⟩ A.toList).run Tryz.prog (w.alloc (.cells A 152)) = .ok () w2 := fun A hA => by rw [hA, led_zero]; exact hst
  have hst := hst _ rfl
  have hld : (loadVar 152 ⟨w.heap.size, 0, none⟩).run Tryz.prog w2 = .ok (.agg ledZ.toArray) w2 :=
    run_loadVar_mid w2 w.heap.size 0 152 ledZ _ (fun j v hj => by rw [Nat.zero_add]; exact z2.1 j v hj) Tryz.underlying152 rfl led_info
  have HB := Lib.hid hb
  clear z z2 hb hw2
  go_enter Tryz.func361, Tryz.ntmps361
  go_wp2
  refine bodyPost_ret (v := .tuple #[.agg ledZ.toArray, .bool false]) (by simp [results, Tryz.results361, asAddr, hld]) rfl ⟨rfl, HB.out⟩
end Go.Proofs.YteahiphmhaedpaaGreatDoor
