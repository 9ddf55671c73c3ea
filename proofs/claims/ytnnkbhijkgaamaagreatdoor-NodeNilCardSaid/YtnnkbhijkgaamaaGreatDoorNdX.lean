/- The law NodeNil. -/
import Derived.Test.YtnnkbhijkgaamaaGreatDoorNdW
import Derived.Test.YtnnkbhijkgaamaaGreatDoorNdO
import Derived.Test.YtnnkbhijkgaamaaGreatDoorNdN
namespace Go.Proofs.YtnnkbhijkgaamaaGreatDoor
open Go.RowKit Law
set_option linter.unusedVariables false
set_option linter.unusedSimpArgs false
set_option maxRecDepth 100000

theorem nilLedger2 (w : World) : Calls Tryz.prog 9 #[.pointer none] w fun e w' => e = .returned (.tuple #[.agg ledZ.toArray, .bool false]) ∧ Below w.heap.size w w' := nilLedger w
theorem led_stored (w : World) : (storeCells ⟨w.heap.size, 0, none⟩ ledZ).run Tryz.prog (w.alloc (.cells Tryz.zeroCells38 38)) = .ok () ((w.alloc (.cells Tryz.zeroCells38 38)).setCells w.heap.size 0 ledZ) := by
  rw [led_zero]
  exact (boxF_made w ledZ 38).storeN 0 ledZ (by simp) led_one
theorem led_stored2 (w : World) : (storeCells ⟨w.heap.size, 0, none⟩ ledZ.toArray.toList).run Tryz.prog (w.alloc (.cells Tryz.zeroCells38 38)) = .ok () ((w.alloc (.cells Tryz.zeroCells38 38)).setCells w.heap.size 0 ledZ) := led_stored w
set_option maxHeartbeats 12800000 in
theorem walkNNil (x : Int) (w : World) : Calls Tryz.prog 3 #[.int .i64 x] w fun e w' => e = .returned (.bool true) ∧ Below w.heap.size w w' := by
  go_enter Tryz.func3, Tryz.ntmps3
  go_wp2_with fail
  refine (nilAdvance x _).mono ?_
  rintro e w' ⟨rfl, rfl⟩
  go_wp2_with fail
  refine (nilSend _).mono ?_
  rintro e w1 ⟨rfl, hb1⟩
  have hb2 := hb1.trans (((Below.refl w1.heap.size w1).alloc (Nat.le_refl _) (.cells #[.int .i64 0, .int .i64 0, .int .u32 0] 26)).mono hb1.size)
  have HB2 := Lib.hid hb2
  clear hb1 hb2
  go_wp2_with fail
  refine (nilReceive _).mono ?_
  rintro e w' ⟨rfl, rfl⟩
  go_wp2_with fail
  refine (nilNow _).mono ?_
  rintro e w' ⟨rfl, rfl⟩
  go_wp2_with fail
  refine (nilSince _).mono ?_
  rintro e w' ⟨rfl, rfl⟩
  go_wp2_with fail
  refine (nilLedger2 _).mono ?_
  rintro e w3 ⟨rfl, hb3⟩
  have hs1 := led_stored w3
  have hs2 := led_stored2 w3
  have hb4 : Below w3.heap.size w3 ((w3.alloc (.cells Tryz.zeroCells38 38)).setCells w3.heap.size 0 ledZ) := setCells_below (Nat.le_refl _) _ _ _ _ ((Below.refl _ _).alloc (Nat.le_refl _) _)
  obtain ⟨w4, hw4⟩ : ∃ w4, (w3.alloc (.cells Tryz.zeroCells38 38)).setCells w3.heap.size 0 ledZ = w4 := ⟨_, rfl⟩
  rw [hw4] at hs1 hs2 hb4
  have hB3 := HB2.out.trans (hb3.mono HB2.out.size)
  have HB4 := Lib.hid (hB3.trans (hb4.mono hB3.size))
  have heq : ∀ W, (binOp .eql 48 (.agg #[.int .i64 0, .int .i64 0, .int .i64 0, .int .i64 0]) (.agg #[.int .i64 0, .int .i64 0, .int .i64 0, .int .i64 0])).run Tryz.prog W = .ok (.bool true) W := fun W => by kernel_rfl
  clear hb3 hb4 hB3 hw4
  go_wp2_with fail
  refine (nilBoot _).mono ?_
  rintro e w' ⟨rfl, rfl⟩
  go_wp2_with fail
  refine (nilStep _).mono ?_
  rintro e w' ⟨rfl, rfl⟩
  go_wp2_with fail
  refine (nilJoin _).mono ?_
  rintro e w' ⟨rfl, rfl⟩
  go_wp2_with fail
  refine (nilLeave _).mono ?_
  rintro e w' ⟨rfl, rfl⟩
  go_wp2_with fail
  refine (nilPhase _).mono ?_
  rintro e w' ⟨rfl, rfl⟩
  go_wp2_with fail
  refine (nilState _).mono ?_
  rintro e w' ⟨rfl, rfl⟩
  go_wp2_with fail
  refine (nilLog _).mono ?_
  rintro e w' ⟨rfl, rfl⟩
  go_wp2_with fail
  refine (nilViews _).mono ?_
  rintro e w' ⟨rfl, rfl⟩
  go_wp2_with fail
  refine (nilSizes _).mono ?_
  rintro e w5 ⟨rfl, hb5⟩
  have HB5 := Lib.hid (HB4.out.trans (hb5.mono HB4.out.size))
  clear hb5
  go_wp2_with fail
  refine (nilRefused _).mono ?_
  rintro e w' ⟨rfl, rfl⟩
  go_wp2_with fail
  refine (nilEvents _).mono ?_
  rintro e w' ⟨rfl, rfl⟩
  go_wp2_with fail
  refine (works44 _).mono ?_
  rintro e w6 ⟨rfl, hb6⟩
  have HB6 := Lib.hid (HB5.out.trans (hb6.mono HB5.out.size))
  clear hb6
  go_wp2
  go_ret
  exact ⟨rfl, HB6.out⟩
end Go.Proofs.YtnnkbhijkgaamaaGreatDoor
