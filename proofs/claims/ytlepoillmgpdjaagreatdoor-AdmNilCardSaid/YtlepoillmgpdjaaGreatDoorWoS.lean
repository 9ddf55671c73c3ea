/- Of a cluster that is nil nothing is fine: the law's walk. -/
import Derived.Test.YtlepoillmgpdjaaGreatDoorWoR
import Derived.Test.YtlepoillmgpdjaaGreatDoorCfgJ
namespace Go.Proofs.YtlepoillmgpdjaaGreatDoor
open Go.RowKit Law
set_option linter.unusedVariables false
set_option linter.unusedSimpArgs false
set_option maxRecDepth 100000

set_option maxHeartbeats 3200000 in
theorem walkAdmNil (c : Cn) (A1 : Option Addr) (l k : Nat) (w : World) (hT : T64 w) :
    Calls Tryz.prog 3 #[.agg (c.cells A1 l k).toArray] w fun e w' => e = .returned (.bool true) ∧ Below w.heap.size w w' := by
  have HD := Lib.hid (fun W => admDynNil c A1 l k W)
  obtain ⟨n, f, dmin, dmax, rho, slew, round, window, attend, seen, hist, fly, quota, body⟩ := c
  simp only [Cn.cells] at HD ⊢
  have b1 := (Below.refl w.heap.size w).alloc (Nat.le_refl _) (.cells #[.int .i64 n, .slice A1 l k, .int .i64 f, .int .i64 dmin, .int .i64 dmax, .int .i64 rho, .int .i64 slew, .int .i64 round, .int .i64 window, .int .i64 attend, .int .i64 seen, .int .i64 hist, .int .i64 fly, .int .i64 quota, .int .i64 body] 24)
  have k1 := boxF_made w [.int .i64 n, .slice A1 l k, .int .i64 f, .int .i64 dmin, .int .i64 dmax, .int .i64 rho, .int .i64 slew, .int .i64 round, .int .i64 window, .int .i64 attend, .int .i64 seen, .int .i64 hist, .int .i64 fly, .int .i64 quota, .int .i64 body] 24
  obtain ⟨w1, hw1⟩ : ∃ w1, w.alloc (.cells #[.int .i64 n, .slice A1 l k, .int .i64 f, .int .i64 dmin, .int .i64 dmax, .int .i64 rho, .int .i64 slew, .int .i64 round, .int .i64 window, .int .i64 attend, .int .i64 seen, .int .i64 hist, .int .i64 fly, .int .i64 quota, .int .i64 body] 24) = w1 := ⟨_, rfl⟩
  rw [hw1] at b1
  replace k1 : BoxF w1 w.heap.size [.int .i64 n, .slice A1 l k, .int .i64 f, .int .i64 dmin, .int .i64 dmax, .int .i64 rho, .int .i64 slew, .int .i64 round, .int .i64 window, .int .i64 attend, .int .i64 seen, .int .i64 hist, .int .i64 fly, .int .i64 quota, .int .i64 body] := hw1 ▸ k1
  have d0_ := k1.1 0 _ rfl
  have d1_ := k1.1 1 _ rfl
  have d2_ := k1.1 2 _ rfl
  have d3_ := k1.1 3 _ rfl
  have d4_ := k1.1 4 _ rfl
  have d5_ := k1.1 5 _ rfl
  have d6_ := k1.1 6 _ rfl
  have d7_ := k1.1 7 _ rfl
  have d8_ := k1.1 8 _ rfl
  have d9_ := k1.1 9 _ rfl
  have d10_ := k1.1 10 _ rfl
  have d11_ := k1.1 11 _ rfl
  have d12_ := k1.1 12 _ rfl
  have d13_ := k1.1 13 _ rfl
  have d14_ := k1.1 14 _ rfl
  have HB := Lib.hid (And.intro b1 hT)
  clear k1 b1 hT
  go_enter Tryz.func3, Tryz.ntmps3
  go_wp2_with fail
  refine (HD.out w1).mono ?_
  rintro e w2 ⟨rfl, hb2⟩
  have H2 : Hid (Below w.heap.size w w2) := HB.out.1.trans (hb2.mono HB.out.1.size)
  clear hb2 hw1 d0_ d1_ d2_ d3_ d4_ d5_ d6_ d7_ d8_ d9_ d10_ d11_ d12_ d13_ d14_
  go_wp2_with fail
  refine (works51 w2 (HB.out.2.below H2.out)).mono ?_
  rintro e w3 ⟨rfl, hb3⟩
  have HF : Hid (Below w.heap.size w w3) := H2.out.trans (hb3.mono H2.out.size)
  clear hb3
  go_wp2
  go_ret
  exact ⟨rfl, HF.out⟩
end Go.Proofs.YtlepoillmgpdjaaGreatDoor
