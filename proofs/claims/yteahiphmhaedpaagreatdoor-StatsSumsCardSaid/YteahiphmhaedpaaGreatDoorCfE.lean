/- bound.Enough: are periods wide enough? -/
import Derived.Test.YteahiphmhaedpaaGreatDoorCfD
namespace Go.Proofs.YteahiphmhaedpaaGreatDoor
open Go.RowKit Law
set_option linter.unusedVariables false
set_option linter.unusedSimpArgs false
set_option maxRecDepth 100000

def enoughB (c : Cn) : Bool := goodC c && (decide (2 * bRough c + bEps c + bHops c * bLink c + 4 * bFast c ≤ c.window) && (decide (4 * c.window ≤ c.round) && (decide (bMost c ≤ slI c.slew c.round c.window (bFast c)) && decide (2 * bDelta c ≤ c.attend))))
set_option maxHeartbeats 1600000 in
theorem boundEnough0 (c : Cn) (hg : goodC c = false) (A : Option Addr) (l k : Nat) (w : World) : Calls Tryz.prog 58 #[.agg (c.cells A l k).toArray] w fun e w' => e = .returned (.bool (enoughB c)) ∧ Below w.heap.size w w' := by
  have HE : Hid (enoughB c = false) := by unfold Hid enoughB; rw [hg]; rfl
  have CO := Lib.hid (fun W => boundOfBad c hg A l k W)
  obtain ⟨n, f, dmin, dmax, rho, slew, round, window, attend, seen, hist, fly, quota, body⟩ := c
  have k0 := (Below.refl w.heap.size w).alloc (Nat.le_refl _) (.cells #[.int .i64 n, .slice A l k, .int .i64 f, .int .i64 dmin, .int .i64 dmax, .int .i64 rho, .int .i64 slew, .int .i64 round, .int .i64 window, .int .i64 attend, .int .i64 seen, .int .i64 hist, .int .i64 fly, .int .i64 quota, .int .i64 body] 32)
  have HK := Lib.hid k0
  clear hg k0
  go_enter Tryz.func58, Tryz.ntmps58
  go_wp2_with fail
  refine (CO.out _).mono ?_
  rintro e w1 ⟨rfl, hq⟩
  have HB := Lib.hid ((HK.out.trans (hq.mono HK.out.size)).alloc (HK.out.trans (hq.mono HK.out.size)).size (.cells zero14.toArray 101))
  clear hq
  go_wp2
  go_ret
  exact ⟨ret_bool (by rw [HE.out]), HB.out⟩
set_option maxHeartbeats 6400000 in
theorem boundEnough1 (c : Cn) (hg : goodC c = true) (c1 : c.window < 2 * bRough c + bEps c + bHops c * bLink c + 4 * bFast c) (A : Option Addr) (l k : Nat) (w : World) : Calls Tryz.prog 58 #[.agg (c.cells A l k).toArray] w fun e w' => e = .returned (.bool (enoughB c)) ∧ Below w.heap.size w w' := by
  have HG := bd_ok hg
  have CO := fun W => boundOf c hg A l k W
  unfold OfPost bCells at CO
  obtain ⟨n0, n1, d0, d1, d2, ⟨r0, r1, s0, s1⟩, ⟨a0, a1⟩, ⟨b0, b1⟩, ⟨g0, g1⟩⟩ := goodC_iff.1 hg
  have HE : Hid (enoughB c = (decide (2 * bRough c + bEps c + bHops c * bLink c + 4 * bFast c ≤ c.window) && (decide (4 * c.window ≤ c.round) && (decide (bMost c ≤ slI c.slew c.round c.window (bFast c)) && decide (2 * bDelta c ≤ c.attend))))) := by unfold Hid enoughB; rw [hg]; rfl
  obtain ⟨x0_hops, x1_hops⟩ := HG.hops
  obtain ⟨x0_fast, x1_fast⟩ := HG.fast
  obtain ⟨x0_link, x1_link⟩ := HG.link
  obtain ⟨x0_eps, x1_eps⟩ := HG.eps
  obtain ⟨x0_most, x1_most⟩ := HG.most
  obtain ⟨x0_rough, x1_rough⟩ := HG.rough
  obtain ⟨x0_delta, x1_delta⟩ := HG.delta
  have CF := fun W => boundFar (bHops c) (bFast c) (bSlow c) (bLink c) (bRead c) (bAgree c) (bStart c) (bEps c) (bMost c) (bCold c) (bRough c) (bDelta c) (bDown c) (bJoin c) ⟨by omega, by omega⟩ ⟨by omega, by omega⟩ W
  have hp := mul_bd (a := bHops c) (A := 63) (b := bLink c) (B := 86016) (by omega) (by omega) (by omega) (by omega)
  clear HG hg
  generalize bHops c = hops at *
  generalize bFast c = fast at *
  generalize bSlow c = slow at *
  generalize bLink c = link at *
  generalize bRead c = read at *
  generalize bAgree c = agree at *
  generalize bStart c = start at *
  generalize bEps c = eps at *
  generalize bMost c = most at *
  generalize bCold c = cold at *
  generalize bRough c = rough at *
  generalize bDelta c = delta at *
  generalize bDown c = down at *
  generalize bJoin c = join at *
  generalize enoughB c = EB at *
  obtain ⟨n, f, dmin, dmax, rho, slew, round, window, attend, seen, hist, fly, quota, body⟩ := c
  simp only at *
  generalize slI slew round window fast = sl at *
  obtain ⟨p, hpp⟩ : ∃ p, hops * link = p := ⟨_, rfl⟩
  simp only [hpp] at CF hp HE c1
  obtain ⟨p0, p1⟩ := hp
  clear hpp
  have HCO := Lib.hid CO
  clear CO
  have HCF := Lib.hid CF
  clear CF
  have k0 := boxF_made w [.int .i64 n, .slice A l k, .int .i64 f, .int .i64 dmin, .int .i64 dmax, .int .i64 rho, .int .i64 slew, .int .i64 round, .int .i64 window, .int .i64 attend, .int .i64 seen, .int .i64 hist, .int .i64 fly, .int .i64 quota, .int .i64 body] 32
  have k1 := (Below.refl w.heap.size w).alloc (Nat.le_refl _) (.cells #[.int .i64 n, .slice A l k, .int .i64 f, .int .i64 dmin, .int .i64 dmax, .int .i64 rho, .int .i64 slew, .int .i64 round, .int .i64 window, .int .i64 attend, .int .i64 seen, .int .i64 hist, .int .i64 fly, .int .i64 quota, .int .i64 body] 32)
  have HK := Lib.hid (And.intro k0 k1)
  clear k0 k1
  have HV : Hid (EB = false) := by unfold Hid; rw [HE.out, decide_eq_false (by omega)]; rfl
  go_enter Tryz.func58, Tryz.ntmps58
  go_wp2_with fail
  refine (HCO.out _).mono ?_
  rintro e w1 ⟨rfl, hq⟩
  obtain ⟨W2, hW2⟩ : ∃ W2, w1.alloc (.cells #[.int .i64 hops, .int .i64 fast, .int .i64 slow, .int .i64 link, .int .i64 read, .int .i64 agree, .int .i64 start, .int .i64 eps, .int .i64 most, .int .i64 cold, .int .i64 rough, .int .i64 delta, .int .i64 down, .int .i64 join] 101) = W2 := ⟨_, rfl⟩
  have hb2 : Below w1.heap.size w1 W2 := by rw [← hW2]; exact (Below.refl _ _).alloc (Nat.le_refl _) _
  have hbx : BoxF W2 w1.heap.size [.int .i64 hops, .int .i64 fast, .int .i64 slow, .int .i64 link, .int .i64 read, .int .i64 agree, .int .i64 start, .int .i64 eps, .int .i64 most, .int .i64 cold, .int .i64 rough, .int .i64 delta, .int .i64 down, .int .i64 join] := by rw [← hW2]; exact boxF_made _ _ _
  have hcf := (HK.out.1.keep hq).keep hb2
  have hbel := (HK.out.2.trans (hq.mono HK.out.2.size)).trans (hb2.mono (HK.out.2.trans (hq.mono HK.out.2.size)).size)
  have HX := Lib.hid (And.intro hbx (And.intro hcf hbel))
  clear hq hb2 hbx hcf hbel
  go_wp2_with fail
  have HX2 := HX
  have q8 := fun U : Later W2 => (HX.out.2.1.keep U.h).1 8 _ rfl
  have p0' := fun U : Later W2 => (HX.out.1.keep U.h).1 0 _ rfl
  have p1' := fun U : Later W2 => (HX.out.1.keep U.h).1 1 _ rfl
  have p2 := fun U : Later W2 => (HX.out.1.keep U.h).1 2 _ rfl
  have p3 := fun U : Later W2 => (HX.out.1.keep U.h).1 3 _ rfl
  have p4 := fun U : Later W2 => (HX.out.1.keep U.h).1 4 _ rfl
  have p5 := fun U : Later W2 => (HX.out.1.keep U.h).1 5 _ rfl
  have p6 := fun U : Later W2 => (HX.out.1.keep U.h).1 6 _ rfl
  have p7 := fun U : Later W2 => (HX.out.1.keep U.h).1 7 _ rfl
  have p8 := fun U : Later W2 => (HX.out.1.keep U.h).1 8 _ rfl
  have p9 := fun U : Later W2 => (HX.out.1.keep U.h).1 9 _ rfl
  have p10 := fun U : Later W2 => (HX.out.1.keep U.h).1 10 _ rfl
  have p11 := fun U : Later W2 => (HX.out.1.keep U.h).1 11 _ rfl
  have p12 := fun U : Later W2 => (HX.out.1.keep U.h).1 12 _ rfl
  have p13 := fun U : Later W2 => (HX.out.1.keep U.h).1 13 _ rfl
  have z0 : IntKind.i64.wrap (2 * rough) = 2 * rough := IntWalk.i64_in _ (by omega)
  have z1 : IntKind.i64.wrap (2 * rough + eps) = 2 * rough + eps := IntWalk.i64_in _ (by omega)
  have z2 : IntKind.i64.wrap (2 * rough + eps + p) = 2 * rough + eps + p := IntWalk.i64_in _ (by omega)
  have z3 : IntKind.i64.wrap (4 * fast) = 4 * fast := IntWalk.i64_in _ (by omega)
  have z4 : IntKind.i64.wrap (2 * rough + eps + p + 4 * fast) = 2 * rough + eps + p + 4 * fast := IntWalk.i64_in _ (by omega)
  refine wp_region_later (by kernel_rfl) (by kernel_rfl) ?_
  repeat (go_big_quiet_step (exact later_of (HCF.out _)))
  refine wpQuiet_nil ?_
  rintro W4 ⟨⟨W4_, hb4⟩, rfl⟩
  try dsimp only
  clear q8 p0' p1' p2 p3 p4 p5 p6 p7 p8 p9 p10 p11 p12 p13 z0 z1 z2 z3 z4
  have HF := Lib.hid (HX.out.2.2.trans (hb4.mono HX.out.2.2.size))
  clear hb4
  go_wp2
  go_ret
  exact ⟨ret_bool (by rw [HV.out]), HF.out⟩
set_option maxHeartbeats 6400000 in
theorem boundEnough2 (c : Cn) (hg : goodC c = true) (c1 : 2 * bRough c + bEps c + bHops c * bLink c + 4 * bFast c ≤ c.window) (c2 : c.round < 4 * c.window) (A : Option Addr) (l k : Nat) (w : World) : Calls Tryz.prog 58 #[.agg (c.cells A l k).toArray] w fun e w' => e = .returned (.bool (enoughB c)) ∧ Below w.heap.size w w' := by
  have HG := bd_ok hg
  have CO := fun W => boundOf c hg A l k W
  unfold OfPost bCells at CO
  obtain ⟨n0, n1, d0, d1, d2, ⟨r0, r1, s0, s1⟩, ⟨a0, a1⟩, ⟨b0, b1⟩, ⟨g0, g1⟩⟩ := goodC_iff.1 hg
  have HE : Hid (enoughB c = (decide (2 * bRough c + bEps c + bHops c * bLink c + 4 * bFast c ≤ c.window) && (decide (4 * c.window ≤ c.round) && (decide (bMost c ≤ slI c.slew c.round c.window (bFast c)) && decide (2 * bDelta c ≤ c.attend))))) := by unfold Hid enoughB; rw [hg]; rfl
  obtain ⟨x0_hops, x1_hops⟩ := HG.hops
  obtain ⟨x0_fast, x1_fast⟩ := HG.fast
  obtain ⟨x0_link, x1_link⟩ := HG.link
  obtain ⟨x0_eps, x1_eps⟩ := HG.eps
  obtain ⟨x0_most, x1_most⟩ := HG.most
  obtain ⟨x0_rough, x1_rough⟩ := HG.rough
  obtain ⟨x0_delta, x1_delta⟩ := HG.delta
  have CF := fun W => boundFar (bHops c) (bFast c) (bSlow c) (bLink c) (bRead c) (bAgree c) (bStart c) (bEps c) (bMost c) (bCold c) (bRough c) (bDelta c) (bDown c) (bJoin c) ⟨by omega, by omega⟩ ⟨by omega, by omega⟩ W
  have hp := mul_bd (a := bHops c) (A := 63) (b := bLink c) (B := 86016) (by omega) (by omega) (by omega) (by omega)
  clear HG hg
  generalize bHops c = hops at *
  generalize bFast c = fast at *
  generalize bSlow c = slow at *
  generalize bLink c = link at *
  generalize bRead c = read at *
  generalize bAgree c = agree at *
  generalize bStart c = start at *
  generalize bEps c = eps at *
  generalize bMost c = most at *
  generalize bCold c = cold at *
  generalize bRough c = rough at *
  generalize bDelta c = delta at *
  generalize bDown c = down at *
  generalize bJoin c = join at *
  generalize enoughB c = EB at *
  obtain ⟨n, f, dmin, dmax, rho, slew, round, window, attend, seen, hist, fly, quota, body⟩ := c
  simp only at *
  generalize slI slew round window fast = sl at *
  obtain ⟨p, hpp⟩ : ∃ p, hops * link = p := ⟨_, rfl⟩
  simp only [hpp] at CF hp HE c1
  obtain ⟨p0, p1⟩ := hp
  clear hpp
  have HCO := Lib.hid CO
  clear CO
  have HCF := Lib.hid CF
  clear CF
  have k0 := boxF_made w [.int .i64 n, .slice A l k, .int .i64 f, .int .i64 dmin, .int .i64 dmax, .int .i64 rho, .int .i64 slew, .int .i64 round, .int .i64 window, .int .i64 attend, .int .i64 seen, .int .i64 hist, .int .i64 fly, .int .i64 quota, .int .i64 body] 32
  have k1 := (Below.refl w.heap.size w).alloc (Nat.le_refl _) (.cells #[.int .i64 n, .slice A l k, .int .i64 f, .int .i64 dmin, .int .i64 dmax, .int .i64 rho, .int .i64 slew, .int .i64 round, .int .i64 window, .int .i64 attend, .int .i64 seen, .int .i64 hist, .int .i64 fly, .int .i64 quota, .int .i64 body] 32)
  have HK := Lib.hid (And.intro k0 k1)
  clear k0 k1
  have HV : Hid (EB = false) := by unfold Hid; rw [HE.out, decide_eq_false (p := 4 * window ≤ round) (by omega)]; simp
  go_enter Tryz.func58, Tryz.ntmps58
  go_wp2_with fail
  refine (HCO.out _).mono ?_
  rintro e w1 ⟨rfl, hq⟩
  obtain ⟨W2, hW2⟩ : ∃ W2, w1.alloc (.cells #[.int .i64 hops, .int .i64 fast, .int .i64 slow, .int .i64 link, .int .i64 read, .int .i64 agree, .int .i64 start, .int .i64 eps, .int .i64 most, .int .i64 cold, .int .i64 rough, .int .i64 delta, .int .i64 down, .int .i64 join] 101) = W2 := ⟨_, rfl⟩
  have hb2 : Below w1.heap.size w1 W2 := by rw [← hW2]; exact (Below.refl _ _).alloc (Nat.le_refl _) _
  have hbx : BoxF W2 w1.heap.size [.int .i64 hops, .int .i64 fast, .int .i64 slow, .int .i64 link, .int .i64 read, .int .i64 agree, .int .i64 start, .int .i64 eps, .int .i64 most, .int .i64 cold, .int .i64 rough, .int .i64 delta, .int .i64 down, .int .i64 join] := by rw [← hW2]; exact boxF_made _ _ _
  have hcf := (HK.out.1.keep hq).keep hb2
  have hbel := (HK.out.2.trans (hq.mono HK.out.2.size)).trans (hb2.mono (HK.out.2.trans (hq.mono HK.out.2.size)).size)
  have HX := Lib.hid (And.intro hbx (And.intro hcf hbel))
  clear hq hb2 hbx hcf hbel
  go_wp2_with fail
  have HX2 := HX
  have q8 := fun U : Later W2 => (HX.out.2.1.keep U.h).1 8 _ rfl
  have p0' := fun U : Later W2 => (HX.out.1.keep U.h).1 0 _ rfl
  have p1' := fun U : Later W2 => (HX.out.1.keep U.h).1 1 _ rfl
  have p2 := fun U : Later W2 => (HX.out.1.keep U.h).1 2 _ rfl
  have p3 := fun U : Later W2 => (HX.out.1.keep U.h).1 3 _ rfl
  have p4 := fun U : Later W2 => (HX.out.1.keep U.h).1 4 _ rfl
  have p5 := fun U : Later W2 => (HX.out.1.keep U.h).1 5 _ rfl
  have p6 := fun U : Later W2 => (HX.out.1.keep U.h).1 6 _ rfl
  have p7 := fun U : Later W2 => (HX.out.1.keep U.h).1 7 _ rfl
  have p8 := fun U : Later W2 => (HX.out.1.keep U.h).1 8 _ rfl
  have p9 := fun U : Later W2 => (HX.out.1.keep U.h).1 9 _ rfl
  have p10 := fun U : Later W2 => (HX.out.1.keep U.h).1 10 _ rfl
  have p11 := fun U : Later W2 => (HX.out.1.keep U.h).1 11 _ rfl
  have p12 := fun U : Later W2 => (HX.out.1.keep U.h).1 12 _ rfl
  have p13 := fun U : Later W2 => (HX.out.1.keep U.h).1 13 _ rfl
  have z0 : IntKind.i64.wrap (2 * rough) = 2 * rough := IntWalk.i64_in _ (by omega)
  have z1 : IntKind.i64.wrap (2 * rough + eps) = 2 * rough + eps := IntWalk.i64_in _ (by omega)
  have z2 : IntKind.i64.wrap (2 * rough + eps + p) = 2 * rough + eps + p := IntWalk.i64_in _ (by omega)
  have z3 : IntKind.i64.wrap (4 * fast) = 4 * fast := IntWalk.i64_in _ (by omega)
  have z4 : IntKind.i64.wrap (2 * rough + eps + p + 4 * fast) = 2 * rough + eps + p + 4 * fast := IntWalk.i64_in _ (by omega)
  refine wp_region_later (by kernel_rfl) (by kernel_rfl) ?_
  repeat (go_big_quiet_step (exact later_of (HCF.out _)))
  refine wpQuiet_nil ?_
  rintro W4 ⟨⟨W4_, hb4⟩, rfl⟩
  try dsimp only
  clear q8 p0' p1' p2 p3 p4 p5 p6 p7 p8 p9 p10 p11 p12 p13 z0 z1 z2 z3 z4
  have HX4 := Lib.hid (And.intro (HX.out.1.keep hb4) (And.intro (HX.out.2.1.keep hb4) (HX.out.2.2.trans (hb4.mono HX.out.2.2.size))))
  clear hb4
  have q7 := HX4.out.2.1.1 7 _ rfl
  have q8 := HX4.out.2.1.1 8 _ rfl
  have HF := Lib.hid HX4.out.2.2
  go_wp2
  go_ret
  exact ⟨ret_bool (by rw [HV.out]), HF.out⟩
set_option maxHeartbeats 6400000 in
theorem boundEnough3 (c : Cn) (hg : goodC c = true) (c1 : 2 * bRough c + bEps c + bHops c * bLink c + 4 * bFast c ≤ c.window) (c2 : 4 * c.window ≤ c.round) (c3 : slI c.slew c.round c.window (bFast c) < bMost c) (A : Option Addr) (l k : Nat) (w : World) : Calls Tryz.prog 58 #[.agg (c.cells A l k).toArray] w fun e w' => e = .returned (.bool (enoughB c)) ∧ Below w.heap.size w w' := by
  have HG := bd_ok hg
  have CO := fun W => boundOf c hg A l k W
  unfold OfPost bCells at CO
  obtain ⟨n0, n1, d0, d1, d2, ⟨r0, r1, s0, s1⟩, ⟨a0, a1⟩, ⟨b0, b1⟩, ⟨g0, g1⟩⟩ := goodC_iff.1 hg
  have HE : Hid (enoughB c = (decide (2 * bRough c + bEps c + bHops c * bLink c + 4 * bFast c ≤ c.window) && (decide (4 * c.window ≤ c.round) && (decide (bMost c ≤ slI c.slew c.round c.window (bFast c)) && decide (2 * bDelta c ≤ c.attend))))) := by unfold Hid enoughB; rw [hg]; rfl
  obtain ⟨x0_hops, x1_hops⟩ := HG.hops
  obtain ⟨x0_fast, x1_fast⟩ := HG.fast
  obtain ⟨x0_link, x1_link⟩ := HG.link
  obtain ⟨x0_eps, x1_eps⟩ := HG.eps
  obtain ⟨x0_most, x1_most⟩ := HG.most
  obtain ⟨x0_rough, x1_rough⟩ := HG.rough
  obtain ⟨x0_delta, x1_delta⟩ := HG.delta
  have CL := fun W => boundSlewed (bHops c) (bFast c) (bSlow c) (bLink c) (bRead c) (bAgree c) (bStart c) (bEps c) (bMost c) (bCold c) (bRough c) (bDelta c) (bDown c) (bJoin c) c A l k ⟨by omega, by omega⟩ ⟨by omega, by omega⟩ ⟨by omega, by omega⟩ ⟨by omega, by omega⟩ (by omega) W
  have CF := fun W => boundFar (bHops c) (bFast c) (bSlow c) (bLink c) (bRead c) (bAgree c) (bStart c) (bEps c) (bMost c) (bCold c) (bRough c) (bDelta c) (bDown c) (bJoin c) ⟨by omega, by omega⟩ ⟨by omega, by omega⟩ W
  have hp := mul_bd (a := bHops c) (A := 63) (b := bLink c) (B := 86016) (by omega) (by omega) (by omega) (by omega)
  clear HG hg
  generalize bHops c = hops at *
  generalize bFast c = fast at *
  generalize bSlow c = slow at *
  generalize bLink c = link at *
  generalize bRead c = read at *
  generalize bAgree c = agree at *
  generalize bStart c = start at *
  generalize bEps c = eps at *
  generalize bMost c = most at *
  generalize bCold c = cold at *
  generalize bRough c = rough at *
  generalize bDelta c = delta at *
  generalize bDown c = down at *
  generalize bJoin c = join at *
  generalize enoughB c = EB at *
  obtain ⟨n, f, dmin, dmax, rho, slew, round, window, attend, seen, hist, fly, quota, body⟩ := c
  simp only at *
  generalize slI slew round window fast = sl at *
  obtain ⟨p, hpp⟩ : ∃ p, hops * link = p := ⟨_, rfl⟩
  simp only [hpp] at CF hp HE c1
  obtain ⟨p0, p1⟩ := hp
  clear hpp
  have HCO := Lib.hid CO
  clear CO
  have HCF := Lib.hid CF
  clear CF
  have HCL := Lib.hid CL
  clear CL
  have k0 := boxF_made w [.int .i64 n, .slice A l k, .int .i64 f, .int .i64 dmin, .int .i64 dmax, .int .i64 rho, .int .i64 slew, .int .i64 round, .int .i64 window, .int .i64 attend, .int .i64 seen, .int .i64 hist, .int .i64 fly, .int .i64 quota, .int .i64 body] 32
  have k1 := (Below.refl w.heap.size w).alloc (Nat.le_refl _) (.cells #[.int .i64 n, .slice A l k, .int .i64 f, .int .i64 dmin, .int .i64 dmax, .int .i64 rho, .int .i64 slew, .int .i64 round, .int .i64 window, .int .i64 attend, .int .i64 seen, .int .i64 hist, .int .i64 fly, .int .i64 quota, .int .i64 body] 32)
  have HK := Lib.hid (And.intro k0 k1)
  clear k0 k1
  have HV : Hid (EB = false) := by unfold Hid; rw [HE.out, decide_eq_false (p := most ≤ sl) (by omega)]; simp
  go_enter Tryz.func58, Tryz.ntmps58
  go_wp2_with fail
  refine (HCO.out _).mono ?_
  rintro e w1 ⟨rfl, hq⟩
  obtain ⟨W2, hW2⟩ : ∃ W2, w1.alloc (.cells #[.int .i64 hops, .int .i64 fast, .int .i64 slow, .int .i64 link, .int .i64 read, .int .i64 agree, .int .i64 start, .int .i64 eps, .int .i64 most, .int .i64 cold, .int .i64 rough, .int .i64 delta, .int .i64 down, .int .i64 join] 101) = W2 := ⟨_, rfl⟩
  have hb2 : Below w1.heap.size w1 W2 := by rw [← hW2]; exact (Below.refl _ _).alloc (Nat.le_refl _) _
  have hbx : BoxF W2 w1.heap.size [.int .i64 hops, .int .i64 fast, .int .i64 slow, .int .i64 link, .int .i64 read, .int .i64 agree, .int .i64 start, .int .i64 eps, .int .i64 most, .int .i64 cold, .int .i64 rough, .int .i64 delta, .int .i64 down, .int .i64 join] := by rw [← hW2]; exact boxF_made _ _ _
  have hcf := (HK.out.1.keep hq).keep hb2
  have hbel := (HK.out.2.trans (hq.mono HK.out.2.size)).trans (hb2.mono (HK.out.2.trans (hq.mono HK.out.2.size)).size)
  have HX := Lib.hid (And.intro hbx (And.intro hcf hbel))
  clear hq hb2 hbx hcf hbel
  go_wp2_with fail
  have HX2 := HX
  have q8 := fun U : Later W2 => (HX.out.2.1.keep U.h).1 8 _ rfl
  have p0' := fun U : Later W2 => (HX.out.1.keep U.h).1 0 _ rfl
  have p1' := fun U : Later W2 => (HX.out.1.keep U.h).1 1 _ rfl
  have p2 := fun U : Later W2 => (HX.out.1.keep U.h).1 2 _ rfl
  have p3 := fun U : Later W2 => (HX.out.1.keep U.h).1 3 _ rfl
  have p4 := fun U : Later W2 => (HX.out.1.keep U.h).1 4 _ rfl
  have p5 := fun U : Later W2 => (HX.out.1.keep U.h).1 5 _ rfl
  have p6 := fun U : Later W2 => (HX.out.1.keep U.h).1 6 _ rfl
  have p7 := fun U : Later W2 => (HX.out.1.keep U.h).1 7 _ rfl
  have p8 := fun U : Later W2 => (HX.out.1.keep U.h).1 8 _ rfl
  have p9 := fun U : Later W2 => (HX.out.1.keep U.h).1 9 _ rfl
  have p10 := fun U : Later W2 => (HX.out.1.keep U.h).1 10 _ rfl
  have p11 := fun U : Later W2 => (HX.out.1.keep U.h).1 11 _ rfl
  have p12 := fun U : Later W2 => (HX.out.1.keep U.h).1 12 _ rfl
  have p13 := fun U : Later W2 => (HX.out.1.keep U.h).1 13 _ rfl
  have z0 : IntKind.i64.wrap (2 * rough) = 2 * rough := IntWalk.i64_in _ (by omega)
  have z1 : IntKind.i64.wrap (2 * rough + eps) = 2 * rough + eps := IntWalk.i64_in _ (by omega)
  have z2 : IntKind.i64.wrap (2 * rough + eps + p) = 2 * rough + eps + p := IntWalk.i64_in _ (by omega)
  have z3 : IntKind.i64.wrap (4 * fast) = 4 * fast := IntWalk.i64_in _ (by omega)
  have z4 : IntKind.i64.wrap (2 * rough + eps + p + 4 * fast) = 2 * rough + eps + p + 4 * fast := IntWalk.i64_in _ (by omega)
  refine wp_region_later (by kernel_rfl) (by kernel_rfl) ?_
  repeat (go_big_quiet_step (exact later_of (HCF.out _)))
  refine wpQuiet_nil ?_
  rintro W4 ⟨⟨W4_, hb4⟩, rfl⟩
  try dsimp only
  clear q8 p0' p1' p2 p3 p4 p5 p6 p7 p8 p9 p10 p11 p12 p13 z0 z1 z2 z3 z4
  have HX4 := Lib.hid (And.intro (HX.out.1.keep hb4) (And.intro (HX.out.2.1.keep hb4) (HX.out.2.2.trans (hb4.mono HX.out.2.2.size))))
  clear hb4
  have q7 := HX4.out.2.1.1 7 _ rfl
  have q8 := HX4.out.2.1.1 8 _ rfl
  go_wp2_with fail
  have p0' := fun U : Later W4 => (HX4.out.1.keep U.h).1 0 _ rfl
  have p1' := fun U : Later W4 => (HX4.out.1.keep U.h).1 1 _ rfl
  have p2' := fun U : Later W4 => (HX4.out.1.keep U.h).1 2 _ rfl
  have p3' := fun U : Later W4 => (HX4.out.1.keep U.h).1 3 _ rfl
  have p4' := fun U : Later W4 => (HX4.out.1.keep U.h).1 4 _ rfl
  have p5' := fun U : Later W4 => (HX4.out.1.keep U.h).1 5 _ rfl
  have p6' := fun U : Later W4 => (HX4.out.1.keep U.h).1 6 _ rfl
  have p7' := fun U : Later W4 => (HX4.out.1.keep U.h).1 7 _ rfl
  have p8' := fun U : Later W4 => (HX4.out.1.keep U.h).1 8 _ rfl
  have p9' := fun U : Later W4 => (HX4.out.1.keep U.h).1 9 _ rfl
  have p10' := fun U : Later W4 => (HX4.out.1.keep U.h).1 10 _ rfl
  have p11' := fun U : Later W4 => (HX4.out.1.keep U.h).1 11 _ rfl
  have p12' := fun U : Later W4 => (HX4.out.1.keep U.h).1 12 _ rfl
  have p13' := fun U : Later W4 => (HX4.out.1.keep U.h).1 13 _ rfl
  have q0' := fun U : Later W4 => (HX4.out.2.1.keep U.h).1 0 _ rfl
  have q1' := fun U : Later W4 => (HX4.out.2.1.keep U.h).1 1 _ rfl
  have q2' := fun U : Later W4 => (HX4.out.2.1.keep U.h).1 2 _ rfl
  have q3' := fun U : Later W4 => (HX4.out.2.1.keep U.h).1 3 _ rfl
  have q4' := fun U : Later W4 => (HX4.out.2.1.keep U.h).1 4 _ rfl
  have q5' := fun U : Later W4 => (HX4.out.2.1.keep U.h).1 5 _ rfl
  have q6' := fun U : Later W4 => (HX4.out.2.1.keep U.h).1 6 _ rfl
  have q7' := fun U : Later W4 => (HX4.out.2.1.keep U.h).1 7 _ rfl
  have q8' := fun U : Later W4 => (HX4.out.2.1.keep U.h).1 8 _ rfl
  have q9' := fun U : Later W4 => (HX4.out.2.1.keep U.h).1 9 _ rfl
  have q10' := fun U : Later W4 => (HX4.out.2.1.keep U.h).1 10 _ rfl
  have q11' := fun U : Later W4 => (HX4.out.2.1.keep U.h).1 11 _ rfl
  have q12' := fun U : Later W4 => (HX4.out.2.1.keep U.h).1 12 _ rfl
  have q13' := fun U : Later W4 => (HX4.out.2.1.keep U.h).1 13 _ rfl
  have q14' := fun U : Later W4 => (HX4.out.2.1.keep U.h).1 14 _ rfl
  refine wp_region_later (by kernel_rfl) (by kernel_rfl) ?_
  repeat (go_big_quiet_step (exact later_of (HCL.out _)))
  refine wpQuiet_nil ?_
  rintro W8 ⟨⟨W8_, hb8⟩, rfl⟩
  try dsimp only
  clear q7 q8 p0' p1' p2' p3' p4' p5' p6' p7' p8' p9' p10' p11' p12' p13' q0' q1' q2' q3' q4' q5' q6' q7' q8' q9' q10' q11' q12' q13' q14'
  have HF := Lib.hid (HX4.out.2.2.trans (hb8.mono HX4.out.2.2.size))
  clear hb8
  go_wp2
  go_ret
  exact ⟨ret_bool (by rw [HV.out]), HF.out⟩
set_option maxHeartbeats 6400000 in
theorem boundEnough4 (c : Cn) (hg : goodC c = true) (c1 : 2 * bRough c + bEps c + bHops c * bLink c + 4 * bFast c ≤ c.window) (c2 : 4 * c.window ≤ c.round) (c3 : bMost c ≤ slI c.slew c.round c.window (bFast c)) (A : Option Addr) (l k : Nat) (w : World) : Calls Tryz.prog 58 #[.agg (c.cells A l k).toArray] w fun e w' => e = .returned (.bool (enoughB c)) ∧ Below w.heap.size w w' := by
  have HG := bd_ok hg
  have CO := fun W => boundOf c hg A l k W
  unfold OfPost bCells at CO
  obtain ⟨n0, n1, d0, d1, d2, ⟨r0, r1, s0, s1⟩, ⟨a0, a1⟩, ⟨b0, b1⟩, ⟨g0, g1⟩⟩ := goodC_iff.1 hg
  have HE : Hid (enoughB c = (decide (2 * bRough c + bEps c + bHops c * bLink c + 4 * bFast c ≤ c.window) && (decide (4 * c.window ≤ c.round) && (decide (bMost c ≤ slI c.slew c.round c.window (bFast c)) && decide (2 * bDelta c ≤ c.attend))))) := by unfold Hid enoughB; rw [hg]; rfl
  obtain ⟨x0_hops, x1_hops⟩ := HG.hops
  obtain ⟨x0_fast, x1_fast⟩ := HG.fast
  obtain ⟨x0_link, x1_link⟩ := HG.link
  obtain ⟨x0_eps, x1_eps⟩ := HG.eps
  obtain ⟨x0_most, x1_most⟩ := HG.most
  obtain ⟨x0_rough, x1_rough⟩ := HG.rough
  obtain ⟨x0_delta, x1_delta⟩ := HG.delta
  have CL := fun W => boundSlewed (bHops c) (bFast c) (bSlow c) (bLink c) (bRead c) (bAgree c) (bStart c) (bEps c) (bMost c) (bCold c) (bRough c) (bDelta c) (bDown c) (bJoin c) c A l k ⟨by omega, by omega⟩ ⟨by omega, by omega⟩ ⟨by omega, by omega⟩ ⟨by omega, by omega⟩ (by omega) W
  have CF := fun W => boundFar (bHops c) (bFast c) (bSlow c) (bLink c) (bRead c) (bAgree c) (bStart c) (bEps c) (bMost c) (bCold c) (bRough c) (bDelta c) (bDown c) (bJoin c) ⟨by omega, by omega⟩ ⟨by omega, by omega⟩ W
  have hp := mul_bd (a := bHops c) (A := 63) (b := bLink c) (B := 86016) (by omega) (by omega) (by omega) (by omega)
  clear HG hg
  generalize bHops c = hops at *
  generalize bFast c = fast at *
  generalize bSlow c = slow at *
  generalize bLink c = link at *
  generalize bRead c = read at *
  generalize bAgree c = agree at *
  generalize bStart c = start at *
  generalize bEps c = eps at *
  generalize bMost c = most at *
  generalize bCold c = cold at *
  generalize bRough c = rough at *
  generalize bDelta c = delta at *
  generalize bDown c = down at *
  generalize bJoin c = join at *
  generalize enoughB c = EB at *
  obtain ⟨n, f, dmin, dmax, rho, slew, round, window, attend, seen, hist, fly, quota, body⟩ := c
  simp only at *
  generalize slI slew round window fast = sl at *
  obtain ⟨p, hpp⟩ : ∃ p, hops * link = p := ⟨_, rfl⟩
  simp only [hpp] at CF hp HE c1
  obtain ⟨p0, p1⟩ := hp
  clear hpp
  have HCO := Lib.hid CO
  clear CO
  have HCF := Lib.hid CF
  clear CF
  have HCL := Lib.hid CL
  clear CL
  have k0 := boxF_made w [.int .i64 n, .slice A l k, .int .i64 f, .int .i64 dmin, .int .i64 dmax, .int .i64 rho, .int .i64 slew, .int .i64 round, .int .i64 window, .int .i64 attend, .int .i64 seen, .int .i64 hist, .int .i64 fly, .int .i64 quota, .int .i64 body] 32
  have k1 := (Below.refl w.heap.size w).alloc (Nat.le_refl _) (.cells #[.int .i64 n, .slice A l k, .int .i64 f, .int .i64 dmin, .int .i64 dmax, .int .i64 rho, .int .i64 slew, .int .i64 round, .int .i64 window, .int .i64 attend, .int .i64 seen, .int .i64 hist, .int .i64 fly, .int .i64 quota, .int .i64 body] 32)
  have HK := Lib.hid (And.intro k0 k1)
  clear k0 k1
  have HV : Hid (EB = decide (2 * delta ≤ attend)) := by unfold Hid; rw [HE.out, decide_eq_true (p := most ≤ sl) (by omega), decide_eq_true (p := 4 * window ≤ round) (by omega), decide_eq_true (p := 2 * rough + eps + p + 4 * fast ≤ window) (by omega)]; rfl
  go_enter Tryz.func58, Tryz.ntmps58
  go_wp2_with fail
  refine (HCO.out _).mono ?_
  rintro e w1 ⟨rfl, hq⟩
  obtain ⟨W2, hW2⟩ : ∃ W2, w1.alloc (.cells #[.int .i64 hops, .int .i64 fast, .int .i64 slow, .int .i64 link, .int .i64 read, .int .i64 agree, .int .i64 start, .int .i64 eps, .int .i64 most, .int .i64 cold, .int .i64 rough, .int .i64 delta, .int .i64 down, .int .i64 join] 101) = W2 := ⟨_, rfl⟩
  have hb2 : Below w1.heap.size w1 W2 := by rw [← hW2]; exact (Below.refl _ _).alloc (Nat.le_refl _) _
  have hbx : BoxF W2 w1.heap.size [.int .i64 hops, .int .i64 fast, .int .i64 slow, .int .i64 link, .int .i64 read, .int .i64 agree, .int .i64 start, .int .i64 eps, .int .i64 most, .int .i64 cold, .int .i64 rough, .int .i64 delta, .int .i64 down, .int .i64 join] := by rw [← hW2]; exact boxF_made _ _ _
  have hcf := (HK.out.1.keep hq).keep hb2
  have hbel := (HK.out.2.trans (hq.mono HK.out.2.size)).trans (hb2.mono (HK.out.2.trans (hq.mono HK.out.2.size)).size)
  have HX := Lib.hid (And.intro hbx (And.intro hcf hbel))
  clear hq hb2 hbx hcf hbel
  go_wp2_with fail
  have HX2 := HX
  have q8 := fun U : Later W2 => (HX.out.2.1.keep U.h).1 8 _ rfl
  have p0' := fun U : Later W2 => (HX.out.1.keep U.h).1 0 _ rfl
  have p1' := fun U : Later W2 => (HX.out.1.keep U.h).1 1 _ rfl
  have p2 := fun U : Later W2 => (HX.out.1.keep U.h).1 2 _ rfl
  have p3 := fun U : Later W2 => (HX.out.1.keep U.h).1 3 _ rfl
  have p4 := fun U : Later W2 => (HX.out.1.keep U.h).1 4 _ rfl
  have p5 := fun U : Later W2 => (HX.out.1.keep U.h).1 5 _ rfl
  have p6 := fun U : Later W2 => (HX.out.1.keep U.h).1 6 _ rfl
  have p7 := fun U : Later W2 => (HX.out.1.keep U.h).1 7 _ rfl
  have p8 := fun U : Later W2 => (HX.out.1.keep U.h).1 8 _ rfl
  have p9 := fun U : Later W2 => (HX.out.1.keep U.h).1 9 _ rfl
  have p10 := fun U : Later W2 => (HX.out.1.keep U.h).1 10 _ rfl
  have p11 := fun U : Later W2 => (HX.out.1.keep U.h).1 11 _ rfl
  have p12 := fun U : Later W2 => (HX.out.1.keep U.h).1 12 _ rfl
  have p13 := fun U : Later W2 => (HX.out.1.keep U.h).1 13 _ rfl
  have z0 : IntKind.i64.wrap (2 * rough) = 2 * rough := IntWalk.i64_in _ (by omega)
  have z1 : IntKind.i64.wrap (2 * rough + eps) = 2 * rough + eps := IntWalk.i64_in _ (by omega)
  have z2 : IntKind.i64.wrap (2 * rough + eps + p) = 2 * rough + eps + p := IntWalk.i64_in _ (by omega)
  have z3 : IntKind.i64.wrap (4 * fast) = 4 * fast := IntWalk.i64_in _ (by omega)
  have z4 : IntKind.i64.wrap (2 * rough + eps + p + 4 * fast) = 2 * rough + eps + p + 4 * fast := IntWalk.i64_in _ (by omega)
  refine wp_region_later (by kernel_rfl) (by kernel_rfl) ?_
  repeat (go_big_quiet_step (exact later_of (HCF.out _)))
  refine wpQuiet_nil ?_
  rintro W4 ⟨⟨W4_, hb4⟩, rfl⟩
  try dsimp only
  clear q8 p0' p1' p2 p3 p4 p5 p6 p7 p8 p9 p10 p11 p12 p13 z0 z1 z2 z3 z4
  have HX4 := Lib.hid (And.intro (HX.out.1.keep hb4) (And.intro (HX.out.2.1.keep hb4) (HX.out.2.2.trans (hb4.mono HX.out.2.2.size))))
  clear hb4
  have q7 := HX4.out.2.1.1 7 _ rfl
  have q8 := HX4.out.2.1.1 8 _ rfl
  go_wp2_with fail
  have p0' := fun U : Later W4 => (HX4.out.1.keep U.h).1 0 _ rfl
  have p1' := fun U : Later W4 => (HX4.out.1.keep U.h).1 1 _ rfl
  have p2' := fun U : Later W4 => (HX4.out.1.keep U.h).1 2 _ rfl
  have p3' := fun U : Later W4 => (HX4.out.1.keep U.h).1 3 _ rfl
  have p4' := fun U : Later W4 => (HX4.out.1.keep U.h).1 4 _ rfl
  have p5' := fun U : Later W4 => (HX4.out.1.keep U.h).1 5 _ rfl
  have p6' := fun U : Later W4 => (HX4.out.1.keep U.h).1 6 _ rfl
  have p7' := fun U : Later W4 => (HX4.out.1.keep U.h).1 7 _ rfl
  have p8' := fun U : Later W4 => (HX4.out.1.keep U.h).1 8 _ rfl
  have p9' := fun U : Later W4 => (HX4.out.1.keep U.h).1 9 _ rfl
  have p10' := fun U : Later W4 => (HX4.out.1.keep U.h).1 10 _ rfl
  have p11' := fun U : Later W4 => (HX4.out.1.keep U.h).1 11 _ rfl
  have p12' := fun U : Later W4 => (HX4.out.1.keep U.h).1 12 _ rfl
  have p13' := fun U : Later W4 => (HX4.out.1.keep U.h).1 13 _ rfl
  have q0' := fun U : Later W4 => (HX4.out.2.1.keep U.h).1 0 _ rfl
  have q1' := fun U : Later W4 => (HX4.out.2.1.keep U.h).1 1 _ rfl
  have q2' := fun U : Later W4 => (HX4.out.2.1.keep U.h).1 2 _ rfl
  have q3' := fun U : Later W4 => (HX4.out.2.1.keep U.h).1 3 _ rfl
  have q4' := fun U : Later W4 => (HX4.out.2.1.keep U.h).1 4 _ rfl
  have q5' := fun U : Later W4 => (HX4.out.2.1.keep U.h).1 5 _ rfl
  have q6' := fun U : Later W4 => (HX4.out.2.1.keep U.h).1 6 _ rfl
  have q7' := fun U : Later W4 => (HX4.out.2.1.keep U.h).1 7 _ rfl
  have q8' := fun U : Later W4 => (HX4.out.2.1.keep U.h).1 8 _ rfl
  have q9' := fun U : Later W4 => (HX4.out.2.1.keep U.h).1 9 _ rfl
  have q10' := fun U : Later W4 => (HX4.out.2.1.keep U.h).1 10 _ rfl
  have q11' := fun U : Later W4 => (HX4.out.2.1.keep U.h).1 11 _ rfl
  have q12' := fun U : Later W4 => (HX4.out.2.1.keep U.h).1 12 _ rfl
  have q13' := fun U : Later W4 => (HX4.out.2.1.keep U.h).1 13 _ rfl
  have q14' := fun U : Later W4 => (HX4.out.2.1.keep U.h).1 14 _ rfl
  refine wp_region_later (by kernel_rfl) (by kernel_rfl) ?_
  repeat (go_big_quiet_step (exact later_of (HCL.out _)))
  refine wpQuiet_nil ?_
  rintro W8 ⟨⟨W8_, hb8⟩, rfl⟩
  try dsimp only
  clear q7 q8 p0' p1' p2' p3' p4' p5' p6' p7' p8' p9' p10' p11' p12' p13' q0' q1' q2' q3' q4' q5' q6' q7' q8' q9' q10' q11' q12' q13' q14'
  have HF := Lib.hid (HX4.out.2.2.trans (hb8.mono HX4.out.2.2.size))
  have q9 := (HX4.out.2.1.keep hb8).1 9 _ rfl
  have p11 := (HX4.out.1.keep hb8).1 11 _ rfl
  clear hb8
  go_wp2
  go_ret
  exact ⟨ret_bool (by rw [HV.out]), HF.out⟩
theorem boundEnough (c : Cn) (A : Option Addr) (l k : Nat) (w : World) : Calls Tryz.prog 58 #[.agg (c.cells A l k).toArray] w fun e w' => e = .returned (.bool (enoughB c)) ∧ Below w.heap.size w w' := by
  cases hg : goodC c
  · exact boundEnough0 c hg A l k w
  · by_cases c1 : c.window < 2 * bRough c + bEps c + bHops c * bLink c + 4 * bFast c
    · exact boundEnough1 c hg c1 A l k w
    · by_cases c2 : c.round < 4 * c.window
      · exact boundEnough2 c hg (by omega) c2 A l k w
      · by_cases c3 : slI c.slew c.round c.window (bFast c) < bMost c
        · exact boundEnough3 c hg (by omega) (by omega) c3 A l k w
        · exact boundEnough4 c hg (by omega) (by omega) (by omega) A l k w
end Go.Proofs.YteahiphmhaedpaaGreatDoor
