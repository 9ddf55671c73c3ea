/- The reference's Enough. -/
import Derived.Test.YteahiphmhaedpaaGreatDoorRfB
import Derived.Test.YteahiphmhaedpaaGreatDoorCfE
namespace Go.Proofs.YteahiphmhaedpaaGreatDoor
open Go.RowKit Law
set_option linter.unusedVariables false
set_option linter.unusedSimpArgs false
set_option maxRecDepth 100000
attribute [local go_sem] Oper.semAt_some

set_option maxHeartbeats 1600000 in
theorem refEnough0 (c : Cn) (hg : goodC c = false) (A : Option Addr) (l k : Nat) (w : World) : Calls Tryz.prog 52 #[.agg (c.cells A l k).toArray] w fun e w' => e = .returned (.bool (enoughB c)) ∧ Below w.heap.size w w' := by
  have HE : Hid (enoughB c = false) := by unfold Hid enoughB; rw [hg]; rfl
  have CG := Lib.hid (fun W => ref26Good (c := c) hg A l k W)
  obtain ⟨n, f, dmin, dmax, rho, slew, round, window, attend, seen, hist, fly, quota, body⟩ := c
  have k0 := (Below.refl w.heap.size w).alloc (Nat.le_refl _) (.cells #[.int .i64 n, .slice A l k, .int .i64 f, .int .i64 dmin, .int .i64 dmax, .int .i64 rho, .int .i64 slew, .int .i64 round, .int .i64 window, .int .i64 attend, .int .i64 seen, .int .i64 hist, .int .i64 fly, .int .i64 quota, .int .i64 body] 32)
  have HK := Lib.hid k0
  clear hg k0
  go_enter Tryz.func52, Tryz.ntmps52
  go_wp2_with fail
  refine (CG.out _).mono ?_
  rintro e w1 ⟨rfl, hq⟩
  have HB := Lib.hid (HK.out.trans (hq.mono HK.out.size))
  clear hq
  go_wp2
  go_ret
  exact ⟨ret_bool (by rw [HE.out]), HB.out⟩
set_option maxHeartbeats 6400000 in
theorem refEnough1 (c : Cn) (hg : goodC c = true) (c1 : c.window < 2 * bRough c + bEps c + bHops c * bLink c + 4 * bFast c) (A : Option Addr) (l k : Nat) (w : World) : Calls Tryz.prog 52 #[.agg (c.cells A l k).toArray] w fun e w' => e = .returned (.bool (enoughB c)) ∧ Below w.heap.size w w' := by
  have HG := bd_ok hg
  have CO := fun W => ref26Of c hg A l k W
  have CG := fun W => ref26Good (c := c) hg A l k W
  unfold bCells at CO
  obtain ⟨n0, n1, d0, d1, d2, ⟨r0, r1, s0, s1⟩, ⟨a0, a1⟩, ⟨b0, b1⟩, ⟨g0, g1⟩⟩ := goodC_iff.1 hg
  have HE : Hid (enoughB c = (decide (2 * bRough c + bEps c + bHops c * bLink c + 4 * bFast c ≤ c.window) && (decide (4 * c.window ≤ c.round) && (decide (bMost c ≤ slI c.slew c.round c.window (bFast c)) && decide (2 * bDelta c ≤ c.attend))))) := by unfold Hid enoughB; rw [hg]; rfl
  obtain ⟨x0_hops, x1_hops⟩ := HG.hops
  obtain ⟨x0_fast, x1_fast⟩ := HG.fast
  obtain ⟨x0_link, x1_link⟩ := HG.link
  obtain ⟨x0_eps, x1_eps⟩ := HG.eps
  obtain ⟨x0_most, x1_most⟩ := HG.most
  obtain ⟨x0_rough, x1_rough⟩ := HG.rough
  obtain ⟨x0_delta, x1_delta⟩ := HG.delta
  have hp := mul_bd (a := bHops c) (A := 63) (b := bLink c) (B := 86016) (by omega) (by omega) (by omega) (by omega)
  clear HG hg
  generalize bHops c = hops at *
  generalize bFast c = fast at *
  generalize bSlow c = slow at *
  generalize bLink c = link at *
  generalize bRead c = read at *
  generalize bAgree c = agree at *
  generalize bStart c = start at *
  generalize bEps c = eps at *
  generalize bMost c = most at *
  generalize bCold c = cold at *
  generalize bRough c = rough at *
  generalize bDelta c = delta at *
  generalize bDown c = down at *
  generalize bJoin c = join at *
  generalize enoughB c = EB at *
  obtain ⟨n, f, dmin, dmax, rho, slew, round, window, attend, seen, hist, fly, quota, body⟩ := c
  simp only at *
  obtain ⟨p, hpp⟩ : ∃ p, hops * link = p := ⟨_, rfl⟩
  simp only [hpp] at hp HE c1
  obtain ⟨p0, p1⟩ := hp
  have HCO := Lib.hid CO
  clear CO
  have HCG := Lib.hid CG
  clear CG
  have k0 := boxF_made w [.int .i64 n, .slice A l k, .int .i64 f, .int .i64 dmin, .int .i64 dmax, .int .i64 rho, .int .i64 slew, .int .i64 round, .int .i64 window, .int .i64 attend, .int .i64 seen, .int .i64 hist, .int .i64 fly, .int .i64 quota, .int .i64 body] 32
  have k1 := (Below.refl w.heap.size w).alloc (Nat.le_refl _) (.cells #[.int .i64 n, .slice A l k, .int .i64 f, .int .i64 dmin, .int .i64 dmax, .int .i64 rho, .int .i64 slew, .int .i64 round, .int .i64 window, .int .i64 attend, .int .i64 seen, .int .i64 hist, .int .i64 fly, .int .i64 quota, .int .i64 body] 32)
  have HK := Lib.hid (And.intro k0 k1)
  clear k0 k1
  have HV : Hid (EB = false) := by unfold Hid; rw [HE.out, decide_eq_false (by omega)]; rfl
  go_enter Tryz.func52, Tryz.ntmps52
  go_wp2_with fail
  refine (HCG.out _).mono ?_
  rintro e w0 ⟨rfl, hq⟩
  have HK0 := Lib.hid (And.intro (HK.out.1.keep hq) (HK.out.2.trans (hq.mono HK.out.2.size)))
  clear hq
  have t0 := HK0.out.1.1 0 _ rfl
  have t1 := HK0.out.1.1 1 _ rfl
  have t2 := HK0.out.1.1 2 _ rfl
  have t3 := HK0.out.1.1 3 _ rfl
  have t4 := HK0.out.1.1 4 _ rfl
  have t5 := HK0.out.1.1 5 _ rfl
  have t6 := HK0.out.1.1 6 _ rfl
  have t7 := HK0.out.1.1 7 _ rfl
  have t8 := HK0.out.1.1 8 _ rfl
  have t9 := HK0.out.1.1 9 _ rfl
  have t10 := HK0.out.1.1 10 _ rfl
  have t11 := HK0.out.1.1 11 _ rfl
  have t12 := HK0.out.1.1 12 _ rfl
  have t13 := HK0.out.1.1 13 _ rfl
  have t14 := HK0.out.1.1 14 _ rfl
  go_wp2_with fail
  refine (HCO.out _).mono ?_
  rintro e w1 ⟨rfl, hq⟩
  clear t0 t1 t2 t3 t4 t5 t6 t7 t8 t9 t10 t11 t12 t13 t14
  obtain ⟨W2, hW2⟩ : ∃ W2, w1.alloc (.cells #[.int .i64 hops, .int .i64 fast, .int .i64 slow, .int .i64 link, .int .i64 read, .int .i64 agree, .int .i64 start, .int .i64 eps, .int .i64 most, .int .i64 cold, .int .i64 rough, .int .i64 delta, .int .i64 down, .int .i64 join] 115) = W2 := ⟨_, rfl⟩
  have hb2 : Below w1.heap.size w1 W2 := by rw [← hW2]; exact (Below.refl _ _).alloc (Nat.le_refl _) _
  have hbx : BoxF W2 w1.heap.size [.int .i64 hops, .int .i64 fast, .int .i64 slow, .int .i64 link, .int .i64 read, .int .i64 agree, .int .i64 start, .int .i64 eps, .int .i64 most, .int .i64 cold, .int .i64 rough, .int .i64 delta, .int .i64 down, .int .i64 join] := by rw [← hW2]; exact boxF_made _ _ _
  have hcf := (HK0.out.1.keep hq).keep hb2
  have hbel := (HK0.out.2.trans (hq.mono HK0.out.2.size)).trans (hb2.mono (HK0.out.2.trans (hq.mono HK0.out.2.size)).size)
  have HX := Lib.hid (And.intro hbx (And.intro hcf hbel))
  have q6 := HX.out.2.1.1 6 _ rfl
  have q7 := HX.out.2.1.1 7 _ rfl
  have q8 := HX.out.2.1.1 8 _ rfl
  have q9 := HX.out.2.1.1 9 _ rfl
  have p0' := HX.out.1.1 0 _ rfl
  have p1' := HX.out.1.1 1 _ rfl
  have p2' := HX.out.1.1 2 _ rfl
  have p3' := HX.out.1.1 3 _ rfl
  have p4' := HX.out.1.1 4 _ rfl
  have p5' := HX.out.1.1 5 _ rfl
  have p6' := HX.out.1.1 6 _ rfl
  have p7' := HX.out.1.1 7 _ rfl
  have p8' := HX.out.1.1 8 _ rfl
  have p9' := HX.out.1.1 9 _ rfl
  have p10' := HX.out.1.1 10 _ rfl
  have p11' := HX.out.1.1 11 _ rfl
  have p12' := HX.out.1.1 12 _ rfl
  have p13' := HX.out.1.1 13 _ rfl
  clear hq hb2 hbx hcf hbel
  have z0 : IntKind.i64.wrap (2 * rough) = 2 * rough := IntWalk.i64_in _ (by omega)
  have z1 : IntKind.i64.wrap (2 * rough + eps) = 2 * rough + eps := IntWalk.i64_in _ (by omega)
  have zp : IntKind.i64.wrap (hops * link) = p := by rw [hpp]; exact IntWalk.i64_in _ (by omega)
  have z2 : IntKind.i64.wrap (2 * rough + eps + p) = 2 * rough + eps + p := IntWalk.i64_in _ (by omega)
  have z3 : IntKind.i64.wrap (4 * fast) = 4 * fast := IntWalk.i64_in _ (by omega)
  have z4 : IntKind.i64.wrap (2 * rough + eps + p + 4 * fast) = 2 * rough + eps + p + 4 * fast := IntWalk.i64_in _ (by omega)
  clear hpp
  go_wp2
  go_ret
  exact ⟨ret_bool (by rw [HV.out]), HX.out.2.2⟩
set_option maxHeartbeats 6400000 in
theorem refEnough2 (c : Cn) (hg : goodC c = true) (c1 : 2 * bRough c + bEps c + bHops c * bLink c + 4 * bFast c ≤ c.window) (c2 : c.round < 4 * c.window) (A : Option Addr) (l k : Nat) (w : World) : Calls Tryz.prog 52 #[.agg (c.cells A l k).toArray] w fun e w' => e = .returned (.bool (enoughB c)) ∧ Below w.heap.size w w' := by
  have HG := bd_ok hg
  have CO := fun W => ref26Of c hg A l k W
  have CG := fun W => ref26Good (c := c) hg A l k W
  unfold bCells at CO
  obtain ⟨n0, n1, d0, d1, d2, ⟨r0, r1, s0, s1⟩, ⟨a0, a1⟩, ⟨b0, b1⟩, ⟨g0, g1⟩⟩ := goodC_iff.1 hg
  have HE : Hid (enoughB c = (decide (2 * bRough c + bEps c + bHops c * bLink c + 4 * bFast c ≤ c.window) && (decide (4 * c.window ≤ c.round) && (decide (bMost c ≤ slI c.slew c.round c.window (bFast c)) && decide (2 * bDelta c ≤ c.attend))))) := by unfold Hid enoughB; rw [hg]; rfl
  obtain ⟨x0_hops, x1_hops⟩ := HG.hops
  obtain ⟨x0_fast, x1_fast⟩ := HG.fast
  obtain ⟨x0_link, x1_link⟩ := HG.link
  obtain ⟨x0_eps, x1_eps⟩ := HG.eps
  obtain ⟨x0_most, x1_most⟩ := HG.most
  obtain ⟨x0_rough, x1_rough⟩ := HG.rough
  obtain ⟨x0_delta, x1_delta⟩ := HG.delta
  have hp := mul_bd (a := bHops c) (A := 63) (b := bLink c) (B := 86016) (by omega) (by omega) (by omega) (by omega)
  clear HG hg
  generalize bHops c = hops at *
  generalize bFast c = fast at *
  generalize bSlow c = slow at *
  generalize bLink c = link at *
  generalize bRead c = read at *
  generalize bAgree c = agree at *
  generalize bStart c = start at *
  generalize bEps c = eps at *
  generalize bMost c = most at *
  generalize bCold c = cold at *
  generalize bRough c = rough at *
  generalize bDelta c = delta at *
  generalize bDown c = down at *
  generalize bJoin c = join at *
  generalize enoughB c = EB at *
  obtain ⟨n, f, dmin, dmax, rho, slew, round, window, attend, seen, hist, fly, quota, body⟩ := c
  simp only at *
  obtain ⟨p, hpp⟩ : ∃ p, hops * link = p := ⟨_, rfl⟩
  simp only [hpp] at hp HE c1
  obtain ⟨p0, p1⟩ := hp
  have HCO := Lib.hid CO
  clear CO
  have HCG := Lib.hid CG
  clear CG
  have k0 := boxF_made w [.int .i64 n, .slice A l k, .int .i64 f, .int .i64 dmin, .int .i64 dmax, .int .i64 rho, .int .i64 slew, .int .i64 round, .int .i64 window, .int .i64 attend, .int .i64 seen, .int .i64 hist, .int .i64 fly, .int .i64 quota, .int .i64 body] 32
  have k1 := (Below.refl w.heap.size w).alloc (Nat.le_refl _) (.cells #[.int .i64 n, .slice A l k, .int .i64 f, .int .i64 dmin, .int .i64 dmax, .int .i64 rho, .int .i64 slew, .int .i64 round, .int .i64 window, .int .i64 attend, .int .i64 seen, .int .i64 hist, .int .i64 fly, .int .i64 quota, .int .i64 body] 32)
  have HK := Lib.hid (And.intro k0 k1)
  clear k0 k1
  have HV : Hid (EB = false) := by unfold Hid; rw [HE.out, decide_eq_false (p := 4 * window ≤ round) (by omega)]; simp
  go_enter Tryz.func52, Tryz.ntmps52
  go_wp2_with fail
  refine (HCG.out _).mono ?_
  rintro e w0 ⟨rfl, hq⟩
  have HK0 := Lib.hid (And.intro (HK.out.1.keep hq) (HK.out.2.trans (hq.mono HK.out.2.size)))
  clear hq
  have t0 := HK0.out.1.1 0 _ rfl
  have t1 := HK0.out.1.1 1 _ rfl
  have t2 := HK0.out.1.1 2 _ rfl
  have t3 := HK0.out.1.1 3 _ rfl
  have t4 := HK0.out.1.1 4 _ rfl
  have t5 := HK0.out.1.1 5 _ rfl
  have t6 := HK0.out.1.1 6 _ rfl
  have t7 := HK0.out.1.1 7 _ rfl
  have t8 := HK0.out.1.1 8 _ rfl
  have t9 := HK0.out.1.1 9 _ rfl
  have t10 := HK0.out.1.1 10 _ rfl
  have t11 := HK0.out.1.1 11 _ rfl
  have t12 := HK0.out.1.1 12 _ rfl
  have t13 := HK0.out.1.1 13 _ rfl
  have t14 := HK0.out.1.1 14 _ rfl
  go_wp2_with fail
  refine (HCO.out _).mono ?_
  rintro e w1 ⟨rfl, hq⟩
  clear t0 t1 t2 t3 t4 t5 t6 t7 t8 t9 t10 t11 t12 t13 t14
  obtain ⟨W2, hW2⟩ : ∃ W2, w1.alloc (.cells #[.int .i64 hops, .int .i64 fast, .int .i64 slow, .int .i64 link, .int .i64 read, .int .i64 agree, .int .i64 start, .int .i64 eps, .int .i64 most, .int .i64 cold, .int .i64 rough, .int .i64 delta, .int .i64 down, .int .i64 join] 115) = W2 := ⟨_, rfl⟩
  have hb2 : Below w1.heap.size w1 W2 := by rw [← hW2]; exact (Below.refl _ _).alloc (Nat.le_refl _) _
  have hbx : BoxF W2 w1.heap.size [.int .i64 hops, .int .i64 fast, .int .i64 slow, .int .i64 link, .int .i64 read, .int .i64 agree, .int .i64 start, .int .i64 eps, .int .i64 most, .int .i64 cold, .int .i64 rough, .int .i64 delta, .int .i64 down, .int .i64 join] := by rw [← hW2]; exact boxF_made _ _ _
  have hcf := (HK0.out.1.keep hq).keep hb2
  have hbel := (HK0.out.2.trans (hq.mono HK0.out.2.size)).trans (hb2.mono (HK0.out.2.trans (hq.mono HK0.out.2.size)).size)
  have HX := Lib.hid (And.intro hbx (And.intro hcf hbel))
  have q6 := HX.out.2.1.1 6 _ rfl
  have q7 := HX.out.2.1.1 7 _ rfl
  have q8 := HX.out.2.1.1 8 _ rfl
  have q9 := HX.out.2.1.1 9 _ rfl
  have p0' := HX.out.1.1 0 _ rfl
  have p1' := HX.out.1.1 1 _ rfl
  have p2' := HX.out.1.1 2 _ rfl
  have p3' := HX.out.1.1 3 _ rfl
  have p4' := HX.out.1.1 4 _ rfl
  have p5' := HX.out.1.1 5 _ rfl
  have p6' := HX.out.1.1 6 _ rfl
  have p7' := HX.out.1.1 7 _ rfl
  have p8' := HX.out.1.1 8 _ rfl
  have p9' := HX.out.1.1 9 _ rfl
  have p10' := HX.out.1.1 10 _ rfl
  have p11' := HX.out.1.1 11 _ rfl
  have p12' := HX.out.1.1 12 _ rfl
  have p13' := HX.out.1.1 13 _ rfl
  clear hq hb2 hbx hcf hbel
  have z0 : IntKind.i64.wrap (2 * rough) = 2 * rough := IntWalk.i64_in _ (by omega)
  have z1 : IntKind.i64.wrap (2 * rough + eps) = 2 * rough + eps := IntWalk.i64_in _ (by omega)
  have zp : IntKind.i64.wrap (hops * link) = p := by rw [hpp]; exact IntWalk.i64_in _ (by omega)
  have z2 : IntKind.i64.wrap (2 * rough + eps + p) = 2 * rough + eps + p := IntWalk.i64_in _ (by omega)
  have z3 : IntKind.i64.wrap (4 * fast) = 4 * fast := IntWalk.i64_in _ (by omega)
  have z4 : IntKind.i64.wrap (2 * rough + eps + p + 4 * fast) = 2 * rough + eps + p + 4 * fast := IntWalk.i64_in _ (by omega)
  clear hpp
  go_wp2
  go_ret
  exact ⟨ret_bool (by rw [HV.out]), HX.out.2.2⟩
set_option maxHeartbeats 6400000 in
theorem refEnough3 (c : Cn) (hg : goodC c = true) (c1 : 2 * bRough c + bEps c + bHops c * bLink c + 4 * bFast c ≤ c.window) (c2 : 4 * c.window ≤ c.round) (c3 : c.attend < 2 * bDelta c) (A : Option Addr) (l k : Nat) (w : World) : Calls Tryz.prog 52 #[.agg (c.cells A l k).toArray] w fun e w' => e = .returned (.bool (enoughB c)) ∧ Below w.heap.size w w' := by
  have HG := bd_ok hg
  have CO := fun W => ref26Of c hg A l k W
  have CG := fun W => ref26Good (c := c) hg A l k W
  unfold bCells at CO
  obtain ⟨n0, n1, d0, d1, d2, ⟨r0, r1, s0, s1⟩, ⟨a0, a1⟩, ⟨b0, b1⟩, ⟨g0, g1⟩⟩ := goodC_iff.1 hg
  have HE : Hid (enoughB c = (decide (2 * bRough c + bEps c + bHops c * bLink c + 4 * bFast c ≤ c.window) && (decide (4 * c.window ≤ c.round) && (decide (bMost c ≤ slI c.slew c.round c.window (bFast c)) && decide (2 * bDelta c ≤ c.attend))))) := by unfold Hid enoughB; rw [hg]; rfl
  obtain ⟨x0_hops, x1_hops⟩ := HG.hops
  obtain ⟨x0_fast, x1_fast⟩ := HG.fast
  obtain ⟨x0_link, x1_link⟩ := HG.link
  obtain ⟨x0_eps, x1_eps⟩ := HG.eps
  obtain ⟨x0_most, x1_most⟩ := HG.most
  obtain ⟨x0_rough, x1_rough⟩ := HG.rough
  obtain ⟨x0_delta, x1_delta⟩ := HG.delta
  have hp := mul_bd (a := bHops c) (A := 63) (b := bLink c) (B := 86016) (by omega) (by omega) (by omega) (by omega)
  clear HG hg
  generalize bHops c = hops at *
  generalize bFast c = fast at *
  generalize bSlow c = slow at *
  generalize bLink c = link at *
  generalize bRead c = read at *
  generalize bAgree c = agree at *
  generalize bStart c = start at *
  generalize bEps c = eps at *
  generalize bMost c = most at *
  generalize bCold c = cold at *
  generalize bRough c = rough at *
  generalize bDelta c = delta at *
  generalize bDown c = down at *
  generalize bJoin c = join at *
  generalize enoughB c = EB at *
  obtain ⟨n, f, dmin, dmax, rho, slew, round, window, attend, seen, hist, fly, quota, body⟩ := c
  simp only at *
  obtain ⟨p, hpp⟩ : ∃ p, hops * link = p := ⟨_, rfl⟩
  simp only [hpp] at hp HE c1
  obtain ⟨p0, p1⟩ := hp
  have HCO := Lib.hid CO
  clear CO
  have HCG := Lib.hid CG
  clear CG
  have k0 := boxF_made w [.int .i64 n, .slice A l k, .int .i64 f, .int .i64 dmin, .int .i64 dmax, .int .i64 rho, .int .i64 slew, .int .i64 round, .int .i64 window, .int .i64 attend, .int .i64 seen, .int .i64 hist, .int .i64 fly, .int .i64 quota, .int .i64 body] 32
  have k1 := (Below.refl w.heap.size w).alloc (Nat.le_refl _) (.cells #[.int .i64 n, .slice A l k, .int .i64 f, .int .i64 dmin, .int .i64 dmax, .int .i64 rho, .int .i64 slew, .int .i64 round, .int .i64 window, .int .i64 attend, .int .i64 seen, .int .i64 hist, .int .i64 fly, .int .i64 quota, .int .i64 body] 32)
  have HK := Lib.hid (And.intro k0 k1)
  clear k0 k1
  have HV : Hid (EB = false) := by unfold Hid; rw [HE.out, decide_eq_false (p := 2 * delta ≤ attend) (by omega)]; simp
  go_enter Tryz.func52, Tryz.ntmps52
  go_wp2_with fail
  refine (HCG.out _).mono ?_
  rintro e w0 ⟨rfl, hq⟩
  have HK0 := Lib.hid (And.intro (HK.out.1.keep hq) (HK.out.2.trans (hq.mono HK.out.2.size)))
  clear hq
  have t0 := HK0.out.1.1 0 _ rfl
  have t1 := HK0.out.1.1 1 _ rfl
  have t2 := HK0.out.1.1 2 _ rfl
  have t3 := HK0.out.1.1 3 _ rfl
  have t4 := HK0.out.1.1 4 _ rfl
  have t5 := HK0.out.1.1 5 _ rfl
  have t6 := HK0.out.1.1 6 _ rfl
  have t7 := HK0.out.1.1 7 _ rfl
  have t8 := HK0.out.1.1 8 _ rfl
  have t9 := HK0.out.1.1 9 _ rfl
  have t10 := HK0.out.1.1 10 _ rfl
  have t11 := HK0.out.1.1 11 _ rfl
  have t12 := HK0.out.1.1 12 _ rfl
  have t13 := HK0.out.1.1 13 _ rfl
  have t14 := HK0.out.1.1 14 _ rfl
  go_wp2_with fail
  refine (HCO.out _).mono ?_
  rintro e w1 ⟨rfl, hq⟩
  clear t0 t1 t2 t3 t4 t5 t6 t7 t8 t9 t10 t11 t12 t13 t14
  obtain ⟨W2, hW2⟩ : ∃ W2, w1.alloc (.cells #[.int .i64 hops, .int .i64 fast, .int .i64 slow, .int .i64 link, .int .i64 read, .int .i64 agree, .int .i64 start, .int .i64 eps, .int .i64 most, .int .i64 cold, .int .i64 rough, .int .i64 delta, .int .i64 down, .int .i64 join] 115) = W2 := ⟨_, rfl⟩
  have hb2 : Below w1.heap.size w1 W2 := by rw [← hW2]; exact (Below.refl _ _).alloc (Nat.le_refl _) _
  have hbx : BoxF W2 w1.heap.size [.int .i64 hops, .int .i64 fast, .int .i64 slow, .int .i64 link, .int .i64 read, .int .i64 agree, .int .i64 start, .int .i64 eps, .int .i64 most, .int .i64 cold, .int .i64 rough, .int .i64 delta, .int .i64 down, .int .i64 join] := by rw [← hW2]; exact boxF_made _ _ _
  have hcf := (HK0.out.1.keep hq).keep hb2
  have hbel := (HK0.out.2.trans (hq.mono HK0.out.2.size)).trans (hb2.mono (HK0.out.2.trans (hq.mono HK0.out.2.size)).size)
  have HX := Lib.hid (And.intro hbx (And.intro hcf hbel))
  have q6 := HX.out.2.1.1 6 _ rfl
  have q7 := HX.out.2.1.1 7 _ rfl
  have q8 := HX.out.2.1.1 8 _ rfl
  have q9 := HX.out.2.1.1 9 _ rfl
  have p0' := HX.out.1.1 0 _ rfl
  have p1' := HX.out.1.1 1 _ rfl
  have p2' := HX.out.1.1 2 _ rfl
  have p3' := HX.out.1.1 3 _ rfl
  have p4' := HX.out.1.1 4 _ rfl
  have p5' := HX.out.1.1 5 _ rfl
  have p6' := HX.out.1.1 6 _ rfl
  have p7' := HX.out.1.1 7 _ rfl
  have p8' := HX.out.1.1 8 _ rfl
  have p9' := HX.out.1.1 9 _ rfl
  have p10' := HX.out.1.1 10 _ rfl
  have p11' := HX.out.1.1 11 _ rfl
  have p12' := HX.out.1.1 12 _ rfl
  have p13' := HX.out.1.1 13 _ rfl
  clear hq hb2 hbx hcf hbel
  have z0 : IntKind.i64.wrap (2 * rough) = 2 * rough := IntWalk.i64_in _ (by omega)
  have z1 : IntKind.i64.wrap (2 * rough + eps) = 2 * rough + eps := IntWalk.i64_in _ (by omega)
  have zp : IntKind.i64.wrap (hops * link) = p := by rw [hpp]; exact IntWalk.i64_in _ (by omega)
  have z2 : IntKind.i64.wrap (2 * rough + eps + p) = 2 * rough + eps + p := IntWalk.i64_in _ (by omega)
  have z3 : IntKind.i64.wrap (4 * fast) = 4 * fast := IntWalk.i64_in _ (by omega)
  have z4 : IntKind.i64.wrap (2 * rough + eps + p + 4 * fast) = 2 * rough + eps + p + 4 * fast := IntWalk.i64_in _ (by omega)
  clear hpp
  go_wp2
  go_ret
  exact ⟨ret_bool (by rw [HV.out]), HX.out.2.2⟩
set_option maxHeartbeats 6400000 in
theorem refEnough4 (c : Cn) (hg : goodC c = true) (c1 : 2 * bRough c + bEps c + bHops c * bLink c + 4 * bFast c ≤ c.window) (c2 : 4 * c.window ≤ c.round) (c3 : 2 * bDelta c ≤ c.attend) (A : Option Addr) (l k : Nat) (w : World) : Calls Tryz.prog 52 #[.agg (c.cells A l k).toArray] w fun e w' => e = .returned (.bool (enoughB c)) ∧ Below w.heap.size w w' := by
  have HG := bd_ok hg
  have CO := fun W => ref26Of c hg A l k W
  have CG := fun W => ref26Good (c := c) hg A l k W
  unfold bCells at CO
  obtain ⟨n0, n1, d0, d1, d2, ⟨r0, r1, s0, s1⟩, ⟨a0, a1⟩, ⟨b0, b1⟩, ⟨g0, g1⟩⟩ := goodC_iff.1 hg
  have HE : Hid (enoughB c = (decide (2 * bRough c + bEps c + bHops c * bLink c + 4 * bFast c ≤ c.window) && (decide (4 * c.window ≤ c.round) && (decide (bMost c ≤ slI c.slew c.round c.window (bFast c)) && decide (2 * bDelta c ≤ c.attend))))) := by unfold Hid enoughB; rw [hg]; rfl
  obtain ⟨x0_hops, x1_hops⟩ := HG.hops
  obtain ⟨x0_fast, x1_fast⟩ := HG.fast
  obtain ⟨x0_link, x1_link⟩ := HG.link
  obtain ⟨x0_eps, x1_eps⟩ := HG.eps
  obtain ⟨x0_most, x1_most⟩ := HG.most
  obtain ⟨x0_rough, x1_rough⟩ := HG.rough
  obtain ⟨x0_delta, x1_delta⟩ := HG.delta
  have hp := mul_bd (a := bHops c) (A := 63) (b := bLink c) (B := 86016) (by omega) (by omega) (by omega) (by omega)
  clear HG hg
  generalize bHops c = hops at *
  generalize bFast c = fast at *
  generalize bSlow c = slow at *
  generalize bLink c = link at *
  generalize bRead c = read at *
  generalize bAgree c = agree at *
  generalize bStart c = start at *
  generalize bEps c = eps at *
  generalize bMost c = most at *
  generalize bCold c = cold at *
  generalize bRough c = rough at *
  generalize bDelta c = delta at *
  generalize bDown c = down at *
  generalize bJoin c = join at *
  generalize enoughB c = EB at *
  obtain ⟨n, f, dmin, dmax, rho, slew, round, window, attend, seen, hist, fly, quota, body⟩ := c
  simp only at *
  obtain ⟨p, hpp⟩ : ∃ p, hops * link = p := ⟨_, rfl⟩
  simp only [hpp] at hp HE c1
  obtain ⟨p0, p1⟩ := hp
  have hd : (round - 2 * window).tdiv fast = (round - 2 * window) / fast := Int.tdiv_eq_ediv_of_nonneg (by omega)
  have e0 : 0 ≤ (round - 2 * window) / fast := Int.ediv_nonneg (by omega) (by omega)
  have e1 : (round - 2 * window) / fast ≤ round - 2 * window := Int.ediv_le_self _ (by omega)
  have hne : (fast == 0) = false := beq_eq_false_iff_ne.2 (by omega)
  have HSL : Hid (slI slew round window fast = slew * ((round - 2 * window).tdiv fast - 2)) := rfl
  obtain ⟨q, hq⟩ : ∃ q, (round - 2 * window).tdiv fast = q := ⟨_, rfl⟩
  rw [hq] at HSL
  rw [← hd, hq] at e0 e1
  clear hd
  have y2 : slew * (q - 2) ≤ 256 * 1099511627776 := by
    have h3 : slew * (q - 2) ≤ slew * q := Int.mul_le_mul_of_nonneg_left (by omega) (by omega)
    have h4 := (mul_bd (a := slew) (A := 256) (b := q) (B := 1099511627776) (by omega) (by omega) e0 (by omega)).2
    omega
  have y1 : -512 ≤ slew * (q - 2) := by
    have h3 : slew * (q - 2) ≥ slew * (-2) := Int.mul_le_mul_of_nonneg_left (by omega) (by omega)
    omega
  obtain ⟨x, hx⟩ : ∃ x, slew * (q - 2) = x := ⟨_, rfl⟩
  rw [hx] at y1 y2 HSL
  have HCO := Lib.hid CO
  clear CO
  have HCG := Lib.hid CG
  clear CG
  have k0 := boxF_made w [.int .i64 n, .slice A l k, .int .i64 f, .int .i64 dmin, .int .i64 dmax, .int .i64 rho, .int .i64 slew, .int .i64 round, .int .i64 window, .int .i64 attend, .int .i64 seen, .int .i64 hist, .int .i64 fly, .int .i64 quota, .int .i64 body] 32
  have k1 := (Below.refl w.heap.size w).alloc (Nat.le_refl _) (.cells #[.int .i64 n, .slice A l k, .int .i64 f, .int .i64 dmin, .int .i64 dmax, .int .i64 rho, .int .i64 slew, .int .i64 round, .int .i64 window, .int .i64 attend, .int .i64 seen, .int .i64 hist, .int .i64 fly, .int .i64 quota, .int .i64 body] 32)
  have HK := Lib.hid (And.intro k0 k1)
  clear k0 k1
  have HV : Hid (EB = decide (most ≤ x)) := by unfold Hid; rw [HE.out, HSL.out, decide_eq_true (p := 2 * delta ≤ attend) (by omega), decide_eq_true (p := 4 * window ≤ round) (by omega), decide_eq_true (p := 2 * rough + eps + p + 4 * fast ≤ window) (by omega)]; simp
  go_enter Tryz.func52, Tryz.ntmps52
  go_wp2_with fail
  refine (HCG.out _).mono ?_
  rintro e w0 ⟨rfl, hq⟩
  have HK0 := Lib.hid (And.intro (HK.out.1.keep hq) (HK.out.2.trans (hq.mono HK.out.2.size)))
  clear hq
  have t0 := HK0.out.1.1 0 _ rfl
  have t1 := HK0.out.1.1 1 _ rfl
  have t2 := HK0.out.1.1 2 _ rfl
  have t3 := HK0.out.1.1 3 _ rfl
  have t4 := HK0.out.1.1 4 _ rfl
  have t5 := HK0.out.1.1 5 _ rfl
  have t6 := HK0.out.1.1 6 _ rfl
  have t7 := HK0.out.1.1 7 _ rfl
  have t8 := HK0.out.1.1 8 _ rfl
  have t9 := HK0.out.1.1 9 _ rfl
  have t10 := HK0.out.1.1 10 _ rfl
  have t11 := HK0.out.1.1 11 _ rfl
  have t12 := HK0.out.1.1 12 _ rfl
  have t13 := HK0.out.1.1 13 _ rfl
  have t14 := HK0.out.1.1 14 _ rfl
  go_wp2_with fail
  refine (HCO.out _).mono ?_
  rintro e w1 ⟨rfl, hq⟩
  clear t0 t1 t2 t3 t4 t5 t6 t7 t8 t9 t10 t11 t12 t13 t14
  obtain ⟨W2, hW2⟩ : ∃ W2, w1.alloc (.cells #[.int .i64 hops, .int .i64 fast, .int .i64 slow, .int .i64 link, .int .i64 read, .int .i64 agree, .int .i64 start, .int .i64 eps, .int .i64 most, .int .i64 cold, .int .i64 rough, .int .i64 delta, .int .i64 down, .int .i64 join] 115) = W2 := ⟨_, rfl⟩
  have hb2 : Below w1.heap.size w1 W2 := by rw [← hW2]; exact (Below.refl _ _).alloc (Nat.le_refl _) _
  have hbx : BoxF W2 w1.heap.size [.int .i64 hops, .int .i64 fast, .int .i64 slow, .int .i64 link, .int .i64 read, .int .i64 agree, .int .i64 start, .int .i64 eps, .int .i64 most, .int .i64 cold, .int .i64 rough, .int .i64 delta, .int .i64 down, .int .i64 join] := by rw [← hW2]; exact boxF_made _ _ _
  have hcf := (HK0.out.1.keep hq).keep hb2
  have hbel := (HK0.out.2.trans (hq.mono HK0.out.2.size)).trans (hb2.mono (HK0.out.2.trans (hq.mono HK0.out.2.size)).size)
  have HX := Lib.hid (And.intro hbx (And.intro hcf hbel))
  have q6 := HX.out.2.1.1 6 _ rfl
  have q7 := HX.out.2.1.1 7 _ rfl
  have q8 := HX.out.2.1.1 8 _ rfl
  have q9 := HX.out.2.1.1 9 _ rfl
  have p0' := HX.out.1.1 0 _ rfl
  have p1' := HX.out.1.1 1 _ rfl
  have p2' := HX.out.1.1 2 _ rfl
  have p3' := HX.out.1.1 3 _ rfl
  have p4' := HX.out.1.1 4 _ rfl
  have p5' := HX.out.1.1 5 _ rfl
  have p6' := HX.out.1.1 6 _ rfl
  have p7' := HX.out.1.1 7 _ rfl
  have p8' := HX.out.1.1 8 _ rfl
  have p9' := HX.out.1.1 9 _ rfl
  have p10' := HX.out.1.1 10 _ rfl
  have p11' := HX.out.1.1 11 _ rfl
  have p12' := HX.out.1.1 12 _ rfl
  have p13' := HX.out.1.1 13 _ rfl
  clear hq hb2 hbx hcf hbel
  have z0 : IntKind.i64.wrap (2 * rough) = 2 * rough := IntWalk.i64_in _ (by omega)
  have z1 : IntKind.i64.wrap (2 * rough + eps) = 2 * rough + eps := IntWalk.i64_in _ (by omega)
  have zp : IntKind.i64.wrap (hops * link) = p := by rw [hpp]; exact IntWalk.i64_in _ (by omega)
  have z2 : IntKind.i64.wrap (2 * rough + eps + p) = 2 * rough + eps + p := IntWalk.i64_in _ (by omega)
  have z3 : IntKind.i64.wrap (4 * fast) = 4 * fast := IntWalk.i64_in _ (by omega)
  have z4 : IntKind.i64.wrap (2 * rough + eps + p + 4 * fast) = 2 * rough + eps + p + 4 * fast := IntWalk.i64_in _ (by omega)
  clear hpp
  have q6' := fun U : Later W2 => (HX.out.2.1.keep U.h).1 6 _ rfl
  have q7' := fun U : Later W2 => (HX.out.2.1.keep U.h).1 7 _ rfl
  have q8' := fun U : Later W2 => (HX.out.2.1.keep U.h).1 8 _ rfl
  have b1' := fun U : Later W2 => (HX.out.1.keep U.h).1 1 _ rfl
  have b8' := fun U : Later W2 => (HX.out.1.keep U.h).1 8 _ rfl
  have zx : IntKind.i64.wrap (slew * (q - 2)) = x := by rw [hx]; exact IntWalk.i64_in _ (by omega)
  go_wp2_with fail
  refine wp_region_later (by kernel_rfl) (by kernel_rfl) ?_
  repeat (go_big_quiet_step (fail))
  refine wpQuiet_nil ?_
  rintro W4 ⟨⟨W4_, hb4⟩, rfl⟩
  try dsimp only
  have HF := Lib.hid (HX.out.2.2.trans (hb4.mono HX.out.2.2.size))
  clear hb4
  go_wp2
  go_ret
  exact ⟨ret_bool (by rw [HV.out]), HF.out⟩
theorem refEnough (c : Cn) (A : Option Addr) (l k : Nat) (w : World) : Calls Tryz.prog 52 #[.agg (c.cells A l k).toArray] w fun e w' => e = .returned (.bool (enoughB c)) ∧ Below w.heap.size w w' := by
  cases hg : goodC c
  · exact refEnough0 c hg A l k w
  · by_cases c1 : c.window < 2 * bRough c + bEps c + bHops c * bLink c + 4 * bFast c
    · exact refEnough1 c hg c1 A l k w
    · by_cases c2 : c.round < 4 * c.window
      · exact refEnough2 c hg (by omega) c2 A l k w
      · by_cases c3 : c.attend < 2 * bDelta c
        · exact refEnough3 c hg (by omega) (by omega) c3 A l k w
        · exact refEnough4 c hg (by omega) (by omega) (by omega) A l k w
end Go.Proofs.YteahiphmhaedpaaGreatDoor
