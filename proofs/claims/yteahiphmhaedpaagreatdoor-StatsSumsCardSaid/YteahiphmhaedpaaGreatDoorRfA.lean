/- The reference's rates, hops, readings; which numbers may be. -/
import Derived.Test.YteahiphmhaedpaaGreatDoorCfC
namespace Go.Proofs.YteahiphmhaedpaaGreatDoor
open Go.RowKit Law
set_option linter.unusedVariables false
set_option linter.unusedSimpArgs false
set_option maxRecDepth 100000

theorem ref20Good {rho slew : Int} {r : Bool} (hr : goodRS rho slew = r) (w : World) : Calls Tryz.prog 115 #[.int .i64 rho, .int .i64 slew] w fun e w' => e = .returned (.bool r) ∧ w = w' := by
  subst hr
  have HG : Hid (goodRS rho slew = (decide (0 ≤ rho) && decide (rho ≤ 64) && decide (1 ≤ slew) && decide (slew ≤ 256))) := rfl
  go_enter Tryz.func115, Tryz.ntmps115
  go_wp2
  all_goals
    go_ret
    refine ⟨ret_bool ?_, rfl⟩
    rw [HG.out]
    rw [Bool.eq_iff_iff]
    simp
    omega
theorem ref20Fast {rho slew : Int} (h0 : 0 ≤ rho) (h1 : rho ≤ 64) (h2 : 1 ≤ slew) (h3 : slew ≤ 256) (w : World) : Calls Tryz.prog 116 #[.int .i64 rho, .int .i64 slew] w fun e w' => e = .returned (.int .i64 (1024 + rho + slew)) ∧ w = w' := by
  have C := Lib.hid (ref20Good (goodRS_yes h0 h1 h2 h3) w)
  go_enter Tryz.func116, Tryz.ntmps116
  go_wp2_with fail
  refine C.out.mono ?_
  rintro e w' ⟨rfl, rfl⟩
  go_wp2
  go_ret
  exact ⟨rfl, rfl⟩
theorem ref20Slow {rho slew : Int} (h0 : 0 ≤ rho) (h1 : rho ≤ 64) (h2 : 1 ≤ slew) (h3 : slew ≤ 256) (w : World) : Calls Tryz.prog 117 #[.int .i64 rho, .int .i64 slew] w fun e w' => e = .returned (.int .i64 (1024 - rho - slew)) ∧ w = w' := by
  have C := Lib.hid (ref20Good (goodRS_yes h0 h1 h2 h3) w)
  go_enter Tryz.func117, Tryz.ntmps117
  go_wp2_with fail
  refine C.out.mono ?_
  rintro e w' ⟨rfl, rfl⟩
  go_wp2
  go_ret
  exact ⟨rfl, rfl⟩
theorem ref20Ticks {g slow : Int} (h0 : 0 ≤ g) (h1 : g ≤ 1152921504606846976) (h2 : 1 ≤ slow) (h3 : slow ≤ 1000000) (w : World) : Calls Tryz.prog 118 #[.int .i64 g, .int .i64 slow] w fun e w' => e = .returned (.int .i64 (tkI g slow)) ∧ w = w' := by
  have d1 : g.tdiv slow = g / slow := Int.tdiv_eq_ediv_of_nonneg h0
  have e0 : 0 ≤ g / slow := Int.ediv_nonneg h0 (by omega)
  have e1 : g / slow ≤ g := Int.ediv_le_self _ h0
  have hne : (slow == 0) = false := beq_eq_false_iff_ne.2 (by omega)
  have HT : Hid (tkI g slow = g / slow + 2) := rfl
  go_enter Tryz.func118, Tryz.ntmps118
  go_wp2
  go_ret
  exact ⟨ret_int HT.out.symm, rfl⟩
theorem ref19Good {h dmin dmax : Int} {r : Bool} (hr : goodH h dmin dmax = r) (w : World) : Calls Tryz.prog 182 #[.int .i64 h, .int .i64 dmin, .int .i64 dmax] w fun e w' => e = .returned (.bool r) ∧ w = w' := by
  subst hr
  have HG : Hid (goodH h dmin dmax = (decide (0 ≤ h) && decide (h ≤ 63) && decide (0 ≤ dmin) && decide (dmin ≤ dmax) && decide (dmax ≤ 64))) := rfl
  go_enter Tryz.func182, Tryz.ntmps182
  go_wp2
  all_goals
    go_ret
    refine ⟨ret_bool ?_, rfl⟩
    rw [HG.out]
    rw [Bool.eq_iff_iff]
    simp
    omega
theorem errH_eq (h a b rho : Int) : h * ((b - a) * 512 + rho * b) = errH h a b rho := by
  unfold errH
  rw [Int.mul_add, ← Int.mul_assoc, Int.mul_sub, Int.mul_left_comm h rho b]
theorem ref19Err {h a b rho : Int} (h0 : 0 ≤ h) (hh : h ≤ 63) (a0 : 0 ≤ a) (hab : a ≤ b) (hb : b ≤ 64) (r0 : 0 ≤ rho) (hr : rho ≤ 64) (w : World) : Calls Tryz.prog 119 #[.int .i64 h, .int .i64 a, .int .i64 b, .int .i64 rho] w fun e w' => e = .returned (.int .i64 (errH h a b rho)) ∧ w = w' := by
  have HE := Lib.hid (errH_eq h a b rho)
  obtain ⟨p0, p1⟩ := mul_bd (a := rho) (A := 64) (b := b) (B := 64) r0 hr (by omega) hb
  obtain ⟨x, hx⟩ : ∃ x, rho * b = x := ⟨_, rfl⟩
  rw [hx] at p0 p1 HE
  obtain ⟨m0, m1⟩ := mul_bd (a := h) (A := 63) (b := (b - a) * 512 + x) (B := 64 * 512 + 4096) h0 hh (by omega) (by omega)
  obtain ⟨y, hy⟩ : ∃ y, h * ((b - a) * 512 + x) = y := ⟨_, rfl⟩
  rw [hy] at m0 m1 HE
  go_enter Tryz.func119, Tryz.ntmps119
  go_wp2
  go_ret
  exact ⟨ret_int HE.out, rfl⟩
theorem ref23Err {a b rho slew : Int} (a0 : 0 ≤ a) (hab : a ≤ b) (hb : b ≤ 64) (r0 : 0 ≤ rho) (hr : rho ≤ 64) (hs : 1 ≤ slew) (hs2 : slew ≤ 256) (w : World) : Calls Tryz.prog 120 #[.int .i64 a, .int .i64 b, .int .i64 rho, .int .i64 slew] w fun e w' => e = .returned (.tuple #[.int .i64 (errR a b rho slew), .bool true]) ∧ w = w' := by
  have C := Lib.hid (ref19Good (goodH_yes (h := 1) (dmin := a) (dmax := b) (by omega) (by omega) (by omega) (by omega) (by omega)) w)
  have C1 := Lib.hid (ref20Good (goodRS_yes (rho := rho) (slew := slew) (by omega) (by omega) (by omega) (by omega)) w)
  have HE : Hid (errR a b rho slew = (b - a) * 512 + (2 * rho + slew) * b + 1) := rfl
  obtain ⟨p4, p5⟩ := mul_bd (a := 2 * rho + slew) (A := 384) (b := b) (B := 64) (by omega) (by omega) (by omega) (by omega)
  go_enter Tryz.func120, Tryz.ntmps120
  go_wp2_with fail
  refine C.out.mono ?_
  rintro e w' ⟨rfl, rfl⟩
  go_wp2_with fail
  refine C1.out.mono ?_
  rintro e w' ⟨rfl, rfl⟩
  go_wp2
  go_ret2
  exact ⟨ret_i2 HE.out.symm rfl, rfl⟩
set_option maxHeartbeats 6400000 in
theorem ref26Good {c : Cn} {r : Bool} (hr : goodC c = r) (A : Option Addr) (l k : Nat) (w : World) : Calls Tryz.prog 50 #[.agg (c.cells A l k).toArray] w fun e w' => e = .returned (.bool r) ∧ Below w.heap.size w w' := by
  subst hr
  obtain ⟨n, f, dmin, dmax, rho, slew, round, window, attend, seen, hist, fly, quota, body⟩ := c
  have HG : Hid (goodC ⟨n, f, dmin, dmax, rho, slew, round, window, attend, seen, hist, fly, quota, body⟩ = (decide (2 ≤ n) && decide (n ≤ 64) && decide (1 ≤ dmin) && decide (dmin ≤ dmax) && decide (dmax ≤ 64) && goodRS rho slew && (decide (1 ≤ round) && decide (round ≤ 1099511627776)) && (decide (1 ≤ window) && decide (window ≤ 1099511627776)) && (decide (1 ≤ attend) && decide (attend ≤ 1099511627776)))) := rfl
  generalize goodC _ = G at *
  obtain ⟨g, hg⟩ : ∃ g, goodRS rho slew = g := ⟨_, rfl⟩
  have C := Lib.hid (fun W => ref20Good hg W)
  rw [hg] at HG
  clear hg
  have k1 := Lib.hid ((Below.refl w.heap.size w).alloc (Nat.le_refl _) (.cells #[.int .i64 n, .slice A l k, .int .i64 f, .int .i64 dmin, .int .i64 dmax, .int .i64 rho, .int .i64 slew, .int .i64 round, .int .i64 window, .int .i64 attend, .int .i64 seen, .int .i64 hist, .int .i64 fly, .int .i64 quota, .int .i64 body] 32))
  by_cases hq : 2 ≤ n ∧ n ≤ 64 ∧ 1 ≤ dmin ∧ dmin ≤ dmax ∧ dmax ≤ 64
  · obtain ⟨g0, g1, g2, g3, g4⟩ := hq
    have HG2 : Hid (G = (g && (decide (1 ≤ round) && decide (round ≤ 1099511627776)) && (decide (1 ≤ window) && decide (window ≤ 1099511627776)) && (decide (1 ≤ attend) && decide (attend ≤ 1099511627776)))) := by
      unfold Hid; rw [HG.out, decide_eq_true g0, decide_eq_true g1, decide_eq_true g2, decide_eq_true g3, decide_eq_true g4]; simp
    cases g
    · go_enter Tryz.func50, Tryz.ntmps50
      go_wp2_with fail
      refine (C.out _).mono ?_
      rintro e w' ⟨rfl, rfl⟩
      go_wp2
      go_ret
      exact ⟨ret_bool (by rw [HG2.out]; simp), k1.out⟩
    · go_enter Tryz.func50, Tryz.ntmps50
      go_wp2_with fail
      refine (C.out _).mono ?_
      rintro e w' ⟨rfl, rfl⟩
      go_wp2
      all_goals
        go_ret
        refine ⟨ret_bool ?_, k1.out⟩
        rw [HG2.out, Bool.eq_iff_iff]
        simp
        omega
  · have HG2 : Hid (G = false) := by
      unfold Hid; rw [HG.out, Bool.eq_false_iff]
      intro h
      simp only [Bool.and_eq_true, decide_eq_true_eq] at h
      exact hq ⟨h.1.1.1.1.1.1.1.1, h.1.1.1.1.1.1.1.2, h.1.1.1.1.1.1.2, h.1.1.1.1.1.2, h.1.1.1.1.2⟩
    clear HG
    by_cases g0 : 2 ≤ n
    rotate_left
    · go_enter Tryz.func50, Tryz.ntmps50
      go_wp2
      go_ret
      exact ⟨ret_bool HG2.out.symm, k1.out⟩
    by_cases g1 : n ≤ 64
    rotate_left
    · go_enter Tryz.func50, Tryz.ntmps50
      go_wp2
      go_ret
      exact ⟨ret_bool HG2.out.symm, k1.out⟩
    by_cases g2 : 1 ≤ dmin
    rotate_left
    · go_enter Tryz.func50, Tryz.ntmps50
      go_wp2
      go_ret
      exact ⟨ret_bool HG2.out.symm, k1.out⟩
    by_cases g3 : dmin ≤ dmax
    rotate_left
    · go_enter Tryz.func50, Tryz.ntmps50
      go_wp2
      go_ret
      exact ⟨ret_bool HG2.out.symm, k1.out⟩
    have g4 : ¬ dmax ≤ 64 := fun h => hq ⟨g0, g1, g2, g3, h⟩
    go_enter Tryz.func50, Tryz.ntmps50
    go_wp2
    go_ret
    exact ⟨ret_bool HG2.out.symm, k1.out⟩
end Go.Proofs.YteahiphmhaedpaaGreatDoor
