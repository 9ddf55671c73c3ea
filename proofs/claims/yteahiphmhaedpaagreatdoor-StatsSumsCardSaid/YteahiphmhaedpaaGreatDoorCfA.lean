/- Rates, spans, hops, readings: what the program computes of them. -/
import Derived.Test.YteahiphmhaedpaaGreatDoorBase
import Derived.BigQuiet
import Derived.Handy
import Derived.Outline
import Derived.Deep.Cut
namespace Go.Proofs.YteahiphmhaedpaaGreatDoor
open Go.RowKit Law
set_option linter.unusedVariables false
set_option linter.unusedSimpArgs false
set_option maxRecDepth 100000

theorem ret_i2 {a b : Int} {c d : Bool} (h : a = b) (h2 : c = d) : Ending.returned (.tuple #[.int .i64 a, .bool c]) = .returned (.tuple #[.int .i64 b, .bool d]) := by rw [h, h2]
def goodRS (rho slew : Int) : Bool := decide (0 ≤ rho) && decide (rho ≤ 64) && decide (1 ≤ slew) && decide (slew ≤ 256)
theorem rateGood (rho slew : Int) (w : World) : Calls Tryz.prog 174 #[.int .i64 rho, .int .i64 slew] w fun e w' => e = .returned (.bool (goodRS rho slew)) ∧ w = w' := by
  have HG : Hid (goodRS rho slew = (decide (0 ≤ rho) && decide (rho ≤ 64) && decide (1 ≤ slew) && decide (slew ≤ 256))) := rfl
  go_enter Tryz.func174, Tryz.ntmps174
  go_wp2
  all_goals
    go_ret
    refine ⟨ret_bool ?_, rfl⟩
    rw [HG.out]
    first | (simp [*]; done) | (simp [*]; omega)
theorem goodRS_iff {rho slew : Int} : goodRS rho slew = true ↔ 0 ≤ rho ∧ rho ≤ 64 ∧ 1 ≤ slew ∧ slew ≤ 256 := by
  unfold goodRS; simp [and_assoc]
theorem goodRS_yes {rho slew : Int} (h0 : 0 ≤ rho) (h1 : rho ≤ 64) (h2 : 1 ≤ slew) (h3 : slew ≤ 256) : goodRS rho slew = true := goodRS_iff.2 ⟨h0, h1, h2, h3⟩
theorem rateGoodV {rho slew : Int} {r : Bool} (h : goodRS rho slew = r) (w : World) : Calls Tryz.prog 174 #[.int .i64 rho, .int .i64 slew] w fun e w' => e = .returned (.bool r) ∧ w = w' := by
  subst h; exact rateGood rho slew w
theorem rateFast {rho slew : Int} (h0 : 0 ≤ rho) (h1 : rho ≤ 64) (h2 : 1 ≤ slew) (h3 : slew ≤ 256) (w : World) : Calls Tryz.prog 104 #[.int .i64 rho, .int .i64 slew] w fun e w' => e = .returned (.int .i64 (1024 + rho + slew)) ∧ w = w' := by
  have C := Lib.hid (rateGoodV (goodRS_yes h0 h1 h2 h3) w)
  go_enter Tryz.func104, Tryz.ntmps104
  go_wp2_with fail
  refine C.out.mono ?_
  rintro e w' ⟨rfl, rfl⟩
  go_wp2
  go_ret
  exact ⟨rfl, rfl⟩
theorem rateSlow {rho slew : Int} (h0 : 0 ≤ rho) (h1 : rho ≤ 64) (h2 : 1 ≤ slew) (h3 : slew ≤ 256) (w : World) : Calls Tryz.prog 105 #[.int .i64 rho, .int .i64 slew] w fun e w' => e = .returned (.int .i64 (1024 - rho - slew)) ∧ w = w' := by
  have C := Lib.hid (rateGoodV (goodRS_yes h0 h1 h2 h3) w)
  go_enter Tryz.func105, Tryz.ntmps105
  go_wp2_with fail
  refine C.out.mono ?_
  rintro e w' ⟨rfl, rfl⟩
  go_wp2
  go_ret
  exact ⟨rfl, rfl⟩
theorem spanMay {a b : Int} (hb : 1 ≤ b) (w : World) : Calls Tryz.prog 250 #[.int .i64 a, .int .i64 b] w fun e w' => e = .returned (.bool true) ∧ w = w' := by
  have q1 : (b != 0) = true := by rw [bne_iff_ne]; omega
  have q2 : (b != -1) = true := by rw [bne_iff_ne]; omega
  go_enter Tryz.func250, Tryz.ntmps250
  go_wp2
  all_goals
    go_ret
    exact ⟨rfl, rfl⟩
/-- A quotient of numbers that are not negative: it draws its order. -/
theorem spanDiv {a b : Int} (ha : 0 ≤ a) (ha2 : a ≤ 9223372036854775807) (hb : 1 ≤ b) (hb2 : b ≤ 9223372036854775807) (w : World) : Calls Tryz.prog 176 #[.int .i64 a, .int .i64 b] w fun e w' => e = .returned (.tuple #[.int .i64 (a / b), .bool true]) ∧ ∃ n, w' = w.drewN n := by
  have C := Lib.hid (spanMay (a := a) hb w)
  have d1 : a.tdiv b = a / b := Int.tdiv_eq_ediv_of_nonneg ha
  have d2 : a.tmod b = a % b := Int.tmod_eq_emod_of_nonneg ha
  have m0 : 0 ≤ a % b := Int.emod_nonneg _ (by omega)
  have m1 : a % b < b := Int.emod_lt_of_pos _ (by omega)
  have e0 : 0 ≤ a / b := Int.ediv_nonneg ha (by omega)
  have e1 : a / b ≤ a := Int.ediv_le_self _ ha
  have q0 : (b == 0) = false := beq_eq_false_iff_ne.2 (by omega)
  have q1 : (a % b < 0) = False := eq_false (by omega)
  have q2 : (b < 0) = False := eq_false (by omega)
  go_enter Tryz.func176, Tryz.ntmps176
  go_wp2_with fail
  refine C.out.mono ?_
  rintro e w' ⟨rfl, rfl⟩
  go_wp2_with fail
  go_quiet (fail)
  go_wp2
  all_goals
    go_ret2
    exact ⟨rfl, _, rfl⟩
theorem rateTicks {g slow : Int} (h0 : 0 ≤ g) (h1 : g ≤ 1152921504606846976) (h2 : 1 ≤ slow) (h3 : slow ≤ 1000000) (w : World) : Calls Tryz.prog 107 #[.int .i64 g, .int .i64 slow] w fun e w' => e = .returned (.int .i64 (g / slow + 2)) ∧ ∃ n, w' = w.drewN n := by
  have C := Lib.hid (spanDiv h0 (by omega) h2 (by omega) w)
  have hm : min g 1152921504606846976 = g := by omega
  have e0 : 0 ≤ g / slow := Int.ediv_nonneg h0 (by omega)
  have e1 : g / slow ≤ g := Int.ediv_le_self _ h0
  go_enter Tryz.func107, Tryz.ntmps107
  go_wp2_with fail
  refine C.out.mono ?_
  rintro e w' ⟨rfl, n, rfl⟩
  go_wp2
  go_ret
  exact ⟨rfl, _, rfl⟩
def goodH (h dmin dmax : Int) : Bool := decide (0 ≤ h) && decide (h ≤ 63) && decide (0 ≤ dmin) && decide (dmin ≤ dmax) && decide (dmax ≤ 64)
theorem hopsGood (h dmin dmax : Int) (w : World) : Calls Tryz.prog 178 #[.int .i64 h, .int .i64 dmin, .int .i64 dmax] w fun e w' => e = .returned (.bool (goodH h dmin dmax)) ∧ w = w' := by
  have HG : Hid (goodH h dmin dmax = (decide (0 ≤ h) && decide (h ≤ 63) && decide (0 ≤ dmin) && decide (dmin ≤ dmax) && decide (dmax ≤ 64))) := rfl
  go_enter Tryz.func178, Tryz.ntmps178
  go_wp2
  all_goals
    go_ret
    refine ⟨ret_bool ?_, rfl⟩
    rw [HG.out]
    first | (simp [*]; done) | (simp [*]; omega)
theorem goodH_yes {h dmin dmax : Int} (h0 : 0 ≤ h) (h1 : h ≤ 63) (h2 : 0 ≤ dmin) (h3 : dmin ≤ dmax) (h4 : dmax ≤ 64) : goodH h dmin dmax = true := by
  unfold goodH; simp [h0, h1, h2, h3, h4]
theorem hopsGoodV {h dmin dmax : Int} {r : Bool} (hr : goodH h dmin dmax = r) (w : World) : Calls Tryz.prog 178 #[.int .i64 h, .int .i64 dmin, .int .i64 dmax] w fun e w' => e = .returned (.bool r) ∧ w = w' := by
  subst hr; exact hopsGood h dmin dmax w
theorem spanAbs (a : Nat) (ha : a ≤ 9223372036854775807) (w : World) : Calls Tryz.prog 368 #[.int .i64 (a : Int)] w fun e w' => e = .returned (.int .u64 (a : Int)) ∧ w = w' := by
  go_enter Tryz.func368, Tryz.ntmps368
  go_wp2
  go_ret
  exact ⟨rfl, rfl⟩
theorem mul_bd {a b A B : Int} (ha : 0 ≤ a) (hA : a ≤ A) (hb : 0 ≤ b) (hB : b ≤ B) : 0 ≤ a * b ∧ a * b ≤ A * B := ⟨Int.mul_nonneg ha hb, Int.mul_le_mul hA hB hb (by omega)⟩
theorem spanMul (a b : Nat) (ha : a ≤ 1000) (hb : b ≤ 1000) (w : World) : Calls Tryz.prog 315 #[.int .i64 (a : Int), .int .i64 (b : Int)] w fun e w' => e = .returned (.tuple #[.int .i64 ((a : Int) * b), .bool true]) ∧ w = w' := by
  obtain ⟨p, hp⟩ : ∃ p, a * b = p := ⟨_, rfl⟩
  have hpb : p ≤ 1000000 := by rw [← hp]; exact Nat.mul_le_mul ha hb
  have C1 := Lib.hid (spanAbs a (by omega) w)
  have C2 := Lib.hid (spanAbs b (by omega) w)
  have d0 : p / 18446744073709551616 = 0 := by omega
  have d1 : p % 18446744073709551616 = p := by omega
  have C3 : Calls Tryz.prog 353 #[.int .u64 (a : Int), .int .u64 (b : Int)] w fun e w' => e = .returned (.tuple #[.int .u64 0, .int .u64 (p : Int)]) ∧ w = w' :=
    (Tryz.bits_Mul64 a b (by omega) (by omega) w).mono fun e w' h => ⟨by rw [h.1, hp, d0, d1]; rfl, h.2.symm⟩
  have C3 := Lib.hid C3
  clear d0 d1
  have HP : Hid ((a : Int) * b = p) := by unfold Hid; rw [← hp]; rfl
  clear hp
  go_enter Tryz.func315, Tryz.ntmps315
  go_wp2_with fail
  refine C1.out.mono ?_
  rintro e w' ⟨rfl, rfl⟩
  go_wp2_with fail
  refine C2.out.mono ?_
  rintro e w' ⟨rfl, rfl⟩
  go_wp2_with fail
  have f1 : decide (p < 9223372036854775808) = true := decide_eq_true (by omega)
  have f2 : decide ((p : Int) < 9223372036854775808) = true := decide_eq_true (by omega)
  have f3 : p < 9223372036854775808 := by omega
  have f4 : (p : Int) < 9223372036854775808 := by omega
  have n1 : ((a : Int) < 0) = False := eq_false (by omega)
  have n2 : ((b : Int) < 0) = False := eq_false (by omega)
  refine C3.out.mono ?_
  rintro e w' ⟨rfl, rfl⟩
  go_wp2
  go_ret2
  exact ⟨ret_i2 HP.out.symm rfl, rfl⟩
theorem hopsTimes (a b : Nat) (ha : a ≤ 1000) (hb : b ≤ 1000) (w : World) : Calls Tryz.prog 251 #[.int .i64 (a : Int), .int .i64 (b : Int)] w fun e w' => e = .returned (.int .i64 ((a : Int) * b)) ∧ w = w' := by
  have C := Lib.hid (spanMul a b ha hb w)
  go_enter Tryz.func251, Tryz.ntmps251
  go_wp2_with fail
  refine C.out.mono ?_
  rintro e w' ⟨rfl, rfl⟩
  go_wp2
  go_ret
  exact ⟨rfl, rfl⟩
theorem ret_i2b {a b c d : Int} (h : a = b) (h2 : c = d) : Ending.returned (.tuple #[.int .i64 a, .int .i64 c, .bool true]) = .returned (.tuple #[.int .i64 b, .int .i64 d, .bool true]) := by rw [h, h2]
theorem hopsSpan (h a b : Nat) (hh : h ≤ 63) (hab : a ≤ b) (hb : b ≤ 64) (w : World) : Calls Tryz.prog 177 #[.int .i64 (h : Int), .int .i64 (a : Int), .int .i64 (b : Int)] w fun e w' => e = .returned (.tuple #[.int .i64 ((h : Int) * a), .int .i64 ((h : Int) * b), .bool true]) ∧ w = w' := by
  have C := Lib.hid (hopsGoodV (goodH_yes (h := (h : Int)) (dmin := (a : Int)) (dmax := (b : Int)) (by omega) (by omega) (by omega) (by omega) (by omega)) w)
  have C1 := Lib.hid (hopsTimes h a (by omega) (by omega) w)
  have C2 := Lib.hid (hopsTimes h b (by omega) (by omega) w)
  go_enter Tryz.func177, Tryz.ntmps177
  go_wp2_with fail
  refine C.out.mono ?_
  rintro e w' ⟨rfl, rfl⟩
  go_wp2_with fail
  refine C1.out.mono ?_
  rintro e w' ⟨rfl, rfl⟩
  go_wp2_with fail
  refine C2.out.mono ?_
  rintro e w' ⟨rfl, rfl⟩
  go_wp2
  go_ret3
  exact ⟨rfl, rfl⟩
/-- How far a reading may be off. -/
def errH (h a b rho : Int) : Int := (h * b - h * a) * 512 + rho * (h * b)
theorem hopsErr (h a b rho : Nat) (hh : h ≤ 63) (hab : a ≤ b) (hb : b ≤ 64) (hr : rho ≤ 64) (w : World) : Calls Tryz.prog 109 #[.int .i64 (h : Int), .int .i64 (a : Int), .int .i64 (b : Int), .int .i64 (rho : Int)] w fun e w' => e = .returned (.tuple #[.int .i64 (errH h a b rho), .bool true]) ∧ w = w' := by
  have C := hopsSpan h a b hh hab hb w
  obtain ⟨p0, p1⟩ := mul_bd (a := (h : Int)) (A := 63) (b := (b : Int)) (B := 64) (by omega) (by omega) (by omega) (by omega)
  obtain ⟨p2, p3⟩ := mul_bd (a := (h : Int)) (A := 63) (b := (a : Int)) (B := 64) (by omega) (by omega) (by omega) (by omega)
  have HE : Hid (errH h a b rho = ((h : Int) * b - (h : Int) * a) * 512 + (rho : Int) * ((h : Int) * b)) := rfl
  obtain ⟨X, hX⟩ : ∃ X, (h : Int) * b = X := ⟨_, rfl⟩
  obtain ⟨Y, hY⟩ : ∃ Y, (h : Int) * a = Y := ⟨_, rfl⟩
  rw [hX] at C p0 p1 HE
  rw [hY] at C p2 p3 HE
  clear hX hY
  obtain ⟨p4, p5⟩ := mul_bd (a := (rho : Int)) (A := 64) (b := X) (B := 4032) (by omega) (by omega) p0 (by omega)
  have C := Lib.hid C
  go_enter Tryz.func109, Tryz.ntmps109
  go_wp2_with fail
  refine C.out.mono ?_
  rintro e w' ⟨rfl, rfl⟩
  go_wp2
  go_ret2
  exact ⟨ret_i2 HE.out.symm rfl, rfl⟩
def errR (a b rho slew : Int) : Int := (b - a) * 512 + (2 * rho + slew) * b + 1
theorem readingErr (a b rho slew : Nat) (hab : a ≤ b) (hb : b ≤ 64) (hr : rho ≤ 64) (hs : 1 ≤ slew) (hs2 : slew ≤ 256) (w : World) : Calls Tryz.prog 110 #[.int .i64 (a : Int), .int .i64 (b : Int), .int .i64 (rho : Int), .int .i64 (slew : Int)] w fun e w' => e = .returned (.tuple #[.int .i64 (errR a b rho slew), .bool true]) ∧ w = w' := by
  have C := Lib.hid (hopsGoodV (goodH_yes (h := 1) (dmin := (a : Int)) (dmax := (b : Int)) (by omega) (by omega) (by omega) (by omega) (by omega)) w)
  have C1 := Lib.hid (rateGoodV (goodRS_yes (rho := (rho : Int)) (slew := (slew : Int)) (by omega) (by omega) (by omega) (by omega)) w)
  have HE : Hid (errR a b rho slew = ((b : Int) - a) * 512 + (2 * (rho : Int) + slew) * b + 1) := rfl
  obtain ⟨p4, p5⟩ := mul_bd (a := 2 * (rho : Int) + slew) (A := 384) (b := (b : Int)) (B := 64) (by omega) (by omega) (by omega) (by omega)
  go_enter Tryz.func110, Tryz.ntmps110
  go_wp2_with fail
  refine C.out.mono ?_
  rintro e w' ⟨rfl, rfl⟩
  go_wp2_with fail
  refine C1.out.mono ?_
  rintro e w' ⟨rfl, rfl⟩
  go_wp2
  go_ret2
  exact ⟨ret_i2 HE.out.symm rfl, rfl⟩
def perB (g : Int) : Bool := decide (1 ≤ g) && decide (g ≤ 1099511627776)
theorem boundPeriod (g : Int) (w : World) : Calls Tryz.prog 175 #[.int .i64 g] w fun e w' => e = .returned (.bool (perB g)) ∧ w = w' := by
  have HG : Hid (perB g = (decide (1 ≤ g) && decide (g ≤ 1099511627776))) := rfl
  go_enter Tryz.func175, Tryz.ntmps175
  go_wp2
  all_goals
    go_ret
    refine ⟨ret_bool ?_, rfl⟩
    rw [HG.out]
    first | (simp [*]; done) | (simp [*]; omega)
theorem boundPeriodV {g : Int} {r : Bool} (h : perB g = r) (w : World) : Calls Tryz.prog 175 #[.int .i64 g] w fun e w' => e = .returned (.bool r) ∧ w = w' := by
  subst h; exact boundPeriod g w
end Go.Proofs.YteahiphmhaedpaaGreatDoor
