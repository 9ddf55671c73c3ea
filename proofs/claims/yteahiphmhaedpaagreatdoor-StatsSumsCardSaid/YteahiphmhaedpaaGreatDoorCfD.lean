/- bound.Of of what may not be; how far, how much is slewed; are periods wide enough? -/
import Derived.Test.YteahiphmhaedpaaGreatDoorCfC
namespace Go.Proofs.YteahiphmhaedpaaGreatDoor
open Go.RowKit Law
set_option linter.unusedVariables false
set_option linter.unusedSimpArgs false
set_option maxRecDepth 100000

abbrev zero14 : List Value := [.int .i64 0, .int .i64 0, .int .i64 0, .int .i64 0, .int .i64 0, .int .i64 0, .int .i64 0, .int .i64 0, .int .i64 0, .int .i64 0, .int .i64 0, .int .i64 0, .int .i64 0, .int .i64 0]
set_option maxHeartbeats 1600000 in
theorem boundOfBad (c : Cn) (hg : goodC c = false) (A : Option Addr) (l k : Nat) (w : World) : Calls Tryz.prog 44 #[.agg (c.cells A l k).toArray] w fun e w' => e = .returned (.tuple #[.agg zero14.toArray, .int .i64 17]) ∧ Below w.heap.size w w' := by
  have CG := Lib.hid (fun W => boundGoodV (c := c) hg A l k W)
  obtain ⟨n, f, dmin, dmax, rho, slew, round, window, attend, seen, hist, fly, quota, body⟩ := c
  have k2 := ((Below.refl w.heap.size w).alloc (Nat.le_refl _) (.cells #[.int .i64 n, .slice A l k, .int .i64 f, .int .i64 dmin, .int .i64 dmax, .int .i64 rho, .int .i64 slew, .int .i64 round, .int .i64 window, .int .i64 attend, .int .i64 seen, .int .i64 hist, .int .i64 fly, .int .i64 quota, .int .i64 body] 32)).alloc (by simp) (.cells zero14.toArray 101)
  have k1 := boxF_made (w.alloc (.cells #[.int .i64 n, .slice A l k, .int .i64 f, .int .i64 dmin, .int .i64 dmax, .int .i64 rho, .int .i64 slew, .int .i64 round, .int .i64 window, .int .i64 attend, .int .i64 seen, .int .i64 hist, .int .i64 fly, .int .i64 quota, .int .i64 body] 32)) zero14 101
  simp only [World.size_alloc] at k1
  have K := Lib.hid (And.intro k1 k2)
  clear k1 k2 hg
  obtain ⟨hz, hsz⟩ := zero_of_info (show (Tryz.prog.info? 101).map (fun i => (i.zero, i.size)) = some (some (.agg #[.int .i64 0, .int .i64 0, .int .i64 0, .int .i64 0, .int .i64 0, .int .i64 0, .int .i64 0, .int .i64 0, .int .i64 0, .int .i64 0, .int .i64 0, .int .i64 0, .int .i64 0, .int .i64 0]), 14) by kernel_rfl)
  go_enter Tryz.func44, Tryz.ntmps44
  go_wp2_with fail
  refine (CG.out _).mono ?_
  rintro e w1 ⟨rfl, hq⟩
  have h1 := K.out.1.keep hq
  have z0 := h1.1 0 _ rfl
  have z1 := h1.1 1 _ rfl
  have z2 := h1.1 2 _ rfl
  have z3 := h1.1 3 _ rfl
  have z4 := h1.1 4 _ rfl
  have z5 := h1.1 5 _ rfl
  have z6 := h1.1 6 _ rfl
  have z7 := h1.1 7 _ rfl
  have z8 := h1.1 8 _ rfl
  have z9 := h1.1 9 _ rfl
  have z10 := h1.1 10 _ rfl
  have z11 := h1.1 11 _ rfl
  have z12 := h1.1 12 _ rfl
  have z13 := h1.1 13 _ rfl
  have f0 := h1.2 0 (by simp)
  have f1 := h1.2 1 (by simp)
  have f2 := h1.2 2 (by simp)
  have f3 := h1.2 3 (by simp)
  have f4 := h1.2 4 (by simp)
  have f5 := h1.2 5 (by simp)
  have f6 := h1.2 6 (by simp)
  have f7 := h1.2 7 (by simp)
  have f8 := h1.2 8 (by simp)
  have f9 := h1.2 9 (by simp)
  have f10 := h1.2 10 (by simp)
  have f11 := h1.2 11 (by simp)
  have f12 := h1.2 12 (by simp)
  have f13 := h1.2 13 (by simp)
  have hput := h1.put 0 (by simp) (.int .i64 0) |>.put 1 (by simp) (.int .i64 0) |>.put 2 (by simp) (.int .i64 0) |>.put 3 (by simp) (.int .i64 0) |>.put 4 (by simp) (.int .i64 0) |>.put 5 (by simp) (.int .i64 0) |>.put 6 (by simp) (.int .i64 0) |>.put 7 (by simp) (.int .i64 0) |>.put 8 (by simp) (.int .i64 0) |>.put 9 (by simp) (.int .i64 0) |>.put 10 (by simp) (.int .i64 0) |>.put 11 (by simp) (.int .i64 0) |>.put 12 (by simp) (.int .i64 0) |>.put 13 (by simp) (.int .i64 0)
  have hbel := K.out.2.trans (hq.mono K.out.2.size) |>.setCell (p := ⟨w.heap.size + 1, 0, none⟩) (by simp) (.int .i64 0) |>.setCell (p := ⟨w.heap.size + 1, 1, none⟩) (by simp) (.int .i64 0) |>.setCell (p := ⟨w.heap.size + 1, 2, none⟩) (by simp) (.int .i64 0) |>.setCell (p := ⟨w.heap.size + 1, 3, none⟩) (by simp) (.int .i64 0) |>.setCell (p := ⟨w.heap.size + 1, 4, none⟩) (by simp) (.int .i64 0) |>.setCell (p := ⟨w.heap.size + 1, 5, none⟩) (by simp) (.int .i64 0) |>.setCell (p := ⟨w.heap.size + 1, 6, none⟩) (by simp) (.int .i64 0) |>.setCell (p := ⟨w.heap.size + 1, 7, none⟩) (by simp) (.int .i64 0) |>.setCell (p := ⟨w.heap.size + 1, 8, none⟩) (by simp) (.int .i64 0) |>.setCell (p := ⟨w.heap.size + 1, 9, none⟩) (by simp) (.int .i64 0) |>.setCell (p := ⟨w.heap.size + 1, 10, none⟩) (by simp) (.int .i64 0) |>.setCell (p := ⟨w.heap.size + 1, 11, none⟩) (by simp) (.int .i64 0) |>.setCell (p := ⟨w.heap.size + 1, 12, none⟩) (by simp) (.int .i64 0) |>.setCell (p := ⟨w.heap.size + 1, 13, none⟩) (by simp) (.int .i64 0)
  simp only [List.set_cons_succ, List.set_cons_zero] at hput
  have HX := Lib.hid (And.intro hput hbel)
  clear h1 hq hput hbel
  go_wp2
  have e0 := HX.out.1.1 0 _ rfl
  have e1 := HX.out.1.1 1 _ rfl
  have e2 := HX.out.1.1 2 _ rfl
  have e3 := HX.out.1.1 3 _ rfl
  have e4 := HX.out.1.1 4 _ rfl
  have e5 := HX.out.1.1 5 _ rfl
  have e6 := HX.out.1.1 6 _ rfl
  have e7 := HX.out.1.1 7 _ rfl
  have e8 := HX.out.1.1 8 _ rfl
  have e9 := HX.out.1.1 9 _ rfl
  have e10 := HX.out.1.1 10 _ rfl
  have e11 := HX.out.1.1 11 _ rfl
  have e12 := HX.out.1.1 12 _ rfl
  have e13 := HX.out.1.1 13 _ rfl
  have hb := HX.out.2
  generalize ((((((((((((((w1.setCell _ _).setCell _ _).setCell _ _).setCell _ _).setCell _ _).setCell _ _).setCell _ _).setCell _ _).setCell _ _).setCell _ _).setCell _ _).setCell _ _).setCell _ _).setCell _ _) = wf at *
  refine bodyPost_ret (v := .tuple #[.agg zero14.toArray, .int .i64 17]) (by simp [results, Tryz.results44, go_sem, hz, hsz, e0, e1, e2, e3, e4, e5, e6, e7, e8, e9, e10, e11, e12, e13]) rfl ⟨rfl, hb⟩
theorem boundFar (v0 v1 v2 v3 v4 v5 v6 v7 v8 v9 v10 v11 v12 v13 : Int) (h0 : 0 ≤ v0 ∧ v0 ≤ 63) (h3 : 0 ≤ v3 ∧ v3 ≤ 86016) (w : World) :
    Calls Tryz.prog 129 #[.agg #[.int .i64 v0, .int .i64 v1, .int .i64 v2, .int .i64 v3, .int .i64 v4, .int .i64 v5, .int .i64 v6, .int .i64 v7, .int .i64 v8, .int .i64 v9, .int .i64 v10, .int .i64 v11, .int .i64 v12, .int .i64 v13]] w fun e w' => e = .returned (.int .i64 (v0 * v3)) ∧ Below w.heap.size w w' := by
  obtain ⟨p0, p1⟩ := mul_bd (a := v0) (A := 63) (b := v3) (B := 86016) h0.1 h0.2 h3.1 h3.2
  obtain ⟨x, hx⟩ : ∃ x, v0 * v3 = x := ⟨_, rfl⟩
  rw [hx] at p0 p1
  have HX := Lib.hid hx
  go_enter Tryz.func129, Tryz.ntmps129
  go_wp2
  go_ret
  exact ⟨ret_int (by first | rfl | rw [HX.out]), (Below.refl _ _).alloc (Nat.le_refl _) _⟩
def slI (slew round window fast : Int) : Int := slew * ((round - 2 * window).tdiv fast - 2)
set_option maxHeartbeats 1600000 in
theorem boundSlewed (v0 v1 v2 v3 v4 v5 v6 v7 v8 v9 v10 v11 v12 v13 : Int) (c : Cn) (A : Option Addr) (l k : Nat) (h1 : 1 ≤ v1 ∧ v1 ≤ 100000) (hs : 0 ≤ c.slew ∧ c.slew ≤ 256) (hr : 0 ≤ c.round ∧ c.round ≤ 1099511627776) (hw : 0 ≤ c.window ∧ c.window ≤ 1099511627776) (hrw : 2 * c.window ≤ c.round) (w : World) :
    Calls Tryz.prog 130 #[.agg #[.int .i64 v0, .int .i64 v1, .int .i64 v2, .int .i64 v3, .int .i64 v4, .int .i64 v5, .int .i64 v6, .int .i64 v7, .int .i64 v8, .int .i64 v9, .int .i64 v10, .int .i64 v11, .int .i64 v12, .int .i64 v13], .agg (c.cells A l k).toArray] w fun e w' => e = .returned (.int .i64 (slI c.slew c.round c.window v1)) ∧ Below w.heap.size w w' := by
  obtain ⟨n, f, dmin, dmax, rho, slew, round, window, attend, seen, hist, fly, quota, body⟩ := c
  simp only at hs hr hw hrw
  obtain ⟨s0, s1⟩ := hs
  obtain ⟨r0, r1⟩ := hr
  obtain ⟨w0, w1⟩ := hw
  have hd : (round - 2 * window).tdiv v1 = (round - 2 * window) / v1 := Int.tdiv_eq_ediv_of_nonneg (by omega)
  have e0 : 0 ≤ (round - 2 * window) / v1 := Int.ediv_nonneg (by omega) (by omega)
  have e1 : (round - 2 * window) / v1 ≤ round - 2 * window := Int.ediv_le_self _ (by omega)
  have hne : (v1 == 0) = false := beq_eq_false_iff_ne.2 (by omega)
  have HE : Hid (slI slew round window v1 = slew * ((round - 2 * window).tdiv v1 - 2)) := rfl
  obtain ⟨q, hq⟩ : ∃ q, (round - 2 * window).tdiv v1 = q := ⟨_, rfl⟩
  rw [hq] at HE
  rw [← hd, hq] at e0 e1
  clear hd
  have p2 : slew * (q - 2) ≤ 256 * 1099511627776 := by
    have h3 : slew * (q - 2) ≤ slew * q := Int.mul_le_mul_of_nonneg_left (by omega) s0
    have h4 := (mul_bd (a := slew) (A := 256) (b := q) (B := 1099511627776) s0 s1 e0 (by omega)).2
    omega
  have p1 : -512 ≤ slew * (q - 2) := by
    have h3 : slew * (q - 2) ≥ slew * (-2) := Int.mul_le_mul_of_nonneg_left (by omega) s0
    omega
  obtain ⟨x, hx⟩ : ∃ x, slew * (q - 2) = x := ⟨_, rfl⟩
  rw [hx] at p1 p2 HE
  go_enter Tryz.func130, Tryz.ntmps130
  go_wp2_with fail
  go_quiet (fail)
  go_wp2
  all_goals
    go_ret
    exact ⟨ret_int HE.out.symm, by first | exact (((Below.refl _ _).alloc (Nat.le_refl _) _).alloc (by simp) _).drew | exact below_draws (((Below.refl _ _).alloc (Nat.le_refl _) _).alloc (by simp) _) _⟩
end Go.Proofs.YteahiphmhaedpaaGreatDoor
