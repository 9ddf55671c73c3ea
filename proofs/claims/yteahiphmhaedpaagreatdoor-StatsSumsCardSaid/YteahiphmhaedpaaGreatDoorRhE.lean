/- The reference's Suggest. -/
import Derived.Test.YteahiphmhaedpaaGreatDoorRhD
import Derived.Test.YteahiphmhaedpaaGreatDoorRhA
namespace Go.Proofs.YteahiphmhaedpaaGreatDoor
open Go.RowKit Law Go.Shelf
set_option linter.unusedVariables false
set_option linter.unusedSimpArgs false
set_option maxRecDepth 100000
attribute [local go_sem] Oper.semAt_some

theorem enough_bad {c : Cn} (h : goodC c = false) : enoughB c = false := by unfold enoughB; rw [h]; rfl
set_option maxHeartbeats 6400000 in
theorem refSuggest0 (c : Cn) (hgd : goodC (baseC c 12) = false) (A : Option Addr) (l k : Nat) (w : World) : Calls Tryz.prog 15 #[.agg (c.cells A l k).toArray] w (SugPost c A l k w) := by
  obtain ⟨hz, hsz⟩ := zero_of_info (show (Tryz.prog.info? 32).map (fun i => (i.zero, i.size)) = some (some (.agg #[.int .i64 0, .slice none 0 0, .int .i64 0, .int .i64 0, .int .i64 0, .int .i64 0, .int .i64 0, .int .i64 0, .int .i64 0, .int .i64 0, .int .i64 0, .int .i64 0, .int .i64 0, .int .i64 0, .int .i64 0]), 15) by kernel_rfl)
  have HSUG : Hid (sugC c = sugF c (41 - 12) 12) := rfl
  have CO := Lib.hid (fun (j : Nat) (hg : goodC (baseC c j) = true) W => ref26Of (baseC c j) hg A l k W)
  have CG := Lib.hid (fun (j : Nat) (r : Bool) (hg : goodC (baseC c j) = r) W => ref26Good (c := baseC c j) hg A l k W)
  have CE := Lib.hid (fun (j : Nat) W => refEnough (stepC c j) A l k W)
  have CF := Lib.hid (fun (j : Nat) W => refEnough (baseC c j) A l k W)
  have HSB := Lib.hid (fun (j : Nat) (h : goodC (baseC c j) = false) => And.intro (step_bad h) (enough_bad h))
  have HST := Lib.hid (fun (j : Nat) (h : j ≤ 40) => sug_step (c := c) h)
  have HDL := Lib.hid (fun (j : Nat) (h : goodC (baseC c j) = true) => step_delta h)
  have HGB := Lib.hid (fun (j : Nat) (h1 : 12 ≤ j) (h2 : j ≤ 40) => good_base (c := c) h1 h2 (show 12 ≤ 12 by omega) (show 12 ≤ 40 by omega))
  have HGD := Lib.hid hgd
  clear hgd
  obtain ⟨n, f, dmin, dmax, rho, slew, round, window, attend, seen, hist, fly, quota, body⟩ := c
  have k0 := boxF_made w [.int .i64 n, .slice A l k, .int .i64 f, .int .i64 dmin, .int .i64 dmax, .int .i64 rho, .int .i64 slew, .int .i64 round, .int .i64 window, .int .i64 attend, .int .i64 seen, .int .i64 hist, .int .i64 fly, .int .i64 quota, .int .i64 body] 32
  have k1 := (Below.refl w.heap.size w).alloc (Nat.le_refl _) (.cells #[.int .i64 n, .slice A l k, .int .i64 f, .int .i64 dmin, .int .i64 dmax, .int .i64 rho, .int .i64 slew, .int .i64 round, .int .i64 window, .int .i64 attend, .int .i64 seen, .int .i64 hist, .int .i64 fly, .int .i64 quota, .int .i64 body] 32)
  obtain ⟨w1, hw1⟩ : ∃ w1, w.alloc (.cells #[.int .i64 n, .slice A l k, .int .i64 f, .int .i64 dmin, .int .i64 dmax, .int .i64 rho, .int .i64 slew, .int .i64 round, .int .i64 window, .int .i64 attend, .int .i64 seen, .int .i64 hist, .int .i64 fly, .int .i64 quota, .int .i64 body] 32) = w1 := ⟨_, rfl⟩
  have hs1 : w1.heap.size = w.heap.size + 1 := by rw [← hw1]; simp
  rw [hw1] at k0 k1
  have k2 := boxF_made w1 [.int .i64 0, .slice none 0 0, .int .i64 0, .int .i64 0, .int .i64 0, .int .i64 0, .int .i64 0, .int .i64 0, .int .i64 0, .int .i64 0, .int .i64 0, .int .i64 0, .int .i64 0, .int .i64 0, .int .i64 0] 32
  have k3 := k0.keep ((Below.refl _ _).alloc (Nat.le_refl _) (.cells #[.int .i64 0, .slice none 0 0, .int .i64 0, .int .i64 0, .int .i64 0, .int .i64 0, .int .i64 0, .int .i64 0, .int .i64 0, .int .i64 0, .int .i64 0, .int .i64 0, .int .i64 0, .int .i64 0, .int .i64 0] 32))
  have k4 := k1.alloc (by omega) (.cells #[.int .i64 0, .slice none 0 0, .int .i64 0, .int .i64 0, .int .i64 0, .int .i64 0, .int .i64 0, .int .i64 0, .int .i64 0, .int .i64 0, .int .i64 0, .int .i64 0, .int .i64 0, .int .i64 0, .int .i64 0] 32)
  obtain ⟨w2, hw2⟩ : ∃ w2, w1.alloc (.cells #[.int .i64 0, .slice none 0 0, .int .i64 0, .int .i64 0, .int .i64 0, .int .i64 0, .int .i64 0, .int .i64 0, .int .i64 0, .int .i64 0, .int .i64 0, .int .i64 0, .int .i64 0, .int .i64 0, .int .i64 0] 32) = w2 := ⟨_, rfl⟩
  have hs2 : w2.heap.size = w.heap.size + 1 + 1 := by rw [← hw2]; simp; omega
  rw [hw2] at k2 k3 k4
  rw [hs1] at k2
  have kc0 := k3.1 0 _ rfl
  have kc1 := k3.1 1 _ rfl
  have kc2 := k3.1 2 _ rfl
  have kc3 := k3.1 3 _ rfl
  have kc4 := k3.1 4 _ rfl
  have kc5 := k3.1 5 _ rfl
  have kc6 := k3.1 6 _ rfl
  have kc7 := k3.1 7 _ rfl
  have kc8 := k3.1 8 _ rfl
  have kc9 := k3.1 9 _ rfl
  have kc10 := k3.1 10 _ rfl
  have kc11 := k3.1 11 _ rfl
  have kc12 := k3.1 12 _ rfl
  have kc13 := k3.1 13 _ rfl
  have kc14 := k3.1 14 _ rfl
  have k5 := boxF_made w2 [.int .i64 n, .slice A l k, .int .i64 f, .int .i64 dmin, .int .i64 dmax, .int .i64 rho, .int .i64 slew, .int .i64 round, .int .i64 window, .int .i64 attend, .int .i64 seen, .int .i64 hist, .int .i64 fly, .int .i64 quota, .int .i64 body] 32
  rw [hs2] at k5
  have HS := Lib.hid (show SgD w (w2.alloc (.cells #[.int .i64 n, .slice A l k, .int .i64 f, .int .i64 dmin, .int .i64 dmax, .int .i64 rho, .int .i64 slew, .int .i64 round, .int .i64 window, .int .i64 attend, .int .i64 seen, .int .i64 hist, .int .i64 fly, .int .i64 quota, .int .i64 body] 32)) [.int .i64 n, .slice A l k, .int .i64 f, .int .i64 dmin, .int .i64 dmax, .int .i64 rho, .int .i64 slew, .int .i64 round, .int .i64 window, .int .i64 attend, .int .i64 seen, .int .i64 hist, .int .i64 fly, .int .i64 quota, .int .i64 body] (w.heap.size + 1 + 1) [.int .i64 n, .slice A l k, .int .i64 f, .int .i64 dmin, .int .i64 dmax, .int .i64 rho, .int .i64 slew, .int .i64 round, .int .i64 window, .int .i64 attend, .int .i64 seen, .int .i64 hist, .int .i64 fly, .int .i64 quota, .int .i64 body] from ⟨SgS.keep ⟨k3, k2, k4⟩ ((Below.refl _ _).alloc (Nat.le_refl _) _), k5, by omega⟩)
  clear k0 k1 k2 k3 k4 k5
  go_enter Tryz.func15, Tryz.ntmps15
  go_wp2
  clear kc0 kc1 kc2 kc3 kc4 kc5 kc6 kc7 kc8 kc9 kc10 kc11 kc12 kc13 kc14 hw1 hw2
  go_loopw [5] (fun i wr => ∃ (j : Nat) (x y z : Int), 12 ≤ j ∧ j ≤ 41 ∧ i = .int .i64 j ∧ sugF ⟨n, f, dmin, dmax, rho, slew, round, window, attend, seen, hist, fly, quota, body⟩ (41 - j) j = sugC ⟨n, f, dmin, dmax, rho, slew, round, window, attend, seen, hist, fly, quota, body⟩ ∧ SgD w wr [.int .i64 n, .slice A l k, .int .i64 f, .int .i64 dmin, .int .i64 dmax, .int .i64 rho, .int .i64 slew, .int .i64 round, .int .i64 window, .int .i64 attend, .int .i64 seen, .int .i64 hist, .int .i64 fly, .int .i64 quota, .int .i64 body] (w.heap.size + 1 + 1) [.int .i64 n, .slice A l k, .int .i64 f, .int .i64 dmin, .int .i64 dmax, .int .i64 rho, .int .i64 slew, .int .i64 x, .int .i64 y, .int .i64 z, .int .i64 seen, .int .i64 hist, .int .i64 fly, .int .i64 quota, .int .i64 body]) (fun i _ => 41 - (intOf i).toNat)
  case atStart => exact ⟨12, round, window, attend, by omega, by omega, rfl, rfl, HS.out⟩
  case round =>
    obtain ⟨j, x, y, z, hj1, hj2, rfl, hsug, hS⟩ := hrel
    obtain ⟨W1, rfl⟩ : ∃ W1, W1 = wr := ⟨_, rfl⟩
    clear HS
    by_cases hlt : j ≤ 40
    · obtain ⟨r, hr⟩ : ∃ r, (2 : Int) ^ j = r := ⟨_, rfl⟩
      obtain ⟨q, hq⟩ : ∃ q, (2 : Int) ^ (j - 2) = q := ⟨_, rfl⟩
      have hpf := pow_fit hj1 hlt
      have hpq := pow_four (k := j) (by omega)
      rw [hr] at hpf hpq
      rw [hq] at hpq
      have hp1 : 4096 ≤ r := hpf.1
      have hp2 : r ≤ 1099511627776 := hpf.2
      have hs1 : IntKind.i64.wrap (2 ^ j) = r := by rw [hr]; exact IntWalk.i64_in _ (by omega)
      have hd1 : r.tdiv 4 = q := by rw [Int.tdiv_eq_ediv_of_nonneg (by omega)]; omega
      have hd2 : r / 4 = q := by omega
      have hq1 : 1024 ≤ q ∧ q ≤ 1099511627776 := by omega
      clear hpq hpf
      have hgb : goodC (baseC ⟨n, f, dmin, dmax, rho, slew, round, window, attend, seen, hist, fly, quota, body⟩ j) = false := (HGB.out j hj1 hlt).trans HGD.out
      have g7 := hS.bx.1 7 _ rfl
      have t7 := hS.bx.2 7 (by simp)
      have hA := hS.put 7 (by simp) (.int .i64 r)
      simp only [List.set_cons_succ, List.set_cons_zero] at hA
      obtain ⟨Wa, hWa⟩ : ∃ Wa, W1.setCell ⟨w.heap.size + 1 + 1, 7, none⟩ (.int .i64 r) = Wa := ⟨_, rfl⟩
      rw [hWa] at hA
      have a7 := hA.bx.1 7 _ rfl
      have a8 := hA.bx.1 8 _ rfl
      have a9 := hA.bx.1 9 _ rfl
      have s8 := hA.bx.2 8 (by simp)
      have s9 := hA.bx.2 9 (by simp)
      have hB := (hA.put 8 (by simp) (.int .i64 q)).put 9 (by simp) (.int .i64 1)
      simp only [List.set_cons_succ, List.set_cons_zero] at hB
      obtain ⟨W3, hW3⟩ : ∃ W3, (Wa.setCell ⟨w.heap.size + 1 + 1, 8, none⟩ (.int .i64 q)).setCell ⟨w.heap.size + 1 + 1, 9, none⟩ (.int .i64 1) = W3 := ⟨_, rfl⟩
      rw [hW3] at hB
      have HB3 := Lib.hid hB
      have HSG := Lib.hid hsug
      have e0 : (baseC ⟨n, f, dmin, dmax, rho, slew, round, window, attend, seen, hist, fly, quota, body⟩ j).cells A l k = [.int .i64 n, .slice A l k, .int .i64 f, .int .i64 dmin, .int .i64 dmax, .int .i64 rho, .int .i64 slew, .int .i64 r, .int .i64 q, .int .i64 1, .int .i64 seen, .int .i64 hist, .int .i64 fly, .int .i64 quota, .int .i64 body] := by show ([.int .i64 n, .slice A l k, .int .i64 f, .int .i64 dmin, .int .i64 dmax, .int .i64 rho, .int .i64 slew, .int .i64 (2 ^ j), .int .i64 (2 ^ (j - 2)), .int .i64 1, .int .i64 seen, .int .i64 hist, .int .i64 fly, .int .i64 quota, .int .i64 body] : List Value) = _; rw [hr, hq]
      have hce : (stepC ⟨n, f, dmin, dmax, rho, slew, round, window, attend, seen, hist, fly, quota, body⟩ j).cells A l k = [.int .i64 n, .slice A l k, .int .i64 f, .int .i64 dmin, .int .i64 dmax, .int .i64 rho, .int .i64 slew, .int .i64 r, .int .i64 q, .int .i64 (2 * bDelta (baseC ⟨n, f, dmin, dmax, rho, slew, round, window, attend, seen, hist, fly, quota, body⟩ j)), .int .i64 seen, .int .i64 hist, .int .i64 fly, .int .i64 quota, .int .i64 body] := by show ([.int .i64 n, .slice A l k, .int .i64 f, .int .i64 dmin, .int .i64 dmax, .int .i64 rho, .int .i64 slew, .int .i64 (2 ^ j), .int .i64 (2 ^ (j - 2)), .int .i64 (2 * bDelta (baseC ⟨n, f, dmin, dmax, rho, slew, round, window, attend, seen, hist, fly, quota, body⟩ j)), .int .i64 seen, .int .i64 hist, .int .i64 fly, .int .i64 quota, .int .i64 body] : List Value) = _; rw [hr, hq]
      have C1 := CO.out j
      have C2 := CG.out j _ hgb
      have C3 := CE.out j
      have C4 := CF.out j
      simp only [e0] at C1 C2 C4
      simp only [hce] at C3
      unfold bCells at C1
      have hdl := HDL.out j
      generalize bHops (baseC ⟨n, f, dmin, dmax, rho, slew, round, window, attend, seen, hist, fly, quota, body⟩ j) = hops at *
      generalize bFast (baseC ⟨n, f, dmin, dmax, rho, slew, round, window, attend, seen, hist, fly, quota, body⟩ j) = fast at *
      generalize bSlow (baseC ⟨n, f, dmin, dmax, rho, slew, round, window, attend, seen, hist, fly, quota, body⟩ j) = slow at *
      generalize bLink (baseC ⟨n, f, dmin, dmax, rho, slew, round, window, attend, seen, hist, fly, quota, body⟩ j) = link at *
      generalize bRead (baseC ⟨n, f, dmin, dmax, rho, slew, round, window, attend, seen, hist, fly, quota, body⟩ j) = read at *
      generalize bAgree (baseC ⟨n, f, dmin, dmax, rho, slew, round, window, attend, seen, hist, fly, quota, body⟩ j) = agree at *
      generalize bStart (baseC ⟨n, f, dmin, dmax, rho, slew, round, window, attend, seen, hist, fly, quota, body⟩ j) = start at *
      generalize bEps (baseC ⟨n, f, dmin, dmax, rho, slew, round, window, attend, seen, hist, fly, quota, body⟩ j) = eps at *
      generalize bMost (baseC ⟨n, f, dmin, dmax, rho, slew, round, window, attend, seen, hist, fly, quota, body⟩ j) = most at *
      generalize bCold (baseC ⟨n, f, dmin, dmax, rho, slew, round, window, attend, seen, hist, fly, quota, body⟩ j) = cold at *
      generalize bRough (baseC ⟨n, f, dmin, dmax, rho, slew, round, window, attend, seen, hist, fly, quota, body⟩ j) = rough at *
      generalize bDelta (baseC ⟨n, f, dmin, dmax, rho, slew, round, window, attend, seen, hist, fly, quota, body⟩ j) = delta at *
      generalize bDown (baseC ⟨n, f, dmin, dmax, rho, slew, round, window, attend, seen, hist, fly, quota, body⟩ j) = down at *
      generalize bJoin (baseC ⟨n, f, dmin, dmax, rho, slew, round, window, attend, seen, hist, fly, quota, body⟩ j) = join at *
      have HC2 := Lib.hid C2
      have HC3 := Lib.hid C3
      have HC4 := Lib.hid C4
      have HCE := Lib.hid hce
      have HGV := Lib.hid hgb
      have hD := hB.bx
      have d0 := hD.1 0 _ rfl
      have d1 := hD.1 1 _ rfl
      have d2 := hD.1 2 _ rfl
      have d3 := hD.1 3 _ rfl
      have d4 := hD.1 4 _ rfl
      have d5 := hD.1 5 _ rfl
      have d6 := hD.1 6 _ rfl
      have d7 := hD.1 7 _ rfl
      have d8 := hD.1 8 _ rfl
      have d9 := hD.1 9 _ rfl
      have d10 := hD.1 10 _ rfl
      have d11 := hD.1 11 _ rfl
      have d12 := hD.1 12 _ rfl
      have d13 := hD.1 13 _ rfl
      have d14 := hD.1 14 _ rfl
      clear C1 C2 C3 C4 hdl hS hA hB hsug e0 hce hgb hr hq
      go_wp2_with fail
      refine (HC2.out _).mono ?_
      rintro e w4 ⟨rfl, hb4⟩
      clear d0 d1 d2 d3 d4 d5 d6 d7 d8 d9 d10 d11 d12 d13 d14 g7 t7 a7 a8 a9 s8 s9 hWa hW3 hD
      have hB4 := HB3.out.keep hb4
      have HB4 := Lib.hid hB4
      have hD := hB4.bx
      have d0 := hD.1 0 _ rfl; have d1 := hD.1 1 _ rfl; have d2 := hD.1 2 _ rfl; have d3 := hD.1 3 _ rfl; have d4 := hD.1 4 _ rfl; have d5 := hD.1 5 _ rfl; have d6 := hD.1 6 _ rfl; have d7 := hD.1 7 _ rfl; have d8 := hD.1 8 _ rfl; have d9 := hD.1 9 _ rfl; have d10 := hD.1 10 _ rfl; have d11 := hD.1 11 _ rfl; have d12 := hD.1 12 _ rfl; have d13 := hD.1 13 _ rfl; have d14 := hD.1 14 _ rfl
      clear hB4 hb4
      go_wp2_with fail
      refine (HC4.out _).mono ?_
      rintro e w5 ⟨rfl, hb5⟩
      have hst := HST.out j hlt
      rw [HSG.out, (HSB.out j HGV.out).1, if_neg (by decide)] at hst
      rw [(HSB.out j HGV.out).2]
      have HR := Lib.hid (And.intro hst.symm (HB4.out.keep hb5))
      clear d0 d1 d2 d3 d4 d5 d6 d7 d8 d9 d10 d11 d12 d13 d14 hD hst hb5
      go_wp2
      go_roundw
      case rel => exact ⟨j + 1, r, q, 1, by omega, by omega, by go_num, HR.out⟩
      case measure => simp [intOf]; omega
    · obtain rfl : j = 41 := by omega
      have HV : Hid (sugC ⟨n, f, dmin, dmax, rho, slew, round, window, attend, seen, hist, fly, quota, body⟩ = ⟨n, f, dmin, dmax, rho, slew, round, window, attend, seen, hist, fly, quota, body⟩) := hsug.symm
      have hSS := hS.s
      have d0 := hS.s.cfg.1 0 _ rfl
      have d1 := hS.s.cfg.1 1 _ rfl
      have d2 := hS.s.cfg.1 2 _ rfl
      have d3 := hS.s.cfg.1 3 _ rfl
      have d4 := hS.s.cfg.1 4 _ rfl
      have d5 := hS.s.cfg.1 5 _ rfl
      have d6 := hS.s.cfg.1 6 _ rfl
      have d7 := hS.s.cfg.1 7 _ rfl
      have d8 := hS.s.cfg.1 8 _ rfl
      have d9 := hS.s.cfg.1 9 _ rfl
      have d10 := hS.s.cfg.1 10 _ rfl
      have d11 := hS.s.cfg.1 11 _ rfl
      have d12 := hS.s.cfg.1 12 _ rfl
      have d13 := hS.s.cfg.1 13 _ rfl
      have d14 := hS.s.cfg.1 14 _ rfl
      clear hS
      have zb := hSS.zb
      have zbel := hSS.bel
      have zs0 := zb.1 0 _ rfl
      have zf0 := zb.2 0 (by simp)
      have zs1 := zb.1 1 _ rfl
      have zf1 := zb.2 1 (by simp)
      have zs2 := zb.1 2 _ rfl
      have zf2 := zb.2 2 (by simp)
      have zs3 := zb.1 3 _ rfl
      have zf3 := zb.2 3 (by simp)
      have zs4 := zb.1 4 _ rfl
      have zf4 := zb.2 4 (by simp)
      have zs5 := zb.1 5 _ rfl
      have zf5 := zb.2 5 (by simp)
      have zs6 := zb.1 6 _ rfl
      have zf6 := zb.2 6 (by simp)
      have zs7 := zb.1 7 _ rfl
      have zf7 := zb.2 7 (by simp)
      have zs8 := zb.1 8 _ rfl
      have zf8 := zb.2 8 (by simp)
      have zs9 := zb.1 9 _ rfl
      have zf9 := zb.2 9 (by simp)
      have zs10 := zb.1 10 _ rfl
      have zf10 := zb.2 10 (by simp)
      have zs11 := zb.1 11 _ rfl
      have zf11 := zb.2 11 (by simp)
      have zs12 := zb.1 12 _ rfl
      have zf12 := zb.2 12 (by simp)
      have zs13 := zb.1 13 _ rfl
      have zf13 := zb.2 13 (by simp)
      have zs14 := zb.1 14 _ rfl
      have zf14 := zb.2 14 (by simp)
      have zp := storeN_box (w.heap.size + 1) [.int .i64 n, .slice A l k, .int .i64 f, .int .i64 dmin, .int .i64 dmax, .int .i64 rho, .int .i64 slew, .int .i64 round, .int .i64 window, .int .i64 attend, .int .i64 seen, .int .i64 hist, .int .i64 fly, .int .i64 quota, .int .i64 body] W1 [] [.int .i64 0, .slice none 0 0, .int .i64 0, .int .i64 0, .int .i64 0, .int .i64 0, .int .i64 0, .int .i64 0, .int .i64 0, .int .i64 0, .int .i64 0, .int .i64 0, .int .i64 0, .int .i64 0, .int .i64 0] rfl zb
      have zq := storeN_below (N := w.heap.size) (w.heap.size + 1) (by omega) [.int .i64 n, .slice A l k, .int .i64 f, .int .i64 dmin, .int .i64 dmax, .int .i64 rho, .int .i64 slew, .int .i64 round, .int .i64 window, .int .i64 attend, .int .i64 seen, .int .i64 hist, .int .i64 fly, .int .i64 quota, .int .i64 body] w W1 0 zbel
      obtain ⟨wf, hwf⟩ : ∃ wf, storeN (w.heap.size + 1) W1 [.int .i64 n, .slice A l k, .int .i64 f, .int .i64 dmin, .int .i64 dmax, .int .i64 rho, .int .i64 slew, .int .i64 round, .int .i64 window, .int .i64 attend, .int .i64 seen, .int .i64 hist, .int .i64 fly, .int .i64 quota, .int .i64 body] 0 = wf := ⟨_, rfl⟩
      rw [show ([] : List Value).length = 0 from rfl, List.nil_append, hwf] at zp
      rw [hwf] at zq
      simp only [storeN, Nat.reduceAdd] at hwf
      have ef0 := zp.1 0 _ rfl
      have ef1 := zp.1 1 _ rfl
      have ef2 := zp.1 2 _ rfl
      have ef3 := zp.1 3 _ rfl
      have ef4 := zp.1 4 _ rfl
      have ef5 := zp.1 5 _ rfl
      have ef6 := zp.1 6 _ rfl
      have ef7 := zp.1 7 _ rfl
      have ef8 := zp.1 8 _ rfl
      have ef9 := zp.1 9 _ rfl
      have ef10 := zp.1 10 _ rfl
      have ef11 := zp.1 11 _ rfl
      have ef12 := zp.1 12 _ rfl
      have ef13 := zp.1 13 _ rfl
      have ef14 := zp.1 14 _ rfl
      have HB := Lib.hid zq
      clear zb zp zq zbel hSS
      go_wp2
      refine bodyPost_ret (v := .tuple #[.agg #[.int .i64 n, .slice A l k, .int .i64 f, .int .i64 dmin, .int .i64 dmax, .int .i64 rho, .int .i64 slew, .int .i64 round, .int .i64 window, .int .i64 attend, .int .i64 seen, .int .i64 hist, .int .i64 fly, .int .i64 quota, .int .i64 body], .bool false]) (by simp [results, Tryz.results15, go_sem, hz, hsz, ef0, ef1, ef2, ef3, ef4, ef5, ef6, ef7, ef8, ef9, ef10, ef11, ef12, ef13, ef14]) rfl ?_
      exact ⟨⟨false, by rw [HV.out] <;> rfl⟩, HB.out⟩
set_option maxHeartbeats 6400000 in
theorem refSuggest1a (c : Cn) (hgd : goodC (baseC c 12) = true) (hno : ∀ i, 12 ≤ i → i ≤ 40 → enoughB (stepC c i) = false) (A : Option Addr) (l k : Nat) (w : World) : Calls Tryz.prog 15 #[.agg (c.cells A l k).toArray] w (SugPost c A l k w) := by
  obtain ⟨hz, hsz⟩ := zero_of_info (show (Tryz.prog.info? 32).map (fun i => (i.zero, i.size)) = some (some (.agg #[.int .i64 0, .slice none 0 0, .int .i64 0, .int .i64 0, .int .i64 0, .int .i64 0, .int .i64 0, .int .i64 0, .int .i64 0, .int .i64 0, .int .i64 0, .int .i64 0, .int .i64 0, .int .i64 0, .int .i64 0]), 15) by kernel_rfl)
  have HSUG : Hid (sugC c = sugF c (41 - 12) 12) := rfl
  have CO := Lib.hid (fun (j : Nat) (hg : goodC (baseC c j) = true) W => ref26Of (baseC c j) hg A l k W)
  have CG := Lib.hid (fun (j : Nat) (r : Bool) (hg : goodC (baseC c j) = r) W => ref26Good (c := baseC c j) hg A l k W)
  have CE := Lib.hid (fun (j : Nat) W => refEnough (stepC c j) A l k W)
  have CF := Lib.hid (fun (j : Nat) W => refEnough (baseC c j) A l k W)
  have HSB := Lib.hid (fun (j : Nat) (h : goodC (baseC c j) = false) => And.intro (step_bad h) (enough_bad h))
  have HST := Lib.hid (fun (j : Nat) (h : j ≤ 40) => sug_step (c := c) h)
  have HDL := Lib.hid (fun (j : Nat) (h : goodC (baseC c j) = true) => step_delta h)
  have HGB := Lib.hid (fun (j : Nat) (h1 : 12 ≤ j) (h2 : j ≤ 40) => good_base (c := c) h1 h2 (show 12 ≤ 12 by omega) (show 12 ≤ 40 by omega))
  have HNO := Lib.hid hno
  clear hno
  have HGD := Lib.hid hgd
  clear hgd
  obtain ⟨n, f, dmin, dmax, rho, slew, round, window, attend, seen, hist, fly, quota, body⟩ := c
  have k0 := boxF_made w [.int .i64 n, .slice A l k, .int .i64 f, .int .i64 dmin, .int .i64 dmax, .int .i64 rho, .int .i64 slew, .int .i64 round, .int .i64 window, .int .i64 attend, .int .i64 seen, .int .i64 hist, .int .i64 fly, .int .i64 quota, .int .i64 body] 32
  have k1 := (Below.refl w.heap.size w).alloc (Nat.le_refl _) (.cells #[.int .i64 n, .slice A l k, .int .i64 f, .int .i64 dmin, .int .i64 dmax, .int .i64 rho, .int .i64 slew, .int .i64 round, .int .i64 window, .int .i64 attend, .int .i64 seen, .int .i64 hist, .int .i64 fly, .int .i64 quota, .int .i64 body] 32)
  obtain ⟨w1, hw1⟩ : ∃ w1, w.alloc (.cells #[.int .i64 n, .slice A l k, .int .i64 f, .int .i64 dmin, .int .i64 dmax, .int .i64 rho, .int .i64 slew, .int .i64 round, .int .i64 window, .int .i64 attend, .int .i64 seen, .int .i64 hist, .int .i64 fly, .int .i64 quota, .int .i64 body] 32) = w1 := ⟨_, rfl⟩
  have hs1 : w1.heap.size = w.heap.size + 1 := by rw [← hw1]; simp
  rw [hw1] at k0 k1
  have k2 := boxF_made w1 [.int .i64 0, .slice none 0 0, .int .i64 0, .int .i64 0, .int .i64 0, .int .i64 0, .int .i64 0, .int .i64 0, .int .i64 0, .int .i64 0, .int .i64 0, .int .i64 0, .int .i64 0, .int .i64 0, .int .i64 0] 32
  have k3 := k0.keep ((Below.refl _ _).alloc (Nat.le_refl _) (.cells #[.int .i64 0, .slice none 0 0, .int .i64 0, .int .i64 0, .int .i64 0, .int .i64 0, .int .i64 0, .int .i64 0, .int .i64 0, .int .i64 0, .int .i64 0, .int .i64 0, .int .i64 0, .int .i64 0, .int .i64 0] 32))
  have k4 := k1.alloc (by omega) (.cells #[.int .i64 0, .slice none 0 0, .int .i64 0, .int .i64 0, .int .i64 0, .int .i64 0, .int .i64 0, .int .i64 0, .int .i64 0, .int .i64 0, .int .i64 0, .int .i64 0, .int .i64 0, .int .i64 0, .int .i64 0] 32)
  obtain ⟨w2, hw2⟩ : ∃ w2, w1.alloc (.cells #[.int .i64 0, .slice none 0 0, .int .i64 0, .int .i64 0, .int .i64 0, .int .i64 0, .int .i64 0, .int .i64 0, .int .i64 0, .int .i64 0, .int .i64 0, .int .i64 0, .int .i64 0, .int .i64 0, .int .i64 0] 32) = w2 := ⟨_, rfl⟩
  have hs2 : w2.heap.size = w.heap.size + 1 + 1 := by rw [← hw2]; simp; omega
  rw [hw2] at k2 k3 k4
  rw [hs1] at k2
  have kc0 := k3.1 0 _ rfl
  have kc1 := k3.1 1 _ rfl
  have kc2 := k3.1 2 _ rfl
  have kc3 := k3.1 3 _ rfl
  have kc4 := k3.1 4 _ rfl
  have kc5 := k3.1 5 _ rfl
  have kc6 := k3.1 6 _ rfl
  have kc7 := k3.1 7 _ rfl
  have kc8 := k3.1 8 _ rfl
  have kc9 := k3.1 9 _ rfl
  have kc10 := k3.1 10 _ rfl
  have kc11 := k3.1 11 _ rfl
  have kc12 := k3.1 12 _ rfl
  have kc13 := k3.1 13 _ rfl
  have kc14 := k3.1 14 _ rfl
  have k5 := boxF_made w2 [.int .i64 n, .slice A l k, .int .i64 f, .int .i64 dmin, .int .i64 dmax, .int .i64 rho, .int .i64 slew, .int .i64 round, .int .i64 window, .int .i64 attend, .int .i64 seen, .int .i64 hist, .int .i64 fly, .int .i64 quota, .int .i64 body] 32
  rw [hs2] at k5
  have HS := Lib.hid (show SgD w (w2.alloc (.cells #[.int .i64 n, .slice A l k, .int .i64 f, .int .i64 dmin, .int .i64 dmax, .int .i64 rho, .int .i64 slew, .int .i64 round, .int .i64 window, .int .i64 attend, .int .i64 seen, .int .i64 hist, .int .i64 fly, .int .i64 quota, .int .i64 body] 32)) [.int .i64 n, .slice A l k, .int .i64 f, .int .i64 dmin, .int .i64 dmax, .int .i64 rho, .int .i64 slew, .int .i64 round, .int .i64 window, .int .i64 attend, .int .i64 seen, .int .i64 hist, .int .i64 fly, .int .i64 quota, .int .i64 body] (w.heap.size + 1 + 1) [.int .i64 n, .slice A l k, .int .i64 f, .int .i64 dmin, .int .i64 dmax, .int .i64 rho, .int .i64 slew, .int .i64 round, .int .i64 window, .int .i64 attend, .int .i64 seen, .int .i64 hist, .int .i64 fly, .int .i64 quota, .int .i64 body] from ⟨SgS.keep ⟨k3, k2, k4⟩ ((Below.refl _ _).alloc (Nat.le_refl _) _), k5, by omega⟩)
  clear k0 k1 k2 k3 k4 k5
  go_enter Tryz.func15, Tryz.ntmps15
  go_wp2
  clear kc0 kc1 kc2 kc3 kc4 kc5 kc6 kc7 kc8 kc9 kc10 kc11 kc12 kc13 kc14 hw1 hw2
  go_loopw [5] (fun i wr => ∃ (j : Nat) (x y z : Int), 12 ≤ j ∧ j ≤ 41 ∧ i = .int .i64 j ∧ sugF ⟨n, f, dmin, dmax, rho, slew, round, window, attend, seen, hist, fly, quota, body⟩ (41 - j) j = sugC ⟨n, f, dmin, dmax, rho, slew, round, window, attend, seen, hist, fly, quota, body⟩ ∧ SgD w wr [.int .i64 n, .slice A l k, .int .i64 f, .int .i64 dmin, .int .i64 dmax, .int .i64 rho, .int .i64 slew, .int .i64 round, .int .i64 window, .int .i64 attend, .int .i64 seen, .int .i64 hist, .int .i64 fly, .int .i64 quota, .int .i64 body] (w.heap.size + 1 + 1) [.int .i64 n, .slice A l k, .int .i64 f, .int .i64 dmin, .int .i64 dmax, .int .i64 rho, .int .i64 slew, .int .i64 x, .int .i64 y, .int .i64 z, .int .i64 seen, .int .i64 hist, .int .i64 fly, .int .i64 quota, .int .i64 body]) (fun i _ => 41 - (intOf i).toNat)
  case atStart => exact ⟨12, round, window, attend, by omega, by omega, rfl, rfl, HS.out⟩
  case round =>
    obtain ⟨j, x, y, z, hj1, hj2, rfl, hsug, hS⟩ := hrel
    obtain ⟨W1, rfl⟩ : ∃ W1, W1 = wr := ⟨_, rfl⟩
    clear HS
    by_cases hlt : j ≤ 40
    · obtain ⟨r, hr⟩ : ∃ r, (2 : Int) ^ j = r := ⟨_, rfl⟩
      obtain ⟨q, hq⟩ : ∃ q, (2 : Int) ^ (j - 2) = q := ⟨_, rfl⟩
      have hpf := pow_fit hj1 hlt
      have hpq := pow_four (k := j) (by omega)
      rw [hr] at hpf hpq
      rw [hq] at hpq
      have hp1 : 4096 ≤ r := hpf.1
      have hp2 : r ≤ 1099511627776 := hpf.2
      have hs1 : IntKind.i64.wrap (2 ^ j) = r := by rw [hr]; exact IntWalk.i64_in _ (by omega)
      have hd1 : r.tdiv 4 = q := by rw [Int.tdiv_eq_ediv_of_nonneg (by omega)]; omega
      have hd2 : r / 4 = q := by omega
      have hq1 : 1024 ≤ q ∧ q ≤ 1099511627776 := by omega
      clear hpq hpf
      have hgb : goodC (baseC ⟨n, f, dmin, dmax, rho, slew, round, window, attend, seen, hist, fly, quota, body⟩ j) = true := (HGB.out j hj1 hlt).trans HGD.out
      have g7 := hS.bx.1 7 _ rfl
      have t7 := hS.bx.2 7 (by simp)
      have hA := hS.put 7 (by simp) (.int .i64 r)
      simp only [List.set_cons_succ, List.set_cons_zero] at hA
      obtain ⟨Wa, hWa⟩ : ∃ Wa, W1.setCell ⟨w.heap.size + 1 + 1, 7, none⟩ (.int .i64 r) = Wa := ⟨_, rfl⟩
      rw [hWa] at hA
      have a7 := hA.bx.1 7 _ rfl
      have a8 := hA.bx.1 8 _ rfl
      have a9 := hA.bx.1 9 _ rfl
      have s8 := hA.bx.2 8 (by simp)
      have s9 := hA.bx.2 9 (by simp)
      have hB := (hA.put 8 (by simp) (.int .i64 q)).put 9 (by simp) (.int .i64 1)
      simp only [List.set_cons_succ, List.set_cons_zero] at hB
      obtain ⟨W3, hW3⟩ : ∃ W3, (Wa.setCell ⟨w.heap.size + 1 + 1, 8, none⟩ (.int .i64 q)).setCell ⟨w.heap.size + 1 + 1, 9, none⟩ (.int .i64 1) = W3 := ⟨_, rfl⟩
      rw [hW3] at hB
      have HB3 := Lib.hid hB
      have HSG := Lib.hid hsug
      have e0 : (baseC ⟨n, f, dmin, dmax, rho, slew, round, window, attend, seen, hist, fly, quota, body⟩ j).cells A l k = [.int .i64 n, .slice A l k, .int .i64 f, .int .i64 dmin, .int .i64 dmax, .int .i64 rho, .int .i64 slew, .int .i64 r, .int .i64 q, .int .i64 1, .int .i64 seen, .int .i64 hist, .int .i64 fly, .int .i64 quota, .int .i64 body] := by show ([.int .i64 n, .slice A l k, .int .i64 f, .int .i64 dmin, .int .i64 dmax, .int .i64 rho, .int .i64 slew, .int .i64 (2 ^ j), .int .i64 (2 ^ (j - 2)), .int .i64 1, .int .i64 seen, .int .i64 hist, .int .i64 fly, .int .i64 quota, .int .i64 body] : List Value) = _; rw [hr, hq]
      have hce : (stepC ⟨n, f, dmin, dmax, rho, slew, round, window, attend, seen, hist, fly, quota, body⟩ j).cells A l k = [.int .i64 n, .slice A l k, .int .i64 f, .int .i64 dmin, .int .i64 dmax, .int .i64 rho, .int .i64 slew, .int .i64 r, .int .i64 q, .int .i64 (2 * bDelta (baseC ⟨n, f, dmin, dmax, rho, slew, round, window, attend, seen, hist, fly, quota, body⟩ j)), .int .i64 seen, .int .i64 hist, .int .i64 fly, .int .i64 quota, .int .i64 body] := by show ([.int .i64 n, .slice A l k, .int .i64 f, .int .i64 dmin, .int .i64 dmax, .int .i64 rho, .int .i64 slew, .int .i64 (2 ^ j), .int .i64 (2 ^ (j - 2)), .int .i64 (2 * bDelta (baseC ⟨n, f, dmin, dmax, rho, slew, round, window, attend, seen, hist, fly, quota, body⟩ j)), .int .i64 seen, .int .i64 hist, .int .i64 fly, .int .i64 quota, .int .i64 body] : List Value) = _; rw [hr, hq]
      have C1 := CO.out j
      have C2 := CG.out j _ hgb
      have C3 := CE.out j
      have C4 := CF.out j
      simp only [e0] at C1 C2 C4
      simp only [hce] at C3
      unfold bCells at C1
      have hdl := HDL.out j
      generalize bHops (baseC ⟨n, f, dmin, dmax, rho, slew, round, window, attend, seen, hist, fly, quota, body⟩ j) = hops at *
      generalize bFast (baseC ⟨n, f, dmin, dmax, rho, slew, round, window, attend, seen, hist, fly, quota, body⟩ j) = fast at *
      generalize bSlow (baseC ⟨n, f, dmin, dmax, rho, slew, round, window, attend, seen, hist, fly, quota, body⟩ j) = slow at *
      generalize bLink (baseC ⟨n, f, dmin, dmax, rho, slew, round, window, attend, seen, hist, fly, quota, body⟩ j) = link at *
      generalize bRead (baseC ⟨n, f, dmin, dmax, rho, slew, round, window, attend, seen, hist, fly, quota, body⟩ j) = read at *
      generalize bAgree (baseC ⟨n, f, dmin, dmax, rho, slew, round, window, attend, seen, hist, fly, quota, body⟩ j) = agree at *
      generalize bStart (baseC ⟨n, f, dmin, dmax, rho, slew, round, window, attend, seen, hist, fly, quota, body⟩ j) = start at *
      generalize bEps (baseC ⟨n, f, dmin, dmax, rho, slew, round, window, attend, seen, hist, fly, quota, body⟩ j) = eps at *
      generalize bMost (baseC ⟨n, f, dmin, dmax, rho, slew, round, window, attend, seen, hist, fly, quota, body⟩ j) = most at *
      generalize bCold (baseC ⟨n, f, dmin, dmax, rho, slew, round, window, attend, seen, hist, fly, quota, body⟩ j) = cold at *
      generalize bRough (baseC ⟨n, f, dmin, dmax, rho, slew, round, window, attend, seen, hist, fly, quota, body⟩ j) = rough at *
      generalize bDelta (baseC ⟨n, f, dmin, dmax, rho, slew, round, window, attend, seen, hist, fly, quota, body⟩ j) = delta at *
      generalize bDown (baseC ⟨n, f, dmin, dmax, rho, slew, round, window, attend, seen, hist, fly, quota, body⟩ j) = down at *
      generalize bJoin (baseC ⟨n, f, dmin, dmax, rho, slew, round, window, attend, seen, hist, fly, quota, body⟩ j) = join at *
      have HC2 := Lib.hid C2
      have HC3 := Lib.hid C3
      have HC4 := Lib.hid C4
      have HCE := Lib.hid hce
      have HGV := Lib.hid hgb
      have hD := hB.bx
      have d0 := hD.1 0 _ rfl
      have d1 := hD.1 1 _ rfl
      have d2 := hD.1 2 _ rfl
      have d3 := hD.1 3 _ rfl
      have d4 := hD.1 4 _ rfl
      have d5 := hD.1 5 _ rfl
      have d6 := hD.1 6 _ rfl
      have d7 := hD.1 7 _ rfl
      have d8 := hD.1 8 _ rfl
      have d9 := hD.1 9 _ rfl
      have d10 := hD.1 10 _ rfl
      have d11 := hD.1 11 _ rfl
      have d12 := hD.1 12 _ rfl
      have d13 := hD.1 13 _ rfl
      have d14 := hD.1 14 _ rfl
      have HC1 := Lib.hid (C1 hgb)
      obtain ⟨dl0, dl1⟩ := hdl hgb
      clear C1 C2 C3 C4 hdl hS hA hB hsug e0 hce hgb hr hq
      go_wp2_with fail
      refine (HC2.out _).mono ?_
      rintro e w4 ⟨rfl, hb4⟩
      clear d0 d1 d2 d3 d4 d5 d6 d7 d8 d9 d10 d11 d12 d13 d14 g7 t7 a7 a8 a9 s8 s9 hWa hW3 hD
      have hB4 := HB3.out.keep hb4
      have HB4 := Lib.hid hB4
      have hD := hB4.bx
      have d0 := hD.1 0 _ rfl; have d1 := hD.1 1 _ rfl; have d2 := hD.1 2 _ rfl; have d3 := hD.1 3 _ rfl; have d4 := hD.1 4 _ rfl; have d5 := hD.1 5 _ rfl; have d6 := hD.1 6 _ rfl; have d7 := hD.1 7 _ rfl; have d8 := hD.1 8 _ rfl; have d9 := hD.1 9 _ rfl; have d10 := hD.1 10 _ rfl; have d11 := hD.1 11 _ rfl; have d12 := hD.1 12 _ rfl; have d13 := hD.1 13 _ rfl; have d14 := hD.1 14 _ rfl
      clear hB4 hb4
      have hfd : ∀ w : World, (Instr.field 115 (.agg #[.int .i64 hops, .int .i64 fast, .int .i64 slow, .int .i64 link, .int .i64 read, .int .i64 agree, .int .i64 start, .int .i64 eps, .int .i64 most, .int .i64 cold, .int .i64 rough, .int .i64 delta, .int .i64 down, .int .i64 join]) 11).run Tryz.prog w = .ok (.int .i64 delta) w := fun _ => by kernel_rfl
      go_wp2_with fail
      refine (HC1.out _).mono ?_
      rintro e w5 ⟨rfl, hb5⟩
      have hB5 := HB4.out.keep hb5
      have g9 := hB5.bx.1 9 _ rfl
      have t9 := hB5.bx.2 9 (by simp)
      have hB6 := hB5.put 9 (by simp) (.int .i64 (2 * delta))
      simp only [List.set_cons_succ, List.set_cons_zero] at hB6
      obtain ⟨W6, hW6⟩ : ∃ W6, w5.setCell ⟨w.heap.size + 1 + 1, 9, none⟩ (.int .i64 (2 * delta)) = W6 := ⟨_, rfl⟩
      rw [hW6] at hB6
      have HB6 := Lib.hid hB6
      have zd : IntKind.i64.wrap (2 * delta) = 2 * delta := IntWalk.i64_in _ (by omega)
      clear d0 d1 d2 d3 d4 d5 d6 d7 d8 d9 d10 d11 d12 d13 d14 hD hb5 hB5
      have hD := hB6.bx
      have d0 := hD.1 0 _ rfl; have d1 := hD.1 1 _ rfl; have d2 := hD.1 2 _ rfl; have d3 := hD.1 3 _ rfl; have d4 := hD.1 4 _ rfl; have d5 := hD.1 5 _ rfl; have d6 := hD.1 6 _ rfl; have d7 := hD.1 7 _ rfl; have d8 := hD.1 8 _ rfl; have d9 := hD.1 9 _ rfl; have d10 := hD.1 10 _ rfl; have d11 := hD.1 11 _ rfl; have d12 := hD.1 12 _ rfl; have d13 := hD.1 13 _ rfl; have d14 := hD.1 14 _ rfl
      clear hB6
      go_wp2_with fail
      obtain ⟨EB, hEB⟩ : ∃ b, enoughB (stepC ⟨n, f, dmin, dmax, rho, slew, round, window, attend, seen, hist, fly, quota, body⟩ j) = b := ⟨_, rfl⟩
      refine (HC3.out _).mono ?_
      rintro e w7 ⟨rfl, hb7⟩
      clear d0 d1 d2 d3 d4 d5 d6 d7 d8 d9 d10 d11 d12 d13 d14 g9 t9 hW6 hD zd
      have hD7 := HB6.out.keep hb7
      have hst := HST.out j hlt
      rw [HSG.out] at hst
      rw [hEB] at hst ⊢
      have HD7 := Lib.hid hD7
      obtain rfl : EB = false := hEB.symm.trans (HNO.out j hj1 hlt)
      clear hb7 hEB
      have HV : Hid (sugF ⟨n, f, dmin, dmax, rho, slew, round, window, attend, seen, hist, fly, quota, body⟩ (41 - (j + 1)) (j + 1) = sugC ⟨n, f, dmin, dmax, rho, slew, round, window, attend, seen, hist, fly, quota, body⟩) := hst.symm
      clear hD7 hst
      go_wp2
      go_roundw
      case rel => exact ⟨j + 1, r, q, 2 * delta, by omega, by omega, by go_num, HV.out, HD7.out⟩
      case measure => simp [intOf]; omega
    · obtain rfl : j = 41 := by omega
      have HV : Hid (sugC ⟨n, f, dmin, dmax, rho, slew, round, window, attend, seen, hist, fly, quota, body⟩ = ⟨n, f, dmin, dmax, rho, slew, round, window, attend, seen, hist, fly, quota, body⟩) := hsug.symm
      have hSS := hS.s
      have d0 := hS.s.cfg.1 0 _ rfl
      have d1 := hS.s.cfg.1 1 _ rfl
      have d2 := hS.s.cfg.1 2 _ rfl
      have d3 := hS.s.cfg.1 3 _ rfl
      have d4 := hS.s.cfg.1 4 _ rfl
      have d5 := hS.s.cfg.1 5 _ rfl
      have d6 := hS.s.cfg.1 6 _ rfl
      have d7 := hS.s.cfg.1 7 _ rfl
      have d8 := hS.s.cfg.1 8 _ rfl
      have d9 := hS.s.cfg.1 9 _ rfl
      have d10 := hS.s.cfg.1 10 _ rfl
      have d11 := hS.s.cfg.1 11 _ rfl
      have d12 := hS.s.cfg.1 12 _ rfl
      have d13 := hS.s.cfg.1 13 _ rfl
      have d14 := hS.s.cfg.1 14 _ rfl
      clear hS
      have zb := hSS.zb
      have zbel := hSS.bel
      have zs0 := zb.1 0 _ rfl
      have zf0 := zb.2 0 (by simp)
      have zs1 := zb.1 1 _ rfl
      have zf1 := zb.2 1 (by simp)
      have zs2 := zb.1 2 _ rfl
      have zf2 := zb.2 2 (by simp)
      have zs3 := zb.1 3 _ rfl
      have zf3 := zb.2 3 (by simp)
      have zs4 := zb.1 4 _ rfl
      have zf4 := zb.2 4 (by simp)
      have zs5 := zb.1 5 _ rfl
      have zf5 := zb.2 5 (by simp)
      have zs6 := zb.1 6 _ rfl
      have zf6 := zb.2 6 (by simp)
      have zs7 := zb.1 7 _ rfl
      have zf7 := zb.2 7 (by simp)
      have zs8 := zb.1 8 _ rfl
      have zf8 := zb.2 8 (by simp)
      have zs9 := zb.1 9 _ rfl
      have zf9 := zb.2 9 (by simp)
      have zs10 := zb.1 10 _ rfl
      have zf10 := zb.2 10 (by simp)
      have zs11 := zb.1 11 _ rfl
      have zf11 := zb.2 11 (by simp)
      have zs12 := zb.1 12 _ rfl
      have zf12 := zb.2 12 (by simp)
      have zs13 := zb.1 13 _ rfl
      have zf13 := zb.2 13 (by simp)
      have zs14 := zb.1 14 _ rfl
      have zf14 := zb.2 14 (by simp)
      have zp := storeN_box (w.heap.size + 1) [.int .i64 n, .slice A l k, .int .i64 f, .int .i64 dmin, .int .i64 dmax, .int .i64 rho, .int .i64 slew, .int .i64 round, .int .i64 window, .int .i64 attend, .int .i64 seen, .int .i64 hist, .int .i64 fly, .int .i64 quota, .int .i64 body] W1 [] [.int .i64 0, .slice none 0 0, .int .i64 0, .int .i64 0, .int .i64 0, .int .i64 0, .int .i64 0, .int .i64 0, .int .i64 0, .int .i64 0, .int .i64 0, .int .i64 0, .int .i64 0, .int .i64 0, .int .i64 0] rfl zb
      have zq := storeN_below (N := w.heap.size) (w.heap.size + 1) (by omega) [.int .i64 n, .slice A l k, .int .i64 f, .int .i64 dmin, .int .i64 dmax, .int .i64 rho, .int .i64 slew, .int .i64 round, .int .i64 window, .int .i64 attend, .int .i64 seen, .int .i64 hist, .int .i64 fly, .int .i64 quota, .int .i64 body] w W1 0 zbel
      obtain ⟨wf, hwf⟩ : ∃ wf, storeN (w.heap.size + 1) W1 [.int .i64 n, .slice A l k, .int .i64 f, .int .i64 dmin, .int .i64 dmax, .int .i64 rho, .int .i64 slew, .int .i64 round, .int .i64 window, .int .i64 attend, .int .i64 seen, .int .i64 hist, .int .i64 fly, .int .i64 quota, .int .i64 body] 0 = wf := ⟨_, rfl⟩
      rw [show ([] : List Value).length = 0 from rfl, List.nil_append, hwf] at zp
      rw [hwf] at zq
      simp only [storeN, Nat.reduceAdd] at hwf
      have ef0 := zp.1 0 _ rfl
      have ef1 := zp.1 1 _ rfl
      have ef2 := zp.1 2 _ rfl
      have ef3 := zp.1 3 _ rfl
      have ef4 := zp.1 4 _ rfl
      have ef5 := zp.1 5 _ rfl
      have ef6 := zp.1 6 _ rfl
      have ef7 := zp.1 7 _ rfl
      have ef8 := zp.1 8 _ rfl
      have ef9 := zp.1 9 _ rfl
      have ef10 := zp.1 10 _ rfl
      have ef11 := zp.1 11 _ rfl
      have ef12 := zp.1 12 _ rfl
      have ef13 := zp.1 13 _ rfl
      have ef14 := zp.1 14 _ rfl
      have HB := Lib.hid zq
      clear zb zp zq zbel hSS
      go_wp2
      refine bodyPost_ret (v := .tuple #[.agg #[.int .i64 n, .slice A l k, .int .i64 f, .int .i64 dmin, .int .i64 dmax, .int .i64 rho, .int .i64 slew, .int .i64 round, .int .i64 window, .int .i64 attend, .int .i64 seen, .int .i64 hist, .int .i64 fly, .int .i64 quota, .int .i64 body], .bool false]) (by simp [results, Tryz.results15, go_sem, hz, hsz, ef0, ef1, ef2, ef3, ef4, ef5, ef6, ef7, ef8, ef9, ef10, ef11, ef12, ef13, ef14]) rfl ?_
      exact ⟨⟨false, by rw [HV.out] <;> rfl⟩, HB.out⟩
set_option maxHeartbeats 6400000 in
theorem refSuggest1b (c : Cn) (hgd : goodC (baseC c 12) = true) (hso : ¬ ∀ i, 12 ≤ i → i ≤ 40 → enoughB (stepC c i) = false) (A : Option Addr) (l k : Nat) (w : World) : Calls Tryz.prog 15 #[.agg (c.cells A l k).toArray] w (SugPost c A l k w) := by
  obtain ⟨hz, hsz⟩ := zero_of_info (show (Tryz.prog.info? 32).map (fun i => (i.zero, i.size)) = some (some (.agg #[.int .i64 0, .slice none 0 0, .int .i64 0, .int .i64 0, .int .i64 0, .int .i64 0, .int .i64 0, .int .i64 0, .int .i64 0, .int .i64 0, .int .i64 0, .int .i64 0, .int .i64 0, .int .i64 0, .int .i64 0]), 15) by kernel_rfl)
  have HSUG : Hid (sugC c = sugF c (41 - 12) 12) := rfl
  have CO := Lib.hid (fun (j : Nat) (hg : goodC (baseC c j) = true) W => ref26Of (baseC c j) hg A l k W)
  have CG := Lib.hid (fun (j : Nat) (r : Bool) (hg : goodC (baseC c j) = r) W => ref26Good (c := baseC c j) hg A l k W)
  have CE := Lib.hid (fun (j : Nat) W => refEnough (stepC c j) A l k W)
  have CF := Lib.hid (fun (j : Nat) W => refEnough (baseC c j) A l k W)
  have HSB := Lib.hid (fun (j : Nat) (h : goodC (baseC c j) = false) => And.intro (step_bad h) (enough_bad h))
  have HST := Lib.hid (fun (j : Nat) (h : j ≤ 40) => sug_step (c := c) h)
  have HDL := Lib.hid (fun (j : Nat) (h : goodC (baseC c j) = true) => step_delta h)
  have HGB := Lib.hid (fun (j : Nat) (h1 : 12 ≤ j) (h2 : j ≤ 40) => good_base (c := c) h1 h2 (show 12 ≤ 12 by omega) (show 12 ≤ 40 by omega))
  have HSO := Lib.hid hso
  clear hso
  have HGD := Lib.hid hgd
  clear hgd
  obtain ⟨n, f, dmin, dmax, rho, slew, round, window, attend, seen, hist, fly, quota, body⟩ := c
  have k0 := boxF_made w [.int .i64 n, .slice A l k, .int .i64 f, .int .i64 dmin, .int .i64 dmax, .int .i64 rho, .int .i64 slew, .int .i64 round, .int .i64 window, .int .i64 attend, .int .i64 seen, .int .i64 hist, .int .i64 fly, .int .i64 quota, .int .i64 body] 32
  have k1 := (Below.refl w.heap.size w).alloc (Nat.le_refl _) (.cells #[.int .i64 n, .slice A l k, .int .i64 f, .int .i64 dmin, .int .i64 dmax, .int .i64 rho, .int .i64 slew, .int .i64 round, .int .i64 window, .int .i64 attend, .int .i64 seen, .int .i64 hist, .int .i64 fly, .int .i64 quota, .int .i64 body] 32)
  obtain ⟨w1, hw1⟩ : ∃ w1, w.alloc (.cells #[.int .i64 n, .slice A l k, .int .i64 f, .int .i64 dmin, .int .i64 dmax, .int .i64 rho, .int .i64 slew, .int .i64 round, .int .i64 window, .int .i64 attend, .int .i64 seen, .int .i64 hist, .int .i64 fly, .int .i64 quota, .int .i64 body] 32) = w1 := ⟨_, rfl⟩
  have hs1 : w1.heap.size = w.heap.size + 1 := by rw [← hw1]; simp
  rw [hw1] at k0 k1
  have k2 := boxF_made w1 [.int .i64 0, .slice none 0 0, .int .i64 0, .int .i64 0, .int .i64 0, .int .i64 0, .int .i64 0, .int .i64 0, .int .i64 0, .int .i64 0, .int .i64 0, .int .i64 0, .int .i64 0, .int .i64 0, .int .i64 0] 32
  have k3 := k0.keep ((Below.refl _ _).alloc (Nat.le_refl _) (.cells #[.int .i64 0, .slice none 0 0, .int .i64 0, .int .i64 0, .int .i64 0, .int .i64 0, .int .i64 0, .int .i64 0, .int .i64 0, .int .i64 0, .int .i64 0, .int .i64 0, .int .i64 0, .int .i64 0, .int .i64 0] 32))
  have k4 := k1.alloc (by omega) (.cells #[.int .i64 0, .slice none 0 0, .int .i64 0, .int .i64 0, .int .i64 0, .int .i64 0, .int .i64 0, .int .i64 0, .int .i64 0, .int .i64 0, .int .i64 0, .int .i64 0, .int .i64 0, .int .i64 0, .int .i64 0] 32)
  obtain ⟨w2, hw2⟩ : ∃ w2, w1.alloc (.cells #[.int .i64 0, .slice none 0 0, .int .i64 0, .int .i64 0, .int .i64 0, .int .i64 0, .int .i64 0, .int .i64 0, .int .i64 0, .int .i64 0, .int .i64 0, .int .i64 0, .int .i64 0, .int .i64 0, .int .i64 0] 32) = w2 := ⟨_, rfl⟩
  have hs2 : w2.heap.size = w.heap.size + 1 + 1 := by rw [← hw2]; simp; omega
  rw [hw2] at k2 k3 k4
  rw [hs1] at k2
  have kc0 := k3.1 0 _ rfl
  have kc1 := k3.1 1 _ rfl
  have kc2 := k3.1 2 _ rfl
  have kc3 := k3.1 3 _ rfl
  have kc4 := k3.1 4 _ rfl
  have kc5 := k3.1 5 _ rfl
  have kc6 := k3.1 6 _ rfl
  have kc7 := k3.1 7 _ rfl
  have kc8 := k3.1 8 _ rfl
  have kc9 := k3.1 9 _ rfl
  have kc10 := k3.1 10 _ rfl
  have kc11 := k3.1 11 _ rfl
  have kc12 := k3.1 12 _ rfl
  have kc13 := k3.1 13 _ rfl
  have kc14 := k3.1 14 _ rfl
  have k5 := boxF_made w2 [.int .i64 n, .slice A l k, .int .i64 f, .int .i64 dmin, .int .i64 dmax, .int .i64 rho, .int .i64 slew, .int .i64 round, .int .i64 window, .int .i64 attend, .int .i64 seen, .int .i64 hist, .int .i64 fly, .int .i64 quota, .int .i64 body] 32
  rw [hs2] at k5
  have HS := Lib.hid (show SgD w (w2.alloc (.cells #[.int .i64 n, .slice A l k, .int .i64 f, .int .i64 dmin, .int .i64 dmax, .int .i64 rho, .int .i64 slew, .int .i64 round, .int .i64 window, .int .i64 attend, .int .i64 seen, .int .i64 hist, .int .i64 fly, .int .i64 quota, .int .i64 body] 32)) [.int .i64 n, .slice A l k, .int .i64 f, .int .i64 dmin, .int .i64 dmax, .int .i64 rho, .int .i64 slew, .int .i64 round, .int .i64 window, .int .i64 attend, .int .i64 seen, .int .i64 hist, .int .i64 fly, .int .i64 quota, .int .i64 body] (w.heap.size + 1 + 1) [.int .i64 n, .slice A l k, .int .i64 f, .int .i64 dmin, .int .i64 dmax, .int .i64 rho, .int .i64 slew, .int .i64 round, .int .i64 window, .int .i64 attend, .int .i64 seen, .int .i64 hist, .int .i64 fly, .int .i64 quota, .int .i64 body] from ⟨SgS.keep ⟨k3, k2, k4⟩ ((Below.refl _ _).alloc (Nat.le_refl _) _), k5, by omega⟩)
  clear k0 k1 k2 k3 k4 k5
  go_enter Tryz.func15, Tryz.ntmps15
  go_wp2
  clear kc0 kc1 kc2 kc3 kc4 kc5 kc6 kc7 kc8 kc9 kc10 kc11 kc12 kc13 kc14 hw1 hw2
  go_loopw [5] (fun i wr => ∃ (j : Nat) (x y z : Int), 12 ≤ j ∧ j ≤ 41 ∧ i = .int .i64 j ∧ sugF ⟨n, f, dmin, dmax, rho, slew, round, window, attend, seen, hist, fly, quota, body⟩ (41 - j) j = sugC ⟨n, f, dmin, dmax, rho, slew, round, window, attend, seen, hist, fly, quota, body⟩ ∧ (∀ i, 12 ≤ i → i < j → enoughB (stepC ⟨n, f, dmin, dmax, rho, slew, round, window, attend, seen, hist, fly, quota, body⟩ i) = false) ∧ SgD w wr [.int .i64 n, .slice A l k, .int .i64 f, .int .i64 dmin, .int .i64 dmax, .int .i64 rho, .int .i64 slew, .int .i64 round, .int .i64 window, .int .i64 attend, .int .i64 seen, .int .i64 hist, .int .i64 fly, .int .i64 quota, .int .i64 body] (w.heap.size + 1 + 1) [.int .i64 n, .slice A l k, .int .i64 f, .int .i64 dmin, .int .i64 dmax, .int .i64 rho, .int .i64 slew, .int .i64 x, .int .i64 y, .int .i64 z, .int .i64 seen, .int .i64 hist, .int .i64 fly, .int .i64 quota, .int .i64 body]) (fun i _ => 41 - (intOf i).toNat)
  case atStart => exact ⟨12, round, window, attend, by omega, by omega, rfl, rfl, fun i h1 h2 => by omega, HS.out⟩
  case round =>
    obtain ⟨j, x, y, z, hj1, hj2, rfl, hsug, hall, hS⟩ := hrel
    have HALL := Lib.hid hall
    clear hall
    obtain ⟨W1, rfl⟩ : ∃ W1, W1 = wr := ⟨_, rfl⟩
    clear HS
    by_cases hlt : j ≤ 40
    · obtain ⟨r, hr⟩ : ∃ r, (2 : Int) ^ j = r := ⟨_, rfl⟩
      obtain ⟨q, hq⟩ : ∃ q, (2 : Int) ^ (j - 2) = q := ⟨_, rfl⟩
      have hpf := pow_fit hj1 hlt
      have hpq := pow_four (k := j) (by omega)
      rw [hr] at hpf hpq
      rw [hq] at hpq
      have hp1 : 4096 ≤ r := hpf.1
      have hp2 : r ≤ 1099511627776 := hpf.2
      have hs1 : IntKind.i64.wrap (2 ^ j) = r := by rw [hr]; exact IntWalk.i64_in _ (by omega)
      have hd1 : r.tdiv 4 = q := by rw [Int.tdiv_eq_ediv_of_nonneg (by omega)]; omega
      have hd2 : r / 4 = q := by omega
      have hq1 : 1024 ≤ q ∧ q ≤ 1099511627776 := by omega
      clear hpq hpf
      have hgb : goodC (baseC ⟨n, f, dmin, dmax, rho, slew, round, window, attend, seen, hist, fly, quota, body⟩ j) = true := (HGB.out j hj1 hlt).trans HGD.out
      have g7 := hS.bx.1 7 _ rfl
      have t7 := hS.bx.2 7 (by simp)
      have hA := hS.put 7 (by simp) (.int .i64 r)
      simp only [List.set_cons_succ, List.set_cons_zero] at hA
      obtain ⟨Wa, hWa⟩ : ∃ Wa, W1.setCell ⟨w.heap.size + 1 + 1, 7, none⟩ (.int .i64 r) = Wa := ⟨_, rfl⟩
      rw [hWa] at hA
      have a7 := hA.bx.1 7 _ rfl
      have a8 := hA.bx.1 8 _ rfl
      have a9 := hA.bx.1 9 _ rfl
      have s8 := hA.bx.2 8 (by simp)
      have s9 := hA.bx.2 9 (by simp)
      have hB := (hA.put 8 (by simp) (.int .i64 q)).put 9 (by simp) (.int .i64 1)
      simp only [List.set_cons_succ, List.set_cons_zero] at hB
      obtain ⟨W3, hW3⟩ : ∃ W3, (Wa.setCell ⟨w.heap.size + 1 + 1, 8, none⟩ (.int .i64 q)).setCell ⟨w.heap.size + 1 + 1, 9, none⟩ (.int .i64 1) = W3 := ⟨_, rfl⟩
      rw [hW3] at hB
      have HB3 := Lib.hid hB
      have HSG := Lib.hid hsug
      have e0 : (baseC ⟨n, f, dmin, dmax, rho, slew, round, window, attend, seen, hist, fly, quota, body⟩ j).cells A l k = [.int .i64 n, .slice A l k, .int .i64 f, .int .i64 dmin, .int .i64 dmax, .int .i64 rho, .int .i64 slew, .int .i64 r, .int .i64 q, .int .i64 1, .int .i64 seen, .int .i64 hist, .int .i64 fly, .int .i64 quota, .int .i64 body] := by show ([.int .i64 n, .slice A l k, .int .i64 f, .int .i64 dmin, .int .i64 dmax, .int .i64 rho, .int .i64 slew, .int .i64 (2 ^ j), .int .i64 (2 ^ (j - 2)), .int .i64 1, .int .i64 seen, .int .i64 hist, .int .i64 fly, .int .i64 quota, .int .i64 body] : List Value) = _; rw [hr, hq]
      have hce : (stepC ⟨n, f, dmin, dmax, rho, slew, round, window, attend, seen, hist, fly, quota, body⟩ j).cells A l k = [.int .i64 n, .slice A l k, .int .i64 f, .int .i64 dmin, .int .i64 dmax, .int .i64 rho, .int .i64 slew, .int .i64 r, .int .i64 q, .int .i64 (2 * bDelta (baseC ⟨n, f, dmin, dmax, rho, slew, round, window, attend, seen, hist, fly, quota, body⟩ j)), .int .i64 seen, .int .i64 hist, .int .i64 fly, .int .i64 quota, .int .i64 body] := by show ([.int .i64 n, .slice A l k, .int .i64 f, .int .i64 dmin, .int .i64 dmax, .int .i64 rho, .int .i64 slew, .int .i64 (2 ^ j), .int .i64 (2 ^ (j - 2)), .int .i64 (2 * bDelta (baseC ⟨n, f, dmin, dmax, rho, slew, round, window, attend, seen, hist, fly, quota, body⟩ j)), .int .i64 seen, .int .i64 hist, .int .i64 fly, .int .i64 quota, .int .i64 body] : List Value) = _; rw [hr, hq]
      have C1 := CO.out j
      have C2 := CG.out j _ hgb
      have C3 := CE.out j
      have C4 := CF.out j
      simp only [e0] at C1 C2 C4
      simp only [hce] at C3
      unfold bCells at C1
      have hdl := HDL.out j
      generalize bHops (baseC ⟨n, f, dmin, dmax, rho, slew, round, window, attend, seen, hist, fly, quota, body⟩ j) = hops at *
      generalize bFast (baseC ⟨n, f, dmin, dmax, rho, slew, round, window, attend, seen, hist, fly, quota, body⟩ j) = fast at *
      generalize bSlow (baseC ⟨n, f, dmin, dmax, rho, slew, round, window, attend, seen, hist, fly, quota, body⟩ j) = slow at *
      generalize bLink (baseC ⟨n, f, dmin, dmax, rho, slew, round, window, attend, seen, hist, fly, quota, body⟩ j) = link at *
      generalize bRead (baseC ⟨n, f, dmin, dmax, rho, slew, round, window, attend, seen, hist, fly, quota, body⟩ j) = read at *
      generalize bAgree (baseC ⟨n, f, dmin, dmax, rho, slew, round, window, attend, seen, hist, fly, quota, body⟩ j) = agree at *
      generalize bStart (baseC ⟨n, f, dmin, dmax, rho, slew, round, window, attend, seen, hist, fly, quota, body⟩ j) = start at *
      generalize bEps (baseC ⟨n, f, dmin, dmax, rho, slew, round, window, attend, seen, hist, fly, quota, body⟩ j) = eps at *
      generalize bMost (baseC ⟨n, f, dmin, dmax, rho, slew, round, window, attend, seen, hist, fly, quota, body⟩ j) = most at *
      generalize bCold (baseC ⟨n, f, dmin, dmax, rho, slew, round, window, attend, seen, hist, fly, quota, body⟩ j) = cold at *
      generalize bRough (baseC ⟨n, f, dmin, dmax, rho, slew, round, window, attend, seen, hist, fly, quota, body⟩ j) = rough at *
      generalize bDelta (baseC ⟨n, f, dmin, dmax, rho, slew, round, window, attend, seen, hist, fly, quota, body⟩ j) = delta at *
      generalize bDown (baseC ⟨n, f, dmin, dmax, rho, slew, round, window, attend, seen, hist, fly, quota, body⟩ j) = down at *
      generalize bJoin (baseC ⟨n, f, dmin, dmax, rho, slew, round, window, attend, seen, hist, fly, quota, body⟩ j) = join at *
      have HC2 := Lib.hid C2
      have HC3 := Lib.hid C3
      have HC4 := Lib.hid C4
      have HCE := Lib.hid hce
      have HGV := Lib.hid hgb
      have hD := hB.bx
      have d0 := hD.1 0 _ rfl
      have d1 := hD.1 1 _ rfl
      have d2 := hD.1 2 _ rfl
      have d3 := hD.1 3 _ rfl
      have d4 := hD.1 4 _ rfl
      have d5 := hD.1 5 _ rfl
      have d6 := hD.1 6 _ rfl
      have d7 := hD.1 7 _ rfl
      have d8 := hD.1 8 _ rfl
      have d9 := hD.1 9 _ rfl
      have d10 := hD.1 10 _ rfl
      have d11 := hD.1 11 _ rfl
      have d12 := hD.1 12 _ rfl
      have d13 := hD.1 13 _ rfl
      have d14 := hD.1 14 _ rfl
      have HC1 := Lib.hid (C1 hgb)
      obtain ⟨dl0, dl1⟩ := hdl hgb
      clear C1 C2 C3 C4 hdl hS hA hB hsug e0 hce hgb hr hq
      go_wp2_with fail
      refine (HC2.out _).mono ?_
      rintro e w4 ⟨rfl, hb4⟩
      clear d0 d1 d2 d3 d4 d5 d6 d7 d8 d9 d10 d11 d12 d13 d14 g7 t7 a7 a8 a9 s8 s9 hWa hW3 hD
      have hB4 := HB3.out.keep hb4
      have HB4 := Lib.hid hB4
      have hD := hB4.bx
      have d0 := hD.1 0 _ rfl; have d1 := hD.1 1 _ rfl; have d2 := hD.1 2 _ rfl; have d3 := hD.1 3 _ rfl; have d4 := hD.1 4 _ rfl; have d5 := hD.1 5 _ rfl; have d6 := hD.1 6 _ rfl; have d7 := hD.1 7 _ rfl; have d8 := hD.1 8 _ rfl; have d9 := hD.1 9 _ rfl; have d10 := hD.1 10 _ rfl; have d11 := hD.1 11 _ rfl; have d12 := hD.1 12 _ rfl; have d13 := hD.1 13 _ rfl; have d14 := hD.1 14 _ rfl
      clear hB4 hb4
      have hfd : ∀ w : World, (Instr.field 115 (.agg #[.int .i64 hops, .int .i64 fast, .int .i64 slow, .int .i64 link, .int .i64 read, .int .i64 agree, .int .i64 start, .int .i64 eps, .int .i64 most, .int .i64 cold, .int .i64 rough, .int .i64 delta, .int .i64 down, .int .i64 join]) 11).run Tryz.prog w = .ok (.int .i64 delta) w := fun _ => by kernel_rfl
      go_wp2_with fail
      refine (HC1.out _).mono ?_
      rintro e w5 ⟨rfl, hb5⟩
      have hB5 := HB4.out.keep hb5
      have g9 := hB5.bx.1 9 _ rfl
      have t9 := hB5.bx.2 9 (by simp)
      have hB6 := hB5.put 9 (by simp) (.int .i64 (2 * delta))
      simp only [List.set_cons_succ, List.set_cons_zero] at hB6
      obtain ⟨W6, hW6⟩ : ∃ W6, w5.setCell ⟨w.heap.size + 1 + 1, 9, none⟩ (.int .i64 (2 * delta)) = W6 := ⟨_, rfl⟩
      rw [hW6] at hB6
      have HB6 := Lib.hid hB6
      have zd : IntKind.i64.wrap (2 * delta) = 2 * delta := IntWalk.i64_in _ (by omega)
      clear d0 d1 d2 d3 d4 d5 d6 d7 d8 d9 d10 d11 d12 d13 d14 hD hb5 hB5
      have hD := hB6.bx
      have d0 := hD.1 0 _ rfl; have d1 := hD.1 1 _ rfl; have d2 := hD.1 2 _ rfl; have d3 := hD.1 3 _ rfl; have d4 := hD.1 4 _ rfl; have d5 := hD.1 5 _ rfl; have d6 := hD.1 6 _ rfl; have d7 := hD.1 7 _ rfl; have d8 := hD.1 8 _ rfl; have d9 := hD.1 9 _ rfl; have d10 := hD.1 10 _ rfl; have d11 := hD.1 11 _ rfl; have d12 := hD.1 12 _ rfl; have d13 := hD.1 13 _ rfl; have d14 := hD.1 14 _ rfl
      clear hB6
      go_wp2_with fail
      obtain ⟨EB, hEB⟩ : ∃ b, enoughB (stepC ⟨n, f, dmin, dmax, rho, slew, round, window, attend, seen, hist, fly, quota, body⟩ j) = b := ⟨_, rfl⟩
      refine (HC3.out _).mono ?_
      rintro e w7 ⟨rfl, hb7⟩
      clear d0 d1 d2 d3 d4 d5 d6 d7 d8 d9 d10 d11 d12 d13 d14 g9 t9 hW6 hD zd
      have hD7 := HB6.out.keep hb7
      have hst := HST.out j hlt
      rw [HSG.out] at hst
      rw [hEB] at hst ⊢
      have HD7 := Lib.hid hD7
      have HEB := Lib.hid hEB
      clear hb7 hEB
      cases EB
      · have HV : Hid (sugF ⟨n, f, dmin, dmax, rho, slew, round, window, attend, seen, hist, fly, quota, body⟩ (41 - (j + 1)) (j + 1) = sugC ⟨n, f, dmin, dmax, rho, slew, round, window, attend, seen, hist, fly, quota, body⟩) := hst.symm
        clear hD7 hst
        go_wp2
        go_roundw
        case rel => exact ⟨j + 1, r, q, 2 * delta, by omega, by omega, by go_num, HV.out, (fun i h1 h2 => by
            by_cases e : i = j
            · subst e; exact HEB.out
            · exact HALL.out i h1 (by omega)), HD7.out⟩
        case measure => simp [intOf]; omega
      · have HV : Hid (sugC ⟨n, f, dmin, dmax, rho, slew, round, window, attend, seen, hist, fly, quota, body⟩ = stepC ⟨n, f, dmin, dmax, rho, slew, round, window, attend, seen, hist, fly, quota, body⟩ j) := hst
        have hD := hD7.bx
        have hS7 := hD7.s
        clear hD7 hst
        have d0 := hD.1 0 _ rfl; have d1 := hD.1 1 _ rfl; have d2 := hD.1 2 _ rfl; have d3 := hD.1 3 _ rfl; have d4 := hD.1 4 _ rfl; have d5 := hD.1 5 _ rfl; have d6 := hD.1 6 _ rfl; have d7 := hD.1 7 _ rfl; have d8 := hD.1 8 _ rfl; have d9 := hD.1 9 _ rfl; have d10 := hD.1 10 _ rfl; have d11 := hD.1 11 _ rfl; have d12 := hD.1 12 _ rfl; have d13 := hD.1 13 _ rfl; have d14 := hD.1 14 _ rfl
        have zb := hS7.zb
        have zbel := hS7.bel
        have zs0 := zb.1 0 _ rfl
        have zf0 := zb.2 0 (by simp)
        have zs1 := zb.1 1 _ rfl
        have zf1 := zb.2 1 (by simp)
        have zs2 := zb.1 2 _ rfl
        have zf2 := zb.2 2 (by simp)
        have zs3 := zb.1 3 _ rfl
        have zf3 := zb.2 3 (by simp)
        have zs4 := zb.1 4 _ rfl
        have zf4 := zb.2 4 (by simp)
        have zs5 := zb.1 5 _ rfl
        have zf5 := zb.2 5 (by simp)
        have zs6 := zb.1 6 _ rfl
        have zf6 := zb.2 6 (by simp)
        have zs7 := zb.1 7 _ rfl
        have zf7 := zb.2 7 (by simp)
        have zs8 := zb.1 8 _ rfl
        have zf8 := zb.2 8 (by simp)
        have zs9 := zb.1 9 _ rfl
        have zf9 := zb.2 9 (by simp)
        have zs10 := zb.1 10 _ rfl
        have zf10 := zb.2 10 (by simp)
        have zs11 := zb.1 11 _ rfl
        have zf11 := zb.2 11 (by simp)
        have zs12 := zb.1 12 _ rfl
        have zf12 := zb.2 12 (by simp)
        have zs13 := zb.1 13 _ rfl
        have zf13 := zb.2 13 (by simp)
        have zs14 := zb.1 14 _ rfl
        have zf14 := zb.2 14 (by simp)
        have zp := storeN_box (w.heap.size + 1) [.int .i64 n, .slice A l k, .int .i64 f, .int .i64 dmin, .int .i64 dmax, .int .i64 rho, .int .i64 slew, .int .i64 r, .int .i64 q, .int .i64 (2 * delta), .int .i64 seen, .int .i64 hist, .int .i64 fly, .int .i64 quota, .int .i64 body] w7 [] [.int .i64 0, .slice none 0 0, .int .i64 0, .int .i64 0, .int .i64 0, .int .i64 0, .int .i64 0, .int .i64 0, .int .i64 0, .int .i64 0, .int .i64 0, .int .i64 0, .int .i64 0, .int .i64 0, .int .i64 0] rfl zb
        have zq := storeN_below (N := w.heap.size) (w.heap.size + 1) (by omega) [.int .i64 n, .slice A l k, .int .i64 f, .int .i64 dmin, .int .i64 dmax, .int .i64 rho, .int .i64 slew, .int .i64 r, .int .i64 q, .int .i64 (2 * delta), .int .i64 seen, .int .i64 hist, .int .i64 fly, .int .i64 quota, .int .i64 body] w w7 0 zbel
        obtain ⟨wf, hwf⟩ : ∃ wf, storeN (w.heap.size + 1) w7 [.int .i64 n, .slice A l k, .int .i64 f, .int .i64 dmin, .int .i64 dmax, .int .i64 rho, .int .i64 slew, .int .i64 r, .int .i64 q, .int .i64 (2 * delta), .int .i64 seen, .int .i64 hist, .int .i64 fly, .int .i64 quota, .int .i64 body] 0 = wf := ⟨_, rfl⟩
        rw [show ([] : List Value).length = 0 from rfl, List.nil_append, hwf] at zp
        rw [hwf] at zq
        simp only [storeN, Nat.reduceAdd] at hwf
        have ef0 := zp.1 0 _ rfl
        have ef1 := zp.1 1 _ rfl
        have ef2 := zp.1 2 _ rfl
        have ef3 := zp.1 3 _ rfl
        have ef4 := zp.1 4 _ rfl
        have ef5 := zp.1 5 _ rfl
        have ef6 := zp.1 6 _ rfl
        have ef7 := zp.1 7 _ rfl
        have ef8 := zp.1 8 _ rfl
        have ef9 := zp.1 9 _ rfl
        have ef10 := zp.1 10 _ rfl
        have ef11 := zp.1 11 _ rfl
        have ef12 := zp.1 12 _ rfl
        have ef13 := zp.1 13 _ rfl
        have ef14 := zp.1 14 _ rfl
        have HB := Lib.hid zq
        clear zb zp zq zbel hS7
        go_wp2
        refine bodyPost_ret (v := .tuple #[.agg #[.int .i64 n, .slice A l k, .int .i64 f, .int .i64 dmin, .int .i64 dmax, .int .i64 rho, .int .i64 slew, .int .i64 r, .int .i64 q, .int .i64 (2 * delta), .int .i64 seen, .int .i64 hist, .int .i64 fly, .int .i64 quota, .int .i64 body], .bool true]) (by simp [results, Tryz.results15, go_sem, hz, hsz, ef0, ef1, ef2, ef3, ef4, ef5, ef6, ef7, ef8, ef9, ef10, ef11, ef12, ef13, ef14]) rfl ?_
        exact ⟨⟨true, by rw [HV.out, HCE.out]⟩, HB.out⟩
    · obtain rfl : j = 41 := by omega
      exact absurd (fun i h1 h2 => HALL.out i h1 (by omega)) HSO.out
theorem refSuggest (c : Cn) (A : Option Addr) (l k : Nat) (w : World) : Calls Tryz.prog 15 #[.agg (c.cells A l k).toArray] w (SugPost c A l k w) := by
  cases h : goodC (baseC c 12)
  · exact refSuggest0 c h A l k w
  · by_cases hx : ∀ i, 12 ≤ i → i ≤ 40 → enoughB (stepC c i) = false
    · exact refSuggest1a c h hx A l k w
    · exact refSuggest1b c h hx A l k w
end Go.Proofs.YteahiphmhaedpaaGreatDoor
