/- Whether a script may be admissible without being run: the law's walk. -/
import Derived.Test.YtbgbehlmpheaeaaGreatDoorAsC
import Derived.Test.YtbgbehlmpheaeaaGreatDoorAsI
import Derived.Test.YtbgbehlmpheaeaaGreatDoorWoR
import Derived.Test.YtbgbehlmpheaeaaGreatDoorLnk
namespace Go.Proofs.YtbgbehlmpheaeaaGreatDoor
open Go.RowKit Law
set_option linter.unusedVariables false
set_option linter.unusedSimpArgs false
set_option maxRecDepth 100000
attribute [local go_sem] Oper.semAt_some

set_option maxHeartbeats 12800000 in
theorem walkStatic (c : Cn) {len : Nat} (A : Option Addr) (k : Nat) (L : List Pr) (hl : L.length = len) (hc : len ≤ k) (hm : k ≤ maxLen) (hnil : A = none → k = 0) (hfit : ∀ x ∈ L, PrF x) (hr1 : -9223372036854775808 ≤ c.rho) (hr2 : c.rho ≤ 9223372036854775807) (A2 : Option Addr) (len2 cap2 : Nat) (xs : List Aw) (hxl : xs.length = len2) (hlc2 : len2 ≤ cap2) (hcm2 : cap2 ≤ maxLen) (hin : ∀ x ∈ xs, x.In) (w : World) (hA : LinksAt w A L) (hA2 : ActsAt w A2 xs) (hT : T64 w) :
    Calls Tryz.prog 3 #[.agg (c.cells A len k).toArray, .slice A2 len2 cap2] w fun e w' => e = .returned (.bool true) ∧ Below w.heap.size w w' := by
  unfold maxLen at hm
  have HT := Lib.hid hT
  clear hT
  obtain ⟨n0, hn0⟩ : ∃ n0 : Nat, min (len : Int) 40 = (n0 : Int) ∧ n0 ≤ len ∧ n0 ≤ 40 ∧ (L.take 40).length = n0 := ⟨min len 40, by omega, by omega, by omega, by rw [List.length_take, hl]; omega⟩
  have hmin := hn0.1
  have hmax : max (n0 : Int) 0 = (n0 : Int) := by omega
  have HN := Lib.hid hn0
  have HFIT : Hid (∀ x ∈ L.take 40, PrF x) := fun x hx => hfit x (List.mem_of_mem_take hx)
  have HRHO := Lib.hid (And.intro hr1 hr2)
  clear hn0 hl hfit hr1 hr2
  obtain ⟨i0, hi, hz0, hz1, hz2⟩ := info_parts prInfo
  obtain ⟨n, f, dmin, dmax, rho, slew, round, window, attend, seen, hist, fly, quota, body⟩ := c
  simp only [Cn.cells] at ⊢
  have k0 := boxF_made w [.int .i64 n, .slice A len k, .int .i64 f, .int .i64 dmin, .int .i64 dmax, .int .i64 rho, .int .i64 slew, .int .i64 round, .int .i64 window, .int .i64 attend, .int .i64 seen, .int .i64 hist, .int .i64 fly, .int .i64 quota, .int .i64 body] 24
  have k1 := (Below.refl w.heap.size w).alloc (Nat.le_refl _) (.cells #[.int .i64 n, .slice A len k, .int .i64 f, .int .i64 dmin, .int .i64 dmax, .int .i64 rho, .int .i64 slew, .int .i64 round, .int .i64 window, .int .i64 attend, .int .i64 seen, .int .i64 hist, .int .i64 fly, .int .i64 quota, .int .i64 body] 24)
  obtain ⟨w1, hw1⟩ : ∃ w1, w.alloc (.cells #[.int .i64 n, .slice A len k, .int .i64 f, .int .i64 dmin, .int .i64 dmax, .int .i64 rho, .int .i64 slew, .int .i64 round, .int .i64 window, .int .i64 attend, .int .i64 seen, .int .i64 hist, .int .i64 fly, .int .i64 quota, .int .i64 body] 24) = w1 := ⟨_, rfl⟩
  have hs1 : w1.heap.size = w.heap.size + 1 := by rw [← hw1]; simp
  rw [hw1] at k0 k1
  have hlt1 : w.heap.size < w1.heap.size := by omega
  have h00 := World.ownsRow_made (base := w1.heap.size) (e := 82) (size := 2) w1 #[] 0 (Nat.le_refl _) (by simp [maxLen]) rfl
  have hb0 : Below w1.heap.size w1 (w1.alloc (.cells #[] 82)) := (Below.refl _ _).alloc (Nat.le_refl _) _
  have hA0 := (hA.take 40).below (k1.trans (hb0.mono k1.size))
  have q1 := ((k0.keep hb0).1 1 _ rfl)
  have HACT := Lib.hid hA2
  have HS := Lib.hid hs1
  clear hs1 hA2
  go_enter Tryz.func3, Tryz.ntmps3
  go_wp2_with (at_builtin; refine wpList_append_copy _ rfl _ _ 22 rfl w1.heap.size 82 i0 _ 2 16 Tryz.underlying22 hi hz0 hz1 hz2 rfl (by decide) _ _ _ rfl h00 A n0 k (flatP (L.take 40)) rfl ?c0 ?c1 ?c2 ?c3 ?c4 ?c5 ?c6 ?_)
  case c0 => intro hx; have := hnil hx; have := HN.out; omega
  case c1 => rw [flatP_len, HN.out.2.2.2]
  case c2 => exact hA0.flat
  case c3 => exact flatP_one
  case c4 => have := HN.out; unfold maxLen; omega
  case c5 => have := HN.out; omega
  intro v' w3 row hown hgrow hrow
  have hb3 : Below w1.heap.size w1 w3 := hb0.grown hgrow (by simp) hrow
  have hown : w3.ownsRow w1.heap.size 82 2 v' n0 (flatP (L.take 40)) := by simpa using hown
  obtain ⟨A1, c1, rfl, hc1⟩ := own_form2 hown
  have hLA := ownLinks hown
  have hAB0 : ∀ b off, A1 = some ⟨b, off, none⟩ → w.heap.size ≠ b := fun b off hA => by
    have := own_base hown b off hA
    omega
  have r0 := k0.keep hb3
  have hb03 := k1.trans (hb3.mono k1.size)
  have p0 := r0.put 1 (by simp) (.slice A1 n0 c1)
  have p2 := set_links hAB0 1 (.slice A1 n0 c1) hLA
  have p3 := hb03.setCell (p := ⟨w.heap.size, 1, none⟩) (Nat.le_refl _) (.slice A1 n0 c1)
  have g1 := r0.1 1 _ rfl
  have f1 := r0.2 1 (by simp)
  obtain ⟨w4, hw4⟩ : ∃ w4, w3.setCell ⟨w.heap.size, 1, none⟩ (.slice A1 n0 c1) = w4 := ⟨_, rfl⟩
  rw [hw4] at p0 p2 p3
  simp only [List.set_cons_succ, List.set_cons_zero] at p0
  by_cases h8 : 8 < n
  · by_cases h64 : n ≤ 64
    · obtain ⟨n2, hn2⟩ : ∃ n2, 2 + n % 7 = n2 := ⟨_, rfl⟩
      have hn3 : 2 ≤ n2 ∧ n2 ≤ 8 := by omega
      have hn4 : n.tmod 7 = n % 7 := Int.tmod_eq_emod_of_nonneg (by omega)
      have p0' := p0.1 0 _ rfl
      have f0' := p0.2 0 (by simp)
      have y0 := p0.put 0 (by simp) (.int .i64 n2)
      have y2 := set_links hAB0 0 (.int .i64 n2) p2
      have y3 := p3.setCell (p := ⟨w.heap.size, 0, none⟩) (Nat.le_refl _) (.int .i64 n2)
      obtain ⟨w5, hw5⟩ : ∃ w5, w4.setCell ⟨w.heap.size, 0, none⟩ (.int .i64 n2) = w5 := ⟨_, rfl⟩
      rw [hw5] at y0 y2 y3
      simp only [List.set_cons_zero] at y0
      have H9 : Hid (gErr n2 (L.take 40) = 0 → n2 < 9) := fun _ => by omega
      have HB15 := Lib.hid y3
      have HX5 := Lib.hid (And.intro y0 (And.intro y2 y3))
      clear y0 y2 y3 p0 p2 p3 hown hgrow hrow hA0 hA h00 hb0 hnil q1 k0 k1 hb3 hLA hAB0 r0 hb03
      obtain ⟨hx, hl, hb⟩ := HX5.out
      have d0_ := hx.1 0 _ rfl
      have d1_ := hx.1 1 _ rfl
      have d2_ := hx.1 2 _ rfl
      have d3_ := hx.1 3 _ rfl
      have d4_ := hx.1 4 _ rfl
      have d5_ := hx.1 5 _ rfl
      have d6_ := hx.1 6 _ rfl
      have d7_ := hx.1 7 _ rfl
      have d8_ := hx.1 8 _ rfl
      have d9_ := hx.1 9 _ rfl
      have d10_ := hx.1 10 _ rfl
      have d11_ := hx.1 11 _ rfl
      have d12_ := hx.1 12 _ rfl
      have d13_ := hx.1 13 _ rfl
      have d14_ := hx.1 14 _ rfl
      have CU := Lib.hid (cut49 A2 len2 cap2 xs hxl hlc2 hcm2 hin w5 (HACT.out.keep HB15.out))
      clear hx hl hb
      go_wp2_with fail
      clear d0_ d1_ d2_ d3_ d4_ d5_ d6_ d7_ d8_ d9_ d10_ d11_ d12_ d13_ d14_
      refine CU.out.mono ?_
      rintro e w6 ⟨v, ys, rfl, hy60, hown6, hb6, hys⟩
      obtain ⟨A6, c6, rfl, hc6⟩ := own_form2 hown6
      have hacts := acts_of_own hown6 (fun y hy => ⟨(hys y hy).1.1, (hys y hy).2⟩)
      have H6 := Lib.hid (And.intro (HX5.out.1.keep hb6) (And.intro (HX5.out.2.1.below hb6) (And.intro (HX5.out.2.2.trans (hb6.mono HX5.out.2.2.size)) (And.intro hacts (fun y hy => (hys y hy).1.1.len)))))
      clear hown6 hb6 hys hacts
      have CA : Hid (∀ X, Below w6.heap.size w6 X → Calls Tryz.prog 5 #[.agg #[.int .i64 n2, .slice A1 n0 c1, .int .i64 f, .int .i64 dmin, .int .i64 dmax, .int .i64 rho, .int .i64 slew, .int .i64 round, .int .i64 window, .int .i64 attend, .int .i64 seen, .int .i64 hist, .int .i64 fly, .int .i64 quota, .int .i64 body], .slice A6 ys.length c6] X (StatPost ⟨n2, f, dmin, dmax, rho, slew, round, window, attend, seen, hist, fly, quota, body⟩ (L.take 40) ys X)) := fun X hX => admStatic ⟨n2, f, dmin, dmax, rho, slew, round, window, attend, seen, hist, fly, quota, body⟩ A1 n0 c1 (L.take 40) HN.out.2.2.2 HFIT.out (by have := HN.out; omega) H9.out HRHO.out.1 HRHO.out.2 H6.out.2.2.2.2 rfl (by omega) X (H6.out.2.1.below hX) (H6.out.2.2.2.1.keep hX) ((HT.out.below H6.out.2.2.1).below hX)
      have CR : Hid (∀ X, Below w6.heap.size w6 X → Calls Tryz.prog 6 #[.agg #[.int .i64 n2, .slice A1 n0 c1, .int .i64 f, .int .i64 dmin, .int .i64 dmax, .int .i64 rho, .int .i64 slew, .int .i64 round, .int .i64 window, .int .i64 attend, .int .i64 seen, .int .i64 hist, .int .i64 fly, .int .i64 quota, .int .i64 body], .slice A6 ys.length c6] X (StatPost ⟨n2, f, dmin, dmax, rho, slew, round, window, attend, seen, hist, fly, quota, body⟩ (L.take 40) ys X)) := fun X hX => refStatic ⟨n2, f, dmin, dmax, rho, slew, round, window, attend, seen, hist, fly, quota, body⟩ A1 n0 c1 (L.take 40) HN.out.2.2.2 (by have := HN.out; omega) H9.out HRHO.out.1 HRHO.out.2 H6.out.2.2.2.2 rfl (by omega) X (H6.out.2.1.below hX) (H6.out.2.2.2.1.keep hX)
      have CW : Hid (∀ X, Below w6.heap.size w6 X → Calls Tryz.prog 7 #[] X fun e w' => e = .returned (.bool true) ∧ Below X.heap.size X w') := fun X hX => works51 X ((HT.out.below H6.out.2.2.1).below hX)
      have HKB : Hid (∀ X, Below w6.heap.size w6 X → BoxAt X w.heap.size [.int .i64 n2, .slice A1 n0 c1, .int .i64 f, .int .i64 dmin, .int .i64 dmax, .int .i64 rho, .int .i64 slew, .int .i64 round, .int .i64 window, .int .i64 attend, .int .i64 seen, .int .i64 hist, .int .i64 fly, .int .i64 quota, .int .i64 body] ∧ True) := fun X hX => ⟨(H6.out.1.keep hX).1, trivial⟩
      have HD : Hid (Below w6.heap.size w6 w6.drew) := (Below.refl _ _).drew
      have HBD := HD
      obtain ⟨sv, hsv⟩ : ∃ sv, statN ⟨n2, f, dmin, dmax, rho, slew, round, window, attend, seen, hist, fly, quota, body⟩ (L.take 40) ys = sv := ⟨_, rfl⟩
      unfold StatPost at CA CR
      rw [hsv] at CA CR
      go_wp2_with fail
      refine wp_region_plan [] [(true, 0), (true, 1), (true, 3), (true, 4), (false, 2), (false, 5), (true, 6), (true, 7), (false, 8), (true, 9), (true, 10)] 11 12 (fun X => Below w6.heap.size w6 X) (by kernel_rfl) (by kernel_rfl) (by intro c a t v w h; exact h) HD.out ?_
      simp only [pickB, pickL, List.drop_succ_cons, List.drop_zero, List.head?_cons, Option.toList_some, List.map_cons, List.map_nil, List.cons_append, List.nil_append]
      refine wpHead_nil ?_
      iterate 4 (refine wpPlan_rd _ (by rfl) (by intro W hW; have hk := HKB.out W hW; have d0_ := hk.1 0 _ rfl; have d1_ := hk.1 1 _ rfl; have d2_ := hk.1 2 _ rfl; have d3_ := hk.1 3 _ rfl; have d4_ := hk.1 4 _ rfl; have d5_ := hk.1 5 _ rfl; have d6_ := hk.1 6 _ rfl; have d7_ := hk.1 7 _ rfl; have d8_ := hk.1 8 _ rfl; have d9_ := hk.1 9 _ rfl; have d10_ := hk.1 10 _ rfl; have d11_ := hk.1 11 _ rfl; have d12_ := hk.1 12 _ rfl; have d13_ := hk.1 13 _ rfl; have d14_ := hk.1 14 _ rfl; clear hk hW; go_simp; with_reducible rfl) ?_; simp only [Act.put, List.setIfInBounds_toArray, List.set_cons_zero, List.set_cons_succ])
      refine wpPlan_do (by rfl) ?_
      go_simp
      go_at_call 5
      refine (CA.out _ HBD.out).mono ?_
      rintro e w7 ⟨rfl, hb7⟩
      have Hw7 : Hid (Below w6.heap.size w6 w7) := HBD.out.trans (hb7.mono HBD.out.size)
      clear hb7
      refine ⟨Hw7.out, ?_⟩
      refine wpPlan_do (by rfl) ?_
      go_simp
      go_at_call 6
      refine (CR.out _ Hw7.out).mono ?_
      rintro e w8 ⟨rfl, hb7⟩
      have Hw8 : Hid (Below w6.heap.size w6 w8) := Hw7.out.trans (hb7.mono Hw7.out.size)
      clear hb7
      refine ⟨Hw8.out, ?_⟩
      iterate 2 (refine wpPlan_rd _ (by rfl) (by intro W hW; have hk := HKB.out W hW; have d0_ := hk.1 0 _ rfl; have d1_ := hk.1 1 _ rfl; have d2_ := hk.1 2 _ rfl; have d3_ := hk.1 3 _ rfl; have d4_ := hk.1 4 _ rfl; have d5_ := hk.1 5 _ rfl; have d6_ := hk.1 6 _ rfl; have d7_ := hk.1 7 _ rfl; have d8_ := hk.1 8 _ rfl; have d9_ := hk.1 9 _ rfl; have d10_ := hk.1 10 _ rfl; have d11_ := hk.1 11 _ rfl; have d12_ := hk.1 12 _ rfl; have d13_ := hk.1 13 _ rfl; have d14_ := hk.1 14 _ rfl; clear hk hW; go_simp; with_reducible rfl) ?_; simp only [Act.put, List.setIfInBounds_toArray, List.set_cons_zero, List.set_cons_succ])
      refine wpPlan_do (by rfl) ?_
      go_simp
      go_at_call 7
      refine (CW.out _ Hw8.out).mono ?_
      rintro e w9 ⟨rfl, hb7⟩
      have Hw9 : Hid (Below w6.heap.size w6 w9) := Hw8.out.trans (hb7.mono Hw8.out.size)
      clear hb7
      refine ⟨Hw9.out, ?_⟩
      iterate 2 (refine wpPlan_rd _ (by rfl) (by intro W hW; have hk := HKB.out W hW; have d0_ := hk.1 0 _ rfl; have d1_ := hk.1 1 _ rfl; have d2_ := hk.1 2 _ rfl; have d3_ := hk.1 3 _ rfl; have d4_ := hk.1 4 _ rfl; have d5_ := hk.1 5 _ rfl; have d6_ := hk.1 6 _ rfl; have d7_ := hk.1 7 _ rfl; have d8_ := hk.1 8 _ rfl; have d9_ := hk.1 9 _ rfl; have d10_ := hk.1 10 _ rfl; have d11_ := hk.1 11 _ rfl; have d12_ := hk.1 12 _ rfl; have d13_ := hk.1 13 _ rfl; have d14_ := hk.1 14 _ rfl; clear hk hW; go_simp; with_reducible rfl) ?_; simp only [Act.put, List.setIfInBounds_toArray, List.set_cons_zero, List.set_cons_succ])
      refine wpPlan_nil ?_
      have HF := Lib.hid (H6.out.2.2.1.trans (Hw9.out.mono H6.out.2.2.1.size))
      go_wp2
      go_ret
      exact ⟨rfl, HF.out⟩
    · have h64b : 64 < n := by omega
      have p0' := p0.1 0 _ rfl
      have H9 : Hid (gErr n (L.take 40) = 0 → n < 9) := fun h => by have := (gErr_zero h).2.1; omega
      have HB15 := Lib.hid p3
      obtain ⟨w5, hw5⟩ : ∃ w5, w5 = w4 := ⟨_, rfl⟩
      subst hw5
      have HX5 := Lib.hid (And.intro p0 (And.intro p2 p3))
      clear p0 p2 p3 hown hgrow hrow hA0 hA h00 hb0 hnil q1 k0 k1 hb3 hLA hAB0 r0 hb03
      obtain ⟨hx, hl, hb⟩ := HX5.out
      have d0_ := hx.1 0 _ rfl
      have d1_ := hx.1 1 _ rfl
      have d2_ := hx.1 2 _ rfl
      have d3_ := hx.1 3 _ rfl
      have d4_ := hx.1 4 _ rfl
      have d5_ := hx.1 5 _ rfl
      have d6_ := hx.1 6 _ rfl
      have d7_ := hx.1 7 _ rfl
      have d8_ := hx.1 8 _ rfl
      have d9_ := hx.1 9 _ rfl
      have d10_ := hx.1 10 _ rfl
      have d11_ := hx.1 11 _ rfl
      have d12_ := hx.1 12 _ rfl
      have d13_ := hx.1 13 _ rfl
      have d14_ := hx.1 14 _ rfl
      have CU := Lib.hid (cut49 A2 len2 cap2 xs hxl hlc2 hcm2 hin w5 (HACT.out.keep HB15.out))
      clear hx hl hb
      go_wp2_with fail
      clear d0_ d1_ d2_ d3_ d4_ d5_ d6_ d7_ d8_ d9_ d10_ d11_ d12_ d13_ d14_
      refine CU.out.mono ?_
      rintro e w6 ⟨v, ys, rfl, hy60, hown6, hb6, hys⟩
      obtain ⟨A6, c6, rfl, hc6⟩ := own_form2 hown6
      have hacts := acts_of_own hown6 (fun y hy => ⟨(hys y hy).1.1, (hys y hy).2⟩)
      have H6 := Lib.hid (And.intro (HX5.out.1.keep hb6) (And.intro (HX5.out.2.1.below hb6) (And.intro (HX5.out.2.2.trans (hb6.mono HX5.out.2.2.size)) (And.intro hacts (fun y hy => (hys y hy).1.1.len)))))
      clear hown6 hb6 hys hacts
      have CA : Hid (∀ X, Below w6.heap.size w6 X → Calls Tryz.prog 5 #[.agg #[.int .i64 n, .slice A1 n0 c1, .int .i64 f, .int .i64 dmin, .int .i64 dmax, .int .i64 rho, .int .i64 slew, .int .i64 round, .int .i64 window, .int .i64 attend, .int .i64 seen, .int .i64 hist, .int .i64 fly, .int .i64 quota, .int .i64 body], .slice A6 ys.length c6] X (StatPost ⟨n, f, dmin, dmax, rho, slew, round, window, attend, seen, hist, fly, quota, body⟩ (L.take 40) ys X)) := fun X hX => admStatic ⟨n, f, dmin, dmax, rho, slew, round, window, attend, seen, hist, fly, quota, body⟩ A1 n0 c1 (L.take 40) HN.out.2.2.2 HFIT.out (by have := HN.out; omega) H9.out HRHO.out.1 HRHO.out.2 H6.out.2.2.2.2 rfl (by omega) X (H6.out.2.1.below hX) (H6.out.2.2.2.1.keep hX) ((HT.out.below H6.out.2.2.1).below hX)
      have CR : Hid (∀ X, Below w6.heap.size w6 X → Calls Tryz.prog 6 #[.agg #[.int .i64 n, .slice A1 n0 c1, .int .i64 f, .int .i64 dmin, .int .i64 dmax, .int .i64 rho, .int .i64 slew, .int .i64 round, .int .i64 window, .int .i64 attend, .int .i64 seen, .int .i64 hist, .int .i64 fly, .int .i64 quota, .int .i64 body], .slice A6 ys.length c6] X (StatPost ⟨n, f, dmin, dmax, rho, slew, round, window, attend, seen, hist, fly, quota, body⟩ (L.take 40) ys X)) := fun X hX => refStatic ⟨n, f, dmin, dmax, rho, slew, round, window, attend, seen, hist, fly, quota, body⟩ A1 n0 c1 (L.take 40) HN.out.2.2.2 (by have := HN.out; omega) H9.out HRHO.out.1 HRHO.out.2 H6.out.2.2.2.2 rfl (by omega) X (H6.out.2.1.below hX) (H6.out.2.2.2.1.keep hX)
      have CW : Hid (∀ X, Below w6.heap.size w6 X → Calls Tryz.prog 7 #[] X fun e w' => e = .returned (.bool true) ∧ Below X.heap.size X w') := fun X hX => works51 X ((HT.out.below H6.out.2.2.1).below hX)
      have HKB : Hid (∀ X, Below w6.heap.size w6 X → BoxAt X w.heap.size [.int .i64 n, .slice A1 n0 c1, .int .i64 f, .int .i64 dmin, .int .i64 dmax, .int .i64 rho, .int .i64 slew, .int .i64 round, .int .i64 window, .int .i64 attend, .int .i64 seen, .int .i64 hist, .int .i64 fly, .int .i64 quota, .int .i64 body] ∧ True) := fun X hX => ⟨(H6.out.1.keep hX).1, trivial⟩
      have HD : Hid (Below w6.heap.size w6 w6.drew) := (Below.refl _ _).drew
      have HBD := HD
      obtain ⟨sv, hsv⟩ : ∃ sv, statN ⟨n, f, dmin, dmax, rho, slew, round, window, attend, seen, hist, fly, quota, body⟩ (L.take 40) ys = sv := ⟨_, rfl⟩
      unfold StatPost at CA CR
      rw [hsv] at CA CR
      go_wp2_with fail
      refine wp_region_plan [] [(true, 0), (true, 1), (true, 3), (true, 4), (false, 2), (false, 5), (true, 6), (true, 7), (false, 8), (true, 9), (true, 10)] 11 12 (fun X => Below w6.heap.size w6 X) (by kernel_rfl) (by kernel_rfl) (by intro c a t v w h; exact h) HD.out ?_
      simp only [pickB, pickL, List.drop_succ_cons, List.drop_zero, List.head?_cons, Option.toList_some, List.map_cons, List.map_nil, List.cons_append, List.nil_append]
      refine wpHead_nil ?_
      iterate 4 (refine wpPlan_rd _ (by rfl) (by intro W hW; have hk := HKB.out W hW; have d0_ := hk.1 0 _ rfl; have d1_ := hk.1 1 _ rfl; have d2_ := hk.1 2 _ rfl; have d3_ := hk.1 3 _ rfl; have d4_ := hk.1 4 _ rfl; have d5_ := hk.1 5 _ rfl; have d6_ := hk.1 6 _ rfl; have d7_ := hk.1 7 _ rfl; have d8_ := hk.1 8 _ rfl; have d9_ := hk.1 9 _ rfl; have d10_ := hk.1 10 _ rfl; have d11_ := hk.1 11 _ rfl; have d12_ := hk.1 12 _ rfl; have d13_ := hk.1 13 _ rfl; have d14_ := hk.1 14 _ rfl; clear hk hW; go_simp; with_reducible rfl) ?_; simp only [Act.put, List.setIfInBounds_toArray, List.set_cons_zero, List.set_cons_succ])
      refine wpPlan_do (by rfl) ?_
      go_simp
      go_at_call 5
      refine (CA.out _ HBD.out).mono ?_
      rintro e w7 ⟨rfl, hb7⟩
      have Hw7 : Hid (Below w6.heap.size w6 w7) := HBD.out.trans (hb7.mono HBD.out.size)
      clear hb7
      refine ⟨Hw7.out, ?_⟩
      refine wpPlan_do (by rfl) ?_
      go_simp
      go_at_call 6
      refine (CR.out _ Hw7.out).mono ?_
      rintro e w8 ⟨rfl, hb7⟩
      have Hw8 : Hid (Below w6.heap.size w6 w8) := Hw7.out.trans (hb7.mono Hw7.out.size)
      clear hb7
      refine ⟨Hw8.out, ?_⟩
      iterate 2 (refine wpPlan_rd _ (by rfl) (by intro W hW; have hk := HKB.out W hW; have d0_ := hk.1 0 _ rfl; have d1_ := hk.1 1 _ rfl; have d2_ := hk.1 2 _ rfl; have d3_ := hk.1 3 _ rfl; have d4_ := hk.1 4 _ rfl; have d5_ := hk.1 5 _ rfl; have d6_ := hk.1 6 _ rfl; have d7_ := hk.1 7 _ rfl; have d8_ := hk.1 8 _ rfl; have d9_ := hk.1 9 _ rfl; have d10_ := hk.1 10 _ rfl; have d11_ := hk.1 11 _ rfl; have d12_ := hk.1 12 _ rfl; have d13_ := hk.1 13 _ rfl; have d14_ := hk.1 14 _ rfl; clear hk hW; go_simp; with_reducible rfl) ?_; simp only [Act.put, List.setIfInBounds_toArray, List.set_cons_zero, List.set_cons_succ])
      refine wpPlan_do (by rfl) ?_
      go_simp
      go_at_call 7
      refine (CW.out _ Hw8.out).mono ?_
      rintro e w9 ⟨rfl, hb7⟩
      have Hw9 : Hid (Below w6.heap.size w6 w9) := Hw8.out.trans (hb7.mono Hw8.out.size)
      clear hb7
      refine ⟨Hw9.out, ?_⟩
      iterate 2 (refine wpPlan_rd _ (by rfl) (by intro W hW; have hk := HKB.out W hW; have d0_ := hk.1 0 _ rfl; have d1_ := hk.1 1 _ rfl; have d2_ := hk.1 2 _ rfl; have d3_ := hk.1 3 _ rfl; have d4_ := hk.1 4 _ rfl; have d5_ := hk.1 5 _ rfl; have d6_ := hk.1 6 _ rfl; have d7_ := hk.1 7 _ rfl; have d8_ := hk.1 8 _ rfl; have d9_ := hk.1 9 _ rfl; have d10_ := hk.1 10 _ rfl; have d11_ := hk.1 11 _ rfl; have d12_ := hk.1 12 _ rfl; have d13_ := hk.1 13 _ rfl; have d14_ := hk.1 14 _ rfl; clear hk hW; go_simp; with_reducible rfl) ?_; simp only [Act.put, List.setIfInBounds_toArray, List.set_cons_zero, List.set_cons_succ])
      refine wpPlan_nil ?_
      have HF := Lib.hid (H6.out.2.2.1.trans (Hw9.out.mono H6.out.2.2.1.size))
      go_wp2
      go_ret
      exact ⟨rfl, HF.out⟩
  · have h8b : n ≤ 8 := by omega
    have p0' := p0.1 0 _ rfl
    have H9 : Hid (gErr n (L.take 40) = 0 → n < 9) := fun h => by omega
    have HB15 := Lib.hid p3
    obtain ⟨w5, hw5⟩ : ∃ w5, w5 = w4 := ⟨_, rfl⟩
    subst hw5
    have HX5 := Lib.hid (And.intro p0 (And.intro p2 p3))
    clear p0 p2 p3 hown hgrow hrow hA0 hA h00 hb0 hnil q1 k0 k1 hb3 hLA hAB0 r0 hb03
    obtain ⟨hx, hl, hb⟩ := HX5.out
    have d0_ := hx.1 0 _ rfl
    have d1_ := hx.1 1 _ rfl
    have d2_ := hx.1 2 _ rfl
    have d3_ := hx.1 3 _ rfl
    have d4_ := hx.1 4 _ rfl
    have d5_ := hx.1 5 _ rfl
    have d6_ := hx.1 6 _ rfl
    have d7_ := hx.1 7 _ rfl
    have d8_ := hx.1 8 _ rfl
    have d9_ := hx.1 9 _ rfl
    have d10_ := hx.1 10 _ rfl
    have d11_ := hx.1 11 _ rfl
    have d12_ := hx.1 12 _ rfl
    have d13_ := hx.1 13 _ rfl
    have d14_ := hx.1 14 _ rfl
    have CU := Lib.hid (cut49 A2 len2 cap2 xs hxl hlc2 hcm2 hin w5 (HACT.out.keep HB15.out))
    clear hx hl hb
    go_wp2_with fail
    clear d0_ d1_ d2_ d3_ d4_ d5_ d6_ d7_ d8_ d9_ d10_ d11_ d12_ d13_ d14_
    refine CU.out.mono ?_
    rintro e w6 ⟨v, ys, rfl, hy60, hown6, hb6, hys⟩
    obtain ⟨A6, c6, rfl, hc6⟩ := own_form2 hown6
    have hacts := acts_of_own hown6 (fun y hy => ⟨(hys y hy).1.1, (hys y hy).2⟩)
    have H6 := Lib.hid (And.intro (HX5.out.1.keep hb6) (And.intro (HX5.out.2.1.below hb6) (And.intro (HX5.out.2.2.trans (hb6.mono HX5.out.2.2.size)) (And.intro hacts (fun y hy => (hys y hy).1.1.len)))))
    clear hown6 hb6 hys hacts
    have CA : Hid (∀ X, Below w6.heap.size w6 X → Calls Tryz.prog 5 #[.agg #[.int .i64 n, .slice A1 n0 c1, .int .i64 f, .int .i64 dmin, .int .i64 dmax, .int .i64 rho, .int .i64 slew, .int .i64 round, .int .i64 window, .int .i64 attend, .int .i64 seen, .int .i64 hist, .int .i64 fly, .int .i64 quota, .int .i64 body], .slice A6 ys.length c6] X (StatPost ⟨n, f, dmin, dmax, rho, slew, round, window, attend, seen, hist, fly, quota, body⟩ (L.take 40) ys X)) := fun X hX => admStatic ⟨n, f, dmin, dmax, rho, slew, round, window, attend, seen, hist, fly, quota, body⟩ A1 n0 c1 (L.take 40) HN.out.2.2.2 HFIT.out (by have := HN.out; omega) H9.out HRHO.out.1 HRHO.out.2 H6.out.2.2.2.2 rfl (by omega) X (H6.out.2.1.below hX) (H6.out.2.2.2.1.keep hX) ((HT.out.below H6.out.2.2.1).below hX)
    have CR : Hid (∀ X, Below w6.heap.size w6 X → Calls Tryz.prog 6 #[.agg #[.int .i64 n, .slice A1 n0 c1, .int .i64 f, .int .i64 dmin, .int .i64 dmax, .int .i64 rho, .int .i64 slew, .int .i64 round, .int .i64 window, .int .i64 attend, .int .i64 seen, .int .i64 hist, .int .i64 fly, .int .i64 quota, .int .i64 body], .slice A6 ys.length c6] X (StatPost ⟨n, f, dmin, dmax, rho, slew, round, window, attend, seen, hist, fly, quota, body⟩ (L.take 40) ys X)) := fun X hX => refStatic ⟨n, f, dmin, dmax, rho, slew, round, window, attend, seen, hist, fly, quota, body⟩ A1 n0 c1 (L.take 40) HN.out.2.2.2 (by have := HN.out; omega) H9.out HRHO.out.1 HRHO.out.2 H6.out.2.2.2.2 rfl (by omega) X (H6.out.2.1.below hX) (H6.out.2.2.2.1.keep hX)
    have CW : Hid (∀ X, Below w6.heap.size w6 X → Calls Tryz.prog 7 #[] X fun e w' => e = .returned (.bool true) ∧ Below X.heap.size X w') := fun X hX => works51 X ((HT.out.below H6.out.2.2.1).below hX)
    have HKB : Hid (∀ X, Below w6.heap.size w6 X → BoxAt X w.heap.size [.int .i64 n, .slice A1 n0 c1, .int .i64 f, .int .i64 dmin, .int .i64 dmax, .int .i64 rho, .int .i64 slew, .int .i64 round, .int .i64 window, .int .i64 attend, .int .i64 seen, .int .i64 hist, .int .i64 fly, .int .i64 quota, .int .i64 body] ∧ True) := fun X hX => ⟨(H6.out.1.keep hX).1, trivial⟩
    have HD : Hid (Below w6.heap.size w6 w6.drew) := (Below.refl _ _).drew
    have HBD := HD
    obtain ⟨sv, hsv⟩ : ∃ sv, statN ⟨n, f, dmin, dmax, rho, slew, round, window, attend, seen, hist, fly, quota, body⟩ (L.take 40) ys = sv := ⟨_, rfl⟩
    unfold StatPost at CA CR
    rw [hsv] at CA CR
    go_wp2_with fail
    refine wp_region_plan [] [(true, 0), (true, 1), (true, 3), (true, 4), (false, 2), (false, 5), (true, 6), (true, 7), (false, 8), (true, 9), (true, 10)] 11 12 (fun X => Below w6.heap.size w6 X) (by kernel_rfl) (by kernel_rfl) (by intro c a t v w h; exact h) HD.out ?_
    simp only [pickB, pickL, List.drop_succ_cons, List.drop_zero, List.head?_cons, Option.toList_some, List.map_cons, List.map_nil, List.cons_append, List.nil_append]
    refine wpHead_nil ?_
    iterate 4 (refine wpPlan_rd _ (by rfl) (by intro W hW; have hk := HKB.out W hW; have d0_ := hk.1 0 _ rfl; have d1_ := hk.1 1 _ rfl; have d2_ := hk.1 2 _ rfl; have d3_ := hk.1 3 _ rfl; have d4_ := hk.1 4 _ rfl; have d5_ := hk.1 5 _ rfl; have d6_ := hk.1 6 _ rfl; have d7_ := hk.1 7 _ rfl; have d8_ := hk.1 8 _ rfl; have d9_ := hk.1 9 _ rfl; have d10_ := hk.1 10 _ rfl; have d11_ := hk.1 11 _ rfl; have d12_ := hk.1 12 _ rfl; have d13_ := hk.1 13 _ rfl; have d14_ := hk.1 14 _ rfl; clear hk hW; go_simp; with_reducible rfl) ?_; simp only [Act.put, List.setIfInBounds_toArray, List.set_cons_zero, List.set_cons_succ])
    refine wpPlan_do (by rfl) ?_
    go_simp
    go_at_call 5
    refine (CA.out _ HBD.out).mono ?_
    rintro e w7 ⟨rfl, hb7⟩
    have Hw7 : Hid (Below w6.heap.size w6 w7) := HBD.out.trans (hb7.mono HBD.out.size)
    clear hb7
    refine ⟨Hw7.out, ?_⟩
    refine wpPlan_do (by rfl) ?_
    go_simp
    go_at_call 6
    refine (CR.out _ Hw7.out).mono ?_
    rintro e w8 ⟨rfl, hb7⟩
    have Hw8 : Hid (Below w6.heap.size w6 w8) := Hw7.out.trans (hb7.mono Hw7.out.size)
    clear hb7
    refine ⟨Hw8.out, ?_⟩
    iterate 2 (refine wpPlan_rd _ (by rfl) (by intro W hW; have hk := HKB.out W hW; have d0_ := hk.1 0 _ rfl; have d1_ := hk.1 1 _ rfl; have d2_ := hk.1 2 _ rfl; have d3_ := hk.1 3 _ rfl; have d4_ := hk.1 4 _ rfl; have d5_ := hk.1 5 _ rfl; have d6_ := hk.1 6 _ rfl; have d7_ := hk.1 7 _ rfl; have d8_ := hk.1 8 _ rfl; have d9_ := hk.1 9 _ rfl; have d10_ := hk.1 10 _ rfl; have d11_ := hk.1 11 _ rfl; have d12_ := hk.1 12 _ rfl; have d13_ := hk.1 13 _ rfl; have d14_ := hk.1 14 _ rfl; clear hk hW; go_simp; with_reducible rfl) ?_; simp only [Act.put, List.setIfInBounds_toArray, List.set_cons_zero, List.set_cons_succ])
    refine wpPlan_do (by rfl) ?_
    go_simp
    go_at_call 7
    refine (CW.out _ Hw8.out).mono ?_
    rintro e w9 ⟨rfl, hb7⟩
    have Hw9 : Hid (Below w6.heap.size w6 w9) := Hw8.out.trans (hb7.mono Hw8.out.size)
    clear hb7
    refine ⟨Hw9.out, ?_⟩
    iterate 2 (refine wpPlan_rd _ (by rfl) (by intro W hW; have hk := HKB.out W hW; have d0_ := hk.1 0 _ rfl; have d1_ := hk.1 1 _ rfl; have d2_ := hk.1 2 _ rfl; have d3_ := hk.1 3 _ rfl; have d4_ := hk.1 4 _ rfl; have d5_ := hk.1 5 _ rfl; have d6_ := hk.1 6 _ rfl; have d7_ := hk.1 7 _ rfl; have d8_ := hk.1 8 _ rfl; have d9_ := hk.1 9 _ rfl; have d10_ := hk.1 10 _ rfl; have d11_ := hk.1 11 _ rfl; have d12_ := hk.1 12 _ rfl; have d13_ := hk.1 13 _ rfl; have d14_ := hk.1 14 _ rfl; clear hk hW; go_simp; with_reducible rfl) ?_; simp only [Act.put, List.setIfInBounds_toArray, List.set_cons_zero, List.set_cons_succ])
    refine wpPlan_nil ?_
    have HF := Lib.hid (H6.out.2.2.1.trans (Hw9.out.mono H6.out.2.2.1.size))
    go_wp2
    go_ret
    exact ⟨rfl, HF.out⟩
end Go.Proofs.YtbgbehlmpheaeaaGreatDoor
