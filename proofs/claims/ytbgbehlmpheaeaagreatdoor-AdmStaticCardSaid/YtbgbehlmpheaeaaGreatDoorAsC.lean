/- The reference: what is wrong with a script that is not run. -/
import Derived.Test.YtbgbehlmpheaeaaGreatDoorAsB
import Derived.Test.YtbgbehlmpheaeaaGreatDoorRhC
namespace Go.Proofs.YtbgbehlmpheaeaaGreatDoor
open Go.RowKit Law
set_option linter.unusedVariables false
set_option linter.unusedSimpArgs false
set_option maxRecDepth 100000

set_option maxHeartbeats 25600000 in
theorem refStatic (c : Cn) (A1 : Option Addr) (l k0 : Nat) (L : List Pr) (hl : L.length = l) (hm : l ≤ 4000000000) (h9 : gErr c.n L = 0 → c.n < 9) (hr1 : -9223372036854775808 ≤ c.rho) (hr2 : c.rho ≤ 9223372036854775807) {A : Option Addr} {xs : List Aw} {n cp : Nat} (hok : ∀ x ∈ xs, x.a.b.length = x.n) (hn : xs.length = n) (hm2N : n ≤ 1000000) (w : World) (hL : LinksAt w A1 L) (hA : ActsAt w A xs) :
    Calls Tryz.prog 6 #[.agg (c.cells A1 l k0).toArray, .slice A n cp] w (StatPost c L xs w) := by
  have HRF := Lib.hid (fun (W : World) (hA : LinksAt W A1 L) => rFault c A1 l k0 L hl hm h9 W hA)
  have HP : Hid (∀ v w', v = (statN c L xs : Int) → Below w.heap.size w w' → StatPost c L xs w (.returned (.int .i64 v)) w') := fun v w' h1 h2 => ⟨by rw [h1], h2⟩
  have hm2 : (n : Int) ≤ 1000000 := by omega
  obtain ⟨FN, hFN⟩ : ∃ FN, faultN c L = FN := ⟨_, rfl⟩
  rw [hFN] at HRF
  have HFN := Lib.hid hFN
  have HR := Lib.hid (And.intro hok (And.intro hn (And.intro hr1 hr2)))
  obtain ⟨n0, f, dmin, dmax, rho, slew, round, window, attend, seen, hist, fly, quota, body⟩ := c
  simp only [Cn.cells] at HRF ⊢
  have k1 := boxF_made w [.int .i64 n0, .slice A1 l k0, .int .i64 f, .int .i64 dmin, .int .i64 dmax, .int .i64 rho, .int .i64 slew, .int .i64 round, .int .i64 window, .int .i64 attend, .int .i64 seen, .int .i64 hist, .int .i64 fly, .int .i64 quota, .int .i64 body] 24
  have b1 := (Below.refl w.heap.size w).alloc (Nat.le_refl _) (.cells #[.int .i64 n0, .slice A1 l k0, .int .i64 f, .int .i64 dmin, .int .i64 dmax, .int .i64 rho, .int .i64 slew, .int .i64 round, .int .i64 window, .int .i64 attend, .int .i64 seen, .int .i64 hist, .int .i64 fly, .int .i64 quota, .int .i64 body] 24)
  obtain ⟨w1, hw1⟩ : ∃ w1, w.alloc (.cells #[.int .i64 n0, .slice A1 l k0, .int .i64 f, .int .i64 dmin, .int .i64 dmax, .int .i64 rho, .int .i64 slew, .int .i64 round, .int .i64 window, .int .i64 attend, .int .i64 seen, .int .i64 hist, .int .i64 fly, .int .i64 quota, .int .i64 body] 24) = w1 := ⟨_, rfl⟩
  rw [hw1] at k1 b1
  have d0_ := k1.1 0 _ rfl
  have d1_ := k1.1 1 _ rfl
  have d2_ := k1.1 2 _ rfl
  have d3_ := k1.1 3 _ rfl
  have d4_ := k1.1 4 _ rfl
  have d5_ := k1.1 5 _ rfl
  have d6_ := k1.1 6 _ rfl
  have d7_ := k1.1 7 _ rfl
  have d8_ := k1.1 8 _ rfl
  have d9_ := k1.1 9 _ rfl
  have d10_ := k1.1 10 _ rfl
  have d11_ := k1.1 11 _ rfl
  have d12_ := k1.1 12 _ rfl
  have d13_ := k1.1 13 _ rfl
  have d14_ := k1.1 14 _ rfl
  have H1 := Lib.hid (And.intro k1 (And.intro b1 (And.intro (hL.below b1) (hA.keep b1))))
  clear k1 b1 hL hA hok hn hr1 hr2 hl hm h9 hFN
  go_enter Tryz.func6, Tryz.ntmps6
  go_wp2_with fail
  clear hw1 d0_ d1_ d2_ d3_ d4_ d5_ d6_ d7_ d8_ d9_ d10_ d11_ d12_ d13_ d14_
  refine (HRF.out w1 H1.out.2.2.1).mono ?_
  rintro e w2 ⟨rfl, hb2⟩
  have H2 := Lib.hid (And.intro (H1.out.1.keep hb2) (And.intro (H1.out.2.1.trans (hb2.mono H1.out.2.1.size)) (H1.out.2.2.2.keep hb2)))
  clear hb2
  by_cases h0 : FN = 0
  · subst h0
    go_wp2
    go_loopw [5] (fun i wr => ∃ j : Nat, j ≤ n ∧ i = .int .i64 (j : Int) ∧ (∀ q x, q < j → xs[q]? = some x → badB n0 x.a = false) ∧ Below w2.heap.size w2 wr) (fun i _ => n - (intOf i).toNat)
    case atStart => exact ⟨0, Nat.zero_le _, rfl, fun q x h => absurd h (Nat.not_lt_zero _), Below.refl _ _⟩
    case round =>
      obtain ⟨j, hj, rfl, hno, hB⟩ := hrel
      by_cases hlt : j < n
      · have hltI : (j : Int) < (n : Int) := by omega
        have hjl : j < xs.length := by rw [HR.out.2.1]; exact hlt
        obtain ⟨x, hx⟩ : ∃ x, xs[j]? = some x := ⟨_, List.getElem?_eq_getElem hjl⟩
        have hmem : x ∈ xs := List.mem_of_getElem? hx
        obtain ⟨blk, off, hAe, hcell, hU⟩ := (H2.out.2.2.keep hB) j x hx
        have hlen := HR.out.1 x hmem
        have c0 := (H2.out.1.keep hB).1 0 _ rfl
        have c5 := (H2.out.1.keep hB).1 5 _ rfl
        have HX := Lib.hid (And.intro hx (And.intro hno (And.intro hB (And.intro hU (And.intro hlen hmem)))))
        subst hAe
        obtain ⟨⟨k, node, m, ⟨fk, fd, fa, fp, fb⟩, bb⟩, A2, n2, c2⟩ := x
        simp only [Aw.cells, Ac.cells] at hcell
        have z0 := hcell 0 _ rfl
        have z1 := hcell 1 _ rfl
        have z2 := hcell 2 _ rfl
        have z3 := hcell 3 _ rfl
        have z4 := hcell 4 _ rfl
        have z5 := hcell 5 _ rfl
        have z6 := hcell 6 _ rfl
        have z7 := hcell 7 _ rfl
        have z8 := hcell 8 _ rfl
        simp only [Nat.add_zero] at z0
        have HKB : Hid (∀ X, Below wr.heap.size wr X → (X.cell? ⟨blk, off + j * 9, none⟩ = some (.int .i64 k) ∧ X.cell? ⟨blk, off + j * 9 + 1, none⟩ = some (.int .i64 node) ∧ X.cell? ⟨blk, off + j * 9 + 2, none⟩ = some (.int .i64 m) ∧ X.cell? ⟨blk, off + j * 9 + 3, none⟩ = some (.int .i64 fk) ∧ X.cell? ⟨blk, off + j * 9 + 4, none⟩ = some (.int .i64 fd) ∧ X.cell? ⟨blk, off + j * 9 + 5, none⟩ = some (.int .i64 fa) ∧ X.cell? ⟨blk, off + j * 9 + 6, none⟩ = some (.int .u32 (fp : Int)) ∧ X.cell? ⟨blk, off + j * 9 + 7, none⟩ = some (.int .u32 (fb : Int)) ∧ X.cell? ⟨blk, off + j * 9 + 8, none⟩ = some (.slice A2 n2 c2)) ∧ X.cell? ⟨w.heap.size, 0, none⟩ = some (.int .i64 n0) ∧ X.cell? ⟨w.heap.size, 5, none⟩ = some (.int .i64 rho)) := fun X hX => by
          have kp : ∀ p v, wr.cell? p = some v → X.cell? p = some v := fun p v h => (hX.cell (World.block_lt_of_cell? _ _ h)).trans h
          exact ⟨⟨kp _ _ z0, kp _ _ z1, kp _ _ z2, kp _ _ z3, kp _ _ z4, kp _ _ z5, kp _ _ z6, kp _ _ z7, kp _ _ z8⟩, kp _ _ c0, kp _ _ c5⟩
        have HD : Hid (Below wr.heap.size wr wr.drew) := (Below.refl _ _).drew
        have HBD := HD
        cases hg : goodA ⟨k, node, m, ⟨fk, fd, fa, fp, fb⟩, bb⟩ with
        | false =>
          have CG : Hid (∀ X, Below wr.heap.size wr X → Calls Tryz.prog 18 #[.agg #[.int .i64 k, .int .i64 node, .int .i64 m, .int .i64 fk, .int .i64 fd, .int .i64 fa, .int .u32 (fp : Int), .int .u32 (fb : Int), .slice A2 n2 c2]] X fun e w' => e = .returned (.bool false) ∧ Below X.heap.size X w') := fun X hX => by have h := refGoodA ⟨k, node, m, ⟨fk, fd, fa, fp, fb⟩, bb⟩ A2 n2 c2 X (HX.out.2.2.2.1.keep hX) HX.out.2.2.2.2.1; rw [hg] at h; exact h
          have HG := Lib.hid hg
          clear hg hcell hx hno hB hmem hjl hU hlen c0 c5 z0 z1 z2 z3 z4 z5 z6 z7 z8
          go_wp2_with fail
          refine wp_region_plan [] [(true, 0), (true, 1), (true, 2), (true, 3), (false, 4), (true, 5), (true, 6), (true, 7), (true, 8), (true, 9), (true, 10), (true, 11), (true, 12), (true, 13), (true, 14), (true, 15), (true, 16), (true, 17), (true, 18), (true, 19), (true, 20), (true, 21), (true, 22), (true, 23), (true, 24), (true, 25), (true, 26), (true, 27), (true, 28), (true, 29), (true, 30), (true, 31)] 32 12 (fun X => Below wr.heap.size wr X) (by kernel_rfl) (by kernel_rfl) (by intro c a t v w h; exact h) HD.out ?_
          simp only [pickB, pickL, List.drop_succ_cons, List.drop_zero, List.head?_cons, Option.toList_some, List.map_cons, List.map_nil, List.cons_append, List.nil_append]
          refine wpHead_nil ?_
          iterate 4 (refine wpPlan_rd _ (by rfl) (by intro W hW; obtain ⟨⟨z0, z1, z2, z3, z4, z5, z6, z7, z8⟩, c0, c5⟩ := HKB.out W hW; clear hW; go_simp; with_reducible rfl) ?_; simp only [Act.put, List.setIfInBounds_toArray, List.set_cons_zero, List.set_cons_succ])
          refine wpPlan_do (by rfl) ?_
          go_simp
          go_at_call 18
          refine (CG.out _ HBD.out).mono ?_
          rintro e w6 ⟨rfl, hb6⟩
          have H6 : Hid (Below wr.heap.size wr w6) := HBD.out.trans (hb6.mono HBD.out.size)
          clear hb6
          refine ⟨H6.out, ?_⟩
          iterate 2 (refine wpPlan_rd _ (by rfl) (by intro W hW; obtain ⟨⟨z0, z1, z2, z3, z4, z5, z6, z7, z8⟩, c0, c5⟩ := HKB.out W hW; clear hW; go_simp; with_reducible rfl) ?_; simp only [Act.put, List.setIfInBounds_toArray, List.set_cons_zero, List.set_cons_succ])
          iterate 24 (refine wpPlan_skip (by rfl) ?_; simp only [Act.put, List.setIfInBounds_toArray, List.set_cons_zero, List.set_cons_succ])
          iterate 1 (refine wpPlan_rd _ (by rfl) (by intro W hW; obtain ⟨⟨z0, z1, z2, z3, z4, z5, z6, z7, z8⟩, c0, c5⟩ := HKB.out W hW; clear hW; go_simp; with_reducible rfl) ?_; simp only [Act.put, List.setIfInBounds_toArray, List.set_cons_zero, List.set_cons_succ])
          refine wpPlan_nil ?_
          have HT : Hid (badB n0 ⟨k, node, m, ⟨fk, fd, fa, fp, fb⟩, bb⟩ = true) := by unfold Hid badB; rw [HG.out]; rfl
          have HF := Lib.hid (HP.out 2 w6 (by unfold statN; rw [HFN.out, if_neg (by simp), if_pos (List.any_eq_true.2 ⟨_, HX.out.2.2.2.2.2, HT.out⟩)]; rfl) (H2.out.2.1.trans ((HX.out.2.2.1.trans (H6.out.mono HX.out.2.2.1.size)).mono H2.out.2.1.size)))
          go_wp2
          go_ret
          exact HF.out
        | true =>
          have CG : Hid (∀ X, Below wr.heap.size wr X → Calls Tryz.prog 18 #[.agg #[.int .i64 k, .int .i64 node, .int .i64 m, .int .i64 fk, .int .i64 fd, .int .i64 fa, .int .u32 (fp : Int), .int .u32 (fb : Int), .slice A2 n2 c2]] X fun e w' => e = .returned (.bool true) ∧ Below X.heap.size X w') := fun X hX => by have h := refGoodA ⟨k, node, m, ⟨fk, fd, fa, fp, fb⟩, bb⟩ A2 n2 c2 X (HX.out.2.2.2.1.keep hX) HX.out.2.2.2.2.1; rw [hg] at h; exact h
          have HG := Lib.hid hg
          clear hg hcell hx hno hB hmem hjl hU hlen c0 c5 z0 z1 z2 z3 z4 z5 z6 z7 z8
          by_cases k1_ : k = 1
          · subst k1_
            go_wp2_with fail
            refine wp_region_plan [] [(true, 0), (true, 1), (true, 2), (true, 3), (false, 4), (true, 5), (true, 6), (true, 7), (true, 8), (true, 9), (true, 10), (true, 11), (true, 12), (true, 13), (true, 14), (true, 15), (true, 16), (true, 17), (true, 18), (true, 19), (true, 20), (true, 21), (true, 22), (true, 23), (true, 24), (true, 25), (true, 26), (true, 27), (true, 28), (true, 29), (true, 30), (true, 31)] 32 12 (fun X => Below wr.heap.size wr X) (by kernel_rfl) (by kernel_rfl) (by intro c a t v w h; exact h) HD.out ?_
            simp only [pickB, pickL, List.drop_succ_cons, List.drop_zero, List.head?_cons, Option.toList_some, List.map_cons, List.map_nil, List.cons_append, List.nil_append]
            refine wpHead_nil ?_
            iterate 4 (refine wpPlan_rd _ (by rfl) (by intro W hW; obtain ⟨⟨z0, z1, z2, z3, z4, z5, z6, z7, z8⟩, c0, c5⟩ := HKB.out W hW; clear hW; go_simp; with_reducible rfl) ?_; simp only [Act.put, List.setIfInBounds_toArray, List.set_cons_zero, List.set_cons_succ])
            refine wpPlan_do (by rfl) ?_
            go_simp
            go_at_call 18
            refine (CG.out _ HBD.out).mono ?_
            rintro e w6 ⟨rfl, hb6⟩
            have H6 : Hid (Below wr.heap.size wr w6) := HBD.out.trans (hb6.mono HBD.out.size)
            clear hb6
            refine ⟨H6.out, ?_⟩
            iterate 9 (refine wpPlan_rd _ (by rfl) (by intro W hW; obtain ⟨⟨z0, z1, z2, z3, z4, z5, z6, z7, z8⟩, c0, c5⟩ := HKB.out W hW; clear hW; go_simp; with_reducible rfl) ?_; simp only [Act.put, List.setIfInBounds_toArray, List.set_cons_zero, List.set_cons_succ])
            iterate 6 (refine wpPlan_skip (by rfl) ?_; simp only [Act.put, List.setIfInBounds_toArray, List.set_cons_zero, List.set_cons_succ])
            iterate 2 (refine wpPlan_rd _ (by rfl) (by intro W hW; obtain ⟨⟨z0, z1, z2, z3, z4, z5, z6, z7, z8⟩, c0, c5⟩ := HKB.out W hW; clear hW; go_simp; with_reducible rfl) ?_; simp only [Act.put, List.setIfInBounds_toArray, List.set_cons_zero, List.set_cons_succ])
            iterate 8 (refine wpPlan_skip (by rfl) ?_; simp only [Act.put, List.setIfInBounds_toArray, List.set_cons_zero, List.set_cons_succ])
            iterate 2 (refine wpPlan_rd _ (by rfl) (by intro W hW; obtain ⟨⟨z0, z1, z2, z3, z4, z5, z6, z7, z8⟩, c0, c5⟩ := HKB.out W hW; clear hW; go_simp; with_reducible rfl) ?_; simp only [Act.put, List.setIfInBounds_toArray, List.set_cons_zero, List.set_cons_succ])
            refine wpPlan_nil ?_
            have HF : Hid ((∀ q x, q < j + 1 → xs[q]? = some x → badB n0 x.a = false) ∧ Below w2.heap.size w2 w6) := by
              refine ⟨fun q x hq hx => ?_, HX.out.2.2.1.trans (H6.out.mono HX.out.2.2.1.size)⟩
              rcases Nat.lt_or_ge q j with h1 | h1
              · exact HX.out.2.1 q x h1 hx
              · obtain rfl : q = j := by omega
                rw [HX.out.1] at hx
                obtain rfl := Option.some.inj hx
                unfold badB aboutB; rw [HG.out]; simp
            go_wp2
            go_roundw
            case rel => exact ⟨j + 1, by omega, by go_num, HF.out.1, HF.out.2⟩
            case measure => simp [intOf]; omega
          · have k1a : (k == 1) = false := beq_eq_false_iff_ne.2 k1_
            have k1b : (k != 1) = true := by simp [k1_]
            by_cases k3_ : k = 3
            · subst k3_
              go_wp2_with fail
              refine wp_region_plan [] [(true, 0), (true, 1), (true, 2), (true, 3), (false, 4), (true, 5), (true, 6), (true, 7), (true, 8), (true, 9), (true, 10), (true, 11), (true, 12), (true, 13), (true, 14), (true, 15), (true, 16), (true, 17), (true, 18), (true, 19), (true, 20), (true, 21), (true, 22), (true, 23), (true, 24), (true, 25), (true, 26), (true, 27), (true, 28), (true, 29), (true, 30), (true, 31)] 32 12 (fun X => Below wr.heap.size wr X) (by kernel_rfl) (by kernel_rfl) (by intro c a t v w h; exact h) HD.out ?_
              simp only [pickB, pickL, List.drop_succ_cons, List.drop_zero, List.head?_cons, Option.toList_some, List.map_cons, List.map_nil, List.cons_append, List.nil_append]
              refine wpHead_nil ?_
              iterate 4 (refine wpPlan_rd _ (by rfl) (by intro W hW; obtain ⟨⟨z0, z1, z2, z3, z4, z5, z6, z7, z8⟩, c0, c5⟩ := HKB.out W hW; clear hW; go_simp; with_reducible rfl) ?_; simp only [Act.put, List.setIfInBounds_toArray, List.set_cons_zero, List.set_cons_succ])
              refine wpPlan_do (by rfl) ?_
              go_simp
              go_at_call 18
              refine (CG.out _ HBD.out).mono ?_
              rintro e w6 ⟨rfl, hb6⟩
              have H6 : Hid (Below wr.heap.size wr w6) := HBD.out.trans (hb6.mono HBD.out.size)
              clear hb6
              refine ⟨H6.out, ?_⟩
              iterate 17 (refine wpPlan_rd _ (by rfl) (by intro W hW; obtain ⟨⟨z0, z1, z2, z3, z4, z5, z6, z7, z8⟩, c0, c5⟩ := HKB.out W hW; clear hW; go_simp; with_reducible rfl) ?_; simp only [Act.put, List.setIfInBounds_toArray, List.set_cons_zero, List.set_cons_succ])
              iterate 8 (refine wpPlan_skip (by rfl) ?_; simp only [Act.put, List.setIfInBounds_toArray, List.set_cons_zero, List.set_cons_succ])
              iterate 2 (refine wpPlan_rd _ (by rfl) (by intro W hW; obtain ⟨⟨z0, z1, z2, z3, z4, z5, z6, z7, z8⟩, c0, c5⟩ := HKB.out W hW; clear hW; go_simp; with_reducible rfl) ?_; simp only [Act.put, List.setIfInBounds_toArray, List.set_cons_zero, List.set_cons_succ])
              refine wpPlan_nil ?_
              have HF : Hid ((∀ q x, q < j + 1 → xs[q]? = some x → badB n0 x.a = false) ∧ Below w2.heap.size w2 w6) := by
                refine ⟨fun q x hq hx => ?_, HX.out.2.2.1.trans (H6.out.mono HX.out.2.2.1.size)⟩
                rcases Nat.lt_or_ge q j with h1 | h1
                · exact HX.out.2.1 q x h1 hx
                · obtain rfl : q = j := by omega
                  rw [HX.out.1] at hx
                  obtain rfl := Option.some.inj hx
                  unfold badB aboutB; rw [HG.out]; simp
              go_wp2
              go_roundw
              case rel => exact ⟨j + 1, by omega, by go_num, HF.out.1, HF.out.2⟩
              case measure => simp [intOf]; omega
            · have k3a : (k == 3) = false := beq_eq_false_iff_ne.2 k3_
              have k3b : (k != 3) = true := by simp [k3_]
              by_cases hle : n0 ≤ node
              · go_wp2_with fail
                refine wp_region_plan [] [(true, 0), (true, 1), (true, 2), (true, 3), (false, 4), (true, 5), (true, 6), (true, 7), (true, 8), (true, 9), (true, 10), (true, 11), (true, 12), (true, 13), (true, 14), (true, 15), (true, 16), (true, 17), (true, 18), (true, 19), (true, 20), (true, 21), (true, 22), (true, 23), (true, 24), (true, 25), (true, 26), (true, 27), (true, 28), (true, 29), (true, 30), (true, 31)] 32 12 (fun X => Below wr.heap.size wr X) (by kernel_rfl) (by kernel_rfl) (by intro c a t v w h; exact h) HD.out ?_
                simp only [pickB, pickL, List.drop_succ_cons, List.drop_zero, List.head?_cons, Option.toList_some, List.map_cons, List.map_nil, List.cons_append, List.nil_append]
                refine wpHead_nil ?_
                iterate 4 (refine wpPlan_rd _ (by rfl) (by intro W hW; obtain ⟨⟨z0, z1, z2, z3, z4, z5, z6, z7, z8⟩, c0, c5⟩ := HKB.out W hW; clear hW; go_simp; with_reducible rfl) ?_; simp only [Act.put, List.setIfInBounds_toArray, List.set_cons_zero, List.set_cons_succ])
                refine wpPlan_do (by rfl) ?_
                go_simp
                go_at_call 18
                refine (CG.out _ HBD.out).mono ?_
                rintro e w6 ⟨rfl, hb6⟩
                have H6 : Hid (Below wr.heap.size wr w6) := HBD.out.trans (hb6.mono HBD.out.size)
                clear hb6
                refine ⟨H6.out, ?_⟩
                iterate 27 (refine wpPlan_rd _ (by rfl) (by intro W hW; obtain ⟨⟨z0, z1, z2, z3, z4, z5, z6, z7, z8⟩, c0, c5⟩ := HKB.out W hW; clear hW; go_simp; with_reducible rfl) ?_; simp only [Act.put, List.setIfInBounds_toArray, List.set_cons_zero, List.set_cons_succ])
                refine wpPlan_nil ?_
                have HT : Hid (badB n0 ⟨k, node, m, ⟨fk, fd, fa, fp, fb⟩, bb⟩ = true) := by unfold Hid badB aboutB; rw [HG.out]; simp [k1_, k3_, hle]
                have HF := Lib.hid (HP.out 2 w6 (by unfold statN; rw [HFN.out, if_neg (by simp), if_pos (List.any_eq_true.2 ⟨_, HX.out.2.2.2.2.2, HT.out⟩)]; rfl) (H2.out.2.1.trans ((HX.out.2.2.1.trans (H6.out.mono HX.out.2.2.1.size)).mono H2.out.2.1.size)))
                go_wp2
                go_ret
                exact HF.out
              · have hle2 : node < n0 := by omega
                go_wp2_with fail
                refine wp_region_plan [] [(true, 0), (true, 1), (true, 2), (true, 3), (false, 4), (true, 5), (true, 6), (true, 7), (true, 8), (true, 9), (true, 10), (true, 11), (true, 12), (true, 13), (true, 14), (true, 15), (true, 16), (true, 17), (true, 18), (true, 19), (true, 20), (true, 21), (true, 22), (true, 23), (true, 24), (true, 25), (true, 26), (true, 27), (true, 28), (true, 29), (true, 30), (true, 31)] 32 12 (fun X => Below wr.heap.size wr X) (by kernel_rfl) (by kernel_rfl) (by intro c a t v w h; exact h) HD.out ?_
                simp only [pickB, pickL, List.drop_succ_cons, List.drop_zero, List.head?_cons, Option.toList_some, List.map_cons, List.map_nil, List.cons_append, List.nil_append]
                refine wpHead_nil ?_
                iterate 4 (refine wpPlan_rd _ (by rfl) (by intro W hW; obtain ⟨⟨z0, z1, z2, z3, z4, z5, z6, z7, z8⟩, c0, c5⟩ := HKB.out W hW; clear hW; go_simp; with_reducible rfl) ?_; simp only [Act.put, List.setIfInBounds_toArray, List.set_cons_zero, List.set_cons_succ])
                refine wpPlan_do (by rfl) ?_
                go_simp
                go_at_call 18
                refine (CG.out _ HBD.out).mono ?_
                rintro e w6 ⟨rfl, hb6⟩
                have H6 : Hid (Below wr.heap.size wr w6) := HBD.out.trans (hb6.mono HBD.out.size)
                clear hb6
                refine ⟨H6.out, ?_⟩
                iterate 27 (refine wpPlan_rd _ (by rfl) (by intro W hW; obtain ⟨⟨z0, z1, z2, z3, z4, z5, z6, z7, z8⟩, c0, c5⟩ := HKB.out W hW; clear hW; go_simp; with_reducible rfl) ?_; simp only [Act.put, List.setIfInBounds_toArray, List.set_cons_zero, List.set_cons_succ])
                refine wpPlan_nil ?_
                have HF : Hid ((∀ q x, q < j + 1 → xs[q]? = some x → badB n0 x.a = false) ∧ Below w2.heap.size w2 w6) := by
                  refine ⟨fun q x hq hx => ?_, HX.out.2.2.1.trans (H6.out.mono HX.out.2.2.1.size)⟩
                  rcases Nat.lt_or_ge q j with h1 | h1
                  · exact HX.out.2.1 q x h1 hx
                  · obtain rfl : q = j := by omega
                    rw [HX.out.1] at hx
                    obtain rfl := Option.some.inj hx
                    unfold badB aboutB; rw [HG.out]; simp [hle]
                go_wp2
                go_roundw
                case rel => exact ⟨j + 1, by omega, by go_num, HF.out.1, HF.out.2⟩
                case measure => simp [intOf]; omega
      · obtain rfl : n = j := by omega
        have HNB : Hid ((xs.any fun x => badB n0 x.a) = false) := by
          refine List.any_eq_false.2 fun x hx => ?_
          obtain ⟨q, hq, rfl⟩ := List.getElem_of_mem hx
          rw [hno q _ (by rw [← HR.out.2.1]; exact hq) (List.getElem?_eq_getElem hq)]
          simp
        have H3 := Lib.hid (And.intro (H2.out.1.keep hB) (And.intro (H2.out.2.1.trans (hB.mono H2.out.2.1.size)) (H2.out.2.2.keep hB)))
        clear hno hB
        obtain ⟨w3, hw3⟩ : ∃ w3, w3 = wr := ⟨_, rfl⟩
        subst hw3
        go_wp2
        go_loopw [6] (fun i wr => ∃ j : Nat, j ≤ n ∧ i = .int .i64 (j : Int) ∧ (∀ q x, q < j → xs[q]? = some x → wildB rho x.a = false) ∧ Below w3.heap.size w3 wr) (fun i _ => n - (intOf i).toNat)
        case atStart => exact ⟨0, Nat.zero_le _, rfl, fun q x h => absurd h (Nat.not_lt_zero _), Below.refl _ _⟩
        case round =>
          obtain ⟨j, hj, rfl, hno, hB⟩ := hrel
          by_cases hlt : j < n
          · have hltI : (j : Int) < (n : Int) := by omega
            have hjl : j < xs.length := by rw [HR.out.2.1]; exact hlt
            obtain ⟨x, hx⟩ : ∃ x, xs[j]? = some x := ⟨_, List.getElem?_eq_getElem hjl⟩
            have hmem : x ∈ xs := List.mem_of_getElem? hx
            obtain ⟨blk, off, hAe, hcell, hU⟩ := (H3.out.2.2.keep hB) j x hx
            have hlen := HR.out.1 x hmem
            have c0 := (H3.out.1.keep hB).1 0 _ rfl
            have c5 := (H3.out.1.keep hB).1 5 _ rfl
            have HX := Lib.hid (And.intro hx (And.intro hno (And.intro hB (And.intro hU (And.intro hlen hmem)))))
            subst hAe
            obtain ⟨⟨k, node, m, ⟨fk, fd, fa, fp, fb⟩, bb⟩, A2, n2, c2⟩ := x
            simp only [Aw.cells, Ac.cells] at hcell
            have z0 := hcell 0 _ rfl
            have z1 := hcell 1 _ rfl
            have z2 := hcell 2 _ rfl
            have z3 := hcell 3 _ rfl
            have z4 := hcell 4 _ rfl
            have z5 := hcell 5 _ rfl
            have z6 := hcell 6 _ rfl
            have z7 := hcell 7 _ rfl
            have z8 := hcell 8 _ rfl
            simp only [Nat.add_zero] at z0
            have HKB : Hid (∀ X, Below wr.heap.size wr X → (X.cell? ⟨blk, off + j * 9, none⟩ = some (.int .i64 k) ∧ X.cell? ⟨blk, off + j * 9 + 1, none⟩ = some (.int .i64 node) ∧ X.cell? ⟨blk, off + j * 9 + 2, none⟩ = some (.int .i64 m) ∧ X.cell? ⟨blk, off + j * 9 + 3, none⟩ = some (.int .i64 fk) ∧ X.cell? ⟨blk, off + j * 9 + 4, none⟩ = some (.int .i64 fd) ∧ X.cell? ⟨blk, off + j * 9 + 5, none⟩ = some (.int .i64 fa) ∧ X.cell? ⟨blk, off + j * 9 + 6, none⟩ = some (.int .u32 (fp : Int)) ∧ X.cell? ⟨blk, off + j * 9 + 7, none⟩ = some (.int .u32 (fb : Int)) ∧ X.cell? ⟨blk, off + j * 9 + 8, none⟩ = some (.slice A2 n2 c2)) ∧ X.cell? ⟨w.heap.size, 0, none⟩ = some (.int .i64 n0) ∧ X.cell? ⟨w.heap.size, 5, none⟩ = some (.int .i64 rho)) := fun X hX => by
              have kp : ∀ p v, wr.cell? p = some v → X.cell? p = some v := fun p v h => (hX.cell (World.block_lt_of_cell? _ _ h)).trans h
              exact ⟨⟨kp _ _ z0, kp _ _ z1, kp _ _ z2, kp _ _ z3, kp _ _ z4, kp _ _ z5, kp _ _ z6, kp _ _ z7, kp _ _ z8⟩, kp _ _ c0, kp _ _ c5⟩
            have HD : Hid (Below wr.heap.size wr wr.drew) := (Below.refl _ _).drew
            have HBD := HD
            by_cases k2_ : k = 2
            · subst k2_
              cases hf : fairB m rho with
              | false =>
                have CF : Hid (∀ X, Calls Tryz.prog 19 #[.int .i64 m, .int .i64 rho] X fun e w' => e = .returned (.bool false) ∧ X = w') := fun X => by have h := refFair m rho HR.out.2.2.1 HR.out.2.2.2 X; rw [hf] at h; exact h
                have HG := Lib.hid hf
                clear hf hcell hx hno hB hmem hjl hU hlen c0 c5 z0 z1 z2 z3 z4 z5 z6 z7 z8
                go_wp2_with fail
                refine wp_region_plan [] [(true, 0), (true, 1), (true, 2), (true, 3), (true, 4), (true, 5), (true, 6), (true, 7), (true, 8), (true, 9), (true, 10), (true, 11), (true, 12), (true, 13), (false, 14), (true, 15), (true, 16)] 17 12 (fun X => Below wr.heap.size wr X) (by kernel_rfl) (by kernel_rfl) (by intro c a t v w h; exact h) HD.out ?_
                simp only [pickB, pickL, List.drop_succ_cons, List.drop_zero, List.head?_cons, Option.toList_some, List.map_cons, List.map_nil, List.cons_append, List.nil_append]
                refine wpHead_nil ?_
                iterate 14 (refine wpPlan_rd _ (by rfl) (by intro W hW; obtain ⟨⟨z0, z1, z2, z3, z4, z5, z6, z7, z8⟩, c0, c5⟩ := HKB.out W hW; clear hW; go_simp; with_reducible rfl) ?_; simp only [Act.put, List.setIfInBounds_toArray, List.set_cons_zero, List.set_cons_succ])
                refine wpPlan_do (by rfl) ?_
                go_simp
                go_at_call 19
                refine (CF.out _).mono ?_
                rintro e w6 ⟨rfl, rfl⟩
                refine ⟨HBD.out, ?_⟩
                iterate 2 (refine wpPlan_rd _ (by rfl) (by intro W hW; obtain ⟨⟨z0, z1, z2, z3, z4, z5, z6, z7, z8⟩, c0, c5⟩ := HKB.out W hW; clear hW; go_simp; with_reducible rfl) ?_; simp only [Act.put, List.setIfInBounds_toArray, List.set_cons_zero, List.set_cons_succ])
                refine wpPlan_nil ?_
                have HT : Hid (wildB rho ⟨2, node, m, ⟨fk, fd, fa, fp, fb⟩, bb⟩ = true) := by unfold Hid wildB; simp [HG.out]
                have HF := Lib.hid (HP.out 3 wr.drew (by unfold statN; rw [HFN.out, if_neg (by simp), if_neg (by rw [HNB.out]; simp), if_pos (List.any_eq_true.2 ⟨_, HX.out.2.2.2.2.2, HT.out⟩)]; rfl) (H3.out.2.1.trans ((HX.out.2.2.1.trans (HBD.out.mono HX.out.2.2.1.size)).mono H3.out.2.1.size)))
                go_wp2
                go_ret
                exact HF.out
              | true =>
                have CF : Hid (∀ X, Calls Tryz.prog 19 #[.int .i64 m, .int .i64 rho] X fun e w' => e = .returned (.bool true) ∧ X = w') := fun X => by have h := refFair m rho HR.out.2.2.1 HR.out.2.2.2 X; rw [hf] at h; exact h
                have HG := Lib.hid hf
                clear hf hcell hx hno hB hmem hjl hU hlen c0 c5 z0 z1 z2 z3 z4 z5 z6 z7 z8
                go_wp2_with fail
                refine wp_region_plan [] [(true, 0), (true, 1), (true, 2), (true, 3), (true, 4), (true, 5), (true, 6), (true, 7), (true, 8), (true, 9), (true, 10), (true, 11), (true, 12), (true, 13), (false, 14), (true, 15), (true, 16)] 17 12 (fun X => Below wr.heap.size wr X) (by kernel_rfl) (by kernel_rfl) (by intro c a t v w h; exact h) HD.out ?_
                simp only [pickB, pickL, List.drop_succ_cons, List.drop_zero, List.head?_cons, Option.toList_some, List.map_cons, List.map_nil, List.cons_append, List.nil_append]
                refine wpHead_nil ?_
                iterate 14 (refine wpPlan_rd _ (by rfl) (by intro W hW; obtain ⟨⟨z0, z1, z2, z3, z4, z5, z6, z7, z8⟩, c0, c5⟩ := HKB.out W hW; clear hW; go_simp; with_reducible rfl) ?_; simp only [Act.put, List.setIfInBounds_toArray, List.set_cons_zero, List.set_cons_succ])
                refine wpPlan_do (by rfl) ?_
                go_simp
                go_at_call 19
                refine (CF.out _).mono ?_
                rintro e w6 ⟨rfl, rfl⟩
                refine ⟨HBD.out, ?_⟩
                iterate 2 (refine wpPlan_rd _ (by rfl) (by intro W hW; obtain ⟨⟨z0, z1, z2, z3, z4, z5, z6, z7, z8⟩, c0, c5⟩ := HKB.out W hW; clear hW; go_simp; with_reducible rfl) ?_; simp only [Act.put, List.setIfInBounds_toArray, List.set_cons_zero, List.set_cons_succ])
                refine wpPlan_nil ?_
                have HF : Hid ((∀ q x, q < j + 1 → xs[q]? = some x → wildB rho x.a = false) ∧ Below w3.heap.size w3 wr.drew) := by
                  refine ⟨fun q x hq hx => ?_, HX.out.2.2.1.trans (HBD.out.mono HX.out.2.2.1.size)⟩
                  rcases Nat.lt_or_ge q j with h1 | h1
                  · exact HX.out.2.1 q x h1 hx
                  · obtain rfl : q = j := by omega
                    rw [HX.out.1] at hx
                    obtain rfl := Option.some.inj hx
                    unfold wildB; simp [HG.out]
                go_wp2
                go_roundw
                case rel => exact ⟨j + 1, by omega, by go_num, HF.out.1, HF.out.2⟩
                case measure => simp [intOf]; omega
            · have k2a : (k == 2) = false := beq_eq_false_iff_ne.2 k2_
              clear hcell hx hno hB hmem hjl hU hlen c0 c5 z0 z1 z2 z3 z4 z5 z6 z7 z8
              go_wp2_with fail
              refine wp_region_plan [] [(true, 0), (true, 1), (true, 2), (true, 3), (true, 4), (true, 5), (true, 6), (true, 7), (true, 8), (true, 9), (true, 10), (true, 11), (true, 12), (true, 13), (false, 14), (true, 15), (true, 16)] 17 12 (fun X => Below wr.heap.size wr X) (by kernel_rfl) (by kernel_rfl) (by intro c a t v w h; exact h) HD.out ?_
              simp only [pickB, pickL, List.drop_succ_cons, List.drop_zero, List.head?_cons, Option.toList_some, List.map_cons, List.map_nil, List.cons_append, List.nil_append]
              refine wpHead_nil ?_
              iterate 7 (refine wpPlan_rd _ (by rfl) (by intro W hW; obtain ⟨⟨z0, z1, z2, z3, z4, z5, z6, z7, z8⟩, c0, c5⟩ := HKB.out W hW; clear hW; go_simp; with_reducible rfl) ?_; simp only [Act.put, List.setIfInBounds_toArray, List.set_cons_zero, List.set_cons_succ])
              iterate 7 (refine wpPlan_skip (by rfl) ?_; simp only [Act.put, List.setIfInBounds_toArray, List.set_cons_zero, List.set_cons_succ])
              refine wpPlan_pass (by rfl) ?_
              simp only [Act.put, List.setIfInBounds_toArray, List.set_cons_zero, List.set_cons_succ]
              iterate 1 (refine wpPlan_skip (by rfl) ?_; simp only [Act.put, List.setIfInBounds_toArray, List.set_cons_zero, List.set_cons_succ])
              iterate 1 (refine wpPlan_rd _ (by rfl) (by intro W hW; obtain ⟨⟨z0, z1, z2, z3, z4, z5, z6, z7, z8⟩, c0, c5⟩ := HKB.out W hW; clear hW; go_simp; with_reducible rfl) ?_; simp only [Act.put, List.setIfInBounds_toArray, List.set_cons_zero, List.set_cons_succ])
              refine wpPlan_nil ?_
              have HF : Hid ((∀ q x, q < j + 1 → xs[q]? = some x → wildB rho x.a = false) ∧ Below w3.heap.size w3 wr.drew) := by
                refine ⟨fun q x hq hx => ?_, HX.out.2.2.1.trans (HBD.out.mono HX.out.2.2.1.size)⟩
                rcases Nat.lt_or_ge q j with h1 | h1
                · exact HX.out.2.1 q x h1 hx
                · obtain rfl : q = j := by omega
                  rw [HX.out.1] at hx
                  obtain rfl := Option.some.inj hx
                  unfold wildB; simp [k2_]
              go_wp2
              go_roundw
              case rel => exact ⟨j + 1, by omega, by go_num, HF.out.1, HF.out.2⟩
              case measure => simp [intOf]; omega
          · have HB := Lib.hid (And.intro hB (And.intro (H3.out.2.2.keep hB) (H3.out.1.keep hB)))
            obtain rfl : j = n := by omega
            have HNW : Hid ((xs.any fun x => wildB rho x.a) = false) := by
              refine List.any_eq_false.2 fun x hx => ?_
              obtain ⟨q, hq, rfl⟩ := List.getElem_of_mem hx
              rw [hno q _ (by rw [← HR.out.2.1]; exact hq) (List.getElem?_eq_getElem hq)]
              simp
            have HD : Hid (Below wr.heap.size wr wr.drew) := (Below.refl _ _).drew
            have HBD := HD
            have HKB : Hid (∀ X, Below wr.heap.size wr X → BoxAt X w.heap.size [.int .i64 n0, .slice A1 l k0, .int .i64 f, .int .i64 dmin, .int .i64 dmax, .int .i64 rho, .int .i64 slew, .int .i64 round, .int .i64 window, .int .i64 attend, .int .i64 seen, .int .i64 hist, .int .i64 fly, .int .i64 quota, .int .i64 body] ∧ True) := fun X hX => ⟨(HB.out.2.2.keep hX).1, trivial⟩
            have CCR : Hid (∀ X, Below wr.heap.size wr X → Calls Tryz.prog 21 #[.slice A j cp] X (CrPost xs X)) := fun X hX => refCrashes (HB.out.2.1.keep hX) HR.out.1 HR.out.2.1 hm2N
            have hlt2 := withN_lt (crashL xs) 0 (by decide)
            obtain ⟨cs, hcs⟩ : ∃ cs, withN 0 (crashL xs) = cs := ⟨_, rfl⟩
            rw [hcs] at hlt2
            have CNT := Lib.hid (fun W => refList cs hlt2 W)
            have HEN : Hid (statN ⟨n0, f, dmin, dmax, rho, slew, round, window, attend, seen, hist, fly, quota, body⟩ L xs = if f < ((elsI cs).length : Int) then 4 else 0) := by
              unfold Hid statN
              rw [HFN.out, if_neg (by simp), if_neg (by rw [HNB.out]; simp), if_neg (by rw [HNW.out]; simp), hcs]
              unfold elsI
              rw [List.length_map]
            have HCS := Lib.hid hcs
            obtain ⟨q, hq⟩ : ∃ q, (elsI cs).length = q := ⟨_, rfl⟩
            rw [hq] at HEN
            have HQ := Lib.hid hq
            have hq64 : q ≤ 64 := by rw [← hq]; exact elsI_len cs
            clear hlt2 hcs hq hno hB
            go_wp2_with fail
            refine wp_region_plan [] [(true, 0), (true, 4), (true, 5), (false, 1), (false, 2), (true, 3), (true, 6)] 7 12 (fun X => Below wr.heap.size wr X) (by kernel_rfl) (by kernel_rfl) (by intro c a t v w h; exact h) HD.out ?_
            simp only [pickB, pickL, List.drop_succ_cons, List.drop_zero, List.head?_cons, Option.toList_some, List.map_cons, List.map_nil, List.cons_append, List.nil_append]
            refine wpHead_nil ?_
            iterate 3 (refine wpPlan_rd _ (by rfl) (by intro W hW; have hk := HKB.out W hW; have z2 := hk.1 2 _ rfl; clear hk hW; go_simp; with_reducible rfl) ?_; simp only [Act.put, List.setIfInBounds_toArray, List.set_cons_zero, List.set_cons_succ])
            refine wpPlan_do (by rfl) ?_
            go_simp
            go_at_call 21
            refine (CCR.out _ HBD.out).mono ?_
            rintro e w6 ⟨rfl, hb6⟩
            rw [HCS.out]
            have H6 : Hid (Below wr.heap.size wr w6) := HBD.out.trans (hb6.mono HBD.out.size)
            clear hb6
            refine ⟨H6.out, ?_⟩
            refine wpPlan_do (by rfl) ?_
            go_simp
            go_at_call 20
            refine (CNT.out _).mono ?_
            rintro e w7 ⟨v, rfl, hown, hb7⟩
            rw [HQ.out] at hown
            obtain ⟨A2, c2, rfl, hc2⟩ := own_form hown
            have H7 : Hid (Below wr.heap.size wr w7) := H6.out.trans (hb7.mono H6.out.size)
            clear hb7 hown
            refine ⟨H7.out, ?_⟩
            iterate 2 (refine wpPlan_rd _ (by rfl) (by intro W hW; have hk := HKB.out W hW; have z2 := hk.1 2 _ rfl; clear hk hW; go_simp; with_reducible rfl) ?_; simp only [Act.put, List.setIfInBounds_toArray, List.set_cons_zero, List.set_cons_succ])
            refine wpPlan_nil ?_
            by_cases hf : f < (q : Int)
            · have HF := Lib.hid (HP.out 4 w7 (by rw [HEN.out, if_pos hf]; rfl) (H3.out.2.1.trans ((HB.out.1.trans (H7.out.mono HB.out.1.size)).mono H3.out.2.1.size)))
              go_wp2
              go_ret
              exact HF.out
            · have hf2 : (q : Int) ≤ f := by omega
              have HF := Lib.hid (HP.out 0 w7 (by rw [HEN.out, if_neg hf]; rfl) (H3.out.2.1.trans ((HB.out.1.trans (H7.out.mono HB.out.1.size)).mono H3.out.2.1.size)))
              go_wp2
              go_ret
              exact HF.out
  · have h0I : ¬ ((FN : Int) = 0) := by omega
    have HF := Lib.hid (HP.out 1 w2 (by unfold statN; rw [HFN.out, if_pos h0]; rfl) H2.out.2.1)
    go_wp2
    go_ret
    exact HF.out
end Go.Proofs.YtbgbehlmpheaeaaGreatDoor
