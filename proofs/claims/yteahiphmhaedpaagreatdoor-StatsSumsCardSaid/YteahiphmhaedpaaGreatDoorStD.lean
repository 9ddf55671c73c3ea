/- stats: since when and till when two nodes are members; whether their logs and views agree: where nothing is due. -/
import Derived.Test.YteahiphmhaedpaaGreatDoorStB
import Derived.Lib.MinMax
namespace Go.Proofs.YteahiphmhaedpaaGreatDoor
open Go.RowKit Law
set_option linter.unusedVariables false
set_option linter.unusedSimpArgs false
set_option maxRecDepth 100000

theorem statFrom {w : World} {base W : Nat} {c : Cn} {A : Option Addr} {l k : Nat} {t : Int} {R cap : Nat} {ps : List PlV} {air : Nat} {ev : Value} {cr : Int} (h : WdAt w base W c A l k t R cap ps air ev cr) {i : Nat} {p : PlV} {np : NdI} (hp : ps[i]? = some p) (hn : p.nd = some np) (n f dmin dmax rho slew round window attend seen hist fly quota body : Int) (A1 : Option Addr) (lk ck : Nat) : Calls Tryz.prog 101 #[.agg #[.int .i64 n, .slice A1 lk ck, .int .i64 f, .int .i64 dmin, .int .i64 dmax, .int .i64 rho, .int .i64 slew, .int .i64 round, .int .i64 window, .int .i64 attend, .int .i64 seen, .int .i64 hist, .int .i64 fly, .int .i64 quota, .int .i64 body], .pointer (some ⟨W, 0, none⟩), .int .i64 (i : Int)] w fun e w' => e = .returned (.int .i64 (-1)) ∧ Below w.heap.size w w' := by
  have b1 := (Below.refl w.heap.size w).alloc (Nat.le_refl _) (.cells #[.int .i64 n, .slice A1 lk ck, .int .i64 f, .int .i64 dmin, .int .i64 dmax, .int .i64 rho, .int .i64 slew, .int .i64 round, .int .i64 window, .int .i64 attend, .int .i64 seen, .int .i64 hist, .int .i64 fly, .int .i64 quota, .int .i64 body] 32)
  have k1 := boxF_made w [.int .i64 n, .slice A1 lk ck, .int .i64 f, .int .i64 dmin, .int .i64 dmax, .int .i64 rho, .int .i64 slew, .int .i64 round, .int .i64 window, .int .i64 attend, .int .i64 seen, .int .i64 hist, .int .i64 fly, .int .i64 quota, .int .i64 body] 32
  obtain ⟨w1, hw1⟩ : ∃ x, w.alloc (.cells #[.int .i64 n, .slice A1 lk ck, .int .i64 f, .int .i64 dmin, .int .i64 dmax, .int .i64 rho, .int .i64 slew, .int .i64 round, .int .i64 window, .int .i64 attend, .int .i64 seen, .int .i64 hist, .int .i64 fly, .int .i64 quota, .int .i64 body] 32) = x := ⟨_, rfl⟩
  rw [hw1] at b1
  replace k1 : BoxF w1 w.heap.size [.int .i64 n, .slice A1 lk ck, .int .i64 f, .int .i64 dmin, .int .i64 dmax, .int .i64 rho, .int .i64 slew, .int .i64 round, .int .i64 window, .int .i64 attend, .int .i64 seen, .int .i64 hist, .int .i64 fly, .int .i64 quota, .int .i64 body] := hw1 ▸ k1
  have C := Lib.hid (worldSinceT (h.below b1) hp hn)
  have HB := Lib.hid b1
  clear h hp hn k1 b1
  go_enter Tryz.func101, Tryz.ntmps101
  go_wp2_with fail
  refine C.out.mono ?_
  rintro e w' ⟨rfl, rfl⟩
  go_wp2
  go_ret
  exact ⟨rfl, HB.out⟩
theorem statPart {w : World} {base W : Nat} {c : Cn} {A : Option Addr} {l k : Nat} {t : Int} {R cap : Nat} {ps : List PlV} {air : Nat} {ev : Value} {cr : Int} (h : WdAt w base W c A l k t R cap ps air ev cr) {i : Nat} {p : PlV} {np : NdI} (hp : ps[i]? = some p) (hn : p.nd = some np) (lo hi : Int) : Calls Tryz.prog 42 #[.pointer (some ⟨W, 0, none⟩), .int .i64 (i : Int), .int .i64 lo, .int .i64 hi] w fun e w' => e = .returned (.slice none 0 0) ∧ w = w' := by
  have C := Lib.hid (worldLogT h hp hn)
  clear h hp hn
  go_enter Tryz.func42, Tryz.ntmps42
  go_wp2_with fail
  refine C.out.mono ?_
  rintro e w' ⟨rfl, rfl⟩
  go_wp2
  go_loop [9, 16] (fun s i => i = .int .i64 0 ∧ s = .slice none 0 0) (fun _ _ => 0)
  case atStart => exact ⟨rfl, rfl⟩
  case round =>
    obtain ⟨rfl, rfl⟩ := hrel
    go_wp2
    go_ret
    exact ⟨rfl, rfl⟩
set_option maxHeartbeats 1600000 in
theorem statViews {w : World} {base W : Nat} {c : Cn} {A : Option Addr} {l k : Nat} {t : Int} {R cap : Nat} {ps : List PlV} {air : Nat} {ev : Value} {cr : Int} (h : WdAt w base W c A l k t R cap ps air ev cr) {i : Nat} {p : PlV} {np : NdI} (hp : ps[i]? = some p) (hn : p.nd = some np) (at_ : Int) : Calls Tryz.prog 46 #[.pointer (some ⟨W, 0, none⟩), .int .i64 (i : Int), .int .i64 0, .int .i64 at_] w fun e w' => e = .returned (.slice none 0 0) ∧ Below w.heap.size w w' := by
  have C := Lib.hid (worldViewsT h hp hn)
  generalize (allN c.n : Int) = al at C
  clear h hp hn
  go_enter Tryz.func46, Tryz.ntmps46
  go_wp2_with fail
  refine C.out.mono ?_
  rintro e w1 ⟨G, cp, rfl, hG, hGl, hb⟩
  have HG := Lib.hid (And.intro hG (And.intro hb (World.block_lt_of_cell? _ _ (hG 0 _ rfl))))
  clear hG hGl hb
  go_wp2
  go_loopw [9, 16] (fun s i wr => ∃ j : Nat, j ≤ 1 ∧ i = .int .i64 (j : Int) ∧ s = .slice none 0 0 ∧ Below w1.heap.size w1 wr) (fun _ i _ => 1 - (intOf i).toNat)
  case atStart => exact ⟨0, by omega, rfl, rfl, Below.refl _ _⟩
  case round =>
    obtain ⟨j, hj, rfl, rfl, hbr⟩ := hrel
    by_cases hlt : j < 1
    · obtain rfl : j = 0 := by omega
      have hG := HG.out.1.keep hbr
      have g0 := hG 0 _ rfl
      have g1 := hG 1 _ rfl
      have g2 := hG 2 _ rfl
      have HBR : Hid (Below w1.heap.size w1 (wr.alloc (.cells #[.int .i64 0, .int .i64 0, .int .u64 al] 109))) := hbr.alloc hbr.size _
      clear hG hbr
      go_wp2
      go_round
      case rel => exact ⟨1, by omega, rfl, rfl, HBR.out⟩
      case measure => simp [intOf]
    · obtain rfl : j = 1 := by omega
      have HF : Hid (Below w.heap.size w wr) := HG.out.2.1.trans (hbr.mono HG.out.2.1.size)
      clear hbr
      go_wp2
      go_ret
      exact ⟨rfl, HF.out⟩
set_option maxHeartbeats 6400000 in
theorem statWin {w : World} {base W : Nat} {c : Cn} {A : Option Addr} {l k : Nat} {t : Int} {R cap : Nat} {ps : List PlV} {air : Nat} {ev : Value} {cr : Int} (h : WdAt w base W c A l k t R cap ps air ev cr) {i j : Nat} {p q : PlV} {np nq : NdI} (hp : ps[i]? = some p) (hn : p.nd = some np) (hq : ps[j]? = some q) (hnq : q.nd = some nq) (n f dmin dmax rho slew round window attend seen hist fly quota body : Int) (A1 : Option Addr) (lk ck : Nat) (v0 v1 v2 v3 v4 v5 v6 v7 v8 v9 v10 dl v12 v13 : Int) (HO : Hid (∀ X, Calls Tryz.prog 44 #[.agg #[.int .i64 n, .slice A1 lk ck, .int .i64 f, .int .i64 dmin, .int .i64 dmax, .int .i64 rho, .int .i64 slew, .int .i64 round, .int .i64 window, .int .i64 attend, .int .i64 seen, .int .i64 hist, .int .i64 fly, .int .i64 quota, .int .i64 body]] X fun e w' => e = .returned (.tuple #[.agg #[.int .i64 v0, .int .i64 v1, .int .i64 v2, .int .i64 v3, .int .i64 v4, .int .i64 v5, .int .i64 v6, .int .i64 v7, .int .i64 v8, .int .i64 v9, .int .i64 v10, .int .i64 dl, .int .i64 v12, .int .i64 v13], .int .i64 0]) ∧ Below X.heap.size X w'))
    (hd : -1000000000000000 ≤ dl ∧ dl ≤ 1000000000000000) (ha : 0 ≤ p.at_ ∧ p.at_ ≤ 1152921504606846976) (hb : 0 ≤ q.at_ ∧ q.at_ ≤ 1152921504606846976) :
    Calls Tryz.prog 41 #[.agg #[.int .i64 n, .slice A1 lk ck, .int .i64 f, .int .i64 dmin, .int .i64 dmax, .int .i64 rho, .int .i64 slew, .int .i64 round, .int .i64 window, .int .i64 attend, .int .i64 seen, .int .i64 hist, .int .i64 fly, .int .i64 quota, .int .i64 body], .pointer (some ⟨W, 0, none⟩), .int .i64 (i : Int), .int .i64 (j : Int)] w fun e w' => e = .returned (.tuple #[.int .i64 (-1), .int .i64 (min p.at_ q.at_ - dl), .bool true]) ∧ Below w.heap.size w w' := by
  have b1 := (Below.refl w.heap.size w).alloc (Nat.le_refl _) (.cells #[.int .i64 n, .slice A1 lk ck, .int .i64 f, .int .i64 dmin, .int .i64 dmax, .int .i64 rho, .int .i64 slew, .int .i64 round, .int .i64 window, .int .i64 attend, .int .i64 seen, .int .i64 hist, .int .i64 fly, .int .i64 quota, .int .i64 body] 32)
  have k1 := boxF_made w [.int .i64 n, .slice A1 lk ck, .int .i64 f, .int .i64 dmin, .int .i64 dmax, .int .i64 rho, .int .i64 slew, .int .i64 round, .int .i64 window, .int .i64 attend, .int .i64 seen, .int .i64 hist, .int .i64 fly, .int .i64 quota, .int .i64 body] 32
  obtain ⟨w1, hw1⟩ : ∃ x, w.alloc (.cells #[.int .i64 n, .slice A1 lk ck, .int .i64 f, .int .i64 dmin, .int .i64 dmax, .int .i64 rho, .int .i64 slew, .int .i64 round, .int .i64 window, .int .i64 attend, .int .i64 seen, .int .i64 hist, .int .i64 fly, .int .i64 quota, .int .i64 body] 32) = x := ⟨_, rfl⟩
  rw [hw1] at b1
  replace k1 : BoxF w1 w.heap.size [.int .i64 n, .slice A1 lk ck, .int .i64 f, .int .i64 dmin, .int .i64 dmax, .int .i64 rho, .int .i64 slew, .int .i64 round, .int .i64 window, .int .i64 attend, .int .i64 seen, .int .i64 hist, .int .i64 fly, .int .i64 quota, .int .i64 body] := hw1 ▸ k1
  have d0 := k1.1 0 _ rfl
  have d1 := k1.1 1 _ rfl
  have d2 := k1.1 2 _ rfl
  have d3 := k1.1 3 _ rfl
  have d4 := k1.1 4 _ rfl
  have d5 := k1.1 5 _ rfl
  have d6 := k1.1 6 _ rfl
  have d7 := k1.1 7 _ rfl
  have d8 := k1.1 8 _ rfl
  have d9 := k1.1 9 _ rfl
  have d10 := k1.1 10 _ rfl
  have d11 := k1.1 11 _ rfl
  have d12 := k1.1 12 _ rfl
  have d13 := k1.1 13 _ rfl
  have d14 := k1.1 14 _ rfl
  have HW : Hid (∀ X, Below w1.heap.size w1 X → WdAt X base W c A l k t R cap ps air ev cr) := fun X hX => (h.below b1).below hX
  have CM1 : Hid (∀ X, Below w1.heap.size w1 X → _) := fun X hX => worldMemberT (HW.out X hX) hp hn
  have CM2 : Hid (∀ X, Below w1.heap.size w1 X → _) := fun X hX => worldMemberT (HW.out X hX) hq hnq
  have CC1 : Hid (∀ X, Below w1.heap.size w1 X → _) := fun X hX => worldClockT (HW.out X hX) hp hn
  have CC2 : Hid (∀ X, Below w1.heap.size w1 X → _) := fun X hX => worldClockT (HW.out X hX) hq hnq
  have CF1 : Hid (∀ X, Below w1.heap.size w1 X → _) := fun X hX => statFrom (HW.out X hX) hp hn n f dmin dmax rho slew round window attend seen hist fly quota body A1 lk ck
  have CF2 : Hid (∀ X, Below w1.heap.size w1 X → _) := fun X hX => statFrom (HW.out X hX) hq hnq n f dmin dmax rho slew round window attend seen hist fly quota body A1 lk ck
  have hwr : IntKind.i64.wrap (min p.at_ q.at_ - dl) = min p.at_ q.at_ - dl := by rw [IntKind.wrap_i64]; omega
  have H1 := Lib.hid (And.intro k1 b1)
  obtain ⟨pa, hpa⟩ : ∃ x, p.at_ = x := ⟨_, rfl⟩
  obtain ⟨qa, hqa⟩ : ∃ x, q.at_ = x := ⟨_, rfl⟩
  rw [hpa] at CC1 hwr ha ⊢
  rw [hqa] at CC2 hwr hb ⊢
  clear h hp hn hq hnq hpa hqa k1 b1
  go_enter Tryz.func41, Tryz.ntmps41
  go_wp2_with fail
  refine (HO.out w1).mono ?_
  rintro e w2 ⟨rfl, hb2⟩
  have b3 := (Below.refl w2.heap.size w2).alloc (Nat.le_refl _) (.cells #[.int .i64 v0, .int .i64 v1, .int .i64 v2, .int .i64 v3, .int .i64 v4, .int .i64 v5, .int .i64 v6, .int .i64 v7, .int .i64 v8, .int .i64 v9, .int .i64 v10, .int .i64 dl, .int .i64 v12, .int .i64 v13] 101)
  have k3 := boxF_made w2 [.int .i64 v0, .int .i64 v1, .int .i64 v2, .int .i64 v3, .int .i64 v4, .int .i64 v5, .int .i64 v6, .int .i64 v7, .int .i64 v8, .int .i64 v9, .int .i64 v10, .int .i64 dl, .int .i64 v12, .int .i64 v13] 101
  obtain ⟨w3, hw3⟩ : ∃ x, w2.alloc (.cells #[.int .i64 v0, .int .i64 v1, .int .i64 v2, .int .i64 v3, .int .i64 v4, .int .i64 v5, .int .i64 v6, .int .i64 v7, .int .i64 v8, .int .i64 v9, .int .i64 v10, .int .i64 dl, .int .i64 v12, .int .i64 v13] 101) = x := ⟨_, rfl⟩
  rw [hw3] at b3
  replace k3 : BoxF w3 w2.heap.size [.int .i64 v0, .int .i64 v1, .int .i64 v2, .int .i64 v3, .int .i64 v4, .int .i64 v5, .int .i64 v6, .int .i64 v7, .int .i64 v8, .int .i64 v9, .int .i64 v10, .int .i64 dl, .int .i64 v12, .int .i64 v13] := hw3 ▸ k3
  have H3 := Lib.hid (And.intro k3 (And.intro (hb2.trans (b3.mono hb2.size)) (H1.out.1.keep (hb2.trans (b3.mono hb2.size)))))
  have f0 := k3.1 0 _ rfl
  have f1 := k3.1 1 _ rfl
  have f2 := k3.1 2 _ rfl
  have f3 := k3.1 3 _ rfl
  have f4 := k3.1 4 _ rfl
  have f5 := k3.1 5 _ rfl
  have f6 := k3.1 6 _ rfl
  have f7 := k3.1 7 _ rfl
  have f8 := k3.1 8 _ rfl
  have f9 := k3.1 9 _ rfl
  have f10 := k3.1 10 _ rfl
  have f11 := k3.1 11 _ rfl
  have f12 := k3.1 12 _ rfl
  have f13 := k3.1 13 _ rfl
  have q3 := H3.out.2.2
  have g0 := q3.1 0 _ rfl
  have g1 := q3.1 1 _ rfl
  have g2 := q3.1 2 _ rfl
  have g3 := q3.1 3 _ rfl
  have g4 := q3.1 4 _ rfl
  have g5 := q3.1 5 _ rfl
  have g6 := q3.1 6 _ rfl
  have g7 := q3.1 7 _ rfl
  have g8 := q3.1 8 _ rfl
  have g9 := q3.1 9 _ rfl
  have g10 := q3.1 10 _ rfl
  have g11 := q3.1 11 _ rfl
  have g12 := q3.1 12 _ rfl
  have g13 := q3.1 13 _ rfl
  have g14 := q3.1 14 _ rfl
  clear hb2 k3 b3 q3 d0 d1 d2 d3 d4 d5 d6 d7 d8 d9 d10 d11 d12 d13 d14
  go_wp2_with fail
  refine (CM1.out w3 H3.out.2.1).mono ?_
  rintro e w' ⟨rfl, rfl⟩
  go_wp2_with fail
  refine (CM2.out w3 H3.out.2.1).mono ?_
  rintro e w' ⟨rfl, rfl⟩
  go_wp2_with fail
  refine (CC1.out w3 H3.out.2.1).mono ?_
  rintro e w' ⟨rfl, rfl⟩
  go_wp2_with fail
  refine (CC2.out w3 H3.out.2.1).mono ?_
  rintro e w' ⟨rfl, rfl⟩
  have HK : Hid (∀ X, Below w3.heap.size w3 X → BoxF X w.heap.size [.int .i64 n, .slice A1 lk ck, .int .i64 f, .int .i64 dmin, .int .i64 dmax, .int .i64 rho, .int .i64 slew, .int .i64 round, .int .i64 window, .int .i64 attend, .int .i64 seen, .int .i64 hist, .int .i64 fly, .int .i64 quota, .int .i64 body] ∧ BoxF X w2.heap.size [.int .i64 v0, .int .i64 v1, .int .i64 v2, .int .i64 v3, .int .i64 v4, .int .i64 v5, .int .i64 v6, .int .i64 v7, .int .i64 v8, .int .i64 v9, .int .i64 v10, .int .i64 dl, .int .i64 v12, .int .i64 v13]) := fun X hX => ⟨H3.out.2.2.keep hX, H3.out.1.keep hX⟩
  have HD : Hid (Below w3.heap.size w3 w3.drew) := (Below.refl _ _).drew
  clear hw1 hw3 f0 f1 f2 f3 f4 f5 f6 f7 f8 f9 f10 f11 f12 f13 g0 g1 g2 g3 g4 g5 g6 g7 g8 g9 g10 g11 g12 g13 g14
  go_wp2_with fail
  refine wp_region_plan [] [(true, 0), (true, 1), (true, 2), (true, 4), (true, 5), (true, 6), (true, 9), (true, 10), (true, 11), (true, 12), (true, 13), (true, 14), (false, 3), (false, 7), (true, 8), (true, 15), (true, 16), (true, 17)] 18 12 (fun X => Below w3.heap.size w3 X) (by kernel_rfl) (by kernel_rfl) (by intro c a t v w h; exact h) HD.out ?_
  simp only [pickB, pickL, List.drop_succ_cons, List.drop_zero, List.head?_cons, Option.toList_some, List.map_cons, List.map_nil, List.cons_append, List.nil_append]
  refine wpHead_nil ?_
  iterate 12 (refine wpPlan_rd _ (by rfl) (by intro W9 hW; have hr := HK.out W9 hW; have kc := hr.1; have kb := hr.2; have y0 := kc.1 0 _ rfl; have y1 := kc.1 1 _ rfl; have y2 := kc.1 2 _ rfl; have y3 := kc.1 3 _ rfl; have y4 := kc.1 4 _ rfl; have y5 := kc.1 5 _ rfl; have y6 := kc.1 6 _ rfl; have y7 := kc.1 7 _ rfl; have y8 := kc.1 8 _ rfl; have y9 := kc.1 9 _ rfl; have y10 := kc.1 10 _ rfl; have y11 := kc.1 11 _ rfl; have y12 := kc.1 12 _ rfl; have y13 := kc.1 13 _ rfl; have y14 := kc.1 14 _ rfl; have z0 := kb.1 0 _ rfl; have z1 := kb.1 1 _ rfl; have z2 := kb.1 2 _ rfl; have z3 := kb.1 3 _ rfl; have z4 := kb.1 4 _ rfl; have z5 := kb.1 5 _ rfl; have z6 := kb.1 6 _ rfl; have z7 := kb.1 7 _ rfl; have z8 := kb.1 8 _ rfl; have z9 := kb.1 9 _ rfl; have z10 := kb.1 10 _ rfl; have z11 := kb.1 11 _ rfl; have z12 := kb.1 12 _ rfl; have z13 := kb.1 13 _ rfl; clear hr kc kb hW; go_simp; with_reducible rfl) ?_; simp only [Act.put, List.setIfInBounds_toArray, List.set_cons_zero, List.set_cons_succ])
  refine wpPlan_do (by rfl) ?_
  go_simp
  go_at_call 101
  refine (CF1.out _ (H3.out.2.1.trans (HD.out.mono H3.out.2.1.size))).mono ?_
  rintro e w4 ⟨rfl, hb4⟩
  have HB4 : Hid (Below w3.heap.size w3 w4) := HD.out.trans (hb4.mono HD.out.size)
  clear hb4
  refine ⟨HB4.out, ?_⟩
  refine wpPlan_do (by rfl) ?_
  go_simp
  go_at_call 101
  refine (CF2.out _ (H3.out.2.1.trans (HB4.out.mono H3.out.2.1.size))).mono ?_
  rintro e w5 ⟨rfl, hb5⟩
  have HB5 : Hid (Below w3.heap.size w3 w5) := HB4.out.trans (hb5.mono HB4.out.size)
  clear hb5
  refine ⟨HB5.out, ?_⟩
  iterate 4 (refine wpPlan_rd _ (by rfl) (by intro W9 hW; have hr := HK.out W9 hW; have kc := hr.1; have kb := hr.2; have y0 := kc.1 0 _ rfl; have y1 := kc.1 1 _ rfl; have y2 := kc.1 2 _ rfl; have y3 := kc.1 3 _ rfl; have y4 := kc.1 4 _ rfl; have y5 := kc.1 5 _ rfl; have y6 := kc.1 6 _ rfl; have y7 := kc.1 7 _ rfl; have y8 := kc.1 8 _ rfl; have y9 := kc.1 9 _ rfl; have y10 := kc.1 10 _ rfl; have y11 := kc.1 11 _ rfl; have y12 := kc.1 12 _ rfl; have y13 := kc.1 13 _ rfl; have y14 := kc.1 14 _ rfl; have z0 := kb.1 0 _ rfl; have z1 := kb.1 1 _ rfl; have z2 := kb.1 2 _ rfl; have z3 := kb.1 3 _ rfl; have z4 := kb.1 4 _ rfl; have z5 := kb.1 5 _ rfl; have z6 := kb.1 6 _ rfl; have z7 := kb.1 7 _ rfl; have z8 := kb.1 8 _ rfl; have z9 := kb.1 9 _ rfl; have z10 := kb.1 10 _ rfl; have z11 := kb.1 11 _ rfl; have z12 := kb.1 12 _ rfl; have z13 := kb.1 13 _ rfl; clear hr kc kb hW; go_simp; with_reducible rfl) ?_; simp only [Act.put, List.setIfInBounds_toArray, List.set_cons_zero, List.set_cons_succ])
  refine wpPlan_nil ?_
  have HF : Hid (Below w.heap.size w w5) := H1.out.2.trans ((H3.out.2.1.trans (HB5.out.mono H3.out.2.1.size)).mono H1.out.2.size)
  go_wp2
  go_ret3
  exact ⟨rfl, HF.out⟩
set_option maxHeartbeats 6400000 in
theorem statAgree {w : World} {base W : Nat} {c : Cn} {A : Option Addr} {l k : Nat} {t : Int} {R cap : Nat} {ps : List PlV} {air : Nat} {ev : Value} {cr : Int} (h : WdAt w base W c A l k t R cap ps air ev cr) {i j : Nat} {p q : PlV} {np nq : NdI} (hp : ps[i]? = some p) (hn : p.nd = some np) (hq : ps[j]? = some q) (hnq : q.nd = some nq) (n f dmin dmax rho slew round window attend seen hist fly quota body : Int) (A1 : Option Addr) (lk ck : Nat) (v0 v1 v2 v3 v4 v5 v6 v7 v8 v9 v10 dl v12 v13 : Int) (HO : Hid (∀ X, Calls Tryz.prog 44 #[.agg #[.int .i64 n, .slice A1 lk ck, .int .i64 f, .int .i64 dmin, .int .i64 dmax, .int .i64 rho, .int .i64 slew, .int .i64 round, .int .i64 window, .int .i64 attend, .int .i64 seen, .int .i64 hist, .int .i64 fly, .int .i64 quota, .int .i64 body]] X fun e w' => e = .returned (.tuple #[.agg #[.int .i64 v0, .int .i64 v1, .int .i64 v2, .int .i64 v3, .int .i64 v4, .int .i64 v5, .int .i64 v6, .int .i64 v7, .int .i64 v8, .int .i64 v9, .int .i64 v10, .int .i64 dl, .int .i64 v12, .int .i64 v13], .int .i64 0]) ∧ Below X.heap.size X w'))
    (hd : -1000000000000000 ≤ dl ∧ dl ≤ 1000000000000000) (ha : 0 ≤ p.at_ ∧ p.at_ ≤ 1152921504606846976) (hb : 0 ≤ q.at_ ∧ q.at_ ≤ 1152921504606846976) :
    Calls Tryz.prog 11 #[.agg #[.int .i64 n, .slice A1 lk ck, .int .i64 f, .int .i64 dmin, .int .i64 dmax, .int .i64 rho, .int .i64 slew, .int .i64 round, .int .i64 window, .int .i64 attend, .int .i64 seen, .int .i64 hist, .int .i64 fly, .int .i64 quota, .int .i64 body], .pointer (some ⟨W, 0, none⟩), .int .i64 (i : Int), .int .i64 (j : Int)] w fun e w' => e = .returned (.bool true) ∧ Below w.heap.size w w' := by
  have b1 := (Below.refl w.heap.size w).alloc (Nat.le_refl _) (.cells #[.int .i64 n, .slice A1 lk ck, .int .i64 f, .int .i64 dmin, .int .i64 dmax, .int .i64 rho, .int .i64 slew, .int .i64 round, .int .i64 window, .int .i64 attend, .int .i64 seen, .int .i64 hist, .int .i64 fly, .int .i64 quota, .int .i64 body] 32)
  have k1 := boxF_made w [.int .i64 n, .slice A1 lk ck, .int .i64 f, .int .i64 dmin, .int .i64 dmax, .int .i64 rho, .int .i64 slew, .int .i64 round, .int .i64 window, .int .i64 attend, .int .i64 seen, .int .i64 hist, .int .i64 fly, .int .i64 quota, .int .i64 body] 32
  obtain ⟨w1, hw1⟩ : ∃ x, w.alloc (.cells #[.int .i64 n, .slice A1 lk ck, .int .i64 f, .int .i64 dmin, .int .i64 dmax, .int .i64 rho, .int .i64 slew, .int .i64 round, .int .i64 window, .int .i64 attend, .int .i64 seen, .int .i64 hist, .int .i64 fly, .int .i64 quota, .int .i64 body] 32) = x := ⟨_, rfl⟩
  rw [hw1] at b1
  replace k1 : BoxF w1 w.heap.size [.int .i64 n, .slice A1 lk ck, .int .i64 f, .int .i64 dmin, .int .i64 dmax, .int .i64 rho, .int .i64 slew, .int .i64 round, .int .i64 window, .int .i64 attend, .int .i64 seen, .int .i64 hist, .int .i64 fly, .int .i64 quota, .int .i64 body] := hw1 ▸ k1
  have d0 := k1.1 0 _ rfl
  have d1 := k1.1 1 _ rfl
  have d2 := k1.1 2 _ rfl
  have d3 := k1.1 3 _ rfl
  have d4 := k1.1 4 _ rfl
  have d5 := k1.1 5 _ rfl
  have d6 := k1.1 6 _ rfl
  have d7 := k1.1 7 _ rfl
  have d8 := k1.1 8 _ rfl
  have d9 := k1.1 9 _ rfl
  have d10 := k1.1 10 _ rfl
  have d11 := k1.1 11 _ rfl
  have d12 := k1.1 12 _ rfl
  have d13 := k1.1 13 _ rfl
  have d14 := k1.1 14 _ rfl
  have HW : Hid (∀ X, Below w1.heap.size w1 X → WdAt X base W c A l k t R cap ps air ev cr) := fun X hX => (h.below b1).below hX
  have CW := Lib.hid (statWin (h.below b1) hp hn hq hnq n f dmin dmax rho slew round window attend seen hist fly quota body A1 lk ck v0 v1 v2 v3 v4 v5 v6 v7 v8 v9 v10 dl v12 v13 HO hd ha hb)
  have CP1 : Hid (∀ (lo hi : Int) X, Below w1.heap.size w1 X → _) := fun lo hi X hX => statPart (HW.out X hX) hp hn lo hi
  have CP2 : Hid (∀ (lo hi : Int) X, Below w1.heap.size w1 X → _) := fun lo hi X hX => statPart (HW.out X hX) hq hnq lo hi
  have HB1 := Lib.hid b1
  obtain ⟨mm, hmm⟩ : ∃ x, min p.at_ q.at_ - dl = x := ⟨_, rfl⟩
  rw [hmm] at CW
  clear h hp hn hq hnq hmm k1 b1 ha hb hd
  go_enter Tryz.func11, Tryz.ntmps11
  go_wp2_with fail
  refine CW.out.mono ?_
  rintro e w2 ⟨rfl, hb2⟩
  have H2 := Lib.hid hb2
  clear hb2 hw1 d0 d1 d2 d3 d4 d5 d6 d7 d8 d9 d10 d11 d12 d13 d14
  go_wp2_with fail
  refine (CP1.out (-1) mm w2 H2.out).mono ?_
  rintro e w' ⟨rfl, rfl⟩
  go_wp2_with fail
  refine (CP2.out (-1) mm w2 H2.out).mono ?_
  rintro e w' ⟨rfl, rfl⟩
  have HF : Hid (Below w.heap.size w w2) := HB1.out.trans (H2.out.mono HB1.out.size)
  go_wp2
  go_loop [14, 43] (fun s i => i = .int .i64 0) (fun _ _ => 0)
  case atStart => rfl
  case round =>
    subst hrel
    go_wp2
    go_ret
    exact ⟨rfl, HF.out⟩
set_option maxHeartbeats 6400000 in
theorem statAlike {w : World} {base W : Nat} {c : Cn} {A : Option Addr} {l k : Nat} {t : Int} {R cap : Nat} {ps : List PlV} {air : Nat} {ev : Value} {cr : Int} (h : WdAt w base W c A l k t R cap ps air ev cr) {i j : Nat} {p q : PlV} {np nq : NdI} (hp : ps[i]? = some p) (hn : p.nd = some np) (hq : ps[j]? = some q) (hnq : q.nd = some nq) (n f dmin dmax rho slew round window attend seen hist fly quota body : Int) (A1 : Option Addr) (lk ck : Nat) (v0 v1 v2 v3 v4 v5 v6 v7 v8 v9 v10 dl v12 v13 : Int) (HO : Hid (∀ X, Calls Tryz.prog 44 #[.agg #[.int .i64 n, .slice A1 lk ck, .int .i64 f, .int .i64 dmin, .int .i64 dmax, .int .i64 rho, .int .i64 slew, .int .i64 round, .int .i64 window, .int .i64 attend, .int .i64 seen, .int .i64 hist, .int .i64 fly, .int .i64 quota, .int .i64 body]] X fun e w' => e = .returned (.tuple #[.agg #[.int .i64 v0, .int .i64 v1, .int .i64 v2, .int .i64 v3, .int .i64 v4, .int .i64 v5, .int .i64 v6, .int .i64 v7, .int .i64 v8, .int .i64 v9, .int .i64 v10, .int .i64 dl, .int .i64 v12, .int .i64 v13], .int .i64 0]) ∧ Below X.heap.size X w'))
    (hd : -1000000000000000 ≤ dl ∧ dl ≤ 1000000000000000) (ha : 0 ≤ p.at_ ∧ p.at_ ≤ 1152921504606846976) (hb : 0 ≤ q.at_ ∧ q.at_ ≤ 1152921504606846976) :
    Calls Tryz.prog 12 #[.agg #[.int .i64 n, .slice A1 lk ck, .int .i64 f, .int .i64 dmin, .int .i64 dmax, .int .i64 rho, .int .i64 slew, .int .i64 round, .int .i64 window, .int .i64 attend, .int .i64 seen, .int .i64 hist, .int .i64 fly, .int .i64 quota, .int .i64 body], .pointer (some ⟨W, 0, none⟩), .int .i64 (i : Int), .int .i64 (j : Int)] w fun e w' => e = .returned (.bool true) ∧ Below w.heap.size w w' := by
  have b1 := (Below.refl w.heap.size w).alloc (Nat.le_refl _) (.cells #[.int .i64 n, .slice A1 lk ck, .int .i64 f, .int .i64 dmin, .int .i64 dmax, .int .i64 rho, .int .i64 slew, .int .i64 round, .int .i64 window, .int .i64 attend, .int .i64 seen, .int .i64 hist, .int .i64 fly, .int .i64 quota, .int .i64 body] 32)
  have k1 := boxF_made w [.int .i64 n, .slice A1 lk ck, .int .i64 f, .int .i64 dmin, .int .i64 dmax, .int .i64 rho, .int .i64 slew, .int .i64 round, .int .i64 window, .int .i64 attend, .int .i64 seen, .int .i64 hist, .int .i64 fly, .int .i64 quota, .int .i64 body] 32
  obtain ⟨w1, hw1⟩ : ∃ x, w.alloc (.cells #[.int .i64 n, .slice A1 lk ck, .int .i64 f, .int .i64 dmin, .int .i64 dmax, .int .i64 rho, .int .i64 slew, .int .i64 round, .int .i64 window, .int .i64 attend, .int .i64 seen, .int .i64 hist, .int .i64 fly, .int .i64 quota, .int .i64 body] 32) = x := ⟨_, rfl⟩
  rw [hw1] at b1
  replace k1 : BoxF w1 w.heap.size [.int .i64 n, .slice A1 lk ck, .int .i64 f, .int .i64 dmin, .int .i64 dmax, .int .i64 rho, .int .i64 slew, .int .i64 round, .int .i64 window, .int .i64 attend, .int .i64 seen, .int .i64 hist, .int .i64 fly, .int .i64 quota, .int .i64 body] := hw1 ▸ k1
  have d0 := k1.1 0 _ rfl
  have d1 := k1.1 1 _ rfl
  have d2 := k1.1 2 _ rfl
  have d3 := k1.1 3 _ rfl
  have d4 := k1.1 4 _ rfl
  have d5 := k1.1 5 _ rfl
  have d6 := k1.1 6 _ rfl
  have d7 := k1.1 7 _ rfl
  have d8 := k1.1 8 _ rfl
  have d9 := k1.1 9 _ rfl
  have d10 := k1.1 10 _ rfl
  have d11 := k1.1 11 _ rfl
  have d12 := k1.1 12 _ rfl
  have d13 := k1.1 13 _ rfl
  have d14 := k1.1 14 _ rfl
  have HW : Hid (∀ X, Below w1.heap.size w1 X → WdAt X base W c A l k t R cap ps air ev cr) := fun X hX => (h.below b1).below hX
  have CW := Lib.hid (statWin (h.below b1) hp hn hq hnq n f dmin dmax rho slew round window attend seen hist fly quota body A1 lk ck v0 v1 v2 v3 v4 v5 v6 v7 v8 v9 v10 dl v12 v13 HO hd ha hb)
  have CS1 : Hid (∀ X, Below w1.heap.size w1 X → _) := fun X hX => worldSinceT (HW.out X hX) hp hn
  have CS2 : Hid (∀ X, Below w1.heap.size w1 X → _) := fun X hX => worldSinceT (HW.out X hX) hq hnq
  have CV1 : Hid (∀ (at_ : Int) X, Below w1.heap.size w1 X → _) := fun at_ X hX => statViews (HW.out X hX) hp hn at_
  have CV2 : Hid (∀ (at_ : Int) X, Below w1.heap.size w1 X → _) := fun at_ X hX => statViews (HW.out X hX) hq hnq at_
  have hwr : IntKind.i64.wrap (min p.at_ q.at_ - dl + dl) = min p.at_ q.at_ - dl + dl := by rw [IntKind.wrap_i64]; omega
  have H1 := Lib.hid (And.intro k1 b1)
  obtain ⟨mm, hmm⟩ : ∃ x, min p.at_ q.at_ - dl = x := ⟨_, rfl⟩
  rw [hmm] at CW hwr
  clear h hp hn hq hnq hmm k1 b1 ha hb hd
  go_enter Tryz.func12, Tryz.ntmps12
  go_wp2_with fail
  refine CW.out.mono ?_
  rintro e w0 ⟨rfl, hb0⟩
  have q0 := H1.out.1.keep hb0
  have g0 := q0.1 0 _ rfl
  have g1 := q0.1 1 _ rfl
  have g2 := q0.1 2 _ rfl
  have g3 := q0.1 3 _ rfl
  have g4 := q0.1 4 _ rfl
  have g5 := q0.1 5 _ rfl
  have g6 := q0.1 6 _ rfl
  have g7 := q0.1 7 _ rfl
  have g8 := q0.1 8 _ rfl
  have g9 := q0.1 9 _ rfl
  have g10 := q0.1 10 _ rfl
  have g11 := q0.1 11 _ rfl
  have g12 := q0.1 12 _ rfl
  have g13 := q0.1 13 _ rfl
  have g14 := q0.1 14 _ rfl
  have H0 := Lib.hid hb0
  clear hw1 hb0 q0 d0 d1 d2 d3 d4 d5 d6 d7 d8 d9 d10 d11 d12 d13 d14
  go_wp2_with fail
  refine (HO.out w0).mono ?_
  rintro e w2 ⟨rfl, hb2⟩
  have b3 := (Below.refl w2.heap.size w2).alloc (Nat.le_refl _) (.cells #[.int .i64 v0, .int .i64 v1, .int .i64 v2, .int .i64 v3, .int .i64 v4, .int .i64 v5, .int .i64 v6, .int .i64 v7, .int .i64 v8, .int .i64 v9, .int .i64 v10, .int .i64 dl, .int .i64 v12, .int .i64 v13] 101)
  have k3 := boxF_made w2 [.int .i64 v0, .int .i64 v1, .int .i64 v2, .int .i64 v3, .int .i64 v4, .int .i64 v5, .int .i64 v6, .int .i64 v7, .int .i64 v8, .int .i64 v9, .int .i64 v10, .int .i64 dl, .int .i64 v12, .int .i64 v13] 101
  obtain ⟨w3, hw3⟩ : ∃ x, w2.alloc (.cells #[.int .i64 v0, .int .i64 v1, .int .i64 v2, .int .i64 v3, .int .i64 v4, .int .i64 v5, .int .i64 v6, .int .i64 v7, .int .i64 v8, .int .i64 v9, .int .i64 v10, .int .i64 dl, .int .i64 v12, .int .i64 v13] 101) = x := ⟨_, rfl⟩
  rw [hw3] at b3
  replace k3 : BoxF w3 w2.heap.size [.int .i64 v0, .int .i64 v1, .int .i64 v2, .int .i64 v3, .int .i64 v4, .int .i64 v5, .int .i64 v6, .int .i64 v7, .int .i64 v8, .int .i64 v9, .int .i64 v10, .int .i64 dl, .int .i64 v12, .int .i64 v13] := hw3 ▸ k3
  have H3 := Lib.hid (And.intro k3 (H0.out.trans ((hb2.trans (b3.mono hb2.size)).mono H0.out.size)))
  clear hb2 k3 b3 g0 g1 g2 g3 g4 g5 g6 g7 g8 g9 g10 g11 g12 g13 g14
  go_wp2_with fail
  refine (CS1.out w3 H3.out.2).mono ?_
  rintro e w' ⟨rfl, rfl⟩
  go_wp2_with fail
  refine (CS2.out w3 H3.out.2).mono ?_
  rintro e w' ⟨rfl, rfl⟩
  have HK : Hid (∀ X, Below w3.heap.size w3 X → BoxF X w2.heap.size [.int .i64 v0, .int .i64 v1, .int .i64 v2, .int .i64 v3, .int .i64 v4, .int .i64 v5, .int .i64 v6, .int .i64 v7, .int .i64 v8, .int .i64 v9, .int .i64 v10, .int .i64 dl, .int .i64 v12, .int .i64 v13]) := fun X hX => H3.out.1.keep hX
  have HD : Hid (Below w3.heap.size w3 w3.drew) := (Below.refl _ _).drew
  clear hw3
  go_wp2_with fail
  refine wp_region_plan [] [(true, 0), (true, 1), (true, 2), (true, 3), (true, 4), (true, 5), (true, 6), (true, 7), (true, 8), (true, 10), (true, 11), (true, 12), (true, 13), (true, 14), (true, 15), (true, 16), (true, 17), (true, 18), (false, 9), (false, 19), (true, 20), (true, 21)] 22 12 (fun X => Below w3.heap.size w3 X) (by kernel_rfl) (by kernel_rfl) (by intro c a t v w h; exact h) HD.out ?_
  simp only [pickB, pickL, List.drop_succ_cons, List.drop_zero, List.head?_cons, Option.toList_some, List.map_cons, List.map_nil, List.cons_append, List.nil_append]
  refine wpHead_nil ?_
  iterate 18 (refine wpPlan_rd _ (by rfl) (by intro W9 hW; have kb := (HK.out W9 hW); have z0 := kb.1 0 _ rfl; have z1 := kb.1 1 _ rfl; have z2 := kb.1 2 _ rfl; have z3 := kb.1 3 _ rfl; have z4 := kb.1 4 _ rfl; have z5 := kb.1 5 _ rfl; have z6 := kb.1 6 _ rfl; have z7 := kb.1 7 _ rfl; have z8 := kb.1 8 _ rfl; have z9 := kb.1 9 _ rfl; have z10 := kb.1 10 _ rfl; have z11 := kb.1 11 _ rfl; have z12 := kb.1 12 _ rfl; have z13 := kb.1 13 _ rfl; clear kb hW; go_simp; with_reducible rfl) ?_; simp only [Act.put, List.setIfInBounds_toArray, List.set_cons_zero, List.set_cons_succ])
  refine wpPlan_do (by rfl) ?_
  go_simp
  go_at_call 46
  refine (CV1.out _ _ (H3.out.2.trans (HD.out.mono H3.out.2.size))).mono ?_
  rintro e w4 ⟨rfl, hb4⟩
  have HB4 : Hid (Below w3.heap.size w3 w4) := HD.out.trans (hb4.mono HD.out.size)
  clear hb4
  refine ⟨HB4.out, ?_⟩
  refine wpPlan_do (by rfl) ?_
  go_simp
  go_at_call 46
  refine (CV2.out _ _ (H3.out.2.trans (HB4.out.mono H3.out.2.size))).mono ?_
  rintro e w5 ⟨rfl, hb5⟩
  have HB5 : Hid (Below w3.heap.size w3 w5) := HB4.out.trans (hb5.mono HB4.out.size)
  clear hb5
  refine ⟨HB5.out, ?_⟩
  iterate 2 (refine wpPlan_rd _ (by rfl) (by intro W9 hW; have kb := (HK.out W9 hW); have z0 := kb.1 0 _ rfl; have z1 := kb.1 1 _ rfl; have z2 := kb.1 2 _ rfl; have z3 := kb.1 3 _ rfl; have z4 := kb.1 4 _ rfl; have z5 := kb.1 5 _ rfl; have z6 := kb.1 6 _ rfl; have z7 := kb.1 7 _ rfl; have z8 := kb.1 8 _ rfl; have z9 := kb.1 9 _ rfl; have z10 := kb.1 10 _ rfl; have z11 := kb.1 11 _ rfl; have z12 := kb.1 12 _ rfl; have z13 := kb.1 13 _ rfl; clear kb hW; go_simp; with_reducible rfl) ?_; simp only [Act.put, List.setIfInBounds_toArray, List.set_cons_zero, List.set_cons_succ])
  refine wpPlan_nil ?_
  have HF : Hid (Below w.heap.size w w5) := H1.out.2.trans ((H3.out.2.trans (HB5.out.mono H3.out.2.size)).mono H1.out.2.size)
  go_wp2
  go_loop [20, 76] (fun s i => i = .int .i64 0) (fun _ _ => 0)
  case atStart => rfl
  case round =>
    subst hrel
    go_wp2
    go_ret
    exact ⟨rfl, HF.out⟩
set_option maxHeartbeats 6400000 in
theorem statComplete {w : World} {base W : Nat} {c : Cn} {A : Option Addr} {l k : Nat} {t : Int} {R cap : Nat} {ps : List PlV} {air : Nat} {ev : Value} {cr : Int} (h : WdAt w base W c A l k t R cap ps air ev cr) {i : Nat} {p : PlV} {np : NdI} (hp : ps[i]? = some p) (hn : p.nd = some np) (n f dmin dmax rho slew round window attend seen hist fly quota body : Int) (A1 : Option Addr) (lk ck : Nat) (v0 v1 v2 v3 v4 v5 v6 v7 v8 v9 v10 dl v12 v13 : Int) (HO : Hid (∀ X, Calls Tryz.prog 44 #[.agg #[.int .i64 n, .slice A1 lk ck, .int .i64 f, .int .i64 dmin, .int .i64 dmax, .int .i64 rho, .int .i64 slew, .int .i64 round, .int .i64 window, .int .i64 attend, .int .i64 seen, .int .i64 hist, .int .i64 fly, .int .i64 quota, .int .i64 body]] X fun e w' => e = .returned (.tuple #[.agg #[.int .i64 v0, .int .i64 v1, .int .i64 v2, .int .i64 v3, .int .i64 v4, .int .i64 v5, .int .i64 v6, .int .i64 v7, .int .i64 v8, .int .i64 v9, .int .i64 v10, .int .i64 dl, .int .i64 v12, .int .i64 v13], .int .i64 0]) ∧ Below X.heap.size X w'))
    (hd : -1000000000000000 ≤ dl ∧ dl ≤ 1000000000000000) (ha : 0 ≤ p.at_ ∧ p.at_ ≤ 1152921504606846976) :
    Calls Tryz.prog 13 #[.agg #[.int .i64 n, .slice A1 lk ck, .int .i64 f, .int .i64 dmin, .int .i64 dmax, .int .i64 rho, .int .i64 slew, .int .i64 round, .int .i64 window, .int .i64 attend, .int .i64 seen, .int .i64 hist, .int .i64 fly, .int .i64 quota, .int .i64 body], .pointer (some ⟨W, 0, none⟩), .int .i64 (i : Int)] w fun e w' => e = .returned (.bool true) ∧ Below w.heap.size w w' := by
  have b1 := (Below.refl w.heap.size w).alloc (Nat.le_refl _) (.cells #[.int .i64 n, .slice A1 lk ck, .int .i64 f, .int .i64 dmin, .int .i64 dmax, .int .i64 rho, .int .i64 slew, .int .i64 round, .int .i64 window, .int .i64 attend, .int .i64 seen, .int .i64 hist, .int .i64 fly, .int .i64 quota, .int .i64 body] 32)
  have k1 := boxF_made w [.int .i64 n, .slice A1 lk ck, .int .i64 f, .int .i64 dmin, .int .i64 dmax, .int .i64 rho, .int .i64 slew, .int .i64 round, .int .i64 window, .int .i64 attend, .int .i64 seen, .int .i64 hist, .int .i64 fly, .int .i64 quota, .int .i64 body] 32
  obtain ⟨w1, hw1⟩ : ∃ x, w.alloc (.cells #[.int .i64 n, .slice A1 lk ck, .int .i64 f, .int .i64 dmin, .int .i64 dmax, .int .i64 rho, .int .i64 slew, .int .i64 round, .int .i64 window, .int .i64 attend, .int .i64 seen, .int .i64 hist, .int .i64 fly, .int .i64 quota, .int .i64 body] 32) = x := ⟨_, rfl⟩
  rw [hw1] at b1
  replace k1 : BoxF w1 w.heap.size [.int .i64 n, .slice A1 lk ck, .int .i64 f, .int .i64 dmin, .int .i64 dmax, .int .i64 rho, .int .i64 slew, .int .i64 round, .int .i64 window, .int .i64 attend, .int .i64 seen, .int .i64 hist, .int .i64 fly, .int .i64 quota, .int .i64 body] := hw1 ▸ k1
  have d0 := k1.1 0 _ rfl
  have d1 := k1.1 1 _ rfl
  have d2 := k1.1 2 _ rfl
  have d3 := k1.1 3 _ rfl
  have d4 := k1.1 4 _ rfl
  have d5 := k1.1 5 _ rfl
  have d6 := k1.1 6 _ rfl
  have d7 := k1.1 7 _ rfl
  have d8 := k1.1 8 _ rfl
  have d9 := k1.1 9 _ rfl
  have d10 := k1.1 10 _ rfl
  have d11 := k1.1 11 _ rfl
  have d12 := k1.1 12 _ rfl
  have d13 := k1.1 13 _ rfl
  have d14 := k1.1 14 _ rfl
  have HW : Hid (∀ X, Below w1.heap.size w1 X → WdAt X base W c A l k t R cap ps air ev cr) := fun X hX => (h.below b1).below hX
  have CW := Lib.hid (statWin (h.below b1) hp hn hp hn n f dmin dmax rho slew round window attend seen hist fly quota body A1 lk ck v0 v1 v2 v3 v4 v5 v6 v7 v8 v9 v10 dl v12 v13 HO hd ha ha)
  have CL : Hid (∀ X, Below w1.heap.size w1 X → _) := fun X hX => worldLogT (HW.out X hX) hp hn
  have CS : Hid (∀ X, Below w1.heap.size w1 X → _) := fun X hX => worldSentT (HW.out X hX)
  have H1 := Lib.hid (And.intro k1 b1)
  obtain ⟨mm, hmm⟩ : ∃ x, min p.at_ p.at_ - dl = x := ⟨_, rfl⟩
  rw [hmm] at CW
  clear h hp hn hmm k1 b1 ha hd
  go_enter Tryz.func13, Tryz.ntmps13
  go_wp2_with fail
  refine CW.out.mono ?_
  rintro e w0 ⟨rfl, hb0⟩
  have q0 := H1.out.1.keep hb0
  have g0 := q0.1 0 _ rfl
  have g1 := q0.1 1 _ rfl
  have g2 := q0.1 2 _ rfl
  have g3 := q0.1 3 _ rfl
  have g4 := q0.1 4 _ rfl
  have g5 := q0.1 5 _ rfl
  have g6 := q0.1 6 _ rfl
  have g7 := q0.1 7 _ rfl
  have g8 := q0.1 8 _ rfl
  have g9 := q0.1 9 _ rfl
  have g10 := q0.1 10 _ rfl
  have g11 := q0.1 11 _ rfl
  have g12 := q0.1 12 _ rfl
  have g13 := q0.1 13 _ rfl
  have g14 := q0.1 14 _ rfl
  have H0 := Lib.hid hb0
  clear hw1 hb0 q0 d0 d1 d2 d3 d4 d5 d6 d7 d8 d9 d10 d11 d12 d13 d14
  go_wp2_with fail
  refine (HO.out w0).mono ?_
  rintro e w2 ⟨rfl, hb2⟩
  have b3 := (Below.refl w2.heap.size w2).alloc (Nat.le_refl _) (.cells #[.int .i64 v0, .int .i64 v1, .int .i64 v2, .int .i64 v3, .int .i64 v4, .int .i64 v5, .int .i64 v6, .int .i64 v7, .int .i64 v8, .int .i64 v9, .int .i64 v10, .int .i64 dl, .int .i64 v12, .int .i64 v13] 101)
  have k3 := boxF_made w2 [.int .i64 v0, .int .i64 v1, .int .i64 v2, .int .i64 v3, .int .i64 v4, .int .i64 v5, .int .i64 v6, .int .i64 v7, .int .i64 v8, .int .i64 v9, .int .i64 v10, .int .i64 dl, .int .i64 v12, .int .i64 v13] 101
  obtain ⟨w3, hw3⟩ : ∃ x, w2.alloc (.cells #[.int .i64 v0, .int .i64 v1, .int .i64 v2, .int .i64 v3, .int .i64 v4, .int .i64 v5, .int .i64 v6, .int .i64 v7, .int .i64 v8, .int .i64 v9, .int .i64 v10, .int .i64 dl, .int .i64 v12, .int .i64 v13] 101) = x := ⟨_, rfl⟩
  rw [hw3] at b3
  replace k3 : BoxF w3 w2.heap.size [.int .i64 v0, .int .i64 v1, .int .i64 v2, .int .i64 v3, .int .i64 v4, .int .i64 v5, .int .i64 v6, .int .i64 v7, .int .i64 v8, .int .i64 v9, .int .i64 v10, .int .i64 dl, .int .i64 v12, .int .i64 v13] := hw3 ▸ k3
  have H3 := Lib.hid (And.intro k3 (H0.out.trans ((hb2.trans (b3.mono hb2.size)).mono H0.out.size)))
  clear hb2 k3 b3 g0 g1 g2 g3 g4 g5 g6 g7 g8 g9 g10 g11 g12 g13 g14
  go_wp2_with fail
  refine (CL.out w3 H3.out.2).mono ?_
  rintro e w' ⟨rfl, rfl⟩
  go_wp2_with fail
  refine (CS.out w3 H3.out.2).mono ?_
  rintro e w' ⟨rfl, rfl⟩
  have HF : Hid (Below w.heap.size w w3) := H1.out.2.trans (H3.out.2.mono H1.out.2.size)
  clear hw3
  go_wp2
  go_loop [40] (fun i => i = .int .i64 0) (fun _ => 0)
  case atStart => rfl
  case round =>
    subst hrel
    go_wp2
    go_ret
    exact ⟨rfl, HF.out⟩
end Go.Proofs.YteahiphmhaedpaaGreatDoor
