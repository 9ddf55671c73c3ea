/- stats of no cluster. -/
import Derived.Test.YtffchegjegjkpaaGreatDoorStC
import Derived.Test.YtffchegjegjkpaaGreatDoorNdN
namespace Go.Proofs.YtffchegjegjkpaaGreatDoor
open Go.RowKit Law
set_option linter.unusedVariables false
set_option linter.unusedSimpArgs false
set_option maxRecDepth 100000

theorem wNowN (w : World) : Calls Tryz.prog 10 #[.pointer none] w fun e w' => e = .returned (.int .i64 0) ∧ w = w' := by
  go_enter Tryz.func10, Tryz.ntmps10
  go_wp2
  go_ret
  exact ⟨rfl, rfl⟩
theorem wNN (w : World) : Calls Tryz.prog 15 #[.pointer none] w fun e w' => e = .returned (.int .i64 0) ∧ w = w' := by
  go_enter Tryz.func15, Tryz.ntmps15
  go_wp2
  go_ret
  exact ⟨rfl, rfl⟩
theorem wSentN (w : World) : Calls Tryz.prog 11 #[.pointer none] w fun e w' => e = .returned (.slice none 0 0) ∧ w = w' := by
  go_enter Tryz.func11, Tryz.ntmps11
  go_wp2
  go_ret
  exact ⟨rfl, rfl⟩
theorem wLostN (w : World) : Calls Tryz.prog 12 #[.pointer none] w fun e w' => e = .returned (.int .i64 0) ∧ w = w' := by
  go_enter Tryz.func12, Tryz.ntmps12
  go_wp2
  go_ret
  exact ⟨rfl, rfl⟩
theorem wUnfN (w : World) : Calls Tryz.prog 13 #[.pointer none] w fun e w' => e = .returned (.int .i64 0) ∧ w = w' := by
  go_enter Tryz.func13, Tryz.ntmps13
  go_wp2
  go_ret
  exact ⟨rfl, rfl⟩
theorem wRefN (i : Int) (w : World) : Calls Tryz.prog 19 #[.pointer none, .int .i64 i] w fun e w' => e = .returned (.int .i64 0) ∧ w = w' := by
  go_enter Tryz.func19, Tryz.ntmps19
  go_wp2
  go_ret
  exact ⟨rfl, rfl⟩
theorem wAtN (i : Int) (w : World) : Calls Tryz.prog 69 #[.pointer none, .int .i64 i] w fun e w' => e = .returned (.pointer none) ∧ w = w' := by
  go_enter Tryz.func69, Tryz.ntmps69
  go_wp2
  go_ret
  exact ⟨rfl, rfl⟩
theorem wNodeN (i : Int) (w : World) : Calls Tryz.prog 35 #[.pointer none, .int .i64 i] w fun e w' => e = .returned (.pointer none) ∧ w = w' := by
  go_enter Tryz.func35, Tryz.ntmps35
  go_wp2_with fail
  refine (wAtN i w).mono ?_
  rintro e w' ⟨rfl, rfl⟩
  go_wp2
  go_ret
  exact ⟨rfl, rfl⟩
theorem wStateN (i : Int) (w : World) : Calls Tryz.prog 37 #[.pointer none, .int .i64 i] w fun e w' => e = .returned (.int .i64 0) ∧ w = w' := by
  go_enter Tryz.func37, Tryz.ntmps37
  go_wp2_with fail
  refine (wNodeN i w).mono ?_
  rintro e w' ⟨rfl, rfl⟩
  go_wp2_with fail
  refine (nilState w).mono ?_
  rintro e w' ⟨rfl, rfl⟩
  go_wp2
  go_ret
  exact ⟨rfl, rfl⟩
theorem wMemN (i : Int) (w : World) : Calls Tryz.prog 18 #[.pointer none, .int .i64 i] w fun e w' => e = .returned (.bool false) ∧ w = w' := by
  go_enter Tryz.func18, Tryz.ntmps18
  go_wp2_with fail
  refine (wStateN i w).mono ?_
  rintro e w' ⟨rfl, rfl⟩
  go_wp2
  go_ret
  exact ⟨rfl, rfl⟩
set_option maxHeartbeats 3200000 in
theorem statWinN (n f dmin dmax rho slew round window attend seen hist fly quota body : Int) (A1 : Option Addr) (lk ck : Nat) (i j : Int) (w : World) : Calls Tryz.prog 5 #[.agg #[.int .i64 n, .slice A1 lk ck, .int .i64 f, .int .i64 dmin, .int .i64 dmax, .int .i64 rho, .int .i64 slew, .int .i64 round, .int .i64 window, .int .i64 attend, .int .i64 seen, .int .i64 hist, .int .i64 fly, .int .i64 quota, .int .i64 body], .pointer none, .int .i64 i, .int .i64 j] w fun e w' => e = .returned (.tuple #[.int .i64 0, .int .i64 0, .bool false]) ∧ Below w.heap.size w w' := by
  have b1 := (Below.refl w.heap.size w).alloc (Nat.le_refl _) (.cells #[.int .i64 n, .slice A1 lk ck, .int .i64 f, .int .i64 dmin, .int .i64 dmax, .int .i64 rho, .int .i64 slew, .int .i64 round, .int .i64 window, .int .i64 attend, .int .i64 seen, .int .i64 hist, .int .i64 fly, .int .i64 quota, .int .i64 body] 24)
  have k1 := boxF_made w [.int .i64 n, .slice A1 lk ck, .int .i64 f, .int .i64 dmin, .int .i64 dmax, .int .i64 rho, .int .i64 slew, .int .i64 round, .int .i64 window, .int .i64 attend, .int .i64 seen, .int .i64 hist, .int .i64 fly, .int .i64 quota, .int .i64 body] 24
  obtain ⟨w1, hw1⟩ : ∃ x, w.alloc (.cells #[.int .i64 n, .slice A1 lk ck, .int .i64 f, .int .i64 dmin, .int .i64 dmax, .int .i64 rho, .int .i64 slew, .int .i64 round, .int .i64 window, .int .i64 attend, .int .i64 seen, .int .i64 hist, .int .i64 fly, .int .i64 quota, .int .i64 body] 24) = x := ⟨_, rfl⟩
  rw [hw1] at b1
  replace k1 : BoxF w1 w.heap.size [.int .i64 n, .slice A1 lk ck, .int .i64 f, .int .i64 dmin, .int .i64 dmax, .int .i64 rho, .int .i64 slew, .int .i64 round, .int .i64 window, .int .i64 attend, .int .i64 seen, .int .i64 hist, .int .i64 fly, .int .i64 quota, .int .i64 body] := hw1 ▸ k1
  have d0 := k1.1 0 _ rfl
  have d1 := k1.1 1 _ rfl
  have d2 := k1.1 2 _ rfl
  have d3 := k1.1 3 _ rfl
  have d4 := k1.1 4 _ rfl
  have d5 := k1.1 5 _ rfl
  have d6 := k1.1 6 _ rfl
  have d7 := k1.1 7 _ rfl
  have d8 := k1.1 8 _ rfl
  have d9 := k1.1 9 _ rfl
  have d10 := k1.1 10 _ rfl
  have d11 := k1.1 11 _ rfl
  have d12 := k1.1 12 _ rfl
  have d13 := k1.1 13 _ rfl
  have d14 := k1.1 14 _ rfl
  have C : Hid (∀ X, Calls Tryz.prog 21 #[.agg #[.int .i64 n, .slice A1 lk ck, .int .i64 f, .int .i64 dmin, .int .i64 dmax, .int .i64 rho, .int .i64 slew, .int .i64 round, .int .i64 window, .int .i64 attend, .int .i64 seen, .int .i64 hist, .int .i64 fly, .int .i64 quota, .int .i64 body]] X fun e w' => (∃ (b : Bn) (x : Int), e = .returned (.tuple #[.agg b.cells.toArray, .int .i64 x])) ∧ Below X.heap.size X w') := fun X => (ofAny ⟨n, f, dmin, dmax, rho, slew, round, window, attend, seen, hist, fly, quota, body⟩ A1 lk ck X).mono fun e w' h => ⟨by obtain ⟨⟨b, x, h1, -⟩, -⟩ := h; exact ⟨b, x, h1⟩, h.2⟩
  have HB1 := Lib.hid b1
  clear k1 b1
  go_enter Tryz.func5, Tryz.ntmps5
  go_wp2_with fail
  refine (C.out w1).mono ?_
  rintro e w2 ⟨⟨b, x, rfl⟩, hb2⟩
  obtain ⟨v0, v1, v2, v3, v4, v5, v6, v7, v8, v9, v10, v11, v12, v13⟩ := b
  simp only [Bn.cells]
  have b3 := (Below.refl w2.heap.size w2).alloc (Nat.le_refl _) (.cells #[.int .i64 v0, .int .i64 v1, .int .i64 v2, .int .i64 v3, .int .i64 v4, .int .i64 v5, .int .i64 v6, .int .i64 v7, .int .i64 v8, .int .i64 v9, .int .i64 v10, .int .i64 v11, .int .i64 v12, .int .i64 v13] 55)
  have k3 := boxF_made w2 [.int .i64 v0, .int .i64 v1, .int .i64 v2, .int .i64 v3, .int .i64 v4, .int .i64 v5, .int .i64 v6, .int .i64 v7, .int .i64 v8, .int .i64 v9, .int .i64 v10, .int .i64 v11, .int .i64 v12, .int .i64 v13] 55
  obtain ⟨w3, hw3⟩ : ∃ x, w2.alloc (.cells #[.int .i64 v0, .int .i64 v1, .int .i64 v2, .int .i64 v3, .int .i64 v4, .int .i64 v5, .int .i64 v6, .int .i64 v7, .int .i64 v8, .int .i64 v9, .int .i64 v10, .int .i64 v11, .int .i64 v12, .int .i64 v13] 55) = x := ⟨_, rfl⟩
  rw [hw3] at b3
  replace k3 : BoxF w3 w2.heap.size [.int .i64 v0, .int .i64 v1, .int .i64 v2, .int .i64 v3, .int .i64 v4, .int .i64 v5, .int .i64 v6, .int .i64 v7, .int .i64 v8, .int .i64 v9, .int .i64 v10, .int .i64 v11, .int .i64 v12, .int .i64 v13] := hw3 ▸ k3
  have HB3 := Lib.hid (HB1.out.trans ((hb2.trans (b3.mono hb2.size)).mono HB1.out.size))
  clear hb2 k3 b3 d0 d1 d2 d3 d4 d5 d6 d7 d8 d9 d10 d11 d12 d13 d14
  by_cases hx : x = 0
  · subst hx
    go_wp2_with fail
    refine (wMemN i w3).mono ?_
    rintro e w' ⟨rfl, rfl⟩
    go_wp2
    go_ret3
    exact ⟨rfl, HB3.out⟩
  · have hne : (x == 0) = false := beq_eq_false_iff_ne.2 hx
    go_wp2
    go_ret3
    exact ⟨rfl, HB3.out⟩
theorem statAgreeN (n f dmin dmax rho slew round window attend seen hist fly quota body : Int) (A1 : Option Addr) (lk ck : Nat) (i j : Int) (w : World) : Calls Tryz.prog 6 #[.agg #[.int .i64 n, .slice A1 lk ck, .int .i64 f, .int .i64 dmin, .int .i64 dmax, .int .i64 rho, .int .i64 slew, .int .i64 round, .int .i64 window, .int .i64 attend, .int .i64 seen, .int .i64 hist, .int .i64 fly, .int .i64 quota, .int .i64 body], .pointer none, .int .i64 i, .int .i64 j] w fun e w' => e = .returned (.bool true) ∧ Below w.heap.size w w' := by
  have b1 := (Below.refl w.heap.size w).alloc (Nat.le_refl _) (.cells #[.int .i64 n, .slice A1 lk ck, .int .i64 f, .int .i64 dmin, .int .i64 dmax, .int .i64 rho, .int .i64 slew, .int .i64 round, .int .i64 window, .int .i64 attend, .int .i64 seen, .int .i64 hist, .int .i64 fly, .int .i64 quota, .int .i64 body] 24)
  have k1 := boxF_made w [.int .i64 n, .slice A1 lk ck, .int .i64 f, .int .i64 dmin, .int .i64 dmax, .int .i64 rho, .int .i64 slew, .int .i64 round, .int .i64 window, .int .i64 attend, .int .i64 seen, .int .i64 hist, .int .i64 fly, .int .i64 quota, .int .i64 body] 24
  obtain ⟨w1, hw1⟩ : ∃ x, w.alloc (.cells #[.int .i64 n, .slice A1 lk ck, .int .i64 f, .int .i64 dmin, .int .i64 dmax, .int .i64 rho, .int .i64 slew, .int .i64 round, .int .i64 window, .int .i64 attend, .int .i64 seen, .int .i64 hist, .int .i64 fly, .int .i64 quota, .int .i64 body] 24) = x := ⟨_, rfl⟩
  rw [hw1] at b1
  replace k1 : BoxF w1 w.heap.size [.int .i64 n, .slice A1 lk ck, .int .i64 f, .int .i64 dmin, .int .i64 dmax, .int .i64 rho, .int .i64 slew, .int .i64 round, .int .i64 window, .int .i64 attend, .int .i64 seen, .int .i64 hist, .int .i64 fly, .int .i64 quota, .int .i64 body] := hw1 ▸ k1
  have d0 := k1.1 0 _ rfl
  have d1 := k1.1 1 _ rfl
  have d2 := k1.1 2 _ rfl
  have d3 := k1.1 3 _ rfl
  have d4 := k1.1 4 _ rfl
  have d5 := k1.1 5 _ rfl
  have d6 := k1.1 6 _ rfl
  have d7 := k1.1 7 _ rfl
  have d8 := k1.1 8 _ rfl
  have d9 := k1.1 9 _ rfl
  have d10 := k1.1 10 _ rfl
  have d11 := k1.1 11 _ rfl
  have d12 := k1.1 12 _ rfl
  have d13 := k1.1 13 _ rfl
  have d14 := k1.1 14 _ rfl
  have C := Lib.hid (statWinN n f dmin dmax rho slew round window attend seen hist fly quota body A1 lk ck i j w1)
  have HB1 := Lib.hid b1
  clear k1 b1
  go_enter Tryz.func6, Tryz.ntmps6
  go_wp2_with fail
  refine C.out.mono ?_
  rintro e w2 ⟨rfl, hb2⟩
  have HB3 := Lib.hid (HB1.out.trans (hb2.mono HB1.out.size))
  clear hb2 d0 d1 d2 d3 d4 d5 d6 d7 d8 d9 d10 d11 d12 d13 d14
  go_wp2
  go_ret
  exact ⟨rfl, HB3.out⟩
theorem statAlikeN (n f dmin dmax rho slew round window attend seen hist fly quota body : Int) (A1 : Option Addr) (lk ck : Nat) (i j : Int) (w : World) : Calls Tryz.prog 7 #[.agg #[.int .i64 n, .slice A1 lk ck, .int .i64 f, .int .i64 dmin, .int .i64 dmax, .int .i64 rho, .int .i64 slew, .int .i64 round, .int .i64 window, .int .i64 attend, .int .i64 seen, .int .i64 hist, .int .i64 fly, .int .i64 quota, .int .i64 body], .pointer none, .int .i64 i, .int .i64 j] w fun e w' => e = .returned (.bool true) ∧ Below w.heap.size w w' := by
  have b1 := (Below.refl w.heap.size w).alloc (Nat.le_refl _) (.cells #[.int .i64 n, .slice A1 lk ck, .int .i64 f, .int .i64 dmin, .int .i64 dmax, .int .i64 rho, .int .i64 slew, .int .i64 round, .int .i64 window, .int .i64 attend, .int .i64 seen, .int .i64 hist, .int .i64 fly, .int .i64 quota, .int .i64 body] 24)
  have k1 := boxF_made w [.int .i64 n, .slice A1 lk ck, .int .i64 f, .int .i64 dmin, .int .i64 dmax, .int .i64 rho, .int .i64 slew, .int .i64 round, .int .i64 window, .int .i64 attend, .int .i64 seen, .int .i64 hist, .int .i64 fly, .int .i64 quota, .int .i64 body] 24
  obtain ⟨w1, hw1⟩ : ∃ x, w.alloc (.cells #[.int .i64 n, .slice A1 lk ck, .int .i64 f, .int .i64 dmin, .int .i64 dmax, .int .i64 rho, .int .i64 slew, .int .i64 round, .int .i64 window, .int .i64 attend, .int .i64 seen, .int .i64 hist, .int .i64 fly, .int .i64 quota, .int .i64 body] 24) = x := ⟨_, rfl⟩
  rw [hw1] at b1
  replace k1 : BoxF w1 w.heap.size [.int .i64 n, .slice A1 lk ck, .int .i64 f, .int .i64 dmin, .int .i64 dmax, .int .i64 rho, .int .i64 slew, .int .i64 round, .int .i64 window, .int .i64 attend, .int .i64 seen, .int .i64 hist, .int .i64 fly, .int .i64 quota, .int .i64 body] := hw1 ▸ k1
  have d0 := k1.1 0 _ rfl
  have d1 := k1.1 1 _ rfl
  have d2 := k1.1 2 _ rfl
  have d3 := k1.1 3 _ rfl
  have d4 := k1.1 4 _ rfl
  have d5 := k1.1 5 _ rfl
  have d6 := k1.1 6 _ rfl
  have d7 := k1.1 7 _ rfl
  have d8 := k1.1 8 _ rfl
  have d9 := k1.1 9 _ rfl
  have d10 := k1.1 10 _ rfl
  have d11 := k1.1 11 _ rfl
  have d12 := k1.1 12 _ rfl
  have d13 := k1.1 13 _ rfl
  have d14 := k1.1 14 _ rfl
  have C := Lib.hid (statWinN n f dmin dmax rho slew round window attend seen hist fly quota body A1 lk ck i j w1)
  have HB1 := Lib.hid b1
  clear k1 b1
  go_enter Tryz.func7, Tryz.ntmps7
  go_wp2_with fail
  refine C.out.mono ?_
  rintro e w2 ⟨rfl, hb2⟩
  have HB3 := Lib.hid (HB1.out.trans (hb2.mono HB1.out.size))
  clear hb2 d0 d1 d2 d3 d4 d5 d6 d7 d8 d9 d10 d11 d12 d13 d14
  go_wp2
  go_ret
  exact ⟨rfl, HB3.out⟩
theorem statComplN (n f dmin dmax rho slew round window attend seen hist fly quota body : Int) (A1 : Option Addr) (lk ck : Nat) (i : Int) (w : World) : Calls Tryz.prog 8 #[.agg #[.int .i64 n, .slice A1 lk ck, .int .i64 f, .int .i64 dmin, .int .i64 dmax, .int .i64 rho, .int .i64 slew, .int .i64 round, .int .i64 window, .int .i64 attend, .int .i64 seen, .int .i64 hist, .int .i64 fly, .int .i64 quota, .int .i64 body], .pointer none, .int .i64 i] w fun e w' => e = .returned (.bool true) ∧ Below w.heap.size w w' := by
  have b1 := (Below.refl w.heap.size w).alloc (Nat.le_refl _) (.cells #[.int .i64 n, .slice A1 lk ck, .int .i64 f, .int .i64 dmin, .int .i64 dmax, .int .i64 rho, .int .i64 slew, .int .i64 round, .int .i64 window, .int .i64 attend, .int .i64 seen, .int .i64 hist, .int .i64 fly, .int .i64 quota, .int .i64 body] 24)
  have k1 := boxF_made w [.int .i64 n, .slice A1 lk ck, .int .i64 f, .int .i64 dmin, .int .i64 dmax, .int .i64 rho, .int .i64 slew, .int .i64 round, .int .i64 window, .int .i64 attend, .int .i64 seen, .int .i64 hist, .int .i64 fly, .int .i64 quota, .int .i64 body] 24
  obtain ⟨w1, hw1⟩ : ∃ x, w.alloc (.cells #[.int .i64 n, .slice A1 lk ck, .int .i64 f, .int .i64 dmin, .int .i64 dmax, .int .i64 rho, .int .i64 slew, .int .i64 round, .int .i64 window, .int .i64 attend, .int .i64 seen, .int .i64 hist, .int .i64 fly, .int .i64 quota, .int .i64 body] 24) = x := ⟨_, rfl⟩
  rw [hw1] at b1
  replace k1 : BoxF w1 w.heap.size [.int .i64 n, .slice A1 lk ck, .int .i64 f, .int .i64 dmin, .int .i64 dmax, .int .i64 rho, .int .i64 slew, .int .i64 round, .int .i64 window, .int .i64 attend, .int .i64 seen, .int .i64 hist, .int .i64 fly, .int .i64 quota, .int .i64 body] := hw1 ▸ k1
  have d0 := k1.1 0 _ rfl
  have d1 := k1.1 1 _ rfl
  have d2 := k1.1 2 _ rfl
  have d3 := k1.1 3 _ rfl
  have d4 := k1.1 4 _ rfl
  have d5 := k1.1 5 _ rfl
  have d6 := k1.1 6 _ rfl
  have d7 := k1.1 7 _ rfl
  have d8 := k1.1 8 _ rfl
  have d9 := k1.1 9 _ rfl
  have d10 := k1.1 10 _ rfl
  have d11 := k1.1 11 _ rfl
  have d12 := k1.1 12 _ rfl
  have d13 := k1.1 13 _ rfl
  have d14 := k1.1 14 _ rfl
  have C := Lib.hid (statWinN n f dmin dmax rho slew round window attend seen hist fly quota body A1 lk ck i i w1)
  have HB1 := Lib.hid b1
  clear k1 b1
  go_enter Tryz.func8, Tryz.ntmps8
  go_wp2_with fail
  refine C.out.mono ?_
  rintro e w2 ⟨rfl, hb2⟩
  have HB3 := Lib.hid (HB1.out.trans (hb2.mono HB1.out.size))
  clear hb2 d0 d1 d2 d3 d4 d5 d6 d7 d8 d9 d10 d11 d12 d13 d14
  go_wp2
  go_ret
  exact ⟨rfl, HB3.out⟩
end Go.Proofs.YtffchegjegjkpaaGreatDoor
