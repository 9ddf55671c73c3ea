/- The reference's small objects of a node: how they are made. -/
import Derived.Test.YtfkfheddhnjaaaaGreatNdH
import Derived.Deep.MidRow
namespace Go.Proofs.YtfkfheddhnjaaaaGreat
open Go.RowKit Law
set_option linter.unusedVariables false
set_option linter.unusedSimpArgs false
set_option maxRecDepth 100000

theorem rClamp (x lo hi : Int) (w : World) : Calls Tryz.prog 75 #[.int .i64 x, .int .i64 lo, .int .i64 hi] w fun e w' => e = .returned (.int .i64 (clampI x lo hi)) ∧ w = w' := by
  by_cases h1 : x < lo
  · have H : Hid (clampI x lo hi = lo) := by unfold Hid clampI; rw [if_pos h1]
    go_enter Tryz.func75, Tryz.ntmps75
    go_wp2
    go_ret
    exact ⟨ret_int H.out.symm, rfl⟩
  · by_cases h2 : hi < x
    · have H : Hid (clampI x lo hi = hi) := by unfold Hid clampI; rw [if_neg h1, if_pos h2]
      go_enter Tryz.func75, Tryz.ntmps75
      go_wp2
      go_ret
      exact ⟨ret_int H.out.symm, rfl⟩
    · have H : Hid (clampI x lo hi = x) := by unfold Hid clampI; rw [if_neg h1, if_neg h2]
      go_enter Tryz.func75, Tryz.ntmps75
      go_wp2
      go_ret
      exact ⟨ret_int H.out.symm, rfl⟩
theorem rTime (x : Int) (w : World) : Calls Tryz.prog 28 #[.int .i64 x] w fun e w' => e = .returned (.int .i64 (clampI x 0 1152921504606846976)) ∧ w = w' := by
  have C := Lib.hid (rClamp x 0 1152921504606846976 w)
  obtain ⟨v, hv⟩ : ∃ v, clampI x 0 1152921504606846976 = v := ⟨_, rfl⟩
  rw [hv] at C ⊢
  clear hv
  go_enter Tryz.func28, Tryz.ntmps28
  go_wp2_with fail
  refine C.out.mono ?_
  rintro e w1 ⟨rfl, rfl⟩
  go_wp2
  go_ret
  exact ⟨rfl, rfl⟩
theorem rSlewNew (most : Int) (w : World) : Calls Tryz.prog 76 #[.int .i64 most] w fun e w' => e = .returned (.agg #[.int .i64 0, .int .i64 (clampI most 1 256)]) ∧ Below w.heap.size w w' := by
  have C := fun W => rClamp most 1 256 W
  obtain ⟨v, hv⟩ : ∃ v, clampI most 1 256 = v := ⟨_, rfl⟩
  rw [hv] at C ⊢
  have C := Lib.hid C
  clear hv
  go_enter Tryz.func76, Tryz.ntmps76
  go_wp2_with fail
  refine (C.out _).mono ?_
  rintro e w1 ⟨rfl, rfl⟩
  go_wp2
  refine bodyPost_ret (v := .agg #[.int .i64 0, .int .i64 v]) (by simp [results, Tryz.results76, go_sem]) rfl ⟨rfl, ?_⟩
  repeat (first | exact Below.refl _ _ | (refine Below.setCell ?_ (by simp) _) | (refine Below.drew ?_) | (refine Below.alloc ?_ (by simp) _))
theorem rTabNew (most : Int) (w : World) : Calls Tryz.prog 30 #[.int .i64 most] w fun e w' => e = .returned (.agg #[.slice none 0 0, .int .i64 (min (max most 0) 65536)]) ∧ Below w.heap.size w w' := by
  go_enter Tryz.func30, Tryz.ntmps30
  go_wp2
  all_goals
    refine bodyPost_ret (v := .agg #[.slice none 0 0, .int .i64 (min (max most 0) 65536)]) (by simp [results, Tryz.results30, go_sem] <;> omega) rfl ⟨rfl, ?_⟩
    repeat (first | exact Below.refl _ _ | (refine Below.setCell ?_ (by simp) _) | (refine Below.drew ?_) | (refine Below.alloc ?_ (by simp) _))
theorem rRollNew (most : Int) (w : World) : Calls Tryz.prog 33 #[.int .i64 most] w fun e w' => e = .returned (.agg #[.slice none 0 0, .int .i64 (min (max most 0) 65536)]) ∧ Below w.heap.size w w' := by
  go_enter Tryz.func33, Tryz.ntmps33
  go_wp2
  all_goals
    refine bodyPost_ret (v := .agg #[.slice none 0 0, .int .i64 (min (max most 0) 65536)]) (by simp [results, Tryz.results33, go_sem] <;> omega) rfl ⟨rfl, ?_⟩
    repeat (first | exact Below.refl _ _ | (refine Below.setCell ?_ (by simp) _) | (refine Below.drew ?_) | (refine Below.alloc ?_ (by simp) _))
theorem rHistNew (most delta : Int) (w : World) : Calls Tryz.prog 31 #[.int .i64 most, .int .i64 delta] w fun e w' => e = .returned (.agg #[.slice none 0 0, .int .i64 (min (max most 0) 65536), .int .i64 (clampI delta 0 1152921504606846976), .int .i64 0, .int .i64 0, .int .u32 0, .bool false]) ∧ Below w.heap.size w w' := by
  have C0 := fun W => rClamp delta 0 1152921504606846976 W
  obtain ⟨dv, hdv⟩ : ∃ dv, clampI delta 0 1152921504606846976 = dv := ⟨_, rfl⟩
  rw [hdv] at C0 ⊢
  have C0 := Lib.hid C0
  clear hdv
  go_enter Tryz.func31, Tryz.ntmps31
  go_wp2_with fail
  refine (C0.out _).mono ?_
  rintro e w1 ⟨rfl, rfl⟩
  go_wp2
  all_goals
    refine bodyPost_ret (v := .agg #[.slice none 0 0, .int .i64 (min (max most 0) 65536), .int .i64 (dv), .int .i64 0, .int .i64 0, .int .u32 0, .bool false]) (by simp [results, Tryz.results31, go_sem] <;> omega) rfl ⟨rfl, ?_⟩
    repeat (first | exact Below.refl _ _ | (refine Below.setCell ?_ (by simp) _) | (refine Below.drew ?_) | (refine Below.alloc ?_ (by simp) _))
theorem rWithin (n hi : Int) (w : World) : Calls Tryz.prog 77 #[.int .i64 n, .int .i64 hi] w fun e w' => e = .returned (.int .i64 (if n < 0 then 0 else if hi < n then hi else n)) ∧ w = w' := by
  by_cases h1 : n < 0
  · rw [if_pos h1]
    go_enter Tryz.func77, Tryz.ntmps77
    go_wp2
    go_ret
    exact ⟨rfl, rfl⟩
  · by_cases h2 : hi < n
    · rw [if_neg h1, if_pos h2]
      go_enter Tryz.func77, Tryz.ntmps77
      go_wp2
      go_ret
      exact ⟨rfl, rfl⟩
    · rw [if_neg h1, if_neg h2]
      go_enter Tryz.func77, Tryz.ntmps77
      go_wp2
      go_ret
      exact ⟨rfl, rfl⟩
theorem rQuotaNew (most body : Int) (w : World) : Calls Tryz.prog 32 #[.int .i64 most, .int .i64 body] w fun e w' => e = .returned (.agg #[.int .i64 (if most < 0 then 0 else if 65536 < most then 65536 else most), .int .i64 (if body < 0 then 0 else if 1024 < body then 1024 else body), .int .i64 0]) ∧ Below w.heap.size w w' := by
  have C0 := fun W => rWithin most 65536 W
  obtain ⟨mv, hmv⟩ : ∃ mv, (if most < 0 then 0 else if 65536 < most then 65536 else most) = mv := ⟨_, rfl⟩
  rw [hmv] at C0 ⊢
  have C0 := Lib.hid C0
  clear hmv
  have C1 := fun W => rWithin body 1024 W
  obtain ⟨bv, hbv⟩ : ∃ bv, (if body < 0 then 0 else if 1024 < body then 1024 else body) = bv := ⟨_, rfl⟩
  rw [hbv] at C1 ⊢
  have C1 := Lib.hid C1
  clear hbv
  go_enter Tryz.func32, Tryz.ntmps32
  go_wp2_with fail
  refine (C0.out _).mono ?_
  rintro e w1 ⟨rfl, rfl⟩
  go_wp2_with fail
  refine (C1.out _).mono ?_
  rintro e w1 ⟨rfl, rfl⟩
  go_wp2
  all_goals
    refine bodyPost_ret (v := .agg #[.int .i64 mv, .int .i64 bv, .int .i64 0]) (by simp [results, Tryz.results32, go_sem] <;> omega) rfl ⟨rfl, ?_⟩
    repeat (first | exact Below.refl _ _ | (refine Below.setCell ?_ (by simp) _) | (refine Below.drew ?_) | (refine Below.alloc ?_ (by simp) _))
theorem rPerNew (every delta : Int) (w : World) : Calls Tryz.prog 34 #[.int .i64 every, .int .i64 delta] w fun e w' => e = .returned (.agg #[.int .i64 (clampI every 1 1099511627776), .int .i64 (clampI delta 0 1099511627776)]) ∧ Below w.heap.size w w' := by
  have C0 := fun W => rClamp every 1 1099511627776 W
  obtain ⟨ev, hev⟩ : ∃ ev, clampI every 1 1099511627776 = ev := ⟨_, rfl⟩
  rw [hev] at C0 ⊢
  have C0 := Lib.hid C0
  clear hev
  have C1 := fun W => rClamp delta 0 1099511627776 W
  obtain ⟨dv, hdv⟩ : ∃ dv, clampI delta 0 1099511627776 = dv := ⟨_, rfl⟩
  rw [hdv] at C1 ⊢
  have C1 := Lib.hid C1
  clear hdv
  go_enter Tryz.func34, Tryz.ntmps34
  go_wp2_with fail
  refine (C0.out _).mono ?_
  rintro e w1 ⟨rfl, rfl⟩
  go_wp2_with fail
  refine (C1.out _).mono ?_
  rintro e w1 ⟨rfl, rfl⟩
  go_wp2
  all_goals
    refine bodyPost_ret (v := .agg #[.int .i64 (ev), .int .i64 (dv)]) (by simp [results, Tryz.results34, go_sem] <;> omega) rfl ⟨rfl, ?_⟩
    repeat (first | exact Below.refl _ _ | (refine Below.setCell ?_ (by simp) _) | (refine Below.drew ?_) | (refine Below.alloc ?_ (by simp) _))
theorem rJoinNew (w : World) : Calls Tryz.prog 35 #[] w fun e w' => e = .returned (.agg #[.int .i64 0, .int .i64 (-1), .int .i64 0]) ∧ Below w.heap.size w w' := by
  go_enter Tryz.func35, Tryz.ntmps35
  go_wp2
  all_goals
    refine bodyPost_ret (v := .agg #[.int .i64 0, .int .i64 (-1), .int .i64 0]) (by simp [results, Tryz.results35, go_sem] <;> omega) rfl ⟨rfl, ?_⟩
    repeat (first | exact Below.refl _ _ | (refine Below.setCell ?_ (by simp) _) | (refine Below.drew ?_) | (refine Below.alloc ?_ (by simp) _))
theorem rClkInfo : (Tryz.prog.info? 99).map (·.size) = some 4 := by kernel_rfl
theorem rClockNew (most : Int) (w : World) : Calls Tryz.prog 29 #[.int .i64 most] w fun e w' => e = .returned (.agg #[.int .i64 0, .int .i64 0, .int .i64 0, .int .i64 (clampI most 1 256)]) ∧ Below w.heap.size w w' := by
  have C := fun W => rSlewNew most W
  obtain ⟨v, hv⟩ : ∃ v, clampI most 1 256 = v := ⟨_, rfl⟩
  rw [hv] at C ⊢
  have k1 := boxF_made w [.int .i64 0, .int .i64 0, .int .i64 0, .int .i64 0] 99
  have b1 := (Below.refl w.heap.size w).alloc (Nat.le_refl _) (.cells #[.int .i64 0, .int .i64 0, .int .i64 0, .int .i64 0] 99)
  obtain ⟨w1, hw1⟩ : ∃ w1, w.alloc (.cells #[.int .i64 0, .int .i64 0, .int .i64 0, .int .i64 0] 99) = w1 := ⟨_, rfl⟩
  rw [hw1] at b1
  rw [show w.alloc (.cells [.int .i64 0, .int .i64 0, .int .i64 0, .int .i64 0].toArray 99) = w1 from hw1] at k1
  have H := Lib.hid (And.intro k1 b1)
  have C := Lib.hid C
  clear hv k1 b1
  go_enter Tryz.func29, Tryz.ntmps29
  go_wp2_with fail
  refine (C.out _).mono ?_
  rintro e w2 ⟨rfl, hb2⟩
  have k2 := H.out.1.keep hb2
  have c0 := k2.1 0 _ rfl
  have c1 := k2.1 1 _ rfl
  have c2 := k2.1 2 _ rfl
  have c3 := k2.1 3 _ rfl
  have f0 := k2.2 0 (by simp)
  have f1 := k2.2 1 (by simp)
  have f2 := k2.2 2 (by simp)
  have f3 := k2.2 3 (by simp)
  have k3 := (((k2.put 0 (by simp) (.int .i64 0)).put 1 (by simp) (.int .i64 0)).put 2 (by simp) (.int .i64 0)).put 3 (by simp) (.int .i64 v)
  simp only [List.set_cons_succ, List.set_cons_zero] at k3
  have hB := H.out.2.trans (hb2.mono H.out.2.size)
  have hB3 : Below w.heap.size w ((((w2.setCell ⟨w.heap.size, 0, none⟩ (.int .i64 0)).setCell ⟨w.heap.size, 1, none⟩ (.int .i64 0)).setCell ⟨w.heap.size, 2, none⟩ (.int .i64 0)).setCell ⟨w.heap.size, 3, none⟩ (.int .i64 v)) := (((hB.setCell (by simp) _).setCell (by simp) _).setCell (by simp) _).setCell (by simp) _
  obtain ⟨w3, hw3⟩ : ∃ w3, (((w2.setCell ⟨w.heap.size, 0, none⟩ (.int .i64 0)).setCell ⟨w.heap.size, 1, none⟩ (.int .i64 0)).setCell ⟨w.heap.size, 2, none⟩ (.int .i64 0)).setCell ⟨w.heap.size, 3, none⟩ (.int .i64 v) = w3 := ⟨_, rfl⟩
  rw [hw3] at k3 hB3
  have hld : (loadVar 99 ⟨w.heap.size, 0, none⟩).run Tryz.prog w3 = .ok (.agg #[.int .i64 0, .int .i64 0, .int .i64 0, .int .i64 v]) w3 :=
    run_loadVar_mid w3 w.heap.size 0 99 [.int .i64 0, .int .i64 0, .int .i64 0, .int .i64 v] _ (fun j u hj => by rw [Nat.zero_add]; exact k3.1 j u hj) Tryz.underlying99 rfl rClkInfo
  have HB := Lib.hid hB3
  clear k2 k3 hB hB3 hb2
  go_wp2
  refine bodyPost_ret (v := .agg #[.int .i64 0, .int .i64 0, .int .i64 0, .int .i64 v]) (by simp [results, Tryz.results29, asAddr, hld]) rfl ⟨rfl, HB.out⟩
end Go.Proofs.YtfkfheddhnjaaaaGreat
