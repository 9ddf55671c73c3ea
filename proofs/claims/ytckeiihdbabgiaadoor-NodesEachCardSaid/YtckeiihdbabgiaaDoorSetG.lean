/- The chapter's examples, and the walks of the statements on sets of nodes. -/
import Derived.Test.YtckeiihdbabgiaaDoorSetF
import Derived.Deep.Cut
namespace Go.Proofs.YtckeiihdbabgiaaDoor
open Go.RowKit Law
set_option linter.unusedVariables false

theorem nodesText0 (w : World) : Calls Tryd.prog 31 #[.int .u64 0] w fun e w' => e = .returned (.string ⟨#[45]⟩) ∧ w = w' := by
  go_enter Tryd.func31, Tryd.ntmps31
  go_wp2
  go_ret
  exact ⟨rfl, rfl⟩
theorem nodesText (s : Nat) (hs : s < 18446744073709551616) (w : World) (hT : T64 w) :
    Calls Tryd.prog 31 #[.int .u64 (s : Int)] w fun e w' => e = .returned (.string ⟨(textS s).toArray⟩) ∧ Below w.heap.size w w' := by
  by_cases h0 : s = 0
  · subst h0
    exact (nodesText0 w).mono fun e w' h => ⟨h.1, by rw [h.2]; exact Below.refl _ _⟩
  · refine (nodesText1 s h0 hs w hT).mono fun e w' h => ⟨?_, h.2⟩
    rw [h.1]
    unfold textS
    rw [if_neg h0]
theorem lits3 (w : World) (x y z : Int) (t : TypeId) : IntsAt (w.alloc (.cells #[.int .i64 x, .int .i64 y, .int .i64 z] t)) (some ⟨w.heap.size, 0, none⟩) [x, y, z] := by
  intro k u hu
  refine ⟨w.heap.size, 0, rfl, by simp, ?_⟩
  match k, hu with
  | 0, hu => simp at hu; subst hu; simp
  | 1, hu => simp at hu; subst hu; simp
  | 2, hu => simp at hu; subst hu; simp
theorem ofN_316 : ofN [3, 1, 64] = 10 := by decide +kernel
theorem ofN_135 : ofN [1, 3, 5] = 42 := by decide +kernel
theorem i64s_of {l : List Int} (h : (l.all fun z => decide (-9223372036854775808 ≤ z ∧ z ≤ 9223372036854775807)) = true) : I64s l := fun z hz => by
  have := List.all_eq_true.1 h z hz
  simpa using this
theorem works03 (w : World) (hT : T64 w) : Calls Tryd.prog 14 #[] w fun e w' => e = .returned (.bool true) ∧ Below w.heap.size w w' := by
  have C1 := Lib.hid (fun W (hA : IntsAt W (some ⟨w.heap.size, 0, none⟩) [3, 1, 64]) => show Calls Tryd.prog 19 #[.slice (some ⟨w.heap.size, 0, none⟩) 3 3] W fun e w' => e = .returned (.int .u64 10) ∧ W = w' from by
    have h := nodesOf (n := 3) (some ⟨w.heap.size, 0, none⟩) 3 [3, 1, 64] rfl (by decide) (i64s_of (by decide)) W hA
    rw [ofN_316] at h
    exact h)
  have C2 := Lib.hid (fun W hT => show Calls Tryd.prog 31 #[.int .u64 10] W fun e w' => e = .returned (.string ⟨#[49, 44, 51]⟩) ∧ Below W.heap.size W w' from by
    have h := nodesText 10 (by decide) W hT
    rw [show textS 10 = [49, 44, 51] by decide +kernel] at h
    exact h)
  have C3 := Lib.hid (fun W => show Calls Tryd.prog 17 #[.int .u64 10] W fun e w' => e = .returned (.int .i64 2) ∧ w' = W from by
    have h := nodesCount 10 (by decide) W
    rw [show (els 10).length = 2 by decide +kernel] at h
    exact h)
  have C4 := Lib.hid (fun W A (hA : IntsAt W A [1, 3, 5]) => show Calls Tryd.prog 19 #[.slice A 3 3] W fun e w' => e = .returned (.int .u64 42) ∧ W = w' from by
    have h := nodesOf (n := 3) A 3 [1, 3, 5] rfl (by decide) (i64s_of (by decide)) W hA
    rw [ofN_135] at h
    exact h)
  have C5 := Lib.hid (fun W => show Calls Tryd.prog 10 #[.int .u64 42, .int .i64 2] W fun e w' => e = .returned (.int .u64 10) ∧ w' = W from by
    have h := nodesFirst 42 (by decide) 2 (by decide) (by decide) W
    rw [show firstN (2 : Int).toNat 42 0 = 10 by decide +kernel] at h
    exact h)
  have C6 := Lib.hid (fun W => show Calls Tryd.prog 12 #[.int .u64 10, .int .i64 3] W fun e w' => e = .returned (.int .i64 1) ∧ w' = W from by
    have h := nodesBelow 10 (by decide) 3 (by decide) (by decide) W
    rw [show belowN 10 3 = 1 by decide +kernel] at h
    exact h)
  have hA1 := lits3 w 3 1 64 3
  have hb0 : Below w.heap.size w (w.alloc (.cells #[.int .i64 3, .int .i64 1, .int .i64 64] 3)) := (Below.refl _ w).alloc (Nat.le_refl _) _
  go_enter Tryd.func14, Tryd.ntmps14
  go_wp2_with fail
  refine (C1.out _ hA1).mono ?_
  rintro e w1 ⟨rfl, h1⟩
  have hT1 : T64 w1 := by rw [← h1]; exact hT.below hb0
  have hb1 : Below w.heap.size w w1 := by rw [← h1]; exact hb0
  clear hA1 hb0 h1
  go_wp2_with fail
  refine (C2.out _ hT1).mono ?_
  rintro e w2 ⟨rfl, hq⟩
  have hb2 := hb1.trans (hq.mono hb1.size)
  go_wp2_with fail
  refine (C3.out _).mono ?_
  rintro e w3 ⟨rfl, rfl⟩
  go_wp2_with fail
  refine (C4.out _ _ (lits3 _ 1 3 5 3)).mono ?_
  rintro e w4 ⟨rfl, h4⟩
  have hb4 : Below w.heap.size w w4 := by rw [← h4]; exact hb2.alloc hb2.size _
  clear h4
  go_wp2_with (first | (go_at_call 10; refine (C5.out _).mono ?_; rintro e w' ⟨rfl, rfl⟩) | (go_at_call 12; refine (C6.out _).mono ?_; rintro e w' ⟨rfl, rfl⟩))
  go_ret
  exact ⟨rfl, hb4⟩

/-! ### NodesFirst -/
theorem walkFirst (s : Nat) (hs : s < 18446744073709551616) (k : Int) (h0 : -9223372036854775808 ≤ k) (h1 : k ≤ 9223372036854775807) (w : World) (hT : T64 w) :
    Calls Tryd.prog 3 #[.int .u64 (s : Int), .int .i64 k] w fun e w' => e = .returned (.bool true) ∧ Below w.heap.size w w' := by
  have C1 := Lib.hid (fun W => nodesFirst s hs k h0 h1 W)
  have E := firstN_eq hs k.toNat
  have C2 := Lib.hid (fun W => refFirst s hs k h0 h1 W)
  rw [E] at C1
  obtain ⟨r, hr⟩ : ∃ r, ofN ((elsI s).take k.toNat) = r := ⟨_, rfl⟩
  rw [hr] at C1 C2
  clear E hr
  go_enter Tryd.func3, Tryd.ntmps3
  go_wp2_with (go_at_call 10; refine (C1.out _).mono ?_; rintro e w' ⟨rfl, rfl⟩)
  refine (C2.out _).mono ?_
  rintro e w1 ⟨rfl, hb1⟩
  go_wp2_with (go_at_call 12; refine (nodesBelow s hs k h0 h1 _).mono ?_; rintro e w' ⟨rfl, rfl⟩)
  refine (refBelow s hs k _).mono ?_
  rintro e w2 ⟨rfl, hq2⟩
  have hb2 := hb1.trans (hq2.mono hb1.size)
  go_wp2_with fail
  refine (works03 _ (hT.below hb2)).mono ?_
  rintro e w3 ⟨rfl, hq3⟩
  have hb3 := hb2.trans (hq3.mono hb2.size)
  go_wp2
  go_ret
  exact ⟨rfl, hb3⟩
end Go.Proofs.YtckeiihdbabgiaaDoor
