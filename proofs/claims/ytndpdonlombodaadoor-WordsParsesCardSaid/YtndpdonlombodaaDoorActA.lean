/- Acts and fates as values; which may be: the references' Good and the code's. -/
import Derived.Test.YtndpdonlombodaaDoorNumF
import Derived.Test.YtndpdonlombodaaDoorOwnOr
import Derived.Laws.StructEq
namespace Go.Proofs.YtndpdonlombodaaDoor
open Go.RowKit Law
set_option linter.unusedVariables false
set_option linter.unusedSimpArgs false

theorem ret_int {k : IntKind} {a b : Int} (h : a = b) : Ending.returned (.int k a) = .returned (.int k b) := by rw [h]
theorem ret_bool {a b : Bool} (h : a = b) : Ending.returned (.bool a) = .returned (.bool b) := by rw [h]
structure Fa where
  k : Int
  d : Int
  a : Int
  p : Nat
  b : Nat
  deriving DecidableEq
def Fa.cells (f : Fa) : List Value := [.int .i64 f.k, .int .i64 f.d, .int .i64 f.a, .int .u32 (f.p : Int), .int .u32 (f.b : Int)]
def Fa0 : Fa := ⟨0, 0, 0, 0, 0⟩
def goodF (f : Fa) : Bool :=
  if f.k = 1 then decide (f = ⟨1, 0, 0, 0, 0⟩)
  else if f.k < 0 ∨ 3 < f.k ∨ f.d < 1 ∨ 64 < f.d then false
  else if f.k = 2 then decide (1 ≤ f.a ∧ f.a ≤ 64 ∧ f.p = 0 ∧ f.b = 0)
  else decide (f.a = 0 ∧ (f.k = 3 ∨ (f.p = 0 ∧ f.b = 0)))
theorem within45 (d lo hi : Int) (w : World) : Calls Tryd.prog 44 #[.int .i64 d, .int .i64 lo, .int .i64 hi] w fun e w' => e = .returned (.bool (decide (lo ≤ d) && decide (d ≤ hi))) ∧ w = w' := by
  by_cases h1 : lo ≤ d
  · by_cases h2 : d ≤ hi
    · go_enter Tryd.func44, Tryd.ntmps44
      go_wp2
      go_ret
      exact ⟨by simp [h1, h2], rfl⟩
    · go_enter Tryd.func44, Tryd.ntmps44
      go_wp2
      go_ret
      exact ⟨by simp [h2], rfl⟩
  · go_enter Tryd.func44, Tryd.ntmps44
    go_wp2
    go_ret
    exact ⟨ret_bool (by rw [decide_eq_false (show ¬ lo ≤ d from fun h => by omega)]; rfl), rfl⟩
theorem withinT {d lo hi : Int} (h : lo ≤ d ∧ d ≤ hi) (w : World) : Calls Tryd.prog 44 #[.int .i64 d, .int .i64 lo, .int .i64 hi] w fun e w' => e = .returned (.bool true) ∧ w = w' :=
  (within45 d lo hi w).mono fun e w' ⟨h1, h2⟩ => ⟨by rw [h1, decide_eq_true h.1, decide_eq_true h.2]; rfl, h2⟩
theorem withinF {d lo hi : Int} (h : ¬ (lo ≤ d ∧ d ≤ hi)) (w : World) : Calls Tryd.prog 44 #[.int .i64 d, .int .i64 lo, .int .i64 hi] w fun e w' => e = .returned (.bool false) ∧ w = w' :=
  (within45 d lo hi w).mono fun e w' ⟨h1, h2⟩ => ⟨by
    rw [h1]
    by_cases h3 : lo ≤ d
    · have : ¬ d ≤ hi := fun h4 => h ⟨h3, h4⟩
      simp [this]
    · simp [h3], h2⟩
set_option maxHeartbeats 1600000 in
theorem refGoodF (f : Fa) (w : World) : Calls Tryd.prog 31 #[.agg f.cells.toArray] w fun e w' => e = .returned (.bool (goodF f)) ∧ Below w.heap.size w w' := by
  obtain ⟨k, d, a, p, b⟩ := f
  unfold Fa.cells
  have hB : Hid (Below w.heap.size w (w.alloc (.cells #[.int .i64 k, .int .i64 d, .int .i64 a, .int .u32 (p : Int), .int .u32 (b : Int)] 26))) := (Below.refl _ _).alloc (Nat.le_refl _) _
  by_cases h1 : k = 1
  · subst h1
    go_enter Tryd.func31, Tryd.ntmps31
    go_wp2
    all_goals
      go_ret
      refine ⟨ret_bool ?_, (Below.refl _ _).alloc (Nat.le_refl _) _⟩
      first | rfl | (rw [Bool.eq_iff_iff]; simp [goodF]; omega)
  · by_cases h2 : 0 ≤ k ∧ k ≤ 3
    · by_cases h3 : 1 ≤ d ∧ d ≤ 64
      · have hn : ¬ (k < 0 ∨ 3 < k ∨ d < 1 ∨ 64 < d) := by omega
        have C1 := Lib.hid (withinT h3)
        have D3 := Lib.hid (And.intro h3 hn)
        clear h3 hn
        obtain ⟨h20, h21⟩ := h2
        by_cases h4 : k = 2
        · subst h4
          by_cases h5 : 1 ≤ a ∧ a ≤ 64
          · have C2 := Lib.hid (withinT h5)
            have D5 := Lib.hid h5
            clear h5
            have HG : Hid (goodF ⟨2, d, a, p, b⟩ = decide (p = 0 ∧ b = 0)) := by unfold Hid goodF; simp only []; rw [if_neg h1, if_neg D3.out.2, if_pos trivial]; have := D5.out; rw [Bool.eq_iff_iff]; simp; omega
            go_enter Tryd.func31, Tryd.ntmps31
            go_wp2_with (go_at_call 44; first | ((with_reducible refine (C1.out _).mono ?_); rintro e w' ⟨rfl, rfl⟩) | ((with_reducible refine (C2.out _).mono ?_); rintro e w' ⟨rfl, rfl⟩))
            all_goals
              go_ret
              refine ⟨ret_bool (Eq.trans ?_ HG.out.symm), (Below.refl _ _).alloc (Nat.le_refl _) _⟩
              first | rfl | (rw [Bool.eq_iff_iff]; simp; omega) | (simp; omega)
          · have C2 := Lib.hid (withinF h5)
            have D5 := Lib.hid h5
            clear h5
            have HG : Hid (goodF ⟨2, d, a, p, b⟩ = false) := by unfold Hid goodF; simp only []; rw [if_neg h1, if_neg D3.out.2, if_pos trivial]; have := D5.out; rw [decide_eq_false_iff_not]; omega
            go_enter Tryd.func31, Tryd.ntmps31
            go_wp2_with (go_at_call 44; first | ((with_reducible refine (C1.out _).mono ?_); rintro e w' ⟨rfl, rfl⟩) | ((with_reducible refine (C2.out _).mono ?_); rintro e w' ⟨rfl, rfl⟩))
            all_goals
              go_ret
              refine ⟨ret_bool (Eq.trans ?_ HG.out.symm), (Below.refl _ _).alloc (Nat.le_refl _) _⟩
              first | rfl | (rw [Bool.eq_iff_iff]; simp; omega) | (simp; omega)
        · have HG : Hid (goodF ⟨k, d, a, p, b⟩ = decide (a = 0 ∧ (k = 3 ∨ (p = 0 ∧ b = 0)))) := by unfold Hid goodF; simp only []; rw [if_neg h1, if_neg D3.out.2, if_neg h4]
          go_enter Tryd.func31, Tryd.ntmps31
          go_wp2_with (go_at_call 44; first | ((with_reducible refine (C1.out _).mono ?_); rintro e w' ⟨rfl, rfl⟩))
          all_goals
            go_ret
            refine ⟨ret_bool (Eq.trans ?_ HG.out.symm), (Below.refl _ _).alloc (Nat.le_refl _) _⟩
            first | rfl | (rw [Bool.eq_iff_iff]; simp; omega) | (simp; omega)
      · have hn : k < 0 ∨ 3 < k ∨ d < 1 ∨ 64 < d := by omega
        have C1 := Lib.hid (withinF h3)
        have D3 := Lib.hid hn
        clear h3 hn
        obtain ⟨h20, h21⟩ := h2
        have HG : Hid (goodF ⟨k, d, a, p, b⟩ = false) := by unfold Hid goodF; simp only []; rw [if_neg h1, if_pos D3.out]
        go_enter Tryd.func31, Tryd.ntmps31
        go_wp2_with (go_at_call 44; first | ((with_reducible refine (C1.out _).mono ?_); rintro e w' ⟨rfl, rfl⟩))
        all_goals
          go_ret
          refine ⟨ret_bool (Eq.trans ?_ HG.out.symm), (Below.refl _ _).alloc (Nat.le_refl _) _⟩
          first | rfl | (rw [Bool.eq_iff_iff]; simp; omega) | (simp; omega)
    · have hn : k < 0 ∨ 3 < k ∨ d < 1 ∨ 64 < d := by omega
      have D3 := Lib.hid hn
      by_cases h0 : k < 0
      · clear h2 hn
        have HG : Hid (goodF ⟨k, d, a, p, b⟩ = false) := by unfold Hid goodF; simp only []; rw [if_neg h1, if_pos D3.out]
        go_enter Tryd.func31, Tryd.ntmps31
        go_wp2
        all_goals
          go_ret
          refine ⟨ret_bool (Eq.trans ?_ HG.out.symm), (Below.refl _ _).alloc (Nat.le_refl _) _⟩
          first | rfl | (rw [Bool.eq_iff_iff]; simp; omega) | (simp; omega)
      · have h22 : 3 < k := by omega
        clear h2 hn
        have HG : Hid (goodF ⟨k, d, a, p, b⟩ = false) := by unfold Hid goodF; simp only []; rw [if_neg h1, if_pos D3.out]
        go_enter Tryd.func31, Tryd.ntmps31
        go_wp2
        all_goals
          go_ret
          refine ⟨ret_bool (Eq.trans ?_ HG.out.symm), (Below.refl _ _).alloc (Nat.le_refl _) _⟩
          first | rfl | (rw [Bool.eq_iff_iff]; simp; omega) | (simp; omega)
end Go.Proofs.YtndpdonlombodaaDoor
