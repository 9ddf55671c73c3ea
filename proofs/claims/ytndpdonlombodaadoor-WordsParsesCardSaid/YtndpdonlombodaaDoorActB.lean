/- fate.Good. -/
import Derived.Test.YtndpdonlombodaaDoorActA
import Derived.Deep.WholeRow
namespace Go.Proofs.YtndpdonlombodaaDoor
open Go.RowKit Law
set_option linter.unusedVariables false
set_option linter.unusedSimpArgs false

theorem delayT {d : Int} (h : 1 ≤ d ∧ d ≤ 64) (w : World) : Calls Tryd.prog 45 #[.int .i64 d] w fun e w' => e = .returned (.bool true) ∧ w = w' := by
  obtain ⟨h1, h2⟩ := h
  go_enter Tryd.func45, Tryd.ntmps45
  go_wp2
  go_ret
  exact ⟨by simp [h1, h2], rfl⟩
theorem delayF {d : Int} (h : ¬ (1 ≤ d ∧ d ≤ 64)) (w : World) : Calls Tryd.prog 45 #[.int .i64 d] w fun e w' => e = .returned (.bool false) ∧ w = w' := by
  by_cases h1 : 1 ≤ d
  · have h2 : ¬ d ≤ 64 := by omega
    clear h
    go_enter Tryd.func45, Tryd.ntmps45
    go_wp2
    go_ret
    exact ⟨by simp [h2], rfl⟩
  · clear h
    go_enter Tryd.func45, Tryd.ntmps45
    go_wp2
    go_ret
    exact ⟨rfl, rfl⟩
set_option maxHeartbeats 3200000 in
theorem fateGood (f : Fa) (w : World) : Calls Tryd.prog 32 #[.agg f.cells.toArray] w fun e w' => e = .returned (.bool (goodF f)) ∧ Below w.heap.size w w' := by
  obtain ⟨hz, -⟩ := zero_of_info (show (Tryd.prog.info? 26).map (fun i => (i.zero, i.size)) = some (some (.agg #[.int .i64 0, .int .i64 0, .int .i64 0, .int .u32 0, .int .u32 0]), 5) by kernel_rfl)
  obtain ⟨k, d, a, p, b⟩ := f
  unfold Fa.cells
  by_cases h1 : k = 1
  · subst h1
    have HG : Hid (goodF ⟨1, d, a, p, b⟩ = decide ((⟨1, d, a, p, b⟩ : Fa) = ⟨1, 0, 0, 0, 0⟩)) := by unfold Hid goodF; simp only []; rw [if_pos trivial]
    go_enter Tryd.func32, Tryd.ntmps32
    go_wp2
    all_goals
      go_ret
      refine ⟨ret_bool (Eq.trans ?_ HG.out.symm), ((Below.refl _ _).alloc (Nat.le_refl _) _).alloc (by simp) _⟩
      first | rfl | (rw [Bool.eq_iff_iff]; simp; omega) | (simp; omega)
  · by_cases h2 : k = 2
    · subst h2
      by_cases h3 : 1 ≤ d ∧ d ≤ 64
      · have C1 := Lib.hid (delayT h3)
        have D3 := Lib.hid h3
        clear h3 h1
        by_cases h5 : 1 ≤ a ∧ a ≤ 64
        · have C2 := Lib.hid (delayT h5)
          have D5 := Lib.hid h5
          clear h5
          have HG : Hid (goodF ⟨2, d, a, p, b⟩ = decide (p = 0 ∧ b = 0)) := by unfold Hid goodF; simp only []; have q3 := D3.out; have q5 := D5.out; rw [if_neg (by decide), if_neg (by omega), if_pos trivial, Bool.eq_iff_iff]; simp; omega
          go_enter Tryd.func32, Tryd.ntmps32
          go_wp2_with (go_at_call 45; first | ((with_reducible refine (C2.out _).mono ?_); rintro e w' ⟨rfl, rfl⟩) | ((with_reducible refine (C1.out _).mono ?_); rintro e w' ⟨rfl, rfl⟩))
          all_goals
            go_ret
            refine ⟨ret_bool (Eq.trans ?_ HG.out.symm), ((Below.refl _ _).alloc (Nat.le_refl _) _).alloc (by simp) _⟩
            first | rfl | (rw [Bool.eq_iff_iff]; simp; omega) | (simp; omega)
        · have C2 := Lib.hid (delayF h5)
          have D5 := Lib.hid h5
          clear h5
          have HG : Hid (goodF ⟨2, d, a, p, b⟩ = false) := by unfold Hid goodF; simp only []; have q3 := D3.out; have q5 := D5.out; rw [if_neg (by decide), if_neg (by omega), if_pos trivial, decide_eq_false_iff_not]; omega
          go_enter Tryd.func32, Tryd.ntmps32
          go_wp2_with (go_at_call 45; first | ((with_reducible refine (C2.out _).mono ?_); rintro e w' ⟨rfl, rfl⟩) | ((with_reducible refine (C1.out _).mono ?_); rintro e w' ⟨rfl, rfl⟩))
          all_goals
            go_ret
            refine ⟨ret_bool (Eq.trans ?_ HG.out.symm), ((Below.refl _ _).alloc (Nat.le_refl _) _).alloc (by simp) _⟩
            first | rfl | (rw [Bool.eq_iff_iff]; simp; omega) | (simp; omega)
      · have C1 := Lib.hid (delayF h3)
        have D3 := Lib.hid h3
        clear h3 h1
        by_cases h5 : 1 ≤ a ∧ a ≤ 64
        · have C2 := Lib.hid (delayT h5)
          clear h5
          have HG : Hid (goodF ⟨2, d, a, p, b⟩ = false) := by unfold Hid goodF; simp only []; have q3 := D3.out; rw [if_neg (by decide), if_pos (by omega)]
          go_enter Tryd.func32, Tryd.ntmps32
          go_wp2_with (go_at_call 45; first | ((with_reducible refine (C2.out _).mono ?_); rintro e w' ⟨rfl, rfl⟩) | ((with_reducible refine (C1.out _).mono ?_); rintro e w' ⟨rfl, rfl⟩))
          all_goals
            go_ret
            refine ⟨ret_bool (Eq.trans ?_ HG.out.symm), ((Below.refl _ _).alloc (Nat.le_refl _) _).alloc (by simp) _⟩
            first | rfl | (rw [Bool.eq_iff_iff]; simp; omega) | (simp; omega)
        · have C2 := Lib.hid (delayF h5)
          clear h5
          have HG : Hid (goodF ⟨2, d, a, p, b⟩ = false) := by unfold Hid goodF; simp only []; have q3 := D3.out; rw [if_neg (by decide), if_pos (by omega)]
          go_enter Tryd.func32, Tryd.ntmps32
          go_wp2_with (go_at_call 45; first | ((with_reducible refine (C2.out _).mono ?_); rintro e w' ⟨rfl, rfl⟩) | ((with_reducible refine (C1.out _).mono ?_); rintro e w' ⟨rfl, rfl⟩))
          all_goals
            go_ret
            refine ⟨ret_bool (Eq.trans ?_ HG.out.symm), ((Below.refl _ _).alloc (Nat.le_refl _) _).alloc (by simp) _⟩
            first | rfl | (rw [Bool.eq_iff_iff]; simp; omega) | (simp; omega)
    · by_cases h0 : k = 0
      · subst h0
        by_cases h3 : 1 ≤ d ∧ d ≤ 64
        · have C1 := Lib.hid (delayT h3)
          have D3 := Lib.hid h3
          clear h3
          have HG : Hid (goodF ⟨0, d, a, p, b⟩ = decide (a = 0 ∧ (p = 0 ∧ b = 0))) := by unfold Hid goodF; simp only []; have q3 := D3.out; rw [if_neg (by decide), if_neg (by omega), if_neg (by decide)]; simp
          go_enter Tryd.func32, Tryd.ntmps32
          go_wp2_with (go_at_call 45; first | ((with_reducible refine (C1.out _).mono ?_); rintro e w' ⟨rfl, rfl⟩))
          all_goals
            go_ret
            refine ⟨ret_bool (Eq.trans ?_ HG.out.symm), ((Below.refl _ _).alloc (Nat.le_refl _) _).alloc (by simp) _⟩
            first | rfl | (rw [Bool.eq_iff_iff]; simp; omega) | (simp; omega)
        · have C1 := Lib.hid (delayF h3)
          have D3 := Lib.hid h3
          clear h3
          have HG : Hid (goodF ⟨0, d, a, p, b⟩ = false) := by unfold Hid goodF; simp only []; have q3 := D3.out; rw [if_neg (by decide), if_pos (by omega)]
          go_enter Tryd.func32, Tryd.ntmps32
          go_wp2_with (go_at_call 45; first | ((with_reducible refine (C1.out _).mono ?_); rintro e w' ⟨rfl, rfl⟩))
          all_goals
            go_ret
            refine ⟨ret_bool (Eq.trans ?_ HG.out.symm), ((Below.refl _ _).alloc (Nat.le_refl _) _).alloc (by simp) _⟩
            first | rfl | (rw [Bool.eq_iff_iff]; simp; omega) | (simp; omega)
      · by_cases h4 : k = 3
        · subst h4
          by_cases h3 : 1 ≤ d ∧ d ≤ 64
          · have C1 := Lib.hid (delayT h3)
            have D3 := Lib.hid h3
            clear h3
            have HG : Hid (goodF ⟨3, d, a, p, b⟩ = decide (a = 0)) := by unfold Hid goodF; simp only []; have q3 := D3.out; rw [if_neg (by decide), if_neg (by omega), if_neg (by decide)]; simp
            go_enter Tryd.func32, Tryd.ntmps32
            go_wp2_with (go_at_call 45; first | ((with_reducible refine (C1.out _).mono ?_); rintro e w' ⟨rfl, rfl⟩))
            all_goals
              go_ret
              refine ⟨ret_bool (Eq.trans ?_ HG.out.symm), ((Below.refl _ _).alloc (Nat.le_refl _) _).alloc (by simp) _⟩
              first | rfl | (rw [Bool.eq_iff_iff]; simp; omega) | (simp; omega)
          · have C1 := Lib.hid (delayF h3)
            have D3 := Lib.hid h3
            clear h3
            have HG : Hid (goodF ⟨3, d, a, p, b⟩ = false) := by unfold Hid goodF; simp only []; have q3 := D3.out; rw [if_neg (by decide), if_pos (by omega)]
            go_enter Tryd.func32, Tryd.ntmps32
            go_wp2_with (go_at_call 45; first | ((with_reducible refine (C1.out _).mono ?_); rintro e w' ⟨rfl, rfl⟩))
            all_goals
              go_ret
              refine ⟨ret_bool (Eq.trans ?_ HG.out.symm), ((Below.refl _ _).alloc (Nat.le_refl _) _).alloc (by simp) _⟩
              first | rfl | (rw [Bool.eq_iff_iff]; simp; omega) | (simp; omega)
        · have D4 := Lib.hid (And.intro h1 (And.intro h2 (And.intro h0 h4)))
          have HG : Hid (goodF ⟨k, d, a, p, b⟩ = false) := by unfold Hid goodF; simp only []; rw [if_neg h1, if_pos (by omega)]
          go_enter Tryd.func32, Tryd.ntmps32
          go_wp2
          all_goals
            go_ret
            refine ⟨ret_bool (Eq.trans ?_ HG.out.symm), ((Below.refl _ _).alloc (Nat.le_refl _) _).alloc (by simp) _⟩
            first | rfl | (rw [Bool.eq_iff_iff]; simp; omega) | (simp; omega)
end Go.Proofs.YtndpdonlombodaaDoor
