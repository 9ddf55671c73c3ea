/- Contracts of keys: Less, Good, Text and the references' ones; the chapter's examples. -/
import Derived.Test.YtlkajpmfcibagaaDoorKeyA
import Derived.Deep.Cut
namespace Go.Proofs.YtlkajpmfcibagaaDoor
open Go.RowKit Law
set_option linter.unusedVariables false

def lessK (a b : K) : Bool := decide (cmpK a b < 0)
theorem lessK_true {a b : K} (h : cmpK a b < 0) : lessK a b = true := decide_eq_true h
theorem lessK_false {a b : K} (h : ¬ cmpK a b < 0) : lessK a b = false := decide_eq_false h

theorem keyLess (a b : K) (w : World) : Calls Tryd.prog 11 #[.agg #[.int .i64 a.t, .int .i64 a.f, .int .u32 a.s], .agg #[.int .i64 b.t, .int .i64 b.f, .int .u32 b.s]] w fun e w' => e = .returned (.bool (lessK a b)) ∧ Below w.heap.size w w' := by
  go_enter Tryd.func11, Tryd.ntmps11
  go_wp2_with fail
  refine (keyCompare a b _).mono ?_
  rintro e w1 ⟨rfl, hb⟩
  have hb1 : Below w.heap.size w w1 := (((Below.refl _ w).alloc (Nat.le_refl _) _).alloc (by simp) _).trans (hb.mono (by simp; omega))
  clear hb
  go_wp2_with fail
  go_ret
  exact ⟨rfl, hb1⟩

theorem cmpI_ne {x y : Int} (h : x ≠ y) : cmpI x y ≠ 0 := by unfold cmpI; repeat' split <;> omega
theorem refLess (a b : K) (w : World) : Calls Tryd.prog 9 #[.agg #[.int .i64 a.t, .int .i64 a.f, .int .u32 a.s], .agg #[.int .i64 b.t, .int .i64 b.f, .int .u32 b.s]] w fun e w' => e = .returned (.bool (lessK a b)) ∧ Below w.heap.size w w' := by
  by_cases ht : a.t = b.t
  · by_cases hf : a.f = b.f
    · have E : Hid (lessK a b = decide (a.s < b.s)) := by
        unfold Hid lessK cmpK
        rw [ht, hf, cmpI_eq, cmpI_eq]
        unfold or3 cmpI
        rw [if_pos rfl, if_pos rfl]
        rw [Bool.eq_iff_iff, decide_eq_true_eq, decide_eq_true_eq]
        repeat' split <;> omega
      have ht' : (a.t != b.t) = false := by simpa using ht
      have hf' : (a.f != b.f) = false := by simpa using hf
      clear ht hf
      go_enter Tryd.func9, Tryd.ntmps9
      go_wp2_with fail
      all_goals go_ret
      all_goals exact ⟨ret_bool (by rw [E.out]; first | done | simp [*] | (symm; simp; omega)), ((Below.refl _ w).alloc (Nat.le_refl _) _).alloc (by simp) _⟩
    · have E : Hid (lessK a b = decide (a.f < b.f)) := by
        unfold Hid lessK cmpK
        rw [ht, cmpI_eq]
        unfold or3
        rw [if_pos rfl, if_neg (cmpI_ne hf)]
        unfold cmpI
        rw [Bool.eq_iff_iff, decide_eq_true_eq, decide_eq_true_eq]
        repeat' split <;> omega
      have ht' : (a.t != b.t) = false := by simpa using ht
      have hf' : (a.f != b.f) = true := by simpa using hf
      clear ht hf
      go_enter Tryd.func9, Tryd.ntmps9
      go_wp2_with fail
      all_goals go_ret
      all_goals exact ⟨ret_bool (by rw [E.out]; first | done | simp [*] | (symm; simp; omega)), ((Below.refl _ w).alloc (Nat.le_refl _) _).alloc (by simp) _⟩
  · have E : Hid (lessK a b = decide (a.t < b.t)) := by
      unfold Hid lessK cmpK
      unfold or3
      rw [if_neg (cmpI_ne ht)]
      unfold cmpI
      rw [Bool.eq_iff_iff, decide_eq_true_eq, decide_eq_true_eq]
      repeat' split <;> omega
    have ht' : (a.t != b.t) = true := by simpa using ht
    clear ht
    go_enter Tryd.func9, Tryd.ntmps9
    go_wp2_with fail
    all_goals go_ret
    all_goals exact ⟨ret_bool (by rw [E.out]; first | done | simp [*] | (symm; simp; omega)), ((Below.refl _ w).alloc (Nat.le_refl _) _).alloc (by simp) _⟩

def goodK (a : K) : Bool := decide (0 ≤ a.t ∧ a.t ≤ 1152921504606846976 ∧ 0 ≤ a.f ∧ a.f < 64)
def nodeB (n : Int) : Bool := decide (0 ≤ n ∧ n < 64)
theorem nodeB_true {n : Int} (h : 0 ≤ n) (h' : n < 64) : nodeB n = true := decide_eq_true ⟨h, h'⟩
theorem nodeB_false {n : Int} (h : ¬ (0 ≤ n ∧ n < 64)) : nodeB n = false := decide_eq_false h
theorem keyNode (n : Int) (w : World) : Calls Tryd.prog 29 #[.int .i64 n] w fun e w' => e = .returned (.bool (nodeB n)) ∧ w' = w := by
  by_cases h : 0 ≤ n
  · by_cases h' : n < 64
    · have E := Lib.hid (nodeB_true h h')
      go_enter Tryd.func29, Tryd.ntmps29
      go_wp2_with fail
      all_goals go_ret
      all_goals exact ⟨ret_bool E.out.symm, rfl⟩
    · have E := Lib.hid (nodeB_false (n := n) (by omega))
      go_enter Tryd.func29, Tryd.ntmps29
      go_wp2_with fail
      all_goals go_ret
      all_goals exact ⟨ret_bool E.out.symm, rfl⟩
  · have E := Lib.hid (nodeB_false (n := n) (by omega))
    have hd : decide (0 ≤ n) = false := by simpa using h
    go_enter Tryd.func29, Tryd.ntmps29
    go_wp2_with fail
    all_goals go_ret
    all_goals exact ⟨ret_bool E.out.symm, rfl⟩

theorem goodK_true {a : K} (h : 0 ≤ a.t ∧ a.t ≤ 1152921504606846976 ∧ 0 ≤ a.f ∧ a.f < 64) : goodK a = true := decide_eq_true h
theorem goodK_false {a : K} (h : ¬ (0 ≤ a.t ∧ a.t ≤ 1152921504606846976 ∧ 0 ≤ a.f ∧ a.f < 64)) : goodK a = false := decide_eq_false h
theorem keyGood (a : K) (w : World) : Calls Tryd.prog 12 #[.agg #[.int .i64 a.t, .int .i64 a.f, .int .u32 a.s]] w fun e w' => e = .returned (.bool (goodK a)) ∧ Below w.heap.size w w' := by
  by_cases h0 : 0 ≤ a.t
  · by_cases h1 : a.t ≤ 1152921504606846976
    · have E : Hid (goodK a = nodeB a.f) := by unfold Hid goodK nodeB; simp [h0, h1]
      go_enter Tryd.func12, Tryd.ntmps12
      go_wp2_with (go_at_call 29; refine (keyNode _ _).mono ?_; rintro e w' ⟨rfl, rfl⟩)
      all_goals go_ret
      all_goals exact ⟨ret_bool E.out.symm, (Below.refl _ w).alloc (Nat.le_refl _) _⟩
    · have E := Lib.hid (goodK_false (a := a) (by omega))
      have hd : decide (a.t ≤ 1152921504606846976) = false := by simpa using h1
      go_enter Tryd.func12, Tryd.ntmps12
      go_wp2_with fail
      all_goals go_ret
      all_goals exact ⟨ret_bool E.out.symm, (Below.refl _ w).alloc (Nat.le_refl _) _⟩
  · have E := Lib.hid (goodK_false (a := a) (by omega))
    have hd : decide (0 ≤ a.t) = false := by simpa using h0
    go_enter Tryd.func12, Tryd.ntmps12
    go_wp2_with fail
    all_goals go_ret
    all_goals exact ⟨ret_bool E.out.symm, (Below.refl _ w).alloc (Nat.le_refl _) _⟩
theorem refGood (a : K) (w : World) : Calls Tryd.prog 13 #[.agg #[.int .i64 a.t, .int .i64 a.f, .int .u32 a.s]] w fun e w' => e = .returned (.bool (goodK a)) ∧ Below w.heap.size w w' := by
  by_cases h0 : 0 ≤ a.t
  · by_cases h1 : a.t ≤ 1152921504606846976
    · by_cases h2 : 0 ≤ a.f
      · have E : Hid (goodK a = decide (a.f < 64)) := by unfold Hid goodK; simp [h0, h1, h2]
        go_enter Tryd.func13, Tryd.ntmps13
        go_wp2_with fail
        all_goals go_ret
        all_goals exact ⟨ret_bool E.out.symm, (Below.refl _ w).alloc (Nat.le_refl _) _⟩
      · have E := Lib.hid (goodK_false (a := a) (by omega))
        have hd : decide (0 ≤ a.f) = false := by simpa using h2
        go_enter Tryd.func13, Tryd.ntmps13
        go_wp2_with fail
        all_goals go_ret
        all_goals exact ⟨ret_bool E.out.symm, (Below.refl _ w).alloc (Nat.le_refl _) _⟩
    · have E := Lib.hid (goodK_false (a := a) (by omega))
      have hd : decide (a.t ≤ 1152921504606846976) = false := by simpa using h1
      go_enter Tryd.func13, Tryd.ntmps13
      go_wp2_with fail
      all_goals go_ret
      all_goals exact ⟨ret_bool E.out.symm, (Below.refl _ w).alloc (Nat.le_refl _) _⟩
  · have E := Lib.hid (goodK_false (a := a) (by omega))
    have hd : decide (0 ≤ a.t) = false := by simpa using h0
    go_enter Tryd.func13, Tryd.ntmps13
    go_wp2_with fail
    all_goals go_ret
    all_goals exact ⟨ret_bool E.out.symm, (Below.refl _ w).alloc (Nat.le_refl _) _⟩


theorem keyLessB {a b : K} {r : Bool} (hr : lessK a b = r) (w : World) : Calls Tryd.prog 11 #[.agg #[.int .i64 a.t, .int .i64 a.f, .int .u32 a.s], .agg #[.int .i64 b.t, .int .i64 b.f, .int .u32 b.s]] w fun e w' => e = .returned (.bool r) ∧ Below w.heap.size w w' := by
  subst hr; exact keyLess a b w
theorem keyCompareB {a b : K} {r : Int} (hr : cmpK a b = r) (w : World) : Calls Tryd.prog 10 #[.agg #[.int .i64 a.t, .int .i64 a.f, .int .u32 a.s], .agg #[.int .i64 b.t, .int .i64 b.f, .int .u32 b.s]] w fun e w' => e = .returned (.int .i64 r) ∧ Below w.heap.size w w' := by
  subst hr; exact keyCompare a b w
theorem refLessB {a b : K} {r : Bool} (hr : lessK a b = r) (w : World) : Calls Tryd.prog 9 #[.agg #[.int .i64 a.t, .int .i64 a.f, .int .u32 a.s], .agg #[.int .i64 b.t, .int .i64 b.f, .int .u32 b.s]] w fun e w' => e = .returned (.bool r) ∧ Below w.heap.size w w' := by
  subst hr; exact refLess a b w
theorem keyGoodB {a : K} {r : Bool} (hr : goodK a = r) (w : World) : Calls Tryd.prog 12 #[.agg #[.int .i64 a.t, .int .i64 a.f, .int .u32 a.s]] w fun e w' => e = .returned (.bool r) ∧ Below w.heap.size w w' := by
  subst hr; exact keyGood a w
theorem refGoodB {a : K} {r : Bool} (hr : goodK a = r) (w : World) : Calls Tryd.prog 13 #[.agg #[.int .i64 a.t, .int .i64 a.f, .int .u32 a.s]] w fun e w' => e = .returned (.bool r) ∧ Below w.heap.size w w' := by
  subst hr; exact refGood a w

def ka : K := ⟨5, 1, 9⟩
def kb : K := ⟨5, 2, 0⟩
set_option maxHeartbeats 800000 in
theorem works06 (w : World) (h : P10 w) : Calls Tryd.prog 14 #[] w fun e w' => e = .returned (.bool true) ∧ Below w.heap.size w w' := by
  have C1 := keyCompareB (a := ka) (b := kb) (r := -1) (by decide +kernel)
  have C2 := keyLessB (a := ka) (b := kb) (r := true) (by decide +kernel)
  have C3 := keyTextB (k := ka) (s := ⟨#[53, 46, 49, 46, 57]⟩) (by decide +kernel) (by unfold K.Fits ka; decide)
  have C4 := keyGoodB (a := ka) (r := true) (by decide +kernel)
  have HC := Lib.hid (And.intro C1 (And.intro C2 (And.intro C3 C4)))
  have hp := Lib.hid (h.below (((Below.refl _ w).alloc (Nat.le_refl _) (.cells #[.int .i64 5, .int .i64 1, .int .u32 9] 24)).alloc (by simp) (.cells #[.int .i64 5, .int .i64 2, .int .u32 0] 24)))
  clear C1 C2 C3 C4 h
  go_enter Tryd.func14, Tryd.ntmps14
  go_upto_region 2 with (fail)
  have c1 : ∀ W : Later ((w.alloc (.cells #[.int .i64 5, .int .i64 1, .int .u32 9] 24)).alloc (.cells #[.int .i64 5, .int .i64 2, .int .u32 0] 24)),
    W.val.cell? ⟨w.heap.size, 0, none⟩ = some (.int .i64 5) ∧ W.val.cell? ⟨w.heap.size, 1, none⟩ = some (.int .i64 1) ∧ W.val.cell? ⟨w.heap.size, 2, none⟩ = some (.int .u32 9) ∧
    W.val.cell? ⟨w.heap.size + 1, 0, none⟩ = some (.int .i64 5) ∧ W.val.cell? ⟨w.heap.size + 1, 1, none⟩ = some (.int .i64 2) ∧ W.val.cell? ⟨w.heap.size + 1, 2, none⟩ = some (.int .u32 0) :=
    fun W => ⟨Later.cell (by simp) W, Later.cell (by simp) W, Later.cell (by simp) W, Later.cell (by simp) W, Later.cell (by simp) W, Later.cell (by simp) W⟩
  refine wp_plain_later ?_
  repeat (go_big_quiet_step (first | exact later_of (HC.out.1 _) | exact later_of (HC.out.2.1 _) | exact later_of (HC.out.2.2.1 _ (hp.out.later _)) | exact later_of (HC.out.2.2.2 _)))
  refine wpQuiet_nil ?_
  rintro _ ⟨⟨W, hW⟩, rfl⟩
  clear c1
  go_wp2_with fail
  go_ret
  exact ⟨rfl, (((Below.refl _ w).alloc (Nat.le_refl _) _).alloc (by simp) _).trans (hW.mono (by simp; omega))⟩
end Go.Proofs.YtlkajpmfcibagaaDoor
