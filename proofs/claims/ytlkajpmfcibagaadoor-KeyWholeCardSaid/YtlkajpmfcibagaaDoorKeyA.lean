/- Contracts of the order of keys: cmp.Compare at three types, cmp.Or, key.Compare, key.Less, the reference's Less, Good. -/
import Derived.Test.YtlkajpmfcibagaaDoorKeyT
import Derived.StillTailTactics
import Derived.Outline
import Derived.Lib.Hide
namespace Go.Proofs.YtlkajpmfcibagaaDoor
open Go.RowKit Law
set_option linter.unusedVariables false

def cmpI (x y : Int) : Int := if x < y then -1 else if y < x then 1 else 0
theorem cmpI_lt {x y : Int} (h : x < y) : cmpI x y = -1 := by unfold cmpI; rw [if_pos h]
theorem cmpI_gt {x y : Int} (h : y < x) : cmpI x y = 1 := by unfold cmpI; rw [if_neg (by omega), if_pos h]
theorem cmpI_eq (x : Int) : cmpI x x = 0 := by unfold cmpI; rw [if_neg (by omega), if_neg (by omega)]


theorem cmpCompare_i64 (x y : Int) (w : World) : Calls Tryd.prog 26 #[.int .i64 x, .int .i64 y] w fun e w' => e = .returned (.int .i64 (cmpI x y)) ∧ w' = w := by
  by_cases h : x < y
  · go_enter Tryd.func26, Tryd.ntmps26
    go_wp2
    go_ret
    exact ⟨ret_int (cmpI_lt h).symm, rfl⟩
  · by_cases h' : y < x
    · go_enter Tryd.func26, Tryd.ntmps26
      go_wp2
      go_ret
      exact ⟨ret_int (cmpI_gt h').symm, rfl⟩
    · obtain rfl : x = y := by omega
      clear h h'
      go_enter Tryd.func26, Tryd.ntmps26
      go_wp2
      go_ret
      exact ⟨ret_int (cmpI_eq x).symm, rfl⟩
theorem cmpCompare_int (x y : Int) (w : World) : Calls Tryd.prog 27 #[.int .i64 x, .int .i64 y] w fun e w' => e = .returned (.int .i64 (cmpI x y)) ∧ w' = w := by
  by_cases h : x < y
  · go_enter Tryd.func27, Tryd.ntmps27
    go_wp2
    go_ret
    exact ⟨ret_int (cmpI_lt h).symm, rfl⟩
  · by_cases h' : y < x
    · go_enter Tryd.func27, Tryd.ntmps27
      go_wp2
      go_ret
      exact ⟨ret_int (cmpI_gt h').symm, rfl⟩
    · obtain rfl : x = y := by omega
      clear h h'
      go_enter Tryd.func27, Tryd.ntmps27
      go_wp2
      go_ret
      exact ⟨ret_int (cmpI_eq x).symm, rfl⟩
theorem cmpCompare_u32 (x y : Int) (w : World) : Calls Tryd.prog 28 #[.int .u32 x, .int .u32 y] w fun e w' => e = .returned (.int .i64 (cmpI x y)) ∧ w' = w := by
  by_cases h : x < y
  · go_enter Tryd.func28, Tryd.ntmps28
    go_wp2
    go_ret
    exact ⟨ret_int (cmpI_lt h).symm, rfl⟩
  · by_cases h' : y < x
    · go_enter Tryd.func28, Tryd.ntmps28
      go_wp2
      go_ret
      exact ⟨ret_int (cmpI_gt h').symm, rfl⟩
    · obtain rfl : x = y := by omega
      clear h h'
      go_enter Tryd.func28, Tryd.ntmps28
      go_wp2
      go_ret
      exact ⟨ret_int (cmpI_eq x).symm, rfl⟩

/-- cmp.Or of three: the first that is not 0. -/
def or3 (x y z : Int) : Int := if x = 0 then (if y = 0 then z else y) else x
theorem cmpOr_int (b off : Nat) (x y z : Int) (w : World) (h0 : w.cell? ⟨b, off, none⟩ = some (.int .i64 x)) (h1 : w.cell? ⟨b, off + 1, none⟩ = some (.int .i64 y)) (h2 : w.cell? ⟨b, off + 2, none⟩ = some (.int .i64 z)) :
    Calls Tryd.prog 25 #[.slice (some ⟨b, off, none⟩) 3 3] w fun e w' => e = .returned (.int .i64 (or3 x y z)) ∧ w = w' := by
  by_cases hx : x = 0
  · subst hx
    by_cases hy : y = 0
    · subst hy
      by_cases hz : z = 0
      · subst hz
        go_enter Tryd.func25, Tryd.ntmps25
        go_wp2
        refine wp_loop_rounds 4 ?_
        rw [rounds_succ]
        go_wp2
        rw [rounds_succ]
        go_wp2
        rw [rounds_succ]
        go_wp2
        rw [rounds_succ]
        go_wp2
        go_ret
        exact ⟨rfl, rfl⟩
      · have hz' : (z != 0) = true := by simpa using hz
        have e : or3 0 0 z = z := by simp [or3]
        have E := Lib.hid e
        clear e hz
        go_enter Tryd.func25, Tryd.ntmps25
        go_wp2
        refine wp_loop_rounds 3 ?_
        rw [rounds_succ]
        go_wp2
        rw [rounds_succ]
        go_wp2
        rw [rounds_succ]
        go_wp2
        go_ret
        exact ⟨ret_int E.out.symm, rfl⟩
    · have hy' : (y != 0) = true := by simpa using hy
      have e : or3 0 y z = y := by simp [or3, hy]
      have E := Lib.hid e
      clear e hy
      go_enter Tryd.func25, Tryd.ntmps25
      go_wp2
      refine wp_loop_rounds 2 ?_
      rw [rounds_succ]
      go_wp2
      rw [rounds_succ]
      go_wp2
      go_ret
      exact ⟨ret_int E.out.symm, rfl⟩
  · have hx' : (x != 0) = true := by simpa using hx
    have e : or3 x y z = x := by simp [or3, hx]
    have E := Lib.hid e
    clear e hx
    go_enter Tryd.func25, Tryd.ntmps25
    go_wp2
    refine wp_loop_rounds 1 ?_
    rw [rounds_succ]
    go_wp2
    go_ret
    exact ⟨ret_int E.out.symm, rfl⟩

def cmpK (a b : K) : Int := or3 (cmpI a.t b.t) (cmpI a.f b.f) (cmpI a.s b.s)
theorem keyCompare (a b : K) (w : World) : Calls Tryd.prog 10 #[.agg #[.int .i64 a.t, .int .i64 a.f, .int .u32 a.s], .agg #[.int .i64 b.t, .int .i64 b.f, .int .u32 b.s]] w fun e w' => e = .returned (.int .i64 (cmpK a b)) ∧ Below w.heap.size w w' := by
  go_enter Tryd.func10, Tryd.ntmps10
  go_wp2_with fail
  have c1 : ∀ W : Later ((w.alloc (.cells #[.int .i64 a.t, .int .i64 a.f, .int .u32 a.s] 24)).alloc (.cells #[.int .i64 b.t, .int .i64 b.f, .int .u32 b.s] 24)),
    W.val.cell? ⟨w.heap.size, 0, none⟩ = some (.int .i64 a.t) ∧ W.val.cell? ⟨w.heap.size, 1, none⟩ = some (.int .i64 a.f) ∧ W.val.cell? ⟨w.heap.size, 2, none⟩ = some (.int .u32 a.s) ∧
    W.val.cell? ⟨w.heap.size + 1, 0, none⟩ = some (.int .i64 b.t) ∧ W.val.cell? ⟨w.heap.size + 1, 1, none⟩ = some (.int .i64 b.f) ∧ W.val.cell? ⟨w.heap.size + 1, 2, none⟩ = some (.int .u32 b.s) :=
    fun W => ⟨Later.cell (by simp) W, Later.cell (by simp) W, Later.cell (by simp) W, Later.cell (by simp) W, Later.cell (by simp) W, Later.cell (by simp) W⟩
  refine wp_region_later_tail 15 (by kernel_rfl) (by kernel_rfl) ?_
  simp only [List.take_succ_cons, List.take_zero, List.drop_succ_cons, List.drop_zero]
  repeat (go_big_quiet_step (first | exact later_of (below_of_same (cmpCompare_i64 _ _ _)) | exact later_of (below_of_same (cmpCompare_int _ _ _)) | exact later_of (below_of_same (cmpCompare_u32 _ _ _))))
  refine wpQuiet_nil ?_
  rintro ⟨W, hW⟩
  dsimp only
  clear c1
  have hb : Below w.heap.size w W := (((Below.refl _ w).alloc (Nat.le_refl _) _).alloc (by simp) _).trans (hW.mono (by simp; omega))
  clear hW
  go_wp2_with (go_at_call 25; refine (cmpOr_int _ _ (cmpI a.t b.t) (cmpI a.f b.f) (cmpI a.s b.s) _ (by simp) (by simp) (by simp)).mono ?_; rintro e w' ⟨rfl, rfl⟩)
  go_ret
  exact ⟨rfl, hb.alloc hb.size _⟩
end Go.Proofs.YtlkajpmfcibagaaDoor
