/- KeyTexts and KeyArrays: the walks. -/
import Derived.Test.YtlkajpmfcibagaaDoorKeyB
namespace Go.Proofs.YtlkajpmfcibagaaDoor
open Go.RowKit Law
set_option linter.unusedVariables false

set_option maxHeartbeats 800000 in
theorem walkTexts (k : K) (hk : k.Fits) (w : World) (h : P10 w) : Calls Tryd.prog 4 #[.agg #[.int .i64 k.t, .int .i64 k.f, .int .u32 k.s]] w fun e w' => e = .returned (.bool true) ∧ Below w.heap.size w w' := by
  have hp := Lib.hid (h.below ((Below.refl _ w).alloc (Nat.le_refl _) (.cells #[.int .i64 k.t, .int .i64 k.f, .int .u32 k.s] 24)))
  have HK := Lib.hid hk
  clear h hk
  go_enter Tryd.func4, Tryd.ntmps4
  go_wp2_with fail
  have c1 : ∀ W : Later (w.alloc (.cells #[.int .i64 k.t, .int .i64 k.f, .int .u32 k.s] 24)),
    W.val.cell? ⟨w.heap.size, 0, none⟩ = some (.int .i64 k.t) ∧ W.val.cell? ⟨w.heap.size, 1, none⟩ = some (.int .i64 k.f) ∧ W.val.cell? ⟨w.heap.size, 2, none⟩ = some (.int .u32 k.s) :=
    fun W => ⟨Later.cell (by simp) W, Later.cell (by simp) W, Later.cell (by simp) W⟩
  refine wp_region_later (by kernel_rfl) (by kernel_rfl) ?_
  repeat (go_big_quiet_step (first | exact later_of (keyText k HK.out _ (hp.out.later _)) | exact later_of (refText k HK.out _) | exact later_of (works06 _ (hp.out.later _))))
  refine wpQuiet_nil ?_
  rintro _ ⟨⟨W, hW⟩, rfl⟩
  clear c1
  go_wp2_with fail
  go_ret
  exact ⟨rfl, ((Below.refl _ w).alloc (Nat.le_refl _) _).trans (hW.mono (by simp))⟩

theorem keyArray (k : K) (s0 : 0 ≤ k.s) (s1 : k.s ≤ 4294967295) (w : World) : Calls Tryd.prog 18 #[.agg #[.int .i64 k.t, .int .i64 k.f, .int .u32 k.s]] w fun e w' => e = .returned (.agg #[.int .i64 k.t, .int .i64 k.f, .int .i64 k.s]) ∧ Below w.heap.size w w' := by
  go_enter Tryd.func18, Tryd.ntmps18
  go_wp2_with fail
  exact bodyPost_ret (v := .agg #[.int .i64 k.t, .int .i64 k.f, .int .i64 k.s]) (by simp [results, Tryd.results18, go_sem]) rfl ⟨rfl, ((Below.refl _ w).alloc (Nat.le_refl _) _).alloc (by simp) _⟩

theorem keyOf_yes (x y z : Int) (hy : 0 ≤ y ∧ y < 64) (hz : 0 ≤ z ∧ z ≤ 4294967295) (w : World) : Calls Tryd.prog 17 #[.agg #[.int .i64 x, .int .i64 y, .int .i64 z]] w fun e w' =>
    e = .returned (.tuple #[.agg #[.int .i64 x, .int .i64 y, .int .u32 z], .bool true]) ∧ Below w.heap.size w w' := by
  obtain ⟨hy0, hy1⟩ := hy
  obtain ⟨hz0, hz1⟩ := hz
  have hn := (keyNode y · |>.mono fun e w' (h : e = .returned (.bool (nodeB y)) ∧ _) => (⟨by rw [h.1, nodeB_true hy0 hy1], h.2⟩ : e = .returned (.bool true) ∧ _))
  have HN := Lib.hid hn
  clear hn
  go_enter Tryd.func17, Tryd.ntmps17
  go_wp2_with (go_at_call 29; refine (HN.out _).mono ?_; rintro e w' ⟨rfl, rfl⟩)
  exact bodyPost_ret (v := .tuple #[.agg #[.int .i64 x, .int .i64 y, .int .u32 z], .bool true]) (by simp [results, Tryd.results17, go_sem]) rfl ⟨rfl, ((Below.refl _ w).alloc (Nat.le_refl _) _).alloc (by simp) _⟩

theorem keyOf_no (x y z : Int) (h : ¬ ((0 ≤ y ∧ y < 64) ∧ 0 ≤ z ∧ z ≤ 4294967295)) (w : World) : Calls Tryd.prog 17 #[.agg #[.int .i64 x, .int .i64 y, .int .i64 z]] w fun e w' =>
    e = .returned (.tuple #[.agg #[.int .i64 0, .int .i64 0, .int .u32 0], .bool false]) ∧ Below w.heap.size w w' := by
  by_cases hy : 0 ≤ y ∧ y < 64
  · have hz : (z % 4294967296 != z) = true := by
      rw [bne_iff_ne]
      omega
    have hn := (keyNode y · |>.mono fun e w' (h : e = .returned (.bool (nodeB y)) ∧ _) => (⟨by rw [h.1, nodeB_true hy.1 hy.2], h.2⟩ : e = .returned (.bool true) ∧ _))
    have HN := Lib.hid hn
    clear hn h hy
    go_enter Tryd.func17, Tryd.ntmps17
    go_wp2_with (go_at_call 29; refine (HN.out _).mono ?_; rintro e w' ⟨rfl, rfl⟩)
    exact bodyPost_ret (v := .tuple #[.agg #[.int .i64 0, .int .i64 0, .int .u32 0], .bool false]) (by simp [results, Tryd.results17, go_sem]) rfl ⟨rfl, ((Below.refl _ w).alloc (Nat.le_refl _) _).alloc (by simp) _⟩
  · have hn := (keyNode y · |>.mono fun e w' (h : e = .returned (.bool (nodeB y)) ∧ _) => (⟨by rw [h.1, nodeB_false hy], h.2⟩ : e = .returned (.bool false) ∧ _))
    have HN := Lib.hid hn
    clear hn h hy
    go_enter Tryd.func17, Tryd.ntmps17
    go_wp2_with (go_at_call 29; refine (HN.out _).mono ?_; rintro e w' ⟨rfl, rfl⟩)
    exact bodyPost_ret (v := .tuple #[.agg #[.int .i64 0, .int .i64 0, .int .u32 0], .bool false]) (by simp [results, Tryd.results17, go_sem]) rfl ⟨rfl, ((Below.refl _ w).alloc (Nat.le_refl _) _).alloc (by simp) _⟩
end Go.Proofs.YtlkajpmfcibagaaDoor
