/- KeyOrder: of any two keys it is told which one is ahead, and whether one may be, as the reference says. -/
import Derived.Test.YtlkajpmfcibagaaDoorKeyB
namespace Go.Proofs.YtlkajpmfcibagaaDoor
open Go.RowKit Law
set_option linter.unusedVariables false

theorem cmpI_vals (x y : Int) : (cmpI x y = -1 ∧ cmpI y x = 1) ∨ (cmpI x y = 0 ∧ cmpI y x = 0) ∨ (cmpI x y = 1 ∧ cmpI y x = -1) := by
  unfold cmpI
  repeat' split
  all_goals omega
theorem cmpK_vals (a b : K) : (cmpK a b = -1 ∧ cmpK b a = 1) ∨ (cmpK a b = 0 ∧ cmpK b a = 0) ∨ (cmpK a b = 1 ∧ cmpK b a = -1) := by
  unfold cmpK
  have h1 := cmpI_vals a.t b.t
  have h2 := cmpI_vals a.f b.f
  have h3 := cmpI_vals a.s b.s
  generalize cmpI a.t b.t = x1 at *
  generalize cmpI b.t a.t = y1 at *
  generalize cmpI a.f b.f = x2 at *
  generalize cmpI b.f a.f = y2 at *
  generalize cmpI a.s b.s = x3 at *
  generalize cmpI b.s a.s = y3 at *
  unfold or3
  rcases h1 with ⟨rfl, rfl⟩ | ⟨rfl, rfl⟩ | ⟨rfl, rfl⟩ <;> rcases h2 with ⟨rfl, rfl⟩ | ⟨rfl, rfl⟩ | ⟨rfl, rfl⟩ <;> rcases h3 with ⟨rfl, rfl⟩ | ⟨rfl, rfl⟩ | ⟨rfl, rfl⟩ <;> decide
set_option maxHeartbeats 4000000 in
theorem walkOrder_ (a b : K) (r1 r2 : Bool) (c : Int) (hc : (r1 = true ∧ r2 = false ∧ c = -1) ∨ (r1 = false ∧ r2 = false ∧ c = 0) ∨ (r1 = false ∧ r2 = true ∧ c = 1)) (h1 : lessK a b = r1) (h2 : lessK b a = r2) (h3 : cmpK a b = c)
    (w : World) (h : P10 w) : Calls Tryd.prog 3 #[.agg #[.int .i64 a.t, .int .i64 a.f, .int .u32 a.s], .agg #[.int .i64 b.t, .int .i64 b.f, .int .u32 b.s]] w fun e w' => e = .returned (.bool true) ∧ Below w.heap.size w w' := by
  have hb0 : Below w.heap.size w ((w.alloc (.cells #[.int .i64 a.t, .int .i64 a.f, .int .u32 a.s] 24)).alloc (.cells #[.int .i64 b.t, .int .i64 b.f, .int .u32 b.s] 24)) := ((Below.refl _ w).alloc (Nat.le_refl _) _).alloc (by simp) _
  have L1 := refLessB h1
  have L2 := refLessB h2
  have L3 := keyLessB h1
  have L4 := keyCompareB h3
  have HC := Lib.hid (And.intro L1 (And.intro L2 (And.intro L3 L4)))
  clear L1 L2 L3 L4 h1 h2 h3
  rcases hc with ⟨rfl, rfl, rfl⟩ | ⟨rfl, rfl, rfl⟩ | ⟨rfl, rfl, rfl⟩
  · go_enter Tryd.func3, Tryd.ntmps3
    go_wp2_with fail
    refine (HC.out.1 _).mono ?_
    rintro e w1 ⟨rfl, hb1⟩
    have c1 : w1.cell? ⟨w.heap.size, 0, none⟩ = some (.int .i64 a.t) ∧ w1.cell? ⟨w.heap.size, 1, none⟩ = some (.int .i64 a.f) ∧ w1.cell? ⟨w.heap.size, 2, none⟩ = some (.int .u32 a.s) ∧
      w1.cell? ⟨w.heap.size + 1, 0, none⟩ = some (.int .i64 b.t) ∧ w1.cell? ⟨w.heap.size + 1, 1, none⟩ = some (.int .i64 b.f) ∧ w1.cell? ⟨w.heap.size + 1, 2, none⟩ = some (.int .u32 b.s) :=
      ⟨Later.cell (by simp) ⟨w1, hb1⟩, Later.cell (by simp) ⟨w1, hb1⟩, Later.cell (by simp) ⟨w1, hb1⟩, Later.cell (by simp) ⟨w1, hb1⟩, Later.cell (by simp) ⟨w1, hb1⟩, Later.cell (by simp) ⟨w1, hb1⟩⟩
    go_wp2_with fail
    refine (HC.out.2.1 _).mono ?_
    rintro e w2 ⟨rfl, hb2⟩
    have hb : Below w.heap.size w w2 := (hb0.trans (hb1.mono (by simp; omega))).trans (hb2.mono (hb0.trans (hb1.mono (by simp; omega))).size)
    have c2 : ∀ W : Later w2, W.val.cell? ⟨w.heap.size, 0, none⟩ = some (.int .i64 a.t) ∧ W.val.cell? ⟨w.heap.size, 1, none⟩ = some (.int .i64 a.f) ∧ W.val.cell? ⟨w.heap.size, 2, none⟩ = some (.int .u32 a.s) ∧
      W.val.cell? ⟨w.heap.size + 1, 0, none⟩ = some (.int .i64 b.t) ∧ W.val.cell? ⟨w.heap.size + 1, 1, none⟩ = some (.int .i64 b.f) ∧ W.val.cell? ⟨w.heap.size + 1, 2, none⟩ = some (.int .u32 b.s) := by
      obtain ⟨a1, a2, a3, a4, a5, a6⟩ := c1
      exact fun W => ⟨Later.cell (Later.cell a1 ⟨w2, hb2⟩) W, Later.cell (Later.cell a2 ⟨w2, hb2⟩) W, Later.cell (Later.cell a3 ⟨w2, hb2⟩) W, Later.cell (Later.cell a4 ⟨w2, hb2⟩) W, Later.cell (Later.cell a5 ⟨w2, hb2⟩) W, Later.cell (Later.cell a6 ⟨w2, hb2⟩) W⟩
    have hp := Lib.hid (h.below hb)
    clear c1 hb1 hb2 hb0 h
    go_wp2_with fail
    refine wp_region_later (by kernel_rfl) (by kernel_rfl) ?_
    repeat (go_big_quiet_step (first | exact later_of (HC.out.2.2.1 _) | exact later_of (HC.out.2.2.2 _) | exact later_of (keyGood a _) | exact later_of (refGood a _) | exact later_of (works06 _ (hp.out.later _))))
    refine wpQuiet_nil ?_
    rintro _ ⟨⟨W, hW⟩, rfl⟩
    clear c2
    go_wp2_with fail
    go_ret
    exact ⟨rfl, hb.trans (hW.mono hb.size)⟩
  · go_enter Tryd.func3, Tryd.ntmps3
    go_wp2_with fail
    refine (HC.out.1 _).mono ?_
    rintro e w1 ⟨rfl, hb1⟩
    have c1 : w1.cell? ⟨w.heap.size, 0, none⟩ = some (.int .i64 a.t) ∧ w1.cell? ⟨w.heap.size, 1, none⟩ = some (.int .i64 a.f) ∧ w1.cell? ⟨w.heap.size, 2, none⟩ = some (.int .u32 a.s) ∧
      w1.cell? ⟨w.heap.size + 1, 0, none⟩ = some (.int .i64 b.t) ∧ w1.cell? ⟨w.heap.size + 1, 1, none⟩ = some (.int .i64 b.f) ∧ w1.cell? ⟨w.heap.size + 1, 2, none⟩ = some (.int .u32 b.s) :=
      ⟨Later.cell (by simp) ⟨w1, hb1⟩, Later.cell (by simp) ⟨w1, hb1⟩, Later.cell (by simp) ⟨w1, hb1⟩, Later.cell (by simp) ⟨w1, hb1⟩, Later.cell (by simp) ⟨w1, hb1⟩, Later.cell (by simp) ⟨w1, hb1⟩⟩
    go_wp2_with fail
    refine (HC.out.2.1 _).mono ?_
    rintro e w2 ⟨rfl, hb2⟩
    have hb : Below w.heap.size w w2 := (hb0.trans (hb1.mono (by simp; omega))).trans (hb2.mono (hb0.trans (hb1.mono (by simp; omega))).size)
    have c2 : ∀ W : Later w2, W.val.cell? ⟨w.heap.size, 0, none⟩ = some (.int .i64 a.t) ∧ W.val.cell? ⟨w.heap.size, 1, none⟩ = some (.int .i64 a.f) ∧ W.val.cell? ⟨w.heap.size, 2, none⟩ = some (.int .u32 a.s) ∧
      W.val.cell? ⟨w.heap.size + 1, 0, none⟩ = some (.int .i64 b.t) ∧ W.val.cell? ⟨w.heap.size + 1, 1, none⟩ = some (.int .i64 b.f) ∧ W.val.cell? ⟨w.heap.size + 1, 2, none⟩ = some (.int .u32 b.s) := by
      obtain ⟨a1, a2, a3, a4, a5, a6⟩ := c1
      exact fun W => ⟨Later.cell (Later.cell a1 ⟨w2, hb2⟩) W, Later.cell (Later.cell a2 ⟨w2, hb2⟩) W, Later.cell (Later.cell a3 ⟨w2, hb2⟩) W, Later.cell (Later.cell a4 ⟨w2, hb2⟩) W, Later.cell (Later.cell a5 ⟨w2, hb2⟩) W, Later.cell (Later.cell a6 ⟨w2, hb2⟩) W⟩
    have hp := Lib.hid (h.below hb)
    clear c1 hb1 hb2 hb0 h
    go_wp2_with fail
    refine wp_region_later (by kernel_rfl) (by kernel_rfl) ?_
    repeat (go_big_quiet_step (first | exact later_of (HC.out.2.2.1 _) | exact later_of (HC.out.2.2.2 _) | exact later_of (keyGood a _) | exact later_of (refGood a _) | exact later_of (works06 _ (hp.out.later _))))
    refine wpQuiet_nil ?_
    rintro _ ⟨⟨W, hW⟩, rfl⟩
    clear c2
    go_wp2_with fail
    go_ret
    exact ⟨rfl, hb.trans (hW.mono hb.size)⟩
  · go_enter Tryd.func3, Tryd.ntmps3
    go_wp2_with fail
    refine (HC.out.1 _).mono ?_
    rintro e w1 ⟨rfl, hb1⟩
    have c1 : w1.cell? ⟨w.heap.size, 0, none⟩ = some (.int .i64 a.t) ∧ w1.cell? ⟨w.heap.size, 1, none⟩ = some (.int .i64 a.f) ∧ w1.cell? ⟨w.heap.size, 2, none⟩ = some (.int .u32 a.s) ∧
      w1.cell? ⟨w.heap.size + 1, 0, none⟩ = some (.int .i64 b.t) ∧ w1.cell? ⟨w.heap.size + 1, 1, none⟩ = some (.int .i64 b.f) ∧ w1.cell? ⟨w.heap.size + 1, 2, none⟩ = some (.int .u32 b.s) :=
      ⟨Later.cell (by simp) ⟨w1, hb1⟩, Later.cell (by simp) ⟨w1, hb1⟩, Later.cell (by simp) ⟨w1, hb1⟩, Later.cell (by simp) ⟨w1, hb1⟩, Later.cell (by simp) ⟨w1, hb1⟩, Later.cell (by simp) ⟨w1, hb1⟩⟩
    go_wp2_with fail
    refine (HC.out.2.1 _).mono ?_
    rintro e w2 ⟨rfl, hb2⟩
    have hb : Below w.heap.size w w2 := (hb0.trans (hb1.mono (by simp; omega))).trans (hb2.mono (hb0.trans (hb1.mono (by simp; omega))).size)
    have c2 : ∀ W : Later w2, W.val.cell? ⟨w.heap.size, 0, none⟩ = some (.int .i64 a.t) ∧ W.val.cell? ⟨w.heap.size, 1, none⟩ = some (.int .i64 a.f) ∧ W.val.cell? ⟨w.heap.size, 2, none⟩ = some (.int .u32 a.s) ∧
      W.val.cell? ⟨w.heap.size + 1, 0, none⟩ = some (.int .i64 b.t) ∧ W.val.cell? ⟨w.heap.size + 1, 1, none⟩ = some (.int .i64 b.f) ∧ W.val.cell? ⟨w.heap.size + 1, 2, none⟩ = some (.int .u32 b.s) := by
      obtain ⟨a1, a2, a3, a4, a5, a6⟩ := c1
      exact fun W => ⟨Later.cell (Later.cell a1 ⟨w2, hb2⟩) W, Later.cell (Later.cell a2 ⟨w2, hb2⟩) W, Later.cell (Later.cell a3 ⟨w2, hb2⟩) W, Later.cell (Later.cell a4 ⟨w2, hb2⟩) W, Later.cell (Later.cell a5 ⟨w2, hb2⟩) W, Later.cell (Later.cell a6 ⟨w2, hb2⟩) W⟩
    have hp := Lib.hid (h.below hb)
    clear c1 hb1 hb2 hb0 h
    go_wp2_with fail
    refine wp_region_later (by kernel_rfl) (by kernel_rfl) ?_
    repeat (go_big_quiet_step (first | exact later_of (HC.out.2.2.1 _) | exact later_of (HC.out.2.2.2 _) | exact later_of (keyGood a _) | exact later_of (refGood a _) | exact later_of (works06 _ (hp.out.later _))))
    refine wpQuiet_nil ?_
    rintro _ ⟨⟨W, hW⟩, rfl⟩
    clear c2
    go_wp2_with fail
    go_ret
    exact ⟨rfl, hb.trans (hW.mono hb.size)⟩
theorem walkOrder (a b : K) (w : World) (h : P10 w) : Calls Tryd.prog 3 #[.agg #[.int .i64 a.t, .int .i64 a.f, .int .u32 a.s], .agg #[.int .i64 b.t, .int .i64 b.f, .int .u32 b.s]] w fun e w' => e = .returned (.bool true) ∧ Below w.heap.size w w' := by
  rcases cmpK_vals a b with ⟨hab, hba⟩ | ⟨hab, hba⟩ | ⟨hab, hba⟩
  · exact walkOrder_ a b true false (-1) (.inl ⟨rfl, rfl, rfl⟩) (lessK_true (by omega)) (lessK_false (by omega)) hab w h
  · exact walkOrder_ a b false false 0 (.inr (.inl ⟨rfl, rfl, rfl⟩)) (lessK_false (by omega)) (lessK_false (by omega)) hab w h
  · exact walkOrder_ a b false true 1 (.inr (.inr ⟨rfl, rfl, rfl⟩)) (lessK_false (by omega)) (lessK_true (by omega)) hab w h
end Go.Proofs.YtlkajpmfcibagaaDoor
