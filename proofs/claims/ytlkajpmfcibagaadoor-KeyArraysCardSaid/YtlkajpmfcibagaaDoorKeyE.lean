/- KeyArrays: the walk. -/
import Derived.Test.YtlkajpmfcibagaaDoorKeyD
import Derived.Test.YtlkajpmfcibagaaDoorKeyB
import Derived.Test.YtlkajpmfcibagaaDoorKeyQ
namespace Go.Proofs.YtlkajpmfcibagaaDoor
open Go.RowKit Law
set_option linter.unusedVariables false

/-- Of an array and a key: what key.Of gives, by cases. -/
def okA (y z : Int) : Prop := (0 ≤ y ∧ y < 64) ∧ 0 ≤ z ∧ z ≤ 4294967295
/-- What the two boxed arguments hold. -/
structure Args (W : World) (b : Nat) (x y z : Int) (k : K) : Prop where
  a0 : W.cell? ⟨b, 0, none⟩ = some (.int .i64 x)
  a1 : W.cell? ⟨b, 1, none⟩ = some (.int .i64 y)
  a2 : W.cell? ⟨b, 2, none⟩ = some (.int .i64 z)
  k0 : W.cell? ⟨b + 1, 0, none⟩ = some (.int .i64 k.t)
  k1 : W.cell? ⟨b + 1, 1, none⟩ = some (.int .i64 k.f)
  k2 : W.cell? ⟨b + 1, 2, none⟩ = some (.int .u32 k.s)
theorem Args.below {W W' : World} {b : Nat} {x y z : Int} {k : K} (h : Args W b x y z k) (hb : Below W.heap.size W W') : Args W' b x y z k :=
  ⟨Later.cell h.a0 ⟨W', hb⟩, Later.cell h.a1 ⟨W', hb⟩, Later.cell h.a2 ⟨W', hb⟩, Later.cell h.k0 ⟨W', hb⟩, Later.cell h.k1 ⟨W', hb⟩, Later.cell h.k2 ⟨W', hb⟩⟩
theorem Args.alloc {W : World} {b : Nat} {x y z : Int} {k : K} (h : Args W b x y z k) (o : Obj) : Args (W.alloc o) b x y z k := h.below ((Below.refl _ W).alloc (Nat.le_refl _) o)
theorem Args.flat {W : World} {b : Nat} {x y z : Int} {k : K} (h : Args W b x y z k) :
    W.cell? ⟨b, 0, none⟩ = some (.int .i64 x) ∧ W.cell? ⟨b, 1, none⟩ = some (.int .i64 y) ∧ W.cell? ⟨b, 2, none⟩ = some (.int .i64 z) ∧ W.cell? ⟨b + 1, 0, none⟩ = some (.int .i64 k.t) ∧ W.cell? ⟨b + 1, 1, none⟩ = some (.int .i64 k.f) ∧ W.cell? ⟨b + 1, 2, none⟩ = some (.int .u32 k.s) :=
  ⟨h.a0, h.a1, h.a2, h.k0, h.k1, h.k2⟩
/-- Three cells of a block of the call's own. -/
structure Cell3 (W : World) (b : Nat) (u v x : Value) : Prop where
  c0 : W.cell? ⟨b, 0, none⟩ = some u
  c1 : W.cell? ⟨b, 1, none⟩ = some v
  c2 : W.cell? ⟨b, 2, none⟩ = some x
theorem Cell3.new (W : World) (t : TypeId) (u v x : Value) : Cell3 (W.alloc (.cells #[u, v, x] t)) W.heap.size u v x := ⟨by simp, by simp, by simp⟩
theorem Cell3.below {W W' : World} {b : Nat} {u v x : Value} (h : Cell3 W b u v x) (hb : Below W.heap.size W W') : Cell3 W' b u v x :=
  ⟨Later.cell h.c0 ⟨W', hb⟩, Later.cell h.c1 ⟨W', hb⟩, Later.cell h.c2 ⟨W', hb⟩⟩
theorem Cell3.alloc {W : World} {b : Nat} {u v x : Value} (h : Cell3 W b u v x) (o : Obj) : Cell3 (W.alloc o) b u v x := h.below ((Below.refl _ W).alloc (Nat.le_refl _) o)
theorem Cell3.flat {W : World} {b : Nat} {u v x : Value} (h : Cell3 W b u v x) : W.cell? ⟨b, 0, none⟩ = some u ∧ W.cell? ⟨b, 1, none⟩ = some v ∧ W.cell? ⟨b, 2, none⟩ = some x := ⟨h.c0, h.c1, h.c2⟩

set_option maxHeartbeats 1600000 in
theorem walkArr_ya (x y z : Int) (k : K) (s0 : 0 ≤ k.s) (s1 : k.s ≤ 4294967295) (hy0 : 0 ≤ y) (hy1 : y < 64) (hz0 : 0 ≤ z) (hz1 : z ≤ 4294967295) (hf0 : 0 ≤ k.f) (hf1 : k.f < 64) (w : World) (h : P10 w) : Calls Tryd.prog 5 #[.agg #[.int .i64 x, .int .i64 y, .int .i64 z], .agg #[.int .i64 k.t, .int .i64 k.f, .int .u32 k.s]] w fun e w' => e = .returned (.bool true) ∧ Below w.heap.size w w' := by
  have hb0 : Below w.heap.size w ((w.alloc (.cells #[.int .i64 x, .int .i64 y, .int .i64 z] 30)).alloc (.cells #[.int .i64 k.t, .int .i64 k.f, .int .u32 k.s] 24)) := ((Below.refl _ w).alloc (Nat.le_refl _) _).alloc (by simp) _
  have A0 : Args ((w.alloc (.cells #[.int .i64 x, .int .i64 y, .int .i64 z] 30)).alloc (.cells #[.int .i64 k.t, .int .i64 k.f, .int .u32 k.s] 24)) w.heap.size x y z k := ⟨by simp, by simp, by simp, by simp, by simp, by simp⟩
  have HP := Lib.hid h
  have C2 := keyArray k s0 s1
  have HE := Lib.hid (run_eqK ⟨x, y, z⟩ ⟨x, y, z⟩)
  have EK : ∀ W, (binOp .neq 24 (.agg #[.int .i64 k.t, .int .i64 k.f, .int .u32 k.s]) (.agg #[.int .i64 k.t, .int .i64 k.f, .int .u32 k.s])).run Tryd.prog W = .ok (.bool false) W := fun W => by
    rw [run_neK k k W]
    unfold eqK
    simp
  have HC := Lib.hid (And.intro (keyOf_yes x y z ⟨hy0, hy1⟩ ⟨hz0, hz1⟩) (And.intro C2 (keyOf_yes k.t k.f k.s ⟨hf0, hf1⟩ ⟨s0, s1⟩)))
  clear C2 h
  go_enter Tryd.func5, Tryd.ntmps5
  go_wp2_with fail
  refine (HC.out.1 _).mono ?_
  rintro e w1 ⟨rfl, hb1⟩
  have A1 := A0.below hb1
  have hb01 := hb0.trans (hb1.mono hb0.size)
  have g1 : ∀ o, _ := fun o => (A1.alloc o).flat
  go_wp2_with fail
  refine (HC.out.2.1 _).mono ?_
  rintro e w2 ⟨rfl, hb2⟩
  clear g1
  have A2 := (A1.alloc _).below hb2
  have X2 := (Cell3.new w1 24 (.int .i64 x) (.int .i64 y) (.int .u32 z)).below hb2
  have hb02 := (hb01.alloc hb01.size (.cells #[.int .i64 x, .int .i64 y, .int .u32 z] 24)).trans (hb2.mono (hb01.alloc hb01.size (.cells #[.int .i64 x, .int .i64 y, .int .u32 z] 24)).size)
  go_wp2_with fail
  refine (HC.out.2.2 _).mono ?_
  rintro e w3 ⟨rfl, hb3⟩
  have A3 := A2.below hb3
  have X3 := X2.below hb3
  have hb03 := hb02.trans (hb3.mono hb02.size)
  have hp3 := Lib.hid (HP.out.below (hb03.alloc hb03.size (.cells #[.int .i64 k.t, .int .i64 k.f, .int .u32 k.s] 24)))
  have g3 : ∀ o, _ := fun o => (A3.alloc o).flat
  have x3 : ∀ o, _ := fun o => (X3.alloc o).flat
  clear A0 A1 A2 X2 hb1 hb2 hb3 hb0 hb01 hb02
  go_wp2_with fail
  have cs : ∀ W : Later (w3.alloc (.cells #[.int .i64 k.t, .int .i64 k.f, .int .u32 k.s] 24)), _ := fun W => ((A3.alloc (.cells #[.int .i64 k.t, .int .i64 k.f, .int .u32 k.s] 24)).below W.h).flat
  have xs : ∀ W : Later (w3.alloc (.cells #[.int .i64 k.t, .int .i64 k.f, .int .u32 k.s] 24)), _ := fun W => ((X3.alloc (.cells #[.int .i64 k.t, .int .i64 k.f, .int .u32 k.s] 24)).below W.h).flat
  have e1 := run_eqA3 x y z
  have e2 : ∀ W, (binOp .eql 24 (.agg #[.int .i64 x, .int .i64 y, .int .u32 z]) (.agg #[.int .i64 x, .int .i64 y, .int .u32 z])).run Tryd.prog W = .ok (.bool true) W := fun W => by
    rw [HE.out W]
    unfold eqK
    simp
  have HA := Lib.hid (keyArray ⟨x, y, z⟩ hz0 hz1)
  refine wp_region_later (by kernel_rfl) (by kernel_rfl) ?_
  repeat (go_big_quiet_step (first | exact later_of (HA.out _) | exact later_of (works06 _ (hp3.out.later _))))
  refine wpQuiet_nil ?_
  rintro _ ⟨⟨W, hW⟩, rfl⟩
  clear cs xs
  go_wp2_with fail
  go_ret
  exact ⟨rfl, (hb03.alloc hb03.size _).trans (hW.mono (hb03.alloc hb03.size _).size)⟩
set_option maxHeartbeats 1600000 in
theorem walkArr_yb (x y z : Int) (k : K) (s0 : 0 ≤ k.s) (s1 : k.s ≤ 4294967295) (hy0 : 0 ≤ y) (hy1 : y < 64) (hz0 : 0 ≤ z) (hz1 : z ≤ 4294967295) (hf0 : ¬ 0 ≤ k.f) (w : World) (h : P10 w) : Calls Tryd.prog 5 #[.agg #[.int .i64 x, .int .i64 y, .int .i64 z], .agg #[.int .i64 k.t, .int .i64 k.f, .int .u32 k.s]] w fun e w' => e = .returned (.bool true) ∧ Below w.heap.size w w' := by
  have hb0 : Below w.heap.size w ((w.alloc (.cells #[.int .i64 x, .int .i64 y, .int .i64 z] 30)).alloc (.cells #[.int .i64 k.t, .int .i64 k.f, .int .u32 k.s] 24)) := ((Below.refl _ w).alloc (Nat.le_refl _) _).alloc (by simp) _
  have A0 : Args ((w.alloc (.cells #[.int .i64 x, .int .i64 y, .int .i64 z] 30)).alloc (.cells #[.int .i64 k.t, .int .i64 k.f, .int .u32 k.s] 24)) w.heap.size x y z k := ⟨by simp, by simp, by simp, by simp, by simp, by simp⟩
  have HP := Lib.hid h
  have C2 := keyArray k s0 s1
  have HE := Lib.hid (run_eqK ⟨x, y, z⟩ ⟨x, y, z⟩)
  have hfno : ¬ ((0 ≤ k.f ∧ k.f < 64) ∧ 0 ≤ k.s ∧ k.s ≤ 4294967295) := by omega
  have hd : decide (0 ≤ k.f) = false := by simpa using hf0
  have HC := Lib.hid (And.intro (keyOf_yes x y z ⟨hy0, hy1⟩ ⟨hz0, hz1⟩) (And.intro C2 (keyOf_no k.t k.f k.s hfno)))
  clear C2 h
  go_enter Tryd.func5, Tryd.ntmps5
  go_wp2_with fail
  refine (HC.out.1 _).mono ?_
  rintro e w1 ⟨rfl, hb1⟩
  have A1 := A0.below hb1
  have hb01 := hb0.trans (hb1.mono hb0.size)
  have g1 : ∀ o, _ := fun o => (A1.alloc o).flat
  go_wp2_with fail
  refine (HC.out.2.1 _).mono ?_
  rintro e w2 ⟨rfl, hb2⟩
  clear g1
  have A2 := (A1.alloc _).below hb2
  have X2 := (Cell3.new w1 24 (.int .i64 x) (.int .i64 y) (.int .u32 z)).below hb2
  have hb02 := (hb01.alloc hb01.size (.cells #[.int .i64 x, .int .i64 y, .int .u32 z] 24)).trans (hb2.mono (hb01.alloc hb01.size (.cells #[.int .i64 x, .int .i64 y, .int .u32 z] 24)).size)
  go_wp2_with fail
  refine (HC.out.2.2 _).mono ?_
  rintro e w3 ⟨rfl, hb3⟩
  have A3 := A2.below hb3
  have X3 := X2.below hb3
  have hb03 := hb02.trans (hb3.mono hb02.size)
  have hp3 := Lib.hid (HP.out.below (hb03.alloc hb03.size (.cells #[.int .i64 0, .int .i64 0, .int .u32 0] 24)))
  have g3 : ∀ o, _ := fun o => (A3.alloc o).flat
  have x3 : ∀ o, _ := fun o => (X3.alloc o).flat
  clear A0 A1 A2 X2 hb1 hb2 hb3 hb0 hb01 hb02
  go_wp2_with fail
  have cs : ∀ W : Later (w3.alloc (.cells #[.int .i64 0, .int .i64 0, .int .u32 0] 24)), _ := fun W => ((A3.alloc (.cells #[.int .i64 0, .int .i64 0, .int .u32 0] 24)).below W.h).flat
  have xs : ∀ W : Later (w3.alloc (.cells #[.int .i64 0, .int .i64 0, .int .u32 0] 24)), _ := fun W => ((X3.alloc (.cells #[.int .i64 0, .int .i64 0, .int .u32 0] 24)).below W.h).flat
  have e1 := run_eqA3 x y z
  have e2 : ∀ W, (binOp .eql 24 (.agg #[.int .i64 x, .int .i64 y, .int .u32 z]) (.agg #[.int .i64 x, .int .i64 y, .int .u32 z])).run Tryd.prog W = .ok (.bool true) W := fun W => by
    rw [HE.out W]
    unfold eqK
    simp
  have HA := Lib.hid (keyArray ⟨x, y, z⟩ hz0 hz1)
  refine wp_region_later (by kernel_rfl) (by kernel_rfl) ?_
  repeat (go_big_quiet_step (first | exact later_of (HA.out _) | exact later_of (works06 _ (hp3.out.later _))))
  refine wpQuiet_nil ?_
  rintro _ ⟨⟨W, hW⟩, rfl⟩
  clear cs xs
  go_wp2_with fail
  go_ret
  exact ⟨rfl, (hb03.alloc hb03.size _).trans (hW.mono (hb03.alloc hb03.size _).size)⟩
set_option maxHeartbeats 1600000 in
theorem walkArr_yc (x y z : Int) (k : K) (s0 : 0 ≤ k.s) (s1 : k.s ≤ 4294967295) (hy0 : 0 ≤ y) (hy1 : y < 64) (hz0 : 0 ≤ z) (hz1 : z ≤ 4294967295) (hf0 : 0 ≤ k.f) (hf1 : ¬ k.f < 64) (w : World) (h : P10 w) : Calls Tryd.prog 5 #[.agg #[.int .i64 x, .int .i64 y, .int .i64 z], .agg #[.int .i64 k.t, .int .i64 k.f, .int .u32 k.s]] w fun e w' => e = .returned (.bool true) ∧ Below w.heap.size w w' := by
  have hb0 : Below w.heap.size w ((w.alloc (.cells #[.int .i64 x, .int .i64 y, .int .i64 z] 30)).alloc (.cells #[.int .i64 k.t, .int .i64 k.f, .int .u32 k.s] 24)) := ((Below.refl _ w).alloc (Nat.le_refl _) _).alloc (by simp) _
  have A0 : Args ((w.alloc (.cells #[.int .i64 x, .int .i64 y, .int .i64 z] 30)).alloc (.cells #[.int .i64 k.t, .int .i64 k.f, .int .u32 k.s] 24)) w.heap.size x y z k := ⟨by simp, by simp, by simp, by simp, by simp, by simp⟩
  have HP := Lib.hid h
  have C2 := keyArray k s0 s1
  have HE := Lib.hid (run_eqK ⟨x, y, z⟩ ⟨x, y, z⟩)
  have hfno : ¬ ((0 ≤ k.f ∧ k.f < 64) ∧ 0 ≤ k.s ∧ k.s ≤ 4294967295) := by omega
  have hd : decide (k.f < 64) = false := by simpa using hf1
  have HC := Lib.hid (And.intro (keyOf_yes x y z ⟨hy0, hy1⟩ ⟨hz0, hz1⟩) (And.intro C2 (keyOf_no k.t k.f k.s hfno)))
  clear C2 h
  go_enter Tryd.func5, Tryd.ntmps5
  go_wp2_with fail
  refine (HC.out.1 _).mono ?_
  rintro e w1 ⟨rfl, hb1⟩
  have A1 := A0.below hb1
  have hb01 := hb0.trans (hb1.mono hb0.size)
  have g1 : ∀ o, _ := fun o => (A1.alloc o).flat
  go_wp2_with fail
  refine (HC.out.2.1 _).mono ?_
  rintro e w2 ⟨rfl, hb2⟩
  clear g1
  have A2 := (A1.alloc _).below hb2
  have X2 := (Cell3.new w1 24 (.int .i64 x) (.int .i64 y) (.int .u32 z)).below hb2
  have hb02 := (hb01.alloc hb01.size (.cells #[.int .i64 x, .int .i64 y, .int .u32 z] 24)).trans (hb2.mono (hb01.alloc hb01.size (.cells #[.int .i64 x, .int .i64 y, .int .u32 z] 24)).size)
  go_wp2_with fail
  refine (HC.out.2.2 _).mono ?_
  rintro e w3 ⟨rfl, hb3⟩
  have A3 := A2.below hb3
  have X3 := X2.below hb3
  have hb03 := hb02.trans (hb3.mono hb02.size)
  have hp3 := Lib.hid (HP.out.below (hb03.alloc hb03.size (.cells #[.int .i64 0, .int .i64 0, .int .u32 0] 24)))
  have g3 : ∀ o, _ := fun o => (A3.alloc o).flat
  have x3 : ∀ o, _ := fun o => (X3.alloc o).flat
  clear A0 A1 A2 X2 hb1 hb2 hb3 hb0 hb01 hb02
  go_wp2_with fail
  have cs : ∀ W : Later (w3.alloc (.cells #[.int .i64 0, .int .i64 0, .int .u32 0] 24)), _ := fun W => ((A3.alloc (.cells #[.int .i64 0, .int .i64 0, .int .u32 0] 24)).below W.h).flat
  have xs : ∀ W : Later (w3.alloc (.cells #[.int .i64 0, .int .i64 0, .int .u32 0] 24)), _ := fun W => ((X3.alloc (.cells #[.int .i64 0, .int .i64 0, .int .u32 0] 24)).below W.h).flat
  have e1 := run_eqA3 x y z
  have e2 : ∀ W, (binOp .eql 24 (.agg #[.int .i64 x, .int .i64 y, .int .u32 z]) (.agg #[.int .i64 x, .int .i64 y, .int .u32 z])).run Tryd.prog W = .ok (.bool true) W := fun W => by
    rw [HE.out W]
    unfold eqK
    simp
  have HA := Lib.hid (keyArray ⟨x, y, z⟩ hz0 hz1)
  refine wp_region_later (by kernel_rfl) (by kernel_rfl) ?_
  repeat (go_big_quiet_step (first | exact later_of (HA.out _) | exact later_of (works06 _ (hp3.out.later _))))
  refine wpQuiet_nil ?_
  rintro _ ⟨⟨W, hW⟩, rfl⟩
  clear cs xs
  go_wp2_with fail
  go_ret
  exact ⟨rfl, (hb03.alloc hb03.size _).trans (hW.mono (hb03.alloc hb03.size _).size)⟩
set_option maxHeartbeats 1600000 in
theorem walkArr_n1a (x y z : Int) (k : K) (s0 : 0 ≤ k.s) (s1 : k.s ≤ 4294967295) (hy0 : ¬ 0 ≤ y) (hf0 : 0 ≤ k.f) (hf1 : k.f < 64) (w : World) (h : P10 w) : Calls Tryd.prog 5 #[.agg #[.int .i64 x, .int .i64 y, .int .i64 z], .agg #[.int .i64 k.t, .int .i64 k.f, .int .u32 k.s]] w fun e w' => e = .returned (.bool true) ∧ Below w.heap.size w w' := by
  have hb0 : Below w.heap.size w ((w.alloc (.cells #[.int .i64 x, .int .i64 y, .int .i64 z] 30)).alloc (.cells #[.int .i64 k.t, .int .i64 k.f, .int .u32 k.s] 24)) := ((Below.refl _ w).alloc (Nat.le_refl _) _).alloc (by simp) _
  have A0 : Args ((w.alloc (.cells #[.int .i64 x, .int .i64 y, .int .i64 z] 30)).alloc (.cells #[.int .i64 k.t, .int .i64 k.f, .int .u32 k.s] 24)) w.heap.size x y z k := ⟨by simp, by simp, by simp, by simp, by simp, by simp⟩
  have HP := Lib.hid h
  have C2 := keyArray k s0 s1
  have HE := Lib.hid (run_eqK ⟨x, y, z⟩ ⟨x, y, z⟩)
  have EK : ∀ W, (binOp .neq 24 (.agg #[.int .i64 k.t, .int .i64 k.f, .int .u32 k.s]) (.agg #[.int .i64 k.t, .int .i64 k.f, .int .u32 k.s])).run Tryd.prog W = .ok (.bool false) W := fun W => by
    rw [run_neK k k W]
    unfold eqK
    simp
  have hno : ¬ ((0 ≤ y ∧ y < 64) ∧ 0 ≤ z ∧ z ≤ 4294967295) := by omega
  have hn1 : decide (0 ≤ y) = false := by simpa using hy0
  have HC := Lib.hid (And.intro (keyOf_no x y z hno) (And.intro C2 (keyOf_yes k.t k.f k.s ⟨hf0, hf1⟩ ⟨s0, s1⟩)))
  clear C2 h
  go_enter Tryd.func5, Tryd.ntmps5
  go_wp2_with fail
  refine (HC.out.1 _).mono ?_
  rintro e w1 ⟨rfl, hb1⟩
  have A1 := A0.below hb1
  have hb01 := hb0.trans (hb1.mono hb0.size)
  have g1 : ∀ o, _ := fun o => (A1.alloc o).flat
  go_wp2_with fail
  refine (HC.out.2.1 _).mono ?_
  rintro e w2 ⟨rfl, hb2⟩
  clear g1
  have A2 := (A1.alloc _).below hb2
  have X2 := (Cell3.new w1 24 (.int .i64 0) (.int .i64 0) (.int .u32 0)).below hb2
  have hb02 := (hb01.alloc hb01.size (.cells #[.int .i64 0, .int .i64 0, .int .u32 0] 24)).trans (hb2.mono (hb01.alloc hb01.size (.cells #[.int .i64 0, .int .i64 0, .int .u32 0] 24)).size)
  go_wp2_with fail
  refine (HC.out.2.2 _).mono ?_
  rintro e w3 ⟨rfl, hb3⟩
  have A3 := A2.below hb3
  have X3 := X2.below hb3
  have hb03 := hb02.trans (hb3.mono hb02.size)
  have hp3 := Lib.hid (HP.out.below (hb03.alloc hb03.size (.cells #[.int .i64 k.t, .int .i64 k.f, .int .u32 k.s] 24)))
  have g3 : ∀ o, _ := fun o => (A3.alloc o).flat
  have x3 : ∀ o, _ := fun o => (X3.alloc o).flat
  clear A0 A1 A2 X2 hb1 hb2 hb3 hb0 hb01 hb02
  go_wp2_with (go_at_call 14; refine (works06 _ hp3.out).mono ?_; rintro e w4 ⟨rfl, hb4⟩)
  go_ret
  exact ⟨rfl, (hb03.alloc hb03.size _).trans (hb4.mono (hb03.alloc hb03.size _).size)⟩
set_option maxHeartbeats 1600000 in
theorem walkArr_n1b (x y z : Int) (k : K) (s0 : 0 ≤ k.s) (s1 : k.s ≤ 4294967295) (hy0 : ¬ 0 ≤ y) (hf0 : ¬ 0 ≤ k.f) (w : World) (h : P10 w) : Calls Tryd.prog 5 #[.agg #[.int .i64 x, .int .i64 y, .int .i64 z], .agg #[.int .i64 k.t, .int .i64 k.f, .int .u32 k.s]] w fun e w' => e = .returned (.bool true) ∧ Below w.heap.size w w' := by
  have hb0 : Below w.heap.size w ((w.alloc (.cells #[.int .i64 x, .int .i64 y, .int .i64 z] 30)).alloc (.cells #[.int .i64 k.t, .int .i64 k.f, .int .u32 k.s] 24)) := ((Below.refl _ w).alloc (Nat.le_refl _) _).alloc (by simp) _
  have A0 : Args ((w.alloc (.cells #[.int .i64 x, .int .i64 y, .int .i64 z] 30)).alloc (.cells #[.int .i64 k.t, .int .i64 k.f, .int .u32 k.s] 24)) w.heap.size x y z k := ⟨by simp, by simp, by simp, by simp, by simp, by simp⟩
  have HP := Lib.hid h
  have C2 := keyArray k s0 s1
  have HE := Lib.hid (run_eqK ⟨x, y, z⟩ ⟨x, y, z⟩)
  have hfno : ¬ ((0 ≤ k.f ∧ k.f < 64) ∧ 0 ≤ k.s ∧ k.s ≤ 4294967295) := by omega
  have hd : decide (0 ≤ k.f) = false := by simpa using hf0
  have hno : ¬ ((0 ≤ y ∧ y < 64) ∧ 0 ≤ z ∧ z ≤ 4294967295) := by omega
  have hn1 : decide (0 ≤ y) = false := by simpa using hy0
  have HC := Lib.hid (And.intro (keyOf_no x y z hno) (And.intro C2 (keyOf_no k.t k.f k.s hfno)))
  clear C2 h
  go_enter Tryd.func5, Tryd.ntmps5
  go_wp2_with fail
  refine (HC.out.1 _).mono ?_
  rintro e w1 ⟨rfl, hb1⟩
  have A1 := A0.below hb1
  have hb01 := hb0.trans (hb1.mono hb0.size)
  have g1 : ∀ o, _ := fun o => (A1.alloc o).flat
  go_wp2_with fail
  refine (HC.out.2.1 _).mono ?_
  rintro e w2 ⟨rfl, hb2⟩
  clear g1
  have A2 := (A1.alloc _).below hb2
  have X2 := (Cell3.new w1 24 (.int .i64 0) (.int .i64 0) (.int .u32 0)).below hb2
  have hb02 := (hb01.alloc hb01.size (.cells #[.int .i64 0, .int .i64 0, .int .u32 0] 24)).trans (hb2.mono (hb01.alloc hb01.size (.cells #[.int .i64 0, .int .i64 0, .int .u32 0] 24)).size)
  go_wp2_with fail
  refine (HC.out.2.2 _).mono ?_
  rintro e w3 ⟨rfl, hb3⟩
  have A3 := A2.below hb3
  have X3 := X2.below hb3
  have hb03 := hb02.trans (hb3.mono hb02.size)
  have hp3 := Lib.hid (HP.out.below (hb03.alloc hb03.size (.cells #[.int .i64 0, .int .i64 0, .int .u32 0] 24)))
  have g3 : ∀ o, _ := fun o => (A3.alloc o).flat
  have x3 : ∀ o, _ := fun o => (X3.alloc o).flat
  clear A0 A1 A2 X2 hb1 hb2 hb3 hb0 hb01 hb02
  go_wp2_with (go_at_call 14; refine (works06 _ hp3.out).mono ?_; rintro e w4 ⟨rfl, hb4⟩)
  go_ret
  exact ⟨rfl, (hb03.alloc hb03.size _).trans (hb4.mono (hb03.alloc hb03.size _).size)⟩
set_option maxHeartbeats 1600000 in
theorem walkArr_n1c (x y z : Int) (k : K) (s0 : 0 ≤ k.s) (s1 : k.s ≤ 4294967295) (hy0 : ¬ 0 ≤ y) (hf0 : 0 ≤ k.f) (hf1 : ¬ k.f < 64) (w : World) (h : P10 w) : Calls Tryd.prog 5 #[.agg #[.int .i64 x, .int .i64 y, .int .i64 z], .agg #[.int .i64 k.t, .int .i64 k.f, .int .u32 k.s]] w fun e w' => e = .returned (.bool true) ∧ Below w.heap.size w w' := by
  have hb0 : Below w.heap.size w ((w.alloc (.cells #[.int .i64 x, .int .i64 y, .int .i64 z] 30)).alloc (.cells #[.int .i64 k.t, .int .i64 k.f, .int .u32 k.s] 24)) := ((Below.refl _ w).alloc (Nat.le_refl _) _).alloc (by simp) _
  have A0 : Args ((w.alloc (.cells #[.int .i64 x, .int .i64 y, .int .i64 z] 30)).alloc (.cells #[.int .i64 k.t, .int .i64 k.f, .int .u32 k.s] 24)) w.heap.size x y z k := ⟨by simp, by simp, by simp, by simp, by simp, by simp⟩
  have HP := Lib.hid h
  have C2 := keyArray k s0 s1
  have HE := Lib.hid (run_eqK ⟨x, y, z⟩ ⟨x, y, z⟩)
  have hfno : ¬ ((0 ≤ k.f ∧ k.f < 64) ∧ 0 ≤ k.s ∧ k.s ≤ 4294967295) := by omega
  have hd : decide (k.f < 64) = false := by simpa using hf1
  have hno : ¬ ((0 ≤ y ∧ y < 64) ∧ 0 ≤ z ∧ z ≤ 4294967295) := by omega
  have hn1 : decide (0 ≤ y) = false := by simpa using hy0
  have HC := Lib.hid (And.intro (keyOf_no x y z hno) (And.intro C2 (keyOf_no k.t k.f k.s hfno)))
  clear C2 h
  go_enter Tryd.func5, Tryd.ntmps5
  go_wp2_with fail
  refine (HC.out.1 _).mono ?_
  rintro e w1 ⟨rfl, hb1⟩
  have A1 := A0.below hb1
  have hb01 := hb0.trans (hb1.mono hb0.size)
  have g1 : ∀ o, _ := fun o => (A1.alloc o).flat
  go_wp2_with fail
  refine (HC.out.2.1 _).mono ?_
  rintro e w2 ⟨rfl, hb2⟩
  clear g1
  have A2 := (A1.alloc _).below hb2
  have X2 := (Cell3.new w1 24 (.int .i64 0) (.int .i64 0) (.int .u32 0)).below hb2
  have hb02 := (hb01.alloc hb01.size (.cells #[.int .i64 0, .int .i64 0, .int .u32 0] 24)).trans (hb2.mono (hb01.alloc hb01.size (.cells #[.int .i64 0, .int .i64 0, .int .u32 0] 24)).size)
  go_wp2_with fail
  refine (HC.out.2.2 _).mono ?_
  rintro e w3 ⟨rfl, hb3⟩
  have A3 := A2.below hb3
  have X3 := X2.below hb3
  have hb03 := hb02.trans (hb3.mono hb02.size)
  have hp3 := Lib.hid (HP.out.below (hb03.alloc hb03.size (.cells #[.int .i64 0, .int .i64 0, .int .u32 0] 24)))
  have g3 : ∀ o, _ := fun o => (A3.alloc o).flat
  have x3 : ∀ o, _ := fun o => (X3.alloc o).flat
  clear A0 A1 A2 X2 hb1 hb2 hb3 hb0 hb01 hb02
  go_wp2_with (go_at_call 14; refine (works06 _ hp3.out).mono ?_; rintro e w4 ⟨rfl, hb4⟩)
  go_ret
  exact ⟨rfl, (hb03.alloc hb03.size _).trans (hb4.mono (hb03.alloc hb03.size _).size)⟩
set_option maxHeartbeats 1600000 in
theorem walkArr_n2a (x y z : Int) (k : K) (s0 : 0 ≤ k.s) (s1 : k.s ≤ 4294967295) (hy0 : 0 ≤ y) (hy1 : ¬ y < 64) (hf0 : 0 ≤ k.f) (hf1 : k.f < 64) (w : World) (h : P10 w) : Calls Tryd.prog 5 #[.agg #[.int .i64 x, .int .i64 y, .int .i64 z], .agg #[.int .i64 k.t, .int .i64 k.f, .int .u32 k.s]] w fun e w' => e = .returned (.bool true) ∧ Below w.heap.size w w' := by
  have hb0 : Below w.heap.size w ((w.alloc (.cells #[.int .i64 x, .int .i64 y, .int .i64 z] 30)).alloc (.cells #[.int .i64 k.t, .int .i64 k.f, .int .u32 k.s] 24)) := ((Below.refl _ w).alloc (Nat.le_refl _) _).alloc (by simp) _
  have A0 : Args ((w.alloc (.cells #[.int .i64 x, .int .i64 y, .int .i64 z] 30)).alloc (.cells #[.int .i64 k.t, .int .i64 k.f, .int .u32 k.s] 24)) w.heap.size x y z k := ⟨by simp, by simp, by simp, by simp, by simp, by simp⟩
  have HP := Lib.hid h
  have C2 := keyArray k s0 s1
  have HE := Lib.hid (run_eqK ⟨x, y, z⟩ ⟨x, y, z⟩)
  have EK : ∀ W, (binOp .neq 24 (.agg #[.int .i64 k.t, .int .i64 k.f, .int .u32 k.s]) (.agg #[.int .i64 k.t, .int .i64 k.f, .int .u32 k.s])).run Tryd.prog W = .ok (.bool false) W := fun W => by
    rw [run_neK k k W]
    unfold eqK
    simp
  have hno : ¬ ((0 ≤ y ∧ y < 64) ∧ 0 ≤ z ∧ z ≤ 4294967295) := by omega
  have hn1 : decide (y < 64) = false := by simpa using hy1
  have HC := Lib.hid (And.intro (keyOf_no x y z hno) (And.intro C2 (keyOf_yes k.t k.f k.s ⟨hf0, hf1⟩ ⟨s0, s1⟩)))
  clear C2 h
  go_enter Tryd.func5, Tryd.ntmps5
  go_wp2_with fail
  refine (HC.out.1 _).mono ?_
  rintro e w1 ⟨rfl, hb1⟩
  have A1 := A0.below hb1
  have hb01 := hb0.trans (hb1.mono hb0.size)
  have g1 : ∀ o, _ := fun o => (A1.alloc o).flat
  go_wp2_with fail
  refine (HC.out.2.1 _).mono ?_
  rintro e w2 ⟨rfl, hb2⟩
  clear g1
  have A2 := (A1.alloc _).below hb2
  have X2 := (Cell3.new w1 24 (.int .i64 0) (.int .i64 0) (.int .u32 0)).below hb2
  have hb02 := (hb01.alloc hb01.size (.cells #[.int .i64 0, .int .i64 0, .int .u32 0] 24)).trans (hb2.mono (hb01.alloc hb01.size (.cells #[.int .i64 0, .int .i64 0, .int .u32 0] 24)).size)
  go_wp2_with fail
  refine (HC.out.2.2 _).mono ?_
  rintro e w3 ⟨rfl, hb3⟩
  have A3 := A2.below hb3
  have X3 := X2.below hb3
  have hb03 := hb02.trans (hb3.mono hb02.size)
  have hp3 := Lib.hid (HP.out.below (hb03.alloc hb03.size (.cells #[.int .i64 k.t, .int .i64 k.f, .int .u32 k.s] 24)))
  have g3 : ∀ o, _ := fun o => (A3.alloc o).flat
  have x3 : ∀ o, _ := fun o => (X3.alloc o).flat
  clear A0 A1 A2 X2 hb1 hb2 hb3 hb0 hb01 hb02
  go_wp2_with (go_at_call 14; refine (works06 _ hp3.out).mono ?_; rintro e w4 ⟨rfl, hb4⟩)
  go_ret
  exact ⟨rfl, (hb03.alloc hb03.size _).trans (hb4.mono (hb03.alloc hb03.size _).size)⟩
set_option maxHeartbeats 1600000 in
theorem walkArr_n2b (x y z : Int) (k : K) (s0 : 0 ≤ k.s) (s1 : k.s ≤ 4294967295) (hy0 : 0 ≤ y) (hy1 : ¬ y < 64) (hf0 : ¬ 0 ≤ k.f) (w : World) (h : P10 w) : Calls Tryd.prog 5 #[.agg #[.int .i64 x, .int .i64 y, .int .i64 z], .agg #[.int .i64 k.t, .int .i64 k.f, .int .u32 k.s]] w fun e w' => e = .returned (.bool true) ∧ Below w.heap.size w w' := by
  have hb0 : Below w.heap.size w ((w.alloc (.cells #[.int .i64 x, .int .i64 y, .int .i64 z] 30)).alloc (.cells #[.int .i64 k.t, .int .i64 k.f, .int .u32 k.s] 24)) := ((Below.refl _ w).alloc (Nat.le_refl _) _).alloc (by simp) _
  have A0 : Args ((w.alloc (.cells #[.int .i64 x, .int .i64 y, .int .i64 z] 30)).alloc (.cells #[.int .i64 k.t, .int .i64 k.f, .int .u32 k.s] 24)) w.heap.size x y z k := ⟨by simp, by simp, by simp, by simp, by simp, by simp⟩
  have HP := Lib.hid h
  have C2 := keyArray k s0 s1
  have HE := Lib.hid (run_eqK ⟨x, y, z⟩ ⟨x, y, z⟩)
  have hfno : ¬ ((0 ≤ k.f ∧ k.f < 64) ∧ 0 ≤ k.s ∧ k.s ≤ 4294967295) := by omega
  have hd : decide (0 ≤ k.f) = false := by simpa using hf0
  have hno : ¬ ((0 ≤ y ∧ y < 64) ∧ 0 ≤ z ∧ z ≤ 4294967295) := by omega
  have hn1 : decide (y < 64) = false := by simpa using hy1
  have HC := Lib.hid (And.intro (keyOf_no x y z hno) (And.intro C2 (keyOf_no k.t k.f k.s hfno)))
  clear C2 h
  go_enter Tryd.func5, Tryd.ntmps5
  go_wp2_with fail
  refine (HC.out.1 _).mono ?_
  rintro e w1 ⟨rfl, hb1⟩
  have A1 := A0.below hb1
  have hb01 := hb0.trans (hb1.mono hb0.size)
  have g1 : ∀ o, _ := fun o => (A1.alloc o).flat
  go_wp2_with fail
  refine (HC.out.2.1 _).mono ?_
  rintro e w2 ⟨rfl, hb2⟩
  clear g1
  have A2 := (A1.alloc _).below hb2
  have X2 := (Cell3.new w1 24 (.int .i64 0) (.int .i64 0) (.int .u32 0)).below hb2
  have hb02 := (hb01.alloc hb01.size (.cells #[.int .i64 0, .int .i64 0, .int .u32 0] 24)).trans (hb2.mono (hb01.alloc hb01.size (.cells #[.int .i64 0, .int .i64 0, .int .u32 0] 24)).size)
  go_wp2_with fail
  refine (HC.out.2.2 _).mono ?_
  rintro e w3 ⟨rfl, hb3⟩
  have A3 := A2.below hb3
  have X3 := X2.below hb3
  have hb03 := hb02.trans (hb3.mono hb02.size)
  have hp3 := Lib.hid (HP.out.below (hb03.alloc hb03.size (.cells #[.int .i64 0, .int .i64 0, .int .u32 0] 24)))
  have g3 : ∀ o, _ := fun o => (A3.alloc o).flat
  have x3 : ∀ o, _ := fun o => (X3.alloc o).flat
  clear A0 A1 A2 X2 hb1 hb2 hb3 hb0 hb01 hb02
  go_wp2_with (go_at_call 14; refine (works06 _ hp3.out).mono ?_; rintro e w4 ⟨rfl, hb4⟩)
  go_ret
  exact ⟨rfl, (hb03.alloc hb03.size _).trans (hb4.mono (hb03.alloc hb03.size _).size)⟩
set_option maxHeartbeats 1600000 in
theorem walkArr_n2c (x y z : Int) (k : K) (s0 : 0 ≤ k.s) (s1 : k.s ≤ 4294967295) (hy0 : 0 ≤ y) (hy1 : ¬ y < 64) (hf0 : 0 ≤ k.f) (hf1 : ¬ k.f < 64) (w : World) (h : P10 w) : Calls Tryd.prog 5 #[.agg #[.int .i64 x, .int .i64 y, .int .i64 z], .agg #[.int .i64 k.t, .int .i64 k.f, .int .u32 k.s]] w fun e w' => e = .returned (.bool true) ∧ Below w.heap.size w w' := by
  have hb0 : Below w.heap.size w ((w.alloc (.cells #[.int .i64 x, .int .i64 y, .int .i64 z] 30)).alloc (.cells #[.int .i64 k.t, .int .i64 k.f, .int .u32 k.s] 24)) := ((Below.refl _ w).alloc (Nat.le_refl _) _).alloc (by simp) _
  have A0 : Args ((w.alloc (.cells #[.int .i64 x, .int .i64 y, .int .i64 z] 30)).alloc (.cells #[.int .i64 k.t, .int .i64 k.f, .int .u32 k.s] 24)) w.heap.size x y z k := ⟨by simp, by simp, by simp, by simp, by simp, by simp⟩
  have HP := Lib.hid h
  have C2 := keyArray k s0 s1
  have HE := Lib.hid (run_eqK ⟨x, y, z⟩ ⟨x, y, z⟩)
  have hfno : ¬ ((0 ≤ k.f ∧ k.f < 64) ∧ 0 ≤ k.s ∧ k.s ≤ 4294967295) := by omega
  have hd : decide (k.f < 64) = false := by simpa using hf1
  have hno : ¬ ((0 ≤ y ∧ y < 64) ∧ 0 ≤ z ∧ z ≤ 4294967295) := by omega
  have hn1 : decide (y < 64) = false := by simpa using hy1
  have HC := Lib.hid (And.intro (keyOf_no x y z hno) (And.intro C2 (keyOf_no k.t k.f k.s hfno)))
  clear C2 h
  go_enter Tryd.func5, Tryd.ntmps5
  go_wp2_with fail
  refine (HC.out.1 _).mono ?_
  rintro e w1 ⟨rfl, hb1⟩
  have A1 := A0.below hb1
  have hb01 := hb0.trans (hb1.mono hb0.size)
  have g1 : ∀ o, _ := fun o => (A1.alloc o).flat
  go_wp2_with fail
  refine (HC.out.2.1 _).mono ?_
  rintro e w2 ⟨rfl, hb2⟩
  clear g1
  have A2 := (A1.alloc _).below hb2
  have X2 := (Cell3.new w1 24 (.int .i64 0) (.int .i64 0) (.int .u32 0)).below hb2
  have hb02 := (hb01.alloc hb01.size (.cells #[.int .i64 0, .int .i64 0, .int .u32 0] 24)).trans (hb2.mono (hb01.alloc hb01.size (.cells #[.int .i64 0, .int .i64 0, .int .u32 0] 24)).size)
  go_wp2_with fail
  refine (HC.out.2.2 _).mono ?_
  rintro e w3 ⟨rfl, hb3⟩
  have A3 := A2.below hb3
  have X3 := X2.below hb3
  have hb03 := hb02.trans (hb3.mono hb02.size)
  have hp3 := Lib.hid (HP.out.below (hb03.alloc hb03.size (.cells #[.int .i64 0, .int .i64 0, .int .u32 0] 24)))
  have g3 : ∀ o, _ := fun o => (A3.alloc o).flat
  have x3 : ∀ o, _ := fun o => (X3.alloc o).flat
  clear A0 A1 A2 X2 hb1 hb2 hb3 hb0 hb01 hb02
  go_wp2_with (go_at_call 14; refine (works06 _ hp3.out).mono ?_; rintro e w4 ⟨rfl, hb4⟩)
  go_ret
  exact ⟨rfl, (hb03.alloc hb03.size _).trans (hb4.mono (hb03.alloc hb03.size _).size)⟩
set_option maxHeartbeats 1600000 in
theorem walkArr_n3a (x y z : Int) (k : K) (s0 : 0 ≤ k.s) (s1 : k.s ≤ 4294967295) (hy0 : 0 ≤ y) (hy1 : y < 64) (hz0 : ¬ 0 ≤ z) (hf0 : 0 ≤ k.f) (hf1 : k.f < 64) (w : World) (h : P10 w) : Calls Tryd.prog 5 #[.agg #[.int .i64 x, .int .i64 y, .int .i64 z], .agg #[.int .i64 k.t, .int .i64 k.f, .int .u32 k.s]] w fun e w' => e = .returned (.bool true) ∧ Below w.heap.size w w' := by
  have hb0 : Below w.heap.size w ((w.alloc (.cells #[.int .i64 x, .int .i64 y, .int .i64 z] 30)).alloc (.cells #[.int .i64 k.t, .int .i64 k.f, .int .u32 k.s] 24)) := ((Below.refl _ w).alloc (Nat.le_refl _) _).alloc (by simp) _
  have A0 : Args ((w.alloc (.cells #[.int .i64 x, .int .i64 y, .int .i64 z] 30)).alloc (.cells #[.int .i64 k.t, .int .i64 k.f, .int .u32 k.s] 24)) w.heap.size x y z k := ⟨by simp, by simp, by simp, by simp, by simp, by simp⟩
  have HP := Lib.hid h
  have C2 := keyArray k s0 s1
  have HE := Lib.hid (run_eqK ⟨x, y, z⟩ ⟨x, y, z⟩)
  have EK : ∀ W, (binOp .neq 24 (.agg #[.int .i64 k.t, .int .i64 k.f, .int .u32 k.s]) (.agg #[.int .i64 k.t, .int .i64 k.f, .int .u32 k.s])).run Tryd.prog W = .ok (.bool false) W := fun W => by
    rw [run_neK k k W]
    unfold eqK
    simp
  have hno : ¬ ((0 ≤ y ∧ y < 64) ∧ 0 ≤ z ∧ z ≤ 4294967295) := by omega
  have hn1 : decide (0 ≤ z) = false := by simpa using hz0
  have HC := Lib.hid (And.intro (keyOf_no x y z hno) (And.intro C2 (keyOf_yes k.t k.f k.s ⟨hf0, hf1⟩ ⟨s0, s1⟩)))
  clear C2 h
  go_enter Tryd.func5, Tryd.ntmps5
  go_wp2_with fail
  refine (HC.out.1 _).mono ?_
  rintro e w1 ⟨rfl, hb1⟩
  have A1 := A0.below hb1
  have hb01 := hb0.trans (hb1.mono hb0.size)
  have g1 : ∀ o, _ := fun o => (A1.alloc o).flat
  go_wp2_with fail
  refine (HC.out.2.1 _).mono ?_
  rintro e w2 ⟨rfl, hb2⟩
  clear g1
  have A2 := (A1.alloc _).below hb2
  have X2 := (Cell3.new w1 24 (.int .i64 0) (.int .i64 0) (.int .u32 0)).below hb2
  have hb02 := (hb01.alloc hb01.size (.cells #[.int .i64 0, .int .i64 0, .int .u32 0] 24)).trans (hb2.mono (hb01.alloc hb01.size (.cells #[.int .i64 0, .int .i64 0, .int .u32 0] 24)).size)
  go_wp2_with fail
  refine (HC.out.2.2 _).mono ?_
  rintro e w3 ⟨rfl, hb3⟩
  have A3 := A2.below hb3
  have X3 := X2.below hb3
  have hb03 := hb02.trans (hb3.mono hb02.size)
  have hp3 := Lib.hid (HP.out.below (hb03.alloc hb03.size (.cells #[.int .i64 k.t, .int .i64 k.f, .int .u32 k.s] 24)))
  have g3 : ∀ o, _ := fun o => (A3.alloc o).flat
  have x3 : ∀ o, _ := fun o => (X3.alloc o).flat
  clear A0 A1 A2 X2 hb1 hb2 hb3 hb0 hb01 hb02
  go_wp2_with (go_at_call 14; refine (works06 _ hp3.out).mono ?_; rintro e w4 ⟨rfl, hb4⟩)
  go_ret
  exact ⟨rfl, (hb03.alloc hb03.size _).trans (hb4.mono (hb03.alloc hb03.size _).size)⟩
set_option maxHeartbeats 1600000 in
theorem walkArr_n3b (x y z : Int) (k : K) (s0 : 0 ≤ k.s) (s1 : k.s ≤ 4294967295) (hy0 : 0 ≤ y) (hy1 : y < 64) (hz0 : ¬ 0 ≤ z) (hf0 : ¬ 0 ≤ k.f) (w : World) (h : P10 w) : Calls Tryd.prog 5 #[.agg #[.int .i64 x, .int .i64 y, .int .i64 z], .agg #[.int .i64 k.t, .int .i64 k.f, .int .u32 k.s]] w fun e w' => e = .returned (.bool true) ∧ Below w.heap.size w w' := by
  have hb0 : Below w.heap.size w ((w.alloc (.cells #[.int .i64 x, .int .i64 y, .int .i64 z] 30)).alloc (.cells #[.int .i64 k.t, .int .i64 k.f, .int .u32 k.s] 24)) := ((Below.refl _ w).alloc (Nat.le_refl _) _).alloc (by simp) _
  have A0 : Args ((w.alloc (.cells #[.int .i64 x, .int .i64 y, .int .i64 z] 30)).alloc (.cells #[.int .i64 k.t, .int .i64 k.f, .int .u32 k.s] 24)) w.heap.size x y z k := ⟨by simp, by simp, by simp, by simp, by simp, by simp⟩
  have HP := Lib.hid h
  have C2 := keyArray k s0 s1
  have HE := Lib.hid (run_eqK ⟨x, y, z⟩ ⟨x, y, z⟩)
  have hfno : ¬ ((0 ≤ k.f ∧ k.f < 64) ∧ 0 ≤ k.s ∧ k.s ≤ 4294967295) := by omega
  have hd : decide (0 ≤ k.f) = false := by simpa using hf0
  have hno : ¬ ((0 ≤ y ∧ y < 64) ∧ 0 ≤ z ∧ z ≤ 4294967295) := by omega
  have hn1 : decide (0 ≤ z) = false := by simpa using hz0
  have HC := Lib.hid (And.intro (keyOf_no x y z hno) (And.intro C2 (keyOf_no k.t k.f k.s hfno)))
  clear C2 h
  go_enter Tryd.func5, Tryd.ntmps5
  go_wp2_with fail
  refine (HC.out.1 _).mono ?_
  rintro e w1 ⟨rfl, hb1⟩
  have A1 := A0.below hb1
  have hb01 := hb0.trans (hb1.mono hb0.size)
  have g1 : ∀ o, _ := fun o => (A1.alloc o).flat
  go_wp2_with fail
  refine (HC.out.2.1 _).mono ?_
  rintro e w2 ⟨rfl, hb2⟩
  clear g1
  have A2 := (A1.alloc _).below hb2
  have X2 := (Cell3.new w1 24 (.int .i64 0) (.int .i64 0) (.int .u32 0)).below hb2
  have hb02 := (hb01.alloc hb01.size (.cells #[.int .i64 0, .int .i64 0, .int .u32 0] 24)).trans (hb2.mono (hb01.alloc hb01.size (.cells #[.int .i64 0, .int .i64 0, .int .u32 0] 24)).size)
  go_wp2_with fail
  refine (HC.out.2.2 _).mono ?_
  rintro e w3 ⟨rfl, hb3⟩
  have A3 := A2.below hb3
  have X3 := X2.below hb3
  have hb03 := hb02.trans (hb3.mono hb02.size)
  have hp3 := Lib.hid (HP.out.below (hb03.alloc hb03.size (.cells #[.int .i64 0, .int .i64 0, .int .u32 0] 24)))
  have g3 : ∀ o, _ := fun o => (A3.alloc o).flat
  have x3 : ∀ o, _ := fun o => (X3.alloc o).flat
  clear A0 A1 A2 X2 hb1 hb2 hb3 hb0 hb01 hb02
  go_wp2_with (go_at_call 14; refine (works06 _ hp3.out).mono ?_; rintro e w4 ⟨rfl, hb4⟩)
  go_ret
  exact ⟨rfl, (hb03.alloc hb03.size _).trans (hb4.mono (hb03.alloc hb03.size _).size)⟩
set_option maxHeartbeats 1600000 in
theorem walkArr_n3c (x y z : Int) (k : K) (s0 : 0 ≤ k.s) (s1 : k.s ≤ 4294967295) (hy0 : 0 ≤ y) (hy1 : y < 64) (hz0 : ¬ 0 ≤ z) (hf0 : 0 ≤ k.f) (hf1 : ¬ k.f < 64) (w : World) (h : P10 w) : Calls Tryd.prog 5 #[.agg #[.int .i64 x, .int .i64 y, .int .i64 z], .agg #[.int .i64 k.t, .int .i64 k.f, .int .u32 k.s]] w fun e w' => e = .returned (.bool true) ∧ Below w.heap.size w w' := by
  have hb0 : Below w.heap.size w ((w.alloc (.cells #[.int .i64 x, .int .i64 y, .int .i64 z] 30)).alloc (.cells #[.int .i64 k.t, .int .i64 k.f, .int .u32 k.s] 24)) := ((Below.refl _ w).alloc (Nat.le_refl _) _).alloc (by simp) _
  have A0 : Args ((w.alloc (.cells #[.int .i64 x, .int .i64 y, .int .i64 z] 30)).alloc (.cells #[.int .i64 k.t, .int .i64 k.f, .int .u32 k.s] 24)) w.heap.size x y z k := ⟨by simp, by simp, by simp, by simp, by simp, by simp⟩
  have HP := Lib.hid h
  have C2 := keyArray k s0 s1
  have HE := Lib.hid (run_eqK ⟨x, y, z⟩ ⟨x, y, z⟩)
  have hfno : ¬ ((0 ≤ k.f ∧ k.f < 64) ∧ 0 ≤ k.s ∧ k.s ≤ 4294967295) := by omega
  have hd : decide (k.f < 64) = false := by simpa using hf1
  have hno : ¬ ((0 ≤ y ∧ y < 64) ∧ 0 ≤ z ∧ z ≤ 4294967295) := by omega
  have hn1 : decide (0 ≤ z) = false := by simpa using hz0
  have HC := Lib.hid (And.intro (keyOf_no x y z hno) (And.intro C2 (keyOf_no k.t k.f k.s hfno)))
  clear C2 h
  go_enter Tryd.func5, Tryd.ntmps5
  go_wp2_with fail
  refine (HC.out.1 _).mono ?_
  rintro e w1 ⟨rfl, hb1⟩
  have A1 := A0.below hb1
  have hb01 := hb0.trans (hb1.mono hb0.size)
  have g1 : ∀ o, _ := fun o => (A1.alloc o).flat
  go_wp2_with fail
  refine (HC.out.2.1 _).mono ?_
  rintro e w2 ⟨rfl, hb2⟩
  clear g1
  have A2 := (A1.alloc _).below hb2
  have X2 := (Cell3.new w1 24 (.int .i64 0) (.int .i64 0) (.int .u32 0)).below hb2
  have hb02 := (hb01.alloc hb01.size (.cells #[.int .i64 0, .int .i64 0, .int .u32 0] 24)).trans (hb2.mono (hb01.alloc hb01.size (.cells #[.int .i64 0, .int .i64 0, .int .u32 0] 24)).size)
  go_wp2_with fail
  refine (HC.out.2.2 _).mono ?_
  rintro e w3 ⟨rfl, hb3⟩
  have A3 := A2.below hb3
  have X3 := X2.below hb3
  have hb03 := hb02.trans (hb3.mono hb02.size)
  have hp3 := Lib.hid (HP.out.below (hb03.alloc hb03.size (.cells #[.int .i64 0, .int .i64 0, .int .u32 0] 24)))
  have g3 : ∀ o, _ := fun o => (A3.alloc o).flat
  have x3 : ∀ o, _ := fun o => (X3.alloc o).flat
  clear A0 A1 A2 X2 hb1 hb2 hb3 hb0 hb01 hb02
  go_wp2_with (go_at_call 14; refine (works06 _ hp3.out).mono ?_; rintro e w4 ⟨rfl, hb4⟩)
  go_ret
  exact ⟨rfl, (hb03.alloc hb03.size _).trans (hb4.mono (hb03.alloc hb03.size _).size)⟩
set_option maxHeartbeats 1600000 in
theorem walkArr_n4a (x y z : Int) (k : K) (s0 : 0 ≤ k.s) (s1 : k.s ≤ 4294967295) (hy0 : 0 ≤ y) (hy1 : y < 64) (hz0 : 0 ≤ z) (hz1 : ¬ z ≤ 4294967295) (hf0 : 0 ≤ k.f) (hf1 : k.f < 64) (w : World) (h : P10 w) : Calls Tryd.prog 5 #[.agg #[.int .i64 x, .int .i64 y, .int .i64 z], .agg #[.int .i64 k.t, .int .i64 k.f, .int .u32 k.s]] w fun e w' => e = .returned (.bool true) ∧ Below w.heap.size w w' := by
  have hb0 : Below w.heap.size w ((w.alloc (.cells #[.int .i64 x, .int .i64 y, .int .i64 z] 30)).alloc (.cells #[.int .i64 k.t, .int .i64 k.f, .int .u32 k.s] 24)) := ((Below.refl _ w).alloc (Nat.le_refl _) _).alloc (by simp) _
  have A0 : Args ((w.alloc (.cells #[.int .i64 x, .int .i64 y, .int .i64 z] 30)).alloc (.cells #[.int .i64 k.t, .int .i64 k.f, .int .u32 k.s] 24)) w.heap.size x y z k := ⟨by simp, by simp, by simp, by simp, by simp, by simp⟩
  have HP := Lib.hid h
  have C2 := keyArray k s0 s1
  have HE := Lib.hid (run_eqK ⟨x, y, z⟩ ⟨x, y, z⟩)
  have EK : ∀ W, (binOp .neq 24 (.agg #[.int .i64 k.t, .int .i64 k.f, .int .u32 k.s]) (.agg #[.int .i64 k.t, .int .i64 k.f, .int .u32 k.s])).run Tryd.prog W = .ok (.bool false) W := fun W => by
    rw [run_neK k k W]
    unfold eqK
    simp
  have hno : ¬ ((0 ≤ y ∧ y < 64) ∧ 0 ≤ z ∧ z ≤ 4294967295) := by omega
  have hn1 : decide (z ≤ 4294967295) = false := by simpa using hz1
  have HC := Lib.hid (And.intro (keyOf_no x y z hno) (And.intro C2 (keyOf_yes k.t k.f k.s ⟨hf0, hf1⟩ ⟨s0, s1⟩)))
  clear C2 h
  go_enter Tryd.func5, Tryd.ntmps5
  go_wp2_with fail
  refine (HC.out.1 _).mono ?_
  rintro e w1 ⟨rfl, hb1⟩
  have A1 := A0.below hb1
  have hb01 := hb0.trans (hb1.mono hb0.size)
  have g1 : ∀ o, _ := fun o => (A1.alloc o).flat
  go_wp2_with fail
  refine (HC.out.2.1 _).mono ?_
  rintro e w2 ⟨rfl, hb2⟩
  clear g1
  have A2 := (A1.alloc _).below hb2
  have X2 := (Cell3.new w1 24 (.int .i64 0) (.int .i64 0) (.int .u32 0)).below hb2
  have hb02 := (hb01.alloc hb01.size (.cells #[.int .i64 0, .int .i64 0, .int .u32 0] 24)).trans (hb2.mono (hb01.alloc hb01.size (.cells #[.int .i64 0, .int .i64 0, .int .u32 0] 24)).size)
  go_wp2_with fail
  refine (HC.out.2.2 _).mono ?_
  rintro e w3 ⟨rfl, hb3⟩
  have A3 := A2.below hb3
  have X3 := X2.below hb3
  have hb03 := hb02.trans (hb3.mono hb02.size)
  have hp3 := Lib.hid (HP.out.below (hb03.alloc hb03.size (.cells #[.int .i64 k.t, .int .i64 k.f, .int .u32 k.s] 24)))
  have g3 : ∀ o, _ := fun o => (A3.alloc o).flat
  have x3 : ∀ o, _ := fun o => (X3.alloc o).flat
  clear A0 A1 A2 X2 hb1 hb2 hb3 hb0 hb01 hb02
  go_wp2_with (go_at_call 14; refine (works06 _ hp3.out).mono ?_; rintro e w4 ⟨rfl, hb4⟩)
  go_ret
  exact ⟨rfl, (hb03.alloc hb03.size _).trans (hb4.mono (hb03.alloc hb03.size _).size)⟩
set_option maxHeartbeats 1600000 in
theorem walkArr_n4b (x y z : Int) (k : K) (s0 : 0 ≤ k.s) (s1 : k.s ≤ 4294967295) (hy0 : 0 ≤ y) (hy1 : y < 64) (hz0 : 0 ≤ z) (hz1 : ¬ z ≤ 4294967295) (hf0 : ¬ 0 ≤ k.f) (w : World) (h : P10 w) : Calls Tryd.prog 5 #[.agg #[.int .i64 x, .int .i64 y, .int .i64 z], .agg #[.int .i64 k.t, .int .i64 k.f, .int .u32 k.s]] w fun e w' => e = .returned (.bool true) ∧ Below w.heap.size w w' := by
  have hb0 : Below w.heap.size w ((w.alloc (.cells #[.int .i64 x, .int .i64 y, .int .i64 z] 30)).alloc (.cells #[.int .i64 k.t, .int .i64 k.f, .int .u32 k.s] 24)) := ((Below.refl _ w).alloc (Nat.le_refl _) _).alloc (by simp) _
  have A0 : Args ((w.alloc (.cells #[.int .i64 x, .int .i64 y, .int .i64 z] 30)).alloc (.cells #[.int .i64 k.t, .int .i64 k.f, .int .u32 k.s] 24)) w.heap.size x y z k := ⟨by simp, by simp, by simp, by simp, by simp, by simp⟩
  have HP := Lib.hid h
  have C2 := keyArray k s0 s1
  have HE := Lib.hid (run_eqK ⟨x, y, z⟩ ⟨x, y, z⟩)
  have hfno : ¬ ((0 ≤ k.f ∧ k.f < 64) ∧ 0 ≤ k.s ∧ k.s ≤ 4294967295) := by omega
  have hd : decide (0 ≤ k.f) = false := by simpa using hf0
  have hno : ¬ ((0 ≤ y ∧ y < 64) ∧ 0 ≤ z ∧ z ≤ 4294967295) := by omega
  have hn1 : decide (z ≤ 4294967295) = false := by simpa using hz1
  have HC := Lib.hid (And.intro (keyOf_no x y z hno) (And.intro C2 (keyOf_no k.t k.f k.s hfno)))
  clear C2 h
  go_enter Tryd.func5, Tryd.ntmps5
  go_wp2_with fail
  refine (HC.out.1 _).mono ?_
  rintro e w1 ⟨rfl, hb1⟩
  have A1 := A0.below hb1
  have hb01 := hb0.trans (hb1.mono hb0.size)
  have g1 : ∀ o, _ := fun o => (A1.alloc o).flat
  go_wp2_with fail
  refine (HC.out.2.1 _).mono ?_
  rintro e w2 ⟨rfl, hb2⟩
  clear g1
  have A2 := (A1.alloc _).below hb2
  have X2 := (Cell3.new w1 24 (.int .i64 0) (.int .i64 0) (.int .u32 0)).below hb2
  have hb02 := (hb01.alloc hb01.size (.cells #[.int .i64 0, .int .i64 0, .int .u32 0] 24)).trans (hb2.mono (hb01.alloc hb01.size (.cells #[.int .i64 0, .int .i64 0, .int .u32 0] 24)).size)
  go_wp2_with fail
  refine (HC.out.2.2 _).mono ?_
  rintro e w3 ⟨rfl, hb3⟩
  have A3 := A2.below hb3
  have X3 := X2.below hb3
  have hb03 := hb02.trans (hb3.mono hb02.size)
  have hp3 := Lib.hid (HP.out.below (hb03.alloc hb03.size (.cells #[.int .i64 0, .int .i64 0, .int .u32 0] 24)))
  have g3 : ∀ o, _ := fun o => (A3.alloc o).flat
  have x3 : ∀ o, _ := fun o => (X3.alloc o).flat
  clear A0 A1 A2 X2 hb1 hb2 hb3 hb0 hb01 hb02
  go_wp2_with (go_at_call 14; refine (works06 _ hp3.out).mono ?_; rintro e w4 ⟨rfl, hb4⟩)
  go_ret
  exact ⟨rfl, (hb03.alloc hb03.size _).trans (hb4.mono (hb03.alloc hb03.size _).size)⟩
set_option maxHeartbeats 1600000 in
theorem walkArr_n4c (x y z : Int) (k : K) (s0 : 0 ≤ k.s) (s1 : k.s ≤ 4294967295) (hy0 : 0 ≤ y) (hy1 : y < 64) (hz0 : 0 ≤ z) (hz1 : ¬ z ≤ 4294967295) (hf0 : 0 ≤ k.f) (hf1 : ¬ k.f < 64) (w : World) (h : P10 w) : Calls Tryd.prog 5 #[.agg #[.int .i64 x, .int .i64 y, .int .i64 z], .agg #[.int .i64 k.t, .int .i64 k.f, .int .u32 k.s]] w fun e w' => e = .returned (.bool true) ∧ Below w.heap.size w w' := by
  have hb0 : Below w.heap.size w ((w.alloc (.cells #[.int .i64 x, .int .i64 y, .int .i64 z] 30)).alloc (.cells #[.int .i64 k.t, .int .i64 k.f, .int .u32 k.s] 24)) := ((Below.refl _ w).alloc (Nat.le_refl _) _).alloc (by simp) _
  have A0 : Args ((w.alloc (.cells #[.int .i64 x, .int .i64 y, .int .i64 z] 30)).alloc (.cells #[.int .i64 k.t, .int .i64 k.f, .int .u32 k.s] 24)) w.heap.size x y z k := ⟨by simp, by simp, by simp, by simp, by simp, by simp⟩
  have HP := Lib.hid h
  have C2 := keyArray k s0 s1
  have HE := Lib.hid (run_eqK ⟨x, y, z⟩ ⟨x, y, z⟩)
  have hfno : ¬ ((0 ≤ k.f ∧ k.f < 64) ∧ 0 ≤ k.s ∧ k.s ≤ 4294967295) := by omega
  have hd : decide (k.f < 64) = false := by simpa using hf1
  have hno : ¬ ((0 ≤ y ∧ y < 64) ∧ 0 ≤ z ∧ z ≤ 4294967295) := by omega
  have hn1 : decide (z ≤ 4294967295) = false := by simpa using hz1
  have HC := Lib.hid (And.intro (keyOf_no x y z hno) (And.intro C2 (keyOf_no k.t k.f k.s hfno)))
  clear C2 h
  go_enter Tryd.func5, Tryd.ntmps5
  go_wp2_with fail
  refine (HC.out.1 _).mono ?_
  rintro e w1 ⟨rfl, hb1⟩
  have A1 := A0.below hb1
  have hb01 := hb0.trans (hb1.mono hb0.size)
  have g1 : ∀ o, _ := fun o => (A1.alloc o).flat
  go_wp2_with fail
  refine (HC.out.2.1 _).mono ?_
  rintro e w2 ⟨rfl, hb2⟩
  clear g1
  have A2 := (A1.alloc _).below hb2
  have X2 := (Cell3.new w1 24 (.int .i64 0) (.int .i64 0) (.int .u32 0)).below hb2
  have hb02 := (hb01.alloc hb01.size (.cells #[.int .i64 0, .int .i64 0, .int .u32 0] 24)).trans (hb2.mono (hb01.alloc hb01.size (.cells #[.int .i64 0, .int .i64 0, .int .u32 0] 24)).size)
  go_wp2_with fail
  refine (HC.out.2.2 _).mono ?_
  rintro e w3 ⟨rfl, hb3⟩
  have A3 := A2.below hb3
  have X3 := X2.below hb3
  have hb03 := hb02.trans (hb3.mono hb02.size)
  have hp3 := Lib.hid (HP.out.below (hb03.alloc hb03.size (.cells #[.int .i64 0, .int .i64 0, .int .u32 0] 24)))
  have g3 : ∀ o, _ := fun o => (A3.alloc o).flat
  have x3 : ∀ o, _ := fun o => (X3.alloc o).flat
  clear A0 A1 A2 X2 hb1 hb2 hb3 hb0 hb01 hb02
  go_wp2_with (go_at_call 14; refine (works06 _ hp3.out).mono ?_; rintro e w4 ⟨rfl, hb4⟩)
  go_ret
  exact ⟨rfl, (hb03.alloc hb03.size _).trans (hb4.mono (hb03.alloc hb03.size _).size)⟩
end Go.Proofs.YtlkajpmfcibagaaDoor
