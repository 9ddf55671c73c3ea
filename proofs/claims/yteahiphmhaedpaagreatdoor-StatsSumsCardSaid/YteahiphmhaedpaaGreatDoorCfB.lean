/- Configurations as cells; which numbers may be. -/
import Derived.Test.YteahiphmhaedpaaGreatDoorCfA
namespace Go.Proofs.YteahiphmhaedpaaGreatDoor
open Go.RowKit Law
set_option linter.unusedVariables false
set_option linter.unusedSimpArgs false
set_option maxRecDepth 100000

/-- A box of one object: its cells. -/
def BoxAt (w : World) (B : Nat) (cs : List Value) : Prop := ∀ j v, cs[j]? = some v → w.cell? ⟨B, j, none⟩ = some v
theorem BoxAt.keep {w w' : World} {B : Nat} {cs : List Value} (h : BoxAt w B cs) (hb : Below w.heap.size w w') : BoxAt w' B cs := fun j v hj =>
  (hb.cell (p := ⟨B, j, none⟩) (World.block_lt_of_cell? _ _ (h j v hj))).trans (h j v hj)
theorem boxAt_made (w : World) (cs : List Value) (t : TypeId) : BoxAt (w.alloc (.cells cs.toArray t)) w.heap.size cs := fun j v hj => by
  rw [World.cell?_alloc_at _ _ _ _ (by simp)]
  simpa using hj
def BoxF (w : World) (B : Nat) (cs : List Value) : Prop := BoxAt w B cs ∧ ∀ j, j < cs.length → w.frozen? ⟨B, j, none⟩ = false
theorem BoxF.keep {w w' : World} {B : Nat} {cs : List Value} (h : BoxF w B cs) (hb : Below w.heap.size w w') : BoxF w' B cs :=
  ⟨h.1.keep hb, fun j hj => (hb.frozen (p := ⟨B, j, none⟩) (World.block_lt_of_cell? _ _ (h.1 j _ (List.getElem?_eq_getElem hj)))).trans (h.2 j hj)⟩
theorem boxF_made (w : World) (cs : List Value) (t : TypeId) : BoxF (w.alloc (.cells cs.toArray t)) w.heap.size cs := ⟨boxAt_made w cs t, fun j hj => by simp⟩
theorem BoxF.other {w : World} {B : Nat} {cs : List Value} (h : BoxF w B cs) {a : Addr} (hne : a.block ≠ B) (v : Value) : BoxF (w.setCell a v) B cs :=
  ⟨fun j u hj => by rw [World.cell?_setCell_other _ _ _ _ (fun e => hne (by first | rw [e] | rw [← e]))]; exact h.1 j u hj, fun j hj => by simpa using h.2 j hj⟩
theorem BoxF.put {w : World} {B : Nat} {cs : List Value} (h : BoxF w B cs) (k : Nat) (hk : k < cs.length) (v : Value) : BoxF (w.setCell ⟨B, k, none⟩ v) B (cs.set k v) := by
  refine ⟨fun j u hj => ?_, fun j hj => by simpa using h.2 j (by simpa using hj)⟩
  by_cases e : j = k
  · subst e
    rw [List.getElem?_set_self hk] at hj
    injection hj with hj
    subst hj
    exact World.cell?_setCell_same _ _ _ (h.1 j _ (List.getElem?_eq_getElem hk))
  · rw [List.getElem?_set_ne (Ne.symm e)] at hj
    rw [World.cell?_setCell_other _ _ _ _ (fun h => e (by injection h with _ h2 _; first | exact h2 | exact h2.symm))]
    exact h.1 j u hj
theorem BoxF.lt {w : World} {B : Nat} {cs : List Value} (h : BoxF w B cs) (h0 : 0 < cs.length) : B < w.heap.size := World.block_lt_of_cell? _ _ (h.1 0 _ (List.getElem?_eq_getElem h0))

/-- A configuration's numbers. -/
structure Cn where
  n : Int
  f : Int
  dmin : Int
  dmax : Int
  rho : Int
  slew : Int
  round : Int
  window : Int
  attend : Int
  seen : Int
  hist : Int
  fly : Int
  quota : Int
  body : Int
abbrev Cn.cells (c : Cn) (A : Option Addr) (l k : Nat) : List Value := [.int .i64 c.n, .slice A l k, .int .i64 c.f, .int .i64 c.dmin, .int .i64 c.dmax, .int .i64 c.rho, .int .i64 c.slew, .int .i64 c.round, .int .i64 c.window, .int .i64 c.attend, .int .i64 c.seen, .int .i64 c.hist, .int .i64 c.fly, .int .i64 c.quota, .int .i64 c.body]
def goodC (c : Cn) : Bool := decide (2 ≤ c.n) && decide (c.n ≤ 64) && decide (1 ≤ c.dmin) && decide (c.dmin ≤ c.dmax) && decide (c.dmax ≤ 64) && goodRS c.rho c.slew && perB c.round && perB c.window && perB c.attend
set_option maxHeartbeats 3200000 in
theorem boundGood (c : Cn) (A : Option Addr) (l k : Nat) (w : World) : Calls Tryz.prog 103 #[.agg (c.cells A l k).toArray] w fun e w' => e = .returned (.bool (goodC c)) ∧ Below w.heap.size w w' := by
  obtain ⟨n, f, dmin, dmax, rho, slew, round, window, attend, seen, hist, fly, quota, body⟩ := c
  have HG : Hid (goodC ⟨n, f, dmin, dmax, rho, slew, round, window, attend, seen, hist, fly, quota, body⟩ = (decide (2 ≤ n) && decide (n ≤ 64) && decide (1 ≤ dmin) && decide (dmin ≤ dmax) && decide (dmax ≤ 64) && goodRS rho slew && perB round && perB window && perB attend)) := rfl
  have HB := Lib.hid ((Below.refl w.heap.size w).alloc (Nat.le_refl _) (.cells #[.int .i64 n, .slice A l k, .int .i64 f, .int .i64 dmin, .int .i64 dmax, .int .i64 rho, .int .i64 slew, .int .i64 round, .int .i64 window, .int .i64 attend, .int .i64 seen, .int .i64 hist, .int .i64 fly, .int .i64 quota, .int .i64 body] 32))
  obtain ⟨r1, h1⟩ : ∃ r, goodRS rho slew = r := ⟨_, rfl⟩
  obtain ⟨r2, h2⟩ : ∃ r, perB round = r := ⟨_, rfl⟩
  obtain ⟨r3, h3⟩ : ∃ r, perB window = r := ⟨_, rfl⟩
  obtain ⟨r4, h4⟩ : ∃ r, perB attend = r := ⟨_, rfl⟩
  rw [h1, h2, h3, h4] at HG
  have C1 := Lib.hid (fun W => rateGoodV h1 W)
  have C2 := Lib.hid (fun W => boundPeriodV h2 W)
  have C3 := Lib.hid (fun W => boundPeriodV h3 W)
  have C4 := Lib.hid (fun W => boundPeriodV h4 W)
  clear h1 h2 h3 h4
  by_cases g0 : 2 ≤ n
  rotate_left
  · go_enter Tryz.func103, Tryz.ntmps103
    go_wp2
    all_goals
      go_ret
      refine ⟨ret_bool ?_, HB.out⟩
      rw [HG.out]
      first | (simp [*]; done) | (simp [*]; omega)
  by_cases g1 : n ≤ 64
  rotate_left
  · go_enter Tryz.func103, Tryz.ntmps103
    go_wp2
    all_goals
      go_ret
      refine ⟨ret_bool ?_, HB.out⟩
      rw [HG.out]
      first | (simp [*]; done) | (simp [*]; omega)
  by_cases g2 : 1 ≤ dmin
  rotate_left
  · go_enter Tryz.func103, Tryz.ntmps103
    go_wp2
    all_goals
      go_ret
      refine ⟨ret_bool ?_, HB.out⟩
      rw [HG.out]
      first | (simp [*]; done) | (simp [*]; omega)
  by_cases g3 : dmin ≤ dmax
  rotate_left
  · go_enter Tryz.func103, Tryz.ntmps103
    go_wp2
    all_goals
      go_ret
      refine ⟨ret_bool ?_, HB.out⟩
      rw [HG.out]
      first | (simp [*]; done) | (simp [*]; omega)
  by_cases g4 : dmax ≤ 64
  rotate_left
  · go_enter Tryz.func103, Tryz.ntmps103
    go_wp2
    all_goals
      go_ret
      refine ⟨ret_bool ?_, HB.out⟩
      rw [HG.out]
      first | (simp [*]; done) | (simp [*]; omega)
  cases r1 with
  | false =>
    go_enter Tryz.func103, Tryz.ntmps103
    go_wp2_with fail
    refine (C1.out _).mono ?_
    rintro e w' ⟨rfl, rfl⟩
    go_wp2
    go_ret
    refine ⟨ret_bool ?_, HB.out⟩
    rw [HG.out]
    first | (simp [*]; done) | (simp [*]; omega)
  | true =>
    cases r2 with
    | false =>
      go_enter Tryz.func103, Tryz.ntmps103
      go_wp2_with fail
      refine (C1.out _).mono ?_
      rintro e w' ⟨rfl, rfl⟩
      go_wp2_with fail
      refine (C2.out _).mono ?_
      rintro e w' ⟨rfl, rfl⟩
      go_wp2
      go_ret
      refine ⟨ret_bool ?_, HB.out⟩
      rw [HG.out]
      first | (simp [*]; done) | (simp [*]; omega)
    | true =>
      cases r3 with
      | false =>
        go_enter Tryz.func103, Tryz.ntmps103
        go_wp2_with fail
        refine (C1.out _).mono ?_
        rintro e w' ⟨rfl, rfl⟩
        go_wp2_with fail
        refine (C2.out _).mono ?_
        rintro e w' ⟨rfl, rfl⟩
        go_wp2_with fail
        refine (C3.out _).mono ?_
        rintro e w' ⟨rfl, rfl⟩
        go_wp2
        go_ret
        refine ⟨ret_bool ?_, HB.out⟩
        rw [HG.out]
        first | (simp [*]; done) | (simp [*]; omega)
      | true =>
        cases r4 with
        | false =>
          go_enter Tryz.func103, Tryz.ntmps103
          go_wp2_with fail
          refine (C1.out _).mono ?_
          rintro e w' ⟨rfl, rfl⟩
          go_wp2_with fail
          refine (C2.out _).mono ?_
          rintro e w' ⟨rfl, rfl⟩
          go_wp2_with fail
          refine (C3.out _).mono ?_
          rintro e w' ⟨rfl, rfl⟩
          go_wp2_with fail
          refine (C4.out _).mono ?_
          rintro e w' ⟨rfl, rfl⟩
          go_wp2
          go_ret
          refine ⟨ret_bool ?_, HB.out⟩
          rw [HG.out]
          first | (simp [*]; done) | (simp [*]; omega)
        | true =>
          go_enter Tryz.func103, Tryz.ntmps103
          go_wp2_with fail
          refine (C1.out _).mono ?_
          rintro e w' ⟨rfl, rfl⟩
          go_wp2_with fail
          refine (C2.out _).mono ?_
          rintro e w' ⟨rfl, rfl⟩
          go_wp2_with fail
          refine (C3.out _).mono ?_
          rintro e w' ⟨rfl, rfl⟩
          go_wp2_with fail
          refine (C4.out _).mono ?_
          rintro e w' ⟨rfl, rfl⟩
          go_wp2
          go_ret
          refine ⟨ret_bool ?_, HB.out⟩
          rw [HG.out]
          first | (simp [*]; done) | (simp [*]; omega)
theorem boundGoodV {c : Cn} {r : Bool} (h : goodC c = r) (A : Option Addr) (l k : Nat) (w : World) : Calls Tryz.prog 103 #[.agg (c.cells A l k).toArray] w fun e w' => e = .returned (.bool r) ∧ Below w.heap.size w w' := by
  subst h; exact boundGood c A l k w

/-! ### ticks, wander -/
def tkI (g slow : Int) : Int := g / slow + 2
theorem tk_bd {g slow : Int} (h0 : 0 ≤ g) (h1 : 1 ≤ slow) : 2 ≤ tkI g slow ∧ tkI g slow ≤ g + 2 := by
  unfold tkI
  have := Int.ediv_nonneg h0 (show (0 : Int) ≤ slow by omega)
  have := Int.ediv_le_self slow h0
  omega
theorem ofTicks (Bb : Nat) (g slow : Int) (h0 : 0 ≤ g) (h1 : g ≤ 1152921504606846976) (h2 : 1 ≤ slow) (h3 : slow ≤ 1000000) (w : World) (p : w.cell? ⟨Bb, 2, none⟩ = some (.int .i64 slow)) :
    Calls Tryz.prog 106 #[.int .i64 g, .pointer (some ⟨Bb, 0, none⟩)] w fun e w' => e = .returned (.int .i64 (tkI g slow)) ∧ ∃ n, w' = w.drewN n := by
  have C := Lib.hid (rateTicks h0 h1 h2 h3 w)
  go_enter Tryz.func106, Tryz.ntmps106
  go_wp2_with fail
  refine C.out.mono ?_
  rintro e w' ⟨rfl, n, rfl⟩
  go_wp2
  go_ret
  exact ⟨rfl, _, rfl⟩
abbrev tkFn (Bb : Nat) : Value := .func (.func 106) #[] #[.pointer (some ⟨Bb, 0, none⟩)]
def waI (rho g slow : Int) : Int := 2 * rho * tkI (2 * g) slow
set_option maxHeartbeats 1600000 in
theorem ofWander (Bc Bt Bb : Nat) (rho g slow : Int) (r0 : 0 ≤ rho) (r1 : rho ≤ 64) (h0 : 0 ≤ g) (h1 : g ≤ 1099511627776) (h2 : 1 ≤ slow) (h3 : slow ≤ 1000000) (w : World)
    (p : w.cell? ⟨Bb, 2, none⟩ = some (.int .i64 slow)) (pr : w.cell? ⟨Bc, 5, none⟩ = some (.int .i64 rho)) (pt : w.cell? ⟨Bt, 0, none⟩ = some (tkFn Bb)) :
    Calls Tryz.prog 108 #[.int .i64 g, .pointer (some ⟨Bc, 0, none⟩), .pointer (some ⟨Bt, 0, none⟩)] w fun e w' => e = .returned (.int .i64 (waI rho g slow)) ∧ Below w.heap.size w w' := by
  have e1 : IntKind.i64.wrap (2 * rho) = 2 * rho := IntWalk.i64_in _ (by omega)
  have e2 : IntKind.i64.wrap (2 * g) = 2 * g := IntWalk.i64_in _ (by omega)
  obtain ⟨t0, t1⟩ := tk_bd (g := 2 * g) (slow := slow) (by omega) h2
  have HE : Hid (waI rho g slow = 2 * rho * tkI (2 * g) slow) := rfl
  obtain ⟨m0, m1⟩ := mul_bd (a := 2 * rho) (A := 128) (b := tkI (2 * g) slow) (B := 2199023255554) (by omega) (by omega) (by omega) (by omega)
  have C := Lib.hid (fun W : Later w => below_of_draws (ofTicks Bb (2 * g) slow (by omega) (by omega) h2 h3 W.val (Later.cell p W)))
  obtain ⟨T, hT⟩ : ∃ T, tkI (2 * g) slow = T := ⟨_, rfl⟩
  rw [hT] at t0 t1 m0 m1 HE C
  have e3 : IntKind.i64.wrap (2 * rho * T) = 2 * rho * T := IntWalk.i64_in _ (by omega)
  have q1 := fun W : Later w => Later.cell p W
  have q2 := fun W : Later w => Later.cell pr W
  have q3 := fun W : Later w => Later.cell pt W
  clear hT
  go_enter Tryz.func108, Tryz.ntmps108
  go_wp2_with fail
  refine wp_region_later (by kernel_rfl) (by kernel_rfl) ?_
  repeat (go_big_quiet_step (exact later_of (C.out _)))
  refine wpQuiet_nil ?_
  rintro W1 ⟨⟨W2, hW⟩, rfl⟩
  go_wp2_with fail
  go_ret
  exact ⟨ret_int HE.out.symm, hW⟩
end Go.Proofs.YteahiphmhaedpaaGreatDoor
