/- script.Good. -/
import Derived.Test.YteahiphmhaedpaaGreatDoorActM
import Derived.RegionTactic
import Derived.ChangeAlike
import Derived.BigRegion
namespace Go.Proofs.YteahiphmhaedpaaGreatDoor
open Go.RowKit Law
set_option linter.unusedVariables false
set_option linter.unusedSimpArgs false

theorem good1 (node n : Int) (f : Fa) (b : List UInt8) : goodA ⟨1, node, n, f, b⟩ = ((decide (1 ≤ n) && decide (n ≤ 64)) && acB ⟨1, node, 0, f, b⟩ ⟨1, 0, 0, Fa0, []⟩) := by
  unfold goodA acB
  rw [if_pos rfl, Bool.eq_iff_iff]
  simp
  constructor
  · rintro ⟨⟨rfl, rfl, rfl⟩, h1, h2⟩; exact ⟨⟨by omega, by omega⟩, rfl, rfl, rfl⟩
  · rintro ⟨⟨h1, h2⟩, rfl, rfl, rfl⟩; exact ⟨⟨rfl, rfl, rfl⟩, by omega, by omega⟩
theorem good3 (node n : Int) (f : Fa) (b : List UInt8) : goodA ⟨3, node, n, f, b⟩ = (goodF f && acB ⟨3, node, n, Fa0, b⟩ ⟨3, 0, 0, Fa0, []⟩) := by
  unfold goodA acB
  rw [if_neg (by simp), if_pos rfl, Bool.eq_iff_iff]
  simp
  constructor
  · rintro ⟨⟨rfl, rfl, rfl⟩, h1⟩; exact ⟨h1, rfl, rfl, rfl⟩
  · rintro ⟨h1, rfl, rfl, rfl⟩; exact ⟨⟨rfl, rfl, rfl⟩, h1⟩
theorem good2 (node n : Int) (f : Fa) (b : List UInt8) : goodA ⟨2, node, n, f, b⟩ = ((((decide (0 ≤ node) && decide (node < 64)) && decide (-1048576 ≤ n)) && decide (n ≤ 1048576)) && acB ⟨2, 0, 0, f, b⟩ ⟨2, 0, 0, Fa0, []⟩) := by
  unfold goodA acB
  rw [if_neg (by simp), if_neg (by simp)]
  by_cases hr : (2 : Int) < 1 ∨ (8 : Int) < 2 ∨ node < 0 ∨ 63 < node
  · simp only at hr ⊢
    rw [if_pos hr, eq_comm, Bool.eq_false_iff]
    simp
    intro h1 h2; omega
  · simp only at hr ⊢
    rw [if_neg hr, if_pos trivial, Bool.eq_iff_iff]
    simp
    constructor
    · rintro ⟨⟨rfl, rfl⟩, h1, h2⟩; exact ⟨⟨⟨⟨by omega, by omega⟩, h1⟩, h2⟩, rfl, rfl⟩
    · rintro ⟨⟨⟨_, h1⟩, h2⟩, rfl, rfl⟩; exact ⟨⟨rfl, rfl⟩, h1, h2⟩
theorem good6 (node n : Int) (f : Fa) (b : List UInt8) : goodA ⟨6, node, n, f, b⟩ = (((decide (0 ≤ node) && decide (node < 64)) && decide (b.length ≤ 1024)) && acB ⟨6, 0, n, f, []⟩ ⟨6, 0, 0, Fa0, []⟩) := by
  unfold goodA acB
  rw [if_neg (by simp), if_neg (by simp)]
  by_cases hr : (6 : Int) < 1 ∨ (8 : Int) < 6 ∨ node < 0 ∨ 63 < node
  · simp only at hr ⊢
    rw [if_pos hr, eq_comm, Bool.eq_false_iff]
    simp
    intro h1 h2; omega
  · simp only at hr ⊢
    rw [if_neg hr, if_neg (by decide), if_pos trivial, Bool.eq_iff_iff]
    simp
    constructor
    · rintro ⟨⟨rfl, rfl⟩, h1⟩; exact ⟨⟨⟨by omega, by omega⟩, by omega⟩, rfl, rfl⟩
    · rintro ⟨⟨_, h1⟩, rfl, rfl⟩; exact ⟨⟨rfl, rfl⟩, by omega⟩
theorem goodK (k node n : Int) (hk : k = 4 ∨ k = 5 ∨ k = 7 ∨ k = 8) (f : Fa) (b : List UInt8) : goodA ⟨k, node, n, f, b⟩ = ((decide (0 ≤ node) && decide (node < 64)) && acB ⟨k, 0, n, f, b⟩ ⟨k, 0, 0, Fa0, []⟩) := by
  unfold goodA acB
  rw [if_neg (by simp; omega), if_neg (by simp; omega)]
  simp only
  by_cases hr : k < 1 ∨ 8 < k ∨ node < 0 ∨ 63 < node
  · rw [if_pos hr, eq_comm, Bool.eq_false_iff]
    simp
    intro h1 h2; omega
  · rw [if_neg hr, if_neg (by omega), if_neg (by omega), Bool.eq_iff_iff]
    simp
    intro _ _ _
    omega
theorem goodE (k node n : Int) (hk : k < 1 ∨ 8 < k) (f : Fa) (b : List UInt8) : goodA ⟨k, node, n, f, b⟩ = false := by
  unfold goodA
  rw [if_neg (by simp; omega), if_neg (by simp; omega), if_pos (by simp only; omega)]
theorem below3 (w : World) (o1 o2 : Obj) : Below w.heap.size w ((w.alloc o1).alloc o2) := ((Below.refl _ _).alloc (Nat.le_refl _) _).alloc (by simp) _
set_option maxHeartbeats 6400000 in
set_option maxRecDepth 100000 in
theorem scriptGood_1 (node n : Int) (f : Fa) (b : List UInt8) (A : Option Addr) (len c : Nat) (w : World) (hA : U8At w A b) (hn : b.length = len) :
    Calls Tryz.prog 23 #[.agg (Ac.cells ⟨1, node, n, f, b⟩ A len c).toArray] w fun e w' => e = .returned (.bool (goodA ⟨1, node, n, f, b⟩)) ∧ Below w.heap.size w w' := by
  have HX := Lib.hid (And.intro hA hn)
  obtain ⟨fk, fd, fa, fp, fb⟩ := f
  clear hA hn
  by_cases h0 : 0 ≤ node
  · by_cases h1 : 1 ≤ n
    · by_cases h2 : n ≤ 64
      · obtain ⟨v, hv⟩ : ∃ v, acB ⟨1, node, 0, ⟨fk, fd, fa, fp, fb⟩, b⟩ ⟨1, 0, 0, Fa0, []⟩ = v := ⟨_, rfl⟩
        have C1 := fun (W : World) (hW : Below w.heap.size w W) => scriptSameV ⟨1, node, 0, ⟨fk, fd, fa, fp, fb⟩, b⟩ ⟨1, 0, 0, Fa0, []⟩ A none len 0 c 0 v hv W (HX.out.1.keep hW) HX.out.2 (U8At.nil _ _) rfl
        have HG := Lib.hid (good1 node n ⟨fk, fd, fa, fp, fb⟩ b)
        rw [hv] at HG
        unfold Ac.cells Fa0 at C1
        have C1 := Lib.hid C1
        clear hv
        unfold Ac.cells
        go_enter Tryz.func23, Tryz.ntmps23
        go_wp2
        go_big_region
        go_wp2_with fail
        refine (C1.out _ ?cb).mono ?_
        case cb => exact (below3 w _ _).drew
        rintro e w1 ⟨rfl, hq⟩
        have HB := Lib.hid ((below3 w _ _).drew.trans (hq.mono (below3 w _ _).drew.size))
        clear hq
        go_wp2
        go_ret
        exact ⟨ret_bool (by rw [HG.out]; simp [h1, h2]), HB.out⟩
      · have HG := Lib.hid (good1 node n ⟨fk, fd, fa, fp, fb⟩ b)
        unfold Ac.cells
        go_enter Tryz.func23, Tryz.ntmps23
        go_wp2
        go_big_region
        go_wp2
        go_ret
        exact ⟨ret_bool (by rw [HG.out] <;> simp [h2] <;> (intros; omega)), (below3 w _ _).drew⟩
    · have HG := Lib.hid (good1 node n ⟨fk, fd, fa, fp, fb⟩ b)
      unfold Ac.cells
      go_enter Tryz.func23, Tryz.ntmps23
      go_wp2
      go_big_region
      go_wp2
      go_ret
      exact ⟨ret_bool (by rw [HG.out] <;> simp [h1] <;> (intros; omega)), (below3 w _ _).drew⟩
  · have d0 : decide (0 ≤ node) = false := decide_eq_false h0
    by_cases h1 : 1 ≤ n
    · by_cases h2 : n ≤ 64
      · obtain ⟨v, hv⟩ : ∃ v, acB ⟨1, node, 0, ⟨fk, fd, fa, fp, fb⟩, b⟩ ⟨1, 0, 0, Fa0, []⟩ = v := ⟨_, rfl⟩
        have C1 := fun (W : World) (hW : Below w.heap.size w W) => scriptSameV ⟨1, node, 0, ⟨fk, fd, fa, fp, fb⟩, b⟩ ⟨1, 0, 0, Fa0, []⟩ A none len 0 c 0 v hv W (HX.out.1.keep hW) HX.out.2 (U8At.nil _ _) rfl
        have HG := Lib.hid (good1 node n ⟨fk, fd, fa, fp, fb⟩ b)
        rw [hv] at HG
        unfold Ac.cells Fa0 at C1
        have C1 := Lib.hid C1
        clear hv
        unfold Ac.cells
        go_enter Tryz.func23, Tryz.ntmps23
        go_wp2
        go_big_region
        go_wp2_with fail
        refine (C1.out _ ?cb).mono ?_
        case cb => exact (below3 w _ _).drew
        rintro e w1 ⟨rfl, hq⟩
        have HB := Lib.hid ((below3 w _ _).drew.trans (hq.mono (below3 w _ _).drew.size))
        clear hq
        go_wp2
        go_ret
        exact ⟨ret_bool (by rw [HG.out]; simp [h1, h2]), HB.out⟩
      · have HG := Lib.hid (good1 node n ⟨fk, fd, fa, fp, fb⟩ b)
        unfold Ac.cells
        go_enter Tryz.func23, Tryz.ntmps23
        go_wp2
        go_big_region
        go_wp2
        go_ret
        exact ⟨ret_bool (by rw [HG.out] <;> simp [h2] <;> (intros; omega)), (below3 w _ _).drew⟩
    · have HG := Lib.hid (good1 node n ⟨fk, fd, fa, fp, fb⟩ b)
      unfold Ac.cells
      go_enter Tryz.func23, Tryz.ntmps23
      go_wp2
      go_big_region
      go_wp2
      go_ret
      exact ⟨ret_bool (by rw [HG.out] <;> simp [h1] <;> (intros; omega)), (below3 w _ _).drew⟩
set_option maxHeartbeats 6400000 in
set_option maxRecDepth 100000 in
theorem scriptGood_3 (node n : Int) (f : Fa) (b : List UInt8) (A : Option Addr) (len c : Nat) (w : World) (hA : U8At w A b) (hn : b.length = len) :
    Calls Tryz.prog 23 #[.agg (Ac.cells ⟨3, node, n, f, b⟩ A len c).toArray] w fun e w' => e = .returned (.bool (goodA ⟨3, node, n, f, b⟩)) ∧ Below w.heap.size w w' := by
  have HX := Lib.hid (And.intro hA hn)
  obtain ⟨fk, fd, fa, fp, fb⟩ := f
  clear hA hn
  by_cases h0 : 0 ≤ node
  · obtain ⟨gf, hgf⟩ : ∃ gf, goodF ⟨fk, fd, fa, fp, fb⟩ = gf := ⟨_, rfl⟩
    have C2 := fun W => fateGood ⟨fk, fd, fa, fp, fb⟩ W
    rw [hgf] at C2
    unfold Fa.cells at C2
    have C2 := Lib.hid C2
    obtain ⟨v, hv⟩ : ∃ v, acB ⟨3, node, n, Fa0, b⟩ ⟨3, 0, 0, Fa0, []⟩ = v := ⟨_, rfl⟩
    have C1 := fun (W : World) (hW : Below w.heap.size w W) => scriptSameV ⟨3, node, n, Fa0, b⟩ ⟨3, 0, 0, Fa0, []⟩ A none len 0 c 0 v hv W (HX.out.1.keep hW) HX.out.2 (U8At.nil _ _) rfl
    have HG := Lib.hid (good3 node n ⟨fk, fd, fa, fp, fb⟩ b)
    rw [hv, hgf] at HG
    unfold Ac.cells Fa0 at C1
    have C1 := Lib.hid C1
    clear hv hgf
    unfold Ac.cells
    go_enter Tryz.func23, Tryz.ntmps23
    go_wp2
    go_big_region
    go_wp2_with fail
    refine (C2.out _).mono ?_
    rintro e w2 ⟨rfl, hq2⟩
    have p0 := (hq2.cell (p := ⟨w.heap.size, 0, none⟩) (by simp <;> omega)).trans (show _ = some (.int .i64 3) by simp)
    have p1 := (hq2.cell (p := ⟨w.heap.size, 1, none⟩) (by simp <;> omega)).trans (show _ = some (.int .i64 node) by simp)
    have p2 := (hq2.cell (p := ⟨w.heap.size, 2, none⟩) (by simp <;> omega)).trans (show _ = some (.int .i64 n) by simp)
    have p3 := (hq2.cell (p := ⟨w.heap.size, 3, none⟩) (by simp <;> omega)).trans (show _ = some (.int .i64 fk) by simp)
    have p4 := (hq2.cell (p := ⟨w.heap.size, 4, none⟩) (by simp <;> omega)).trans (show _ = some (.int .i64 fd) by simp)
    have p5 := (hq2.cell (p := ⟨w.heap.size, 5, none⟩) (by simp <;> omega)).trans (show _ = some (.int .i64 fa) by simp)
    have p6 := (hq2.cell (p := ⟨w.heap.size, 6, none⟩) (by simp <;> omega)).trans (show _ = some (.int .u32 (fp : Int)) by simp)
    have p7 := (hq2.cell (p := ⟨w.heap.size, 7, none⟩) (by simp <;> omega)).trans (show _ = some (.int .u32 (fb : Int)) by simp)
    have p8 := (hq2.cell (p := ⟨w.heap.size, 8, none⟩) (by simp <;> omega)).trans (show _ = some (.slice A len c) by simp)
    have s0 := (hq2.cell (p := ⟨w.heap.size + 1, 0, none⟩) (by simp <;> omega)).trans (show _ = some (.int .i64 3) by simp)
    have s1 := (hq2.cell (p := ⟨w.heap.size + 1, 1, none⟩) (by simp <;> omega)).trans (show _ = some (.int .i64 node) by simp)
    have s2 := (hq2.cell (p := ⟨w.heap.size + 1, 2, none⟩) (by simp <;> omega)).trans (show _ = some (.int .i64 n) by simp)
    have s3 := (hq2.cell (p := ⟨w.heap.size + 1, 3, none⟩) (by simp <;> omega)).trans (show _ = some (.int .i64 fk) by simp)
    have s4 := (hq2.cell (p := ⟨w.heap.size + 1, 4, none⟩) (by simp <;> omega)).trans (show _ = some (.int .i64 fd) by simp)
    have s5 := (hq2.cell (p := ⟨w.heap.size + 1, 5, none⟩) (by simp <;> omega)).trans (show _ = some (.int .i64 fa) by simp)
    have s6 := (hq2.cell (p := ⟨w.heap.size + 1, 6, none⟩) (by simp <;> omega)).trans (show _ = some (.int .u32 (fp : Int)) by simp)
    have s7 := (hq2.cell (p := ⟨w.heap.size + 1, 7, none⟩) (by simp <;> omega)).trans (show _ = some (.int .u32 (fb : Int)) by simp)
    have s8 := (hq2.cell (p := ⟨w.heap.size + 1, 8, none⟩) (by simp <;> omega)).trans (show _ = some (.slice A len c) by simp)
    have z3 := (hq2.frozen (p := ⟨w.heap.size + 1, 3, none⟩) (by simp <;> omega)).trans (show _ = false by simp)
    have z4 := (hq2.frozen (p := ⟨w.heap.size + 1, 4, none⟩) (by simp <;> omega)).trans (show _ = false by simp)
    have z5 := (hq2.frozen (p := ⟨w.heap.size + 1, 5, none⟩) (by simp <;> omega)).trans (show _ = false by simp)
    have z6 := (hq2.frozen (p := ⟨w.heap.size + 1, 6, none⟩) (by simp <;> omega)).trans (show _ = false by simp)
    have z7 := (hq2.frozen (p := ⟨w.heap.size + 1, 7, none⟩) (by simp <;> omega)).trans (show _ = false by simp)
    have HB2 := Lib.hid (((((((below3 w _ _).drew.trans (hq2.mono (below3 w _ _).drew.size)).setCell (p := ⟨w.heap.size + 1, 3, none⟩) (Nat.le_succ _) (.int .i64 0)).setCell (p := ⟨w.heap.size + 1, 4, none⟩) (Nat.le_succ _) (.int .i64 0)).setCell (p := ⟨w.heap.size + 1, 5, none⟩) (Nat.le_succ _) (.int .i64 0)).setCell (p := ⟨w.heap.size + 1, 6, none⟩) (Nat.le_succ _) (.int .u32 0)).setCell (p := ⟨w.heap.size + 1, 7, none⟩) (Nat.le_succ _) (.int .u32 0))
    clear hq2
    rcases gf with _ | _
    · go_wp2
      go_ret
      exact ⟨ret_bool (by rw [HG.out]; rfl), HB2.out⟩
    · go_wp2_with fail
      refine (C1.out _ HB2.out).mono ?_
      rintro e w3 ⟨rfl, hq⟩
      have HB := Lib.hid (HB2.out.trans (hq.mono HB2.out.size))
      clear hq
      go_wp2
      go_ret
      exact ⟨ret_bool (by rw [HG.out]; simp), HB.out⟩
  · have d0 : decide (0 ≤ node) = false := decide_eq_false h0
    obtain ⟨gf, hgf⟩ : ∃ gf, goodF ⟨fk, fd, fa, fp, fb⟩ = gf := ⟨_, rfl⟩
    have C2 := fun W => fateGood ⟨fk, fd, fa, fp, fb⟩ W
    rw [hgf] at C2
    unfold Fa.cells at C2
    have C2 := Lib.hid C2
    obtain ⟨v, hv⟩ : ∃ v, acB ⟨3, node, n, Fa0, b⟩ ⟨3, 0, 0, Fa0, []⟩ = v := ⟨_, rfl⟩
    have C1 := fun (W : World) (hW : Below w.heap.size w W) => scriptSameV ⟨3, node, n, Fa0, b⟩ ⟨3, 0, 0, Fa0, []⟩ A none len 0 c 0 v hv W (HX.out.1.keep hW) HX.out.2 (U8At.nil _ _) rfl
    have HG := Lib.hid (good3 node n ⟨fk, fd, fa, fp, fb⟩ b)
    rw [hv, hgf] at HG
    unfold Ac.cells Fa0 at C1
    have C1 := Lib.hid C1
    clear hv hgf
    unfold Ac.cells
    go_enter Tryz.func23, Tryz.ntmps23
    go_wp2
    go_big_region
    go_wp2_with fail
    refine (C2.out _).mono ?_
    rintro e w2 ⟨rfl, hq2⟩
    have p0 := (hq2.cell (p := ⟨w.heap.size, 0, none⟩) (by simp <;> omega)).trans (show _ = some (.int .i64 3) by simp)
    have p1 := (hq2.cell (p := ⟨w.heap.size, 1, none⟩) (by simp <;> omega)).trans (show _ = some (.int .i64 node) by simp)
    have p2 := (hq2.cell (p := ⟨w.heap.size, 2, none⟩) (by simp <;> omega)).trans (show _ = some (.int .i64 n) by simp)
    have p3 := (hq2.cell (p := ⟨w.heap.size, 3, none⟩) (by simp <;> omega)).trans (show _ = some (.int .i64 fk) by simp)
    have p4 := (hq2.cell (p := ⟨w.heap.size, 4, none⟩) (by simp <;> omega)).trans (show _ = some (.int .i64 fd) by simp)
    have p5 := (hq2.cell (p := ⟨w.heap.size, 5, none⟩) (by simp <;> omega)).trans (show _ = some (.int .i64 fa) by simp)
    have p6 := (hq2.cell (p := ⟨w.heap.size, 6, none⟩) (by simp <;> omega)).trans (show _ = some (.int .u32 (fp : Int)) by simp)
    have p7 := (hq2.cell (p := ⟨w.heap.size, 7, none⟩) (by simp <;> omega)).trans (show _ = some (.int .u32 (fb : Int)) by simp)
    have p8 := (hq2.cell (p := ⟨w.heap.size, 8, none⟩) (by simp <;> omega)).trans (show _ = some (.slice A len c) by simp)
    have s0 := (hq2.cell (p := ⟨w.heap.size + 1, 0, none⟩) (by simp <;> omega)).trans (show _ = some (.int .i64 3) by simp)
    have s1 := (hq2.cell (p := ⟨w.heap.size + 1, 1, none⟩) (by simp <;> omega)).trans (show _ = some (.int .i64 node) by simp)
    have s2 := (hq2.cell (p := ⟨w.heap.size + 1, 2, none⟩) (by simp <;> omega)).trans (show _ = some (.int .i64 n) by simp)
    have s3 := (hq2.cell (p := ⟨w.heap.size + 1, 3, none⟩) (by simp <;> omega)).trans (show _ = some (.int .i64 fk) by simp)
    have s4 := (hq2.cell (p := ⟨w.heap.size + 1, 4, none⟩) (by simp <;> omega)).trans (show _ = some (.int .i64 fd) by simp)
    have s5 := (hq2.cell (p := ⟨w.heap.size + 1, 5, none⟩) (by simp <;> omega)).trans (show _ = some (.int .i64 fa) by simp)
    have s6 := (hq2.cell (p := ⟨w.heap.size + 1, 6, none⟩) (by simp <;> omega)).trans (show _ = some (.int .u32 (fp : Int)) by simp)
    have s7 := (hq2.cell (p := ⟨w.heap.size + 1, 7, none⟩) (by simp <;> omega)).trans (show _ = some (.int .u32 (fb : Int)) by simp)
    have s8 := (hq2.cell (p := ⟨w.heap.size + 1, 8, none⟩) (by simp <;> omega)).trans (show _ = some (.slice A len c) by simp)
    have z3 := (hq2.frozen (p := ⟨w.heap.size + 1, 3, none⟩) (by simp <;> omega)).trans (show _ = false by simp)
    have z4 := (hq2.frozen (p := ⟨w.heap.size + 1, 4, none⟩) (by simp <;> omega)).trans (show _ = false by simp)
    have z5 := (hq2.frozen (p := ⟨w.heap.size + 1, 5, none⟩) (by simp <;> omega)).trans (show _ = false by simp)
    have z6 := (hq2.frozen (p := ⟨w.heap.size + 1, 6, none⟩) (by simp <;> omega)).trans (show _ = false by simp)
    have z7 := (hq2.frozen (p := ⟨w.heap.size + 1, 7, none⟩) (by simp <;> omega)).trans (show _ = false by simp)
    have HB2 := Lib.hid (((((((below3 w _ _).drew.trans (hq2.mono (below3 w _ _).drew.size)).setCell (p := ⟨w.heap.size + 1, 3, none⟩) (Nat.le_succ _) (.int .i64 0)).setCell (p := ⟨w.heap.size + 1, 4, none⟩) (Nat.le_succ _) (.int .i64 0)).setCell (p := ⟨w.heap.size + 1, 5, none⟩) (Nat.le_succ _) (.int .i64 0)).setCell (p := ⟨w.heap.size + 1, 6, none⟩) (Nat.le_succ _) (.int .u32 0)).setCell (p := ⟨w.heap.size + 1, 7, none⟩) (Nat.le_succ _) (.int .u32 0))
    clear hq2
    rcases gf with _ | _
    · go_wp2
      go_ret
      exact ⟨ret_bool (by rw [HG.out]; rfl), HB2.out⟩
    · go_wp2_with fail
      refine (C1.out _ HB2.out).mono ?_
      rintro e w3 ⟨rfl, hq⟩
      have HB := Lib.hid (HB2.out.trans (hq.mono HB2.out.size))
      clear hq
      go_wp2
      go_ret
      exact ⟨ret_bool (by rw [HG.out]; simp), HB.out⟩
set_option maxHeartbeats 6400000 in
set_option maxRecDepth 100000 in
theorem scriptGood_2 (node n : Int) (f : Fa) (b : List UInt8) (A : Option Addr) (len c : Nat) (w : World) (hA : U8At w A b) (hn : b.length = len) :
    Calls Tryz.prog 23 #[.agg (Ac.cells ⟨2, node, n, f, b⟩ A len c).toArray] w fun e w' => e = .returned (.bool (goodA ⟨2, node, n, f, b⟩)) ∧ Below w.heap.size w w' := by
  have HX := Lib.hid (And.intro hA hn)
  obtain ⟨fk, fd, fa, fp, fb⟩ := f
  clear hA hn
  by_cases h0 : 0 ≤ node
  · by_cases h1 : node < 64
    · by_cases h2 : -1048576 ≤ n
      · by_cases h3 : n ≤ 1048576
        · obtain ⟨v, hv⟩ : ∃ v, acB ⟨2, 0, 0, ⟨fk, fd, fa, fp, fb⟩, b⟩ ⟨2, 0, 0, Fa0, []⟩ = v := ⟨_, rfl⟩
          have C1 := fun (W : World) (hW : Below w.heap.size w W) => scriptSameV ⟨2, 0, 0, ⟨fk, fd, fa, fp, fb⟩, b⟩ ⟨2, 0, 0, Fa0, []⟩ A none len 0 c 0 v hv W (HX.out.1.keep hW) HX.out.2 (U8At.nil _ _) rfl
          have HG := Lib.hid (good2 node n ⟨fk, fd, fa, fp, fb⟩ b)
          rw [hv] at HG
          unfold Ac.cells Fa0 at C1
          have C1 := Lib.hid C1
          clear hv
          unfold Ac.cells
          go_enter Tryz.func23, Tryz.ntmps23
          go_wp2
          go_big_region
          go_wp2_with fail
          refine (C1.out _ ?cb).mono ?_
          case cb => exact (below3 w _ _).drew
          rintro e w1 ⟨rfl, hq⟩
          have HB := Lib.hid ((below3 w _ _).drew.trans (hq.mono (below3 w _ _).drew.size))
          clear hq
          go_wp2
          go_ret
          exact ⟨ret_bool (by rw [HG.out]; simp [h0, h1, h2, h3]), HB.out⟩
        · have HG := Lib.hid (good2 node n ⟨fk, fd, fa, fp, fb⟩ b)
          unfold Ac.cells
          go_enter Tryz.func23, Tryz.ntmps23
          go_wp2
          go_big_region
          go_wp2
          go_ret
          exact ⟨ret_bool (by rw [HG.out] <;> simp [h3] <;> (intros; omega)), (below3 w _ _).drew⟩
      · have HG := Lib.hid (good2 node n ⟨fk, fd, fa, fp, fb⟩ b)
        unfold Ac.cells
        go_enter Tryz.func23, Tryz.ntmps23
        go_wp2
        go_big_region
        go_wp2
        go_ret
        exact ⟨ret_bool (by rw [HG.out] <;> simp [h2] <;> (intros; omega)), (below3 w _ _).drew⟩
    · have HG := Lib.hid (good2 node n ⟨fk, fd, fa, fp, fb⟩ b)
      have d1 : decide (node < 64) = false := decide_eq_false h1
      unfold Ac.cells
      go_enter Tryz.func23, Tryz.ntmps23
      go_wp2
      go_big_region
      go_wp2
      go_ret
      exact ⟨ret_bool (by rw [HG.out] <;> simp [h1] <;> (intros; omega)), (below3 w _ _).drew⟩
  · have d0 : decide (0 ≤ node) = false := decide_eq_false h0
    have HG := Lib.hid (good2 node n ⟨fk, fd, fa, fp, fb⟩ b)
    unfold Ac.cells
    go_enter Tryz.func23, Tryz.ntmps23
    go_wp2
    go_big_region
    go_wp2
    go_ret
    exact ⟨ret_bool (by rw [HG.out] <;> simp [h0] <;> (intros; omega)), (below3 w _ _).drew⟩
set_option maxHeartbeats 6400000 in
set_option maxRecDepth 100000 in
theorem scriptGood_6 (node n : Int) (f : Fa) (b : List UInt8) (A : Option Addr) (len c : Nat) (w : World) (hA : U8At w A b) (hn : b.length = len) :
    Calls Tryz.prog 23 #[.agg (Ac.cells ⟨6, node, n, f, b⟩ A len c).toArray] w fun e w' => e = .returned (.bool (goodA ⟨6, node, n, f, b⟩)) ∧ Below w.heap.size w w' := by
  have HX := Lib.hid (And.intro hA hn)
  obtain ⟨fk, fd, fa, fp, fb⟩ := f
  clear hA hn
  by_cases h0 : 0 ≤ node
  · by_cases h1 : node < 64
    · by_cases h2 : len ≤ 1024
      · obtain ⟨v, hv⟩ : ∃ v, acB ⟨6, 0, n, ⟨fk, fd, fa, fp, fb⟩, []⟩ ⟨6, 0, 0, Fa0, []⟩ = v := ⟨_, rfl⟩
        have C1 := fun (W : World) (hW : Below w.heap.size w W) => scriptSameV ⟨6, 0, n, ⟨fk, fd, fa, fp, fb⟩, []⟩ ⟨6, 0, 0, Fa0, []⟩ none none 0 0 0 0 v hv W (U8At.nil _ _) rfl (U8At.nil _ _) rfl
        have HG := Lib.hid (good6 node n ⟨fk, fd, fa, fp, fb⟩ b)
        rw [hv] at HG
        unfold Ac.cells Fa0 at C1
        have C1 := Lib.hid C1
        clear hv
        unfold Ac.cells
        go_enter Tryz.func23, Tryz.ntmps23
        go_wp2
        go_big_region
        go_wp2_with fail
        refine (C1.out _ ?cb).mono ?_
        case cb => exact (below3 w _ _).drew
        rintro e w1 ⟨rfl, hq⟩
        have HB := Lib.hid ((below3 w _ _).drew.trans (hq.mono (below3 w _ _).drew.size))
        clear hq
        go_wp2
        go_ret
        exact ⟨ret_bool (by rw [HG.out]; simp [h0, h1, h2, HX.out.2]), HB.out⟩
      · have HG := Lib.hid (good6 node n ⟨fk, fd, fa, fp, fb⟩ b)
        unfold Ac.cells
        go_enter Tryz.func23, Tryz.ntmps23
        go_wp2
        go_big_region
        go_wp2
        go_ret
        exact ⟨ret_bool (by rw [HG.out] <;> simp [h2, HX.out.2] <;> (intros; omega)), (below3 w _ _).drew⟩
    · have HG := Lib.hid (good6 node n ⟨fk, fd, fa, fp, fb⟩ b)
      have d1 : decide (node < 64) = false := decide_eq_false h1
      unfold Ac.cells
      go_enter Tryz.func23, Tryz.ntmps23
      go_wp2
      go_big_region
      go_wp2
      go_ret
      exact ⟨ret_bool (by rw [HG.out] <;> simp [h1] <;> (intros; omega)), (below3 w _ _).drew⟩
  · have d0 : decide (0 ≤ node) = false := decide_eq_false h0
    have HG := Lib.hid (good6 node n ⟨fk, fd, fa, fp, fb⟩ b)
    unfold Ac.cells
    go_enter Tryz.func23, Tryz.ntmps23
    go_wp2
    go_big_region
    go_wp2
    go_ret
    exact ⟨ret_bool (by rw [HG.out] <;> simp [h0] <;> (intros; omega)), (below3 w _ _).drew⟩
set_option maxHeartbeats 6400000 in
set_option maxRecDepth 100000 in
theorem scriptGood_4 (node n : Int) (f : Fa) (b : List UInt8) (A : Option Addr) (len c : Nat) (w : World) (hA : U8At w A b) (hn : b.length = len) :
    Calls Tryz.prog 23 #[.agg (Ac.cells ⟨4, node, n, f, b⟩ A len c).toArray] w fun e w' => e = .returned (.bool (goodA ⟨4, node, n, f, b⟩)) ∧ Below w.heap.size w w' := by
  have HX := Lib.hid (And.intro hA hn)
  obtain ⟨fk, fd, fa, fp, fb⟩ := f
  clear hA hn
  by_cases h0 : 0 ≤ node
  · by_cases h1 : node < 64
    · obtain ⟨v, hv⟩ : ∃ v, acB ⟨4, 0, n, ⟨fk, fd, fa, fp, fb⟩, b⟩ ⟨4, 0, 0, Fa0, []⟩ = v := ⟨_, rfl⟩
      have C1 := fun (W : World) (hW : Below w.heap.size w W) => scriptSameV ⟨4, 0, n, ⟨fk, fd, fa, fp, fb⟩, b⟩ ⟨4, 0, 0, Fa0, []⟩ A none len 0 c 0 v hv W (HX.out.1.keep hW) HX.out.2 (U8At.nil _ _) rfl
      have HG := Lib.hid (goodK 4 node n (by decide) ⟨fk, fd, fa, fp, fb⟩ b)
      rw [hv] at HG
      unfold Ac.cells Fa0 at C1
      have C1 := Lib.hid C1
      clear hv
      unfold Ac.cells
      go_enter Tryz.func23, Tryz.ntmps23
      go_wp2
      go_big_region
      go_wp2_with fail
      refine (C1.out _ ?cb).mono ?_
      case cb => exact (below3 w _ _).drew
      rintro e w1 ⟨rfl, hq⟩
      have HB := Lib.hid ((below3 w _ _).drew.trans (hq.mono (below3 w _ _).drew.size))
      clear hq
      go_wp2
      go_ret
      exact ⟨ret_bool (by rw [HG.out]; simp [h0, h1]), HB.out⟩
    · have HG := Lib.hid (goodK 4 node n (by decide) ⟨fk, fd, fa, fp, fb⟩ b)
      have d1 : decide (node < 64) = false := decide_eq_false h1
      unfold Ac.cells
      go_enter Tryz.func23, Tryz.ntmps23
      go_wp2
      go_big_region
      go_wp2
      go_ret
      exact ⟨ret_bool (by rw [HG.out] <;> simp [h1] <;> (intros; omega)), (below3 w _ _).drew⟩
  · have d0 : decide (0 ≤ node) = false := decide_eq_false h0
    have HG := Lib.hid (goodK 4 node n (by decide) ⟨fk, fd, fa, fp, fb⟩ b)
    unfold Ac.cells
    go_enter Tryz.func23, Tryz.ntmps23
    go_wp2
    go_big_region
    go_wp2
    go_ret
    exact ⟨ret_bool (by rw [HG.out] <;> simp [h0] <;> (intros; omega)), (below3 w _ _).drew⟩
set_option maxHeartbeats 6400000 in
set_option maxRecDepth 100000 in
theorem scriptGood_5 (node n : Int) (f : Fa) (b : List UInt8) (A : Option Addr) (len c : Nat) (w : World) (hA : U8At w A b) (hn : b.length = len) :
    Calls Tryz.prog 23 #[.agg (Ac.cells ⟨5, node, n, f, b⟩ A len c).toArray] w fun e w' => e = .returned (.bool (goodA ⟨5, node, n, f, b⟩)) ∧ Below w.heap.size w w' := by
  have HX := Lib.hid (And.intro hA hn)
  obtain ⟨fk, fd, fa, fp, fb⟩ := f
  clear hA hn
  by_cases h0 : 0 ≤ node
  · by_cases h1 : node < 64
    · obtain ⟨v, hv⟩ : ∃ v, acB ⟨5, 0, n, ⟨fk, fd, fa, fp, fb⟩, b⟩ ⟨5, 0, 0, Fa0, []⟩ = v := ⟨_, rfl⟩
      have C1 := fun (W : World) (hW : Below w.heap.size w W) => scriptSameV ⟨5, 0, n, ⟨fk, fd, fa, fp, fb⟩, b⟩ ⟨5, 0, 0, Fa0, []⟩ A none len 0 c 0 v hv W (HX.out.1.keep hW) HX.out.2 (U8At.nil _ _) rfl
      have HG := Lib.hid (goodK 5 node n (by decide) ⟨fk, fd, fa, fp, fb⟩ b)
      rw [hv] at HG
      unfold Ac.cells Fa0 at C1
      have C1 := Lib.hid C1
      clear hv
      unfold Ac.cells
      go_enter Tryz.func23, Tryz.ntmps23
      go_wp2
      go_big_region
      go_wp2_with fail
      refine (C1.out _ ?cb).mono ?_
      case cb => exact (below3 w _ _).drew
      rintro e w1 ⟨rfl, hq⟩
      have HB := Lib.hid ((below3 w _ _).drew.trans (hq.mono (below3 w _ _).drew.size))
      clear hq
      go_wp2
      go_ret
      exact ⟨ret_bool (by rw [HG.out]; simp [h0, h1]), HB.out⟩
    · have HG := Lib.hid (goodK 5 node n (by decide) ⟨fk, fd, fa, fp, fb⟩ b)
      have d1 : decide (node < 64) = false := decide_eq_false h1
      unfold Ac.cells
      go_enter Tryz.func23, Tryz.ntmps23
      go_wp2
      go_big_region
      go_wp2
      go_ret
      exact ⟨ret_bool (by rw [HG.out] <;> simp [h1] <;> (intros; omega)), (below3 w _ _).drew⟩
  · have d0 : decide (0 ≤ node) = false := decide_eq_false h0
    have HG := Lib.hid (goodK 5 node n (by decide) ⟨fk, fd, fa, fp, fb⟩ b)
    unfold Ac.cells
    go_enter Tryz.func23, Tryz.ntmps23
    go_wp2
    go_big_region
    go_wp2
    go_ret
    exact ⟨ret_bool (by rw [HG.out] <;> simp [h0] <;> (intros; omega)), (below3 w _ _).drew⟩
set_option maxHeartbeats 6400000 in
set_option maxRecDepth 100000 in
theorem scriptGood_7 (node n : Int) (f : Fa) (b : List UInt8) (A : Option Addr) (len c : Nat) (w : World) (hA : U8At w A b) (hn : b.length = len) :
    Calls Tryz.prog 23 #[.agg (Ac.cells ⟨7, node, n, f, b⟩ A len c).toArray] w fun e w' => e = .returned (.bool (goodA ⟨7, node, n, f, b⟩)) ∧ Below w.heap.size w w' := by
  have HX := Lib.hid (And.intro hA hn)
  obtain ⟨fk, fd, fa, fp, fb⟩ := f
  clear hA hn
  by_cases h0 : 0 ≤ node
  · by_cases h1 : node < 64
    · obtain ⟨v, hv⟩ : ∃ v, acB ⟨7, 0, n, ⟨fk, fd, fa, fp, fb⟩, b⟩ ⟨7, 0, 0, Fa0, []⟩ = v := ⟨_, rfl⟩
      have C1 := fun (W : World) (hW : Below w.heap.size w W) => scriptSameV ⟨7, 0, n, ⟨fk, fd, fa, fp, fb⟩, b⟩ ⟨7, 0, 0, Fa0, []⟩ A none len 0 c 0 v hv W (HX.out.1.keep hW) HX.out.2 (U8At.nil _ _) rfl
      have HG := Lib.hid (goodK 7 node n (by decide) ⟨fk, fd, fa, fp, fb⟩ b)
      rw [hv] at HG
      unfold Ac.cells Fa0 at C1
      have C1 := Lib.hid C1
      clear hv
      unfold Ac.cells
      go_enter Tryz.func23, Tryz.ntmps23
      go_wp2
      go_big_region
      go_wp2_with fail
      refine (C1.out _ ?cb).mono ?_
      case cb => exact (below3 w _ _).drew
      rintro e w1 ⟨rfl, hq⟩
      have HB := Lib.hid ((below3 w _ _).drew.trans (hq.mono (below3 w _ _).drew.size))
      clear hq
      go_wp2
      go_ret
      exact ⟨ret_bool (by rw [HG.out]; simp [h0, h1]), HB.out⟩
    · have HG := Lib.hid (goodK 7 node n (by decide) ⟨fk, fd, fa, fp, fb⟩ b)
      have d1 : decide (node < 64) = false := decide_eq_false h1
      unfold Ac.cells
      go_enter Tryz.func23, Tryz.ntmps23
      go_wp2
      go_big_region
      go_wp2
      go_ret
      exact ⟨ret_bool (by rw [HG.out] <;> simp [h1] <;> (intros; omega)), (below3 w _ _).drew⟩
  · have d0 : decide (0 ≤ node) = false := decide_eq_false h0
    have HG := Lib.hid (goodK 7 node n (by decide) ⟨fk, fd, fa, fp, fb⟩ b)
    unfold Ac.cells
    go_enter Tryz.func23, Tryz.ntmps23
    go_wp2
    go_big_region
    go_wp2
    go_ret
    exact ⟨ret_bool (by rw [HG.out] <;> simp [h0] <;> (intros; omega)), (below3 w _ _).drew⟩
set_option maxHeartbeats 6400000 in
set_option maxRecDepth 100000 in
theorem scriptGood_8 (node n : Int) (f : Fa) (b : List UInt8) (A : Option Addr) (len c : Nat) (w : World) (hA : U8At w A b) (hn : b.length = len) :
    Calls Tryz.prog 23 #[.agg (Ac.cells ⟨8, node, n, f, b⟩ A len c).toArray] w fun e w' => e = .returned (.bool (goodA ⟨8, node, n, f, b⟩)) ∧ Below w.heap.size w w' := by
  have HX := Lib.hid (And.intro hA hn)
  obtain ⟨fk, fd, fa, fp, fb⟩ := f
  clear hA hn
  by_cases h0 : 0 ≤ node
  · by_cases h1 : node < 64
    · obtain ⟨v, hv⟩ : ∃ v, acB ⟨8, 0, n, ⟨fk, fd, fa, fp, fb⟩, b⟩ ⟨8, 0, 0, Fa0, []⟩ = v := ⟨_, rfl⟩
      have C1 := fun (W : World) (hW : Below w.heap.size w W) => scriptSameV ⟨8, 0, n, ⟨fk, fd, fa, fp, fb⟩, b⟩ ⟨8, 0, 0, Fa0, []⟩ A none len 0 c 0 v hv W (HX.out.1.keep hW) HX.out.2 (U8At.nil _ _) rfl
      have HG := Lib.hid (goodK 8 node n (by decide) ⟨fk, fd, fa, fp, fb⟩ b)
      rw [hv] at HG
      unfold Ac.cells Fa0 at C1
      have C1 := Lib.hid C1
      clear hv
      unfold Ac.cells
      go_enter Tryz.func23, Tryz.ntmps23
      go_wp2
      go_big_region
      go_wp2_with fail
      refine (C1.out _ ?cb).mono ?_
      case cb => exact (below3 w _ _).drew
      rintro e w1 ⟨rfl, hq⟩
      have HB := Lib.hid ((below3 w _ _).drew.trans (hq.mono (below3 w _ _).drew.size))
      clear hq
      go_wp2
      go_ret
      exact ⟨ret_bool (by rw [HG.out]; simp [h0, h1]), HB.out⟩
    · have HG := Lib.hid (goodK 8 node n (by decide) ⟨fk, fd, fa, fp, fb⟩ b)
      have d1 : decide (node < 64) = false := decide_eq_false h1
      unfold Ac.cells
      go_enter Tryz.func23, Tryz.ntmps23
      go_wp2
      go_big_region
      go_wp2
      go_ret
      exact ⟨ret_bool (by rw [HG.out] <;> simp [h1] <;> (intros; omega)), (below3 w _ _).drew⟩
  · have d0 : decide (0 ≤ node) = false := decide_eq_false h0
    have HG := Lib.hid (goodK 8 node n (by decide) ⟨fk, fd, fa, fp, fb⟩ b)
    unfold Ac.cells
    go_enter Tryz.func23, Tryz.ntmps23
    go_wp2
    go_big_region
    go_wp2
    go_ret
    exact ⟨ret_bool (by rw [HG.out] <;> simp [h0] <;> (intros; omega)), (below3 w _ _).drew⟩
set_option maxHeartbeats 6400000 in
set_option maxRecDepth 100000 in
theorem scriptGood_E (k node n : Int) (f : Fa) (b : List UInt8) (A : Option Addr) (len c : Nat) (w : World) (hA : U8At w A b) (hn : b.length = len) (hk : k < 1 ∨ 8 < k) :
    Calls Tryz.prog 23 #[.agg (Ac.cells ⟨k, node, n, f, b⟩ A len c).toArray] w fun e w' => e = .returned (.bool (goodA ⟨k, node, n, f, b⟩)) ∧ Below w.heap.size w w' := by
  have HX := Lib.hid (And.intro hA hn)
  obtain ⟨fk, fd, fa, fp, fb⟩ := f
  clear hA hn
  by_cases h0 : 0 ≤ node
  · have HG := Lib.hid (goodE k node n hk ⟨fk, fd, fa, fp, fb⟩ b)
    have q1 : (k == 1) = false := by rw [beq_eq_false_iff_ne]; omega
    have q2 : (k == 2) = false := by rw [beq_eq_false_iff_ne]; omega
    have q3 : (k == 3) = false := by rw [beq_eq_false_iff_ne]; omega
    have q4 : (k == 4) = false := by rw [beq_eq_false_iff_ne]; omega
    have q5 : (k == 5) = false := by rw [beq_eq_false_iff_ne]; omega
    have q6 : (k == 6) = false := by rw [beq_eq_false_iff_ne]; omega
    have q7 : (k == 7) = false := by rw [beq_eq_false_iff_ne]; omega
    have q8 : (k == 8) = false := by rw [beq_eq_false_iff_ne]; omega
    clear hk
    unfold Ac.cells
    go_enter Tryz.func23, Tryz.ntmps23
    go_wp2
    go_big_region
    go_wp2
    go_ret
    exact ⟨ret_bool (by rw [HG.out] <;> simp <;> (intros; omega)), (below3 w _ _).drew⟩
  · have d0 : decide (0 ≤ node) = false := decide_eq_false h0
    have HG := Lib.hid (goodE k node n hk ⟨fk, fd, fa, fp, fb⟩ b)
    have q1 : (k == 1) = false := by rw [beq_eq_false_iff_ne]; omega
    have q2 : (k == 2) = false := by rw [beq_eq_false_iff_ne]; omega
    have q3 : (k == 3) = false := by rw [beq_eq_false_iff_ne]; omega
    have q4 : (k == 4) = false := by rw [beq_eq_false_iff_ne]; omega
    have q5 : (k == 5) = false := by rw [beq_eq_false_iff_ne]; omega
    have q6 : (k == 6) = false := by rw [beq_eq_false_iff_ne]; omega
    have q7 : (k == 7) = false := by rw [beq_eq_false_iff_ne]; omega
    have q8 : (k == 8) = false := by rw [beq_eq_false_iff_ne]; omega
    clear hk
    unfold Ac.cells
    go_enter Tryz.func23, Tryz.ntmps23
    go_wp2
    go_big_region
    go_wp2
    go_ret
    exact ⟨ret_bool (by rw [HG.out] <;> simp <;> (intros; omega)), (below3 w _ _).drew⟩
theorem scriptGood (x : Ac) (A : Option Addr) (len c : Nat) (w : World) (hA : U8At w A x.b) (hn : x.b.length = len) :
    Calls Tryz.prog 23 #[.agg (x.cells A len c).toArray] w fun e w' => e = .returned (.bool (goodA x)) ∧ Below w.heap.size w w' := by
  obtain ⟨k, node, n, f, b⟩ := x
  by_cases h1 : k = 1
  · subst h1; exact scriptGood_1 node n f b A len c w hA hn
  by_cases h2 : k = 2
  · subst h2; exact scriptGood_2 node n f b A len c w hA hn
  by_cases h3 : k = 3
  · subst h3; exact scriptGood_3 node n f b A len c w hA hn
  by_cases h4 : k = 4
  · subst h4; exact scriptGood_4 node n f b A len c w hA hn
  by_cases h5 : k = 5
  · subst h5; exact scriptGood_5 node n f b A len c w hA hn
  by_cases h6 : k = 6
  · subst h6; exact scriptGood_6 node n f b A len c w hA hn
  by_cases h7 : k = 7
  · subst h7; exact scriptGood_7 node n f b A len c w hA hn
  by_cases h8 : k = 8
  · subst h8; exact scriptGood_8 node n f b A len c w hA hn
  exact scriptGood_E k node n f b A len c w hA hn (by omega)
theorem scriptGoodV (x : Ac) (A : Option Addr) (len c : Nat) (v : Bool) (hv : goodA x = v) (w : World) (hA : U8At w A x.b) (hn : x.b.length = len) :
    Calls Tryz.prog 23 #[.agg (x.cells A len c).toArray] w fun e w' => e = .returned (.bool v) ∧ Below w.heap.size w w' := by
  subst hv; exact scriptGood x A len c w hA hn
end Go.Proofs.YteahiphmhaedpaaGreatDoor
