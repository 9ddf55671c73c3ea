/- The reference's Good of acts. -/
import Derived.Test.YtndpdonlombodaaDoorActC
namespace Go.Proofs.YtndpdonlombodaaDoor
open Go.RowKit Law
set_option linter.unusedVariables false
set_option linter.unusedSimpArgs false

/-- Which acts may be. -/
def goodA (x : Ac) : Bool :=
  if x.k = 1 then acB x ⟨1, 0, x.n, Fa0, []⟩ && (decide (0 < x.n) && decide (x.n < 65))
  else if x.k = 3 then acB x ⟨3, 0, 0, x.f, []⟩ && goodF x.f
  else if x.k < 1 ∨ 8 < x.k ∨ x.node < 0 ∨ 63 < x.node then false
  else if x.k = 2 then acB x ⟨2, x.node, x.n, Fa0, []⟩ && (decide (-1048576 ≤ x.n) && decide (x.n ≤ 1048576))
  else if x.k = 6 then acB x ⟨6, x.node, 0, Fa0, x.b⟩ && decide (x.b.length < 1025)
  else acB x ⟨x.k, x.node, 0, Fa0, []⟩
theorem refSameV (x y : Ac) (A B : Option Addr) (n m c d : Nat) (v : Bool) (hv : acB x y = v) (w : World) (hA : U8At w A x.b) (hn : x.b.length = n) (hB : U8At w B y.b) (hm : y.b.length = m) :
    Calls Tryd.prog 30 #[.agg (x.cells A n c).toArray, .agg (y.cells B m d).toArray] w fun e w' => e = .returned (.bool v) ∧ Below w.heap.size w w' := by
  subst hv
  exact refSame x y A B n m c d w hA hn hB hm
set_option maxHeartbeats 3200000 in
set_option maxRecDepth 100000 in
theorem refGoodA (x : Ac) (A : Option Addr) (len c : Nat) (w : World) (hA : U8At w A x.b) (hn : x.b.length = len) :
    Calls Tryd.prog 16 #[.agg (x.cells A len c).toArray] w fun e w' => e = .returned (.bool (goodA x)) ∧ Below w.heap.size w w' := by
  obtain ⟨k, node, n, ⟨fk, fd, fa, fp, fb⟩, b⟩ := x
  simp only at hA hn
  have hb1 : Below w.heap.size w (w.alloc (.cells #[.int .i64 k, .int .i64 node, .int .i64 n, .int .i64 fk, .int .i64 fd, .int .i64 fa, .int .u32 (fp : Int), .int .u32 (fb : Int), .slice A len c] 29)) := (Below.refl _ _).alloc (Nat.le_refl _) _
  have HB := Lib.hid (And.intro hb1 (And.intro (hA.keep hb1) hn))
  clear hb1 hA
  by_cases h1 : k = 1
  · subst h1
    obtain ⟨v, hv⟩ : ∃ v, acB ⟨1, node, n, ⟨fk, fd, fa, fp, fb⟩, b⟩ ⟨1, 0, n, Fa0, []⟩ = v := ⟨_, rfl⟩
    have C1 := refSameV _ _ A none len 0 c 0 v hv _ HB.out.2.1 HB.out.2.2 (U8At.nil _ _) rfl
    have HG : Hid (goodA ⟨1, node, n, ⟨fk, fd, fa, fp, fb⟩, b⟩ = (v && (decide (0 < n) && decide (n < 65)))) := by unfold Hid goodA; rw [if_pos rfl, hv]
    unfold Ac.cells Fa0 at C1
    have C1 := Lib.hid C1
    unfold Ac.cells
    clear hv
    rcases v with _ | _
    · go_enter Tryd.func16, Tryd.ntmps16
      go_wp2_with fail
      refine C1.out.mono ?_
      rintro e w1 ⟨rfl, hb⟩
      have HF := Lib.hid (HB.out.1.trans (hb.mono (by simp)))
      have r1 := (hb.cell (p := ⟨w.heap.size, 1, none⟩) (by simp)).trans (show _ = some (.int .i64 node) by simp)
      have r2 := (hb.cell (p := ⟨w.heap.size, 2, none⟩) (by simp)).trans (show _ = some (.int .i64 n) by simp)
      have r3 := (hb.cell (p := ⟨w.heap.size, 3, none⟩) (by simp)).trans (show _ = some (.int .i64 fk) by simp)
      have r4 := (hb.cell (p := ⟨w.heap.size, 4, none⟩) (by simp)).trans (show _ = some (.int .i64 fd) by simp)
      have r5 := (hb.cell (p := ⟨w.heap.size, 5, none⟩) (by simp)).trans (show _ = some (.int .i64 fa) by simp)
      have r6 := (hb.cell (p := ⟨w.heap.size, 6, none⟩) (by simp)).trans (show _ = some (.int .u32 (fp : Int)) by simp)
      have r7 := (hb.cell (p := ⟨w.heap.size, 7, none⟩) (by simp)).trans (show _ = some (.int .u32 (fb : Int)) by simp)
      have r8 := (hb.cell (p := ⟨w.heap.size, 8, none⟩) (by simp)).trans (show _ = some (.slice A len c) by simp)
      clear hb
      go_wp2
      all_goals
        go_ret
        refine ⟨ret_bool (Eq.trans ?_ HG.out.symm), HF.out⟩
        first | rfl | (simp; done) | (simp; omega) | (rw [Bool.eq_iff_iff]; simp; omega)
    · by_cases h2 : 0 < n
      · by_cases h3 : n < 65
        · go_enter Tryd.func16, Tryd.ntmps16
          go_wp2_with fail
          refine C1.out.mono ?_
          rintro e w1 ⟨rfl, hb⟩
          have HF := Lib.hid (HB.out.1.trans (hb.mono (by simp)))
          have r1 := (hb.cell (p := ⟨w.heap.size, 1, none⟩) (by simp)).trans (show _ = some (.int .i64 node) by simp)
          have r2 := (hb.cell (p := ⟨w.heap.size, 2, none⟩) (by simp)).trans (show _ = some (.int .i64 n) by simp)
          have r3 := (hb.cell (p := ⟨w.heap.size, 3, none⟩) (by simp)).trans (show _ = some (.int .i64 fk) by simp)
          have r4 := (hb.cell (p := ⟨w.heap.size, 4, none⟩) (by simp)).trans (show _ = some (.int .i64 fd) by simp)
          have r5 := (hb.cell (p := ⟨w.heap.size, 5, none⟩) (by simp)).trans (show _ = some (.int .i64 fa) by simp)
          have r6 := (hb.cell (p := ⟨w.heap.size, 6, none⟩) (by simp)).trans (show _ = some (.int .u32 (fp : Int)) by simp)
          have r7 := (hb.cell (p := ⟨w.heap.size, 7, none⟩) (by simp)).trans (show _ = some (.int .u32 (fb : Int)) by simp)
          have r8 := (hb.cell (p := ⟨w.heap.size, 8, none⟩) (by simp)).trans (show _ = some (.slice A len c) by simp)
          clear hb
          go_wp2
          all_goals
            go_ret
            refine ⟨ret_bool (Eq.trans ?_ HG.out.symm), HF.out⟩
            first | rfl | (simp; done) | (simp; omega) | (rw [Bool.eq_iff_iff]; simp; omega)
        · go_enter Tryd.func16, Tryd.ntmps16
          go_wp2_with fail
          refine C1.out.mono ?_
          rintro e w1 ⟨rfl, hb⟩
          have HF := Lib.hid (HB.out.1.trans (hb.mono (by simp)))
          have r1 := (hb.cell (p := ⟨w.heap.size, 1, none⟩) (by simp)).trans (show _ = some (.int .i64 node) by simp)
          have r2 := (hb.cell (p := ⟨w.heap.size, 2, none⟩) (by simp)).trans (show _ = some (.int .i64 n) by simp)
          have r3 := (hb.cell (p := ⟨w.heap.size, 3, none⟩) (by simp)).trans (show _ = some (.int .i64 fk) by simp)
          have r4 := (hb.cell (p := ⟨w.heap.size, 4, none⟩) (by simp)).trans (show _ = some (.int .i64 fd) by simp)
          have r5 := (hb.cell (p := ⟨w.heap.size, 5, none⟩) (by simp)).trans (show _ = some (.int .i64 fa) by simp)
          have r6 := (hb.cell (p := ⟨w.heap.size, 6, none⟩) (by simp)).trans (show _ = some (.int .u32 (fp : Int)) by simp)
          have r7 := (hb.cell (p := ⟨w.heap.size, 7, none⟩) (by simp)).trans (show _ = some (.int .u32 (fb : Int)) by simp)
          have r8 := (hb.cell (p := ⟨w.heap.size, 8, none⟩) (by simp)).trans (show _ = some (.slice A len c) by simp)
          clear hb
          go_wp2
          all_goals
            go_ret
            refine ⟨ret_bool (Eq.trans ?_ HG.out.symm), HF.out⟩
            first | rfl | (simp; done) | (simp; omega) | (rw [Bool.eq_iff_iff]; simp; omega)
      · go_enter Tryd.func16, Tryd.ntmps16
        go_wp2_with fail
        refine C1.out.mono ?_
        rintro e w1 ⟨rfl, hb⟩
        have HF := Lib.hid (HB.out.1.trans (hb.mono (by simp)))
        have r1 := (hb.cell (p := ⟨w.heap.size, 1, none⟩) (by simp)).trans (show _ = some (.int .i64 node) by simp)
        have r2 := (hb.cell (p := ⟨w.heap.size, 2, none⟩) (by simp)).trans (show _ = some (.int .i64 n) by simp)
        have r3 := (hb.cell (p := ⟨w.heap.size, 3, none⟩) (by simp)).trans (show _ = some (.int .i64 fk) by simp)
        have r4 := (hb.cell (p := ⟨w.heap.size, 4, none⟩) (by simp)).trans (show _ = some (.int .i64 fd) by simp)
        have r5 := (hb.cell (p := ⟨w.heap.size, 5, none⟩) (by simp)).trans (show _ = some (.int .i64 fa) by simp)
        have r6 := (hb.cell (p := ⟨w.heap.size, 6, none⟩) (by simp)).trans (show _ = some (.int .u32 (fp : Int)) by simp)
        have r7 := (hb.cell (p := ⟨w.heap.size, 7, none⟩) (by simp)).trans (show _ = some (.int .u32 (fb : Int)) by simp)
        have r8 := (hb.cell (p := ⟨w.heap.size, 8, none⟩) (by simp)).trans (show _ = some (.slice A len c) by simp)
        clear hb
        go_wp2
        all_goals
          go_ret
          refine ⟨ret_bool (Eq.trans ?_ HG.out.symm), HF.out⟩
          first | rfl | (simp; done) | (simp; omega) | (rw [Bool.eq_iff_iff]; simp; omega)
  · by_cases h3 : k = 3
    · subst h3
      obtain ⟨v, hv⟩ : ∃ v, acB ⟨3, node, n, ⟨fk, fd, fa, fp, fb⟩, b⟩ ⟨3, 0, 0, ⟨fk, fd, fa, fp, fb⟩, []⟩ = v := ⟨_, rfl⟩
      have C1 := refSameV _ _ A none len 0 c 0 v hv _ HB.out.2.1 HB.out.2.2 (U8At.nil _ _) rfl
      have HG : Hid (goodA ⟨3, node, n, ⟨fk, fd, fa, fp, fb⟩, b⟩ = (v && goodF ⟨fk, fd, fa, fp, fb⟩)) := by unfold Hid goodA; rw [if_neg (by simp), if_pos rfl, hv]
      unfold Ac.cells at C1
      have C1 := Lib.hid C1
      unfold Ac.cells
      clear hv
      have C2 := fun W => refGoodF ⟨fk, fd, fa, fp, fb⟩ W
      unfold Fa.cells at C2
      have C2 := Lib.hid C2
      rcases v with _ | _
      · go_enter Tryd.func16, Tryd.ntmps16
        go_wp2_with fail
        refine C1.out.mono ?_
        rintro e w1 ⟨rfl, hb⟩
        have HF := Lib.hid (HB.out.1.trans (hb.mono (by simp)))
        have r1 := (hb.cell (p := ⟨w.heap.size, 1, none⟩) (by simp)).trans (show _ = some (.int .i64 node) by simp)
        have r2 := (hb.cell (p := ⟨w.heap.size, 2, none⟩) (by simp)).trans (show _ = some (.int .i64 n) by simp)
        have r3 := (hb.cell (p := ⟨w.heap.size, 3, none⟩) (by simp)).trans (show _ = some (.int .i64 fk) by simp)
        have r4 := (hb.cell (p := ⟨w.heap.size, 4, none⟩) (by simp)).trans (show _ = some (.int .i64 fd) by simp)
        have r5 := (hb.cell (p := ⟨w.heap.size, 5, none⟩) (by simp)).trans (show _ = some (.int .i64 fa) by simp)
        have r6 := (hb.cell (p := ⟨w.heap.size, 6, none⟩) (by simp)).trans (show _ = some (.int .u32 (fp : Int)) by simp)
        have r7 := (hb.cell (p := ⟨w.heap.size, 7, none⟩) (by simp)).trans (show _ = some (.int .u32 (fb : Int)) by simp)
        have r8 := (hb.cell (p := ⟨w.heap.size, 8, none⟩) (by simp)).trans (show _ = some (.slice A len c) by simp)
        clear hb
        go_wp2
        all_goals
          go_ret
          refine ⟨ret_bool (Eq.trans ?_ HG.out.symm), HF.out⟩
          first | rfl | (simp; done) | (simp; omega) | (rw [Bool.eq_iff_iff]; simp; omega)
      · go_enter Tryd.func16, Tryd.ntmps16
        obtain ⟨gf, hgf⟩ : ∃ gf, goodF ⟨fk, fd, fa, fp, fb⟩ = gf := ⟨_, rfl⟩
        rw [hgf] at HG
        simp only [hgf] at C2
        clear hgf
        go_wp2_with fail
        refine C1.out.mono ?_
        rintro e w1 ⟨rfl, hb⟩
        have HF := Lib.hid (HB.out.1.trans (hb.mono (by simp)))
        have r1 := (hb.cell (p := ⟨w.heap.size, 1, none⟩) (by simp)).trans (show _ = some (.int .i64 node) by simp)
        have r2 := (hb.cell (p := ⟨w.heap.size, 2, none⟩) (by simp)).trans (show _ = some (.int .i64 n) by simp)
        have r3 := (hb.cell (p := ⟨w.heap.size, 3, none⟩) (by simp)).trans (show _ = some (.int .i64 fk) by simp)
        have r4 := (hb.cell (p := ⟨w.heap.size, 4, none⟩) (by simp)).trans (show _ = some (.int .i64 fd) by simp)
        have r5 := (hb.cell (p := ⟨w.heap.size, 5, none⟩) (by simp)).trans (show _ = some (.int .i64 fa) by simp)
        have r6 := (hb.cell (p := ⟨w.heap.size, 6, none⟩) (by simp)).trans (show _ = some (.int .u32 (fp : Int)) by simp)
        have r7 := (hb.cell (p := ⟨w.heap.size, 7, none⟩) (by simp)).trans (show _ = some (.int .u32 (fb : Int)) by simp)
        have r8 := (hb.cell (p := ⟨w.heap.size, 8, none⟩) (by simp)).trans (show _ = some (.slice A len c) by simp)
        clear hb
        go_wp2_with fail
        refine (C2.out _).mono ?_
        rintro e w2 ⟨rfl, hb2⟩
        have HF2 := Lib.hid (HF.out.trans (hb2.mono HF.out.size))
        clear hb2
        go_wp2
        all_goals
          go_ret
          refine ⟨ret_bool (Eq.trans ?_ HG.out.symm), HF2.out⟩
          first | rfl | (simp; done) | (simp; omega) | (rw [Bool.eq_iff_iff]; simp; omega)
    · by_cases h4 : k < 1
      · have HG : Hid (goodA ⟨k, node, n, ⟨fk, fd, fa, fp, fb⟩, b⟩ = false) := by unfold Hid goodA; dsimp only; rw [if_neg h1, if_neg h3, if_pos (by omega)]
        have D1 := Lib.hid (And.intro h1 h3)
        have q1 : (k == 1) = false := by simpa using h1
        have q3 : (k == 3) = false := by simpa using h3
        unfold Ac.cells
        clear h1 h3
        go_enter Tryd.func16, Tryd.ntmps16
        go_wp2
        all_goals
          go_ret
          refine ⟨ret_bool (Eq.trans ?_ HG.out.symm), HB.out.1⟩
          first | rfl | (simp; done) | (simp; omega) | (rw [Bool.eq_iff_iff]; simp; omega)
      · by_cases h5 : 8 < k
        · have HG : Hid (goodA ⟨k, node, n, ⟨fk, fd, fa, fp, fb⟩, b⟩ = false) := by unfold Hid goodA; dsimp only; rw [if_neg h1, if_neg h3, if_pos (by omega)]
          have D1 := Lib.hid (And.intro h1 h3)
          have q1 : (k == 1) = false := by simpa using h1
          have q3 : (k == 3) = false := by simpa using h3
          unfold Ac.cells
          clear h1 h3
          go_enter Tryd.func16, Tryd.ntmps16
          go_wp2
          all_goals
            go_ret
            refine ⟨ret_bool (Eq.trans ?_ HG.out.symm), HB.out.1⟩
            first | rfl | (simp; done) | (simp; omega) | (rw [Bool.eq_iff_iff]; simp; omega)
        · by_cases h6 : node < 0
          · have HG : Hid (goodA ⟨k, node, n, ⟨fk, fd, fa, fp, fb⟩, b⟩ = false) := by unfold Hid goodA; dsimp only; rw [if_neg h1, if_neg h3, if_pos (by omega)]
            have D1 := Lib.hid (And.intro h1 h3)
            have q1 : (k == 1) = false := by simpa using h1
            have q3 : (k == 3) = false := by simpa using h3
            unfold Ac.cells
            clear h1 h3
            go_enter Tryd.func16, Tryd.ntmps16
            go_wp2
            all_goals
              go_ret
              refine ⟨ret_bool (Eq.trans ?_ HG.out.symm), HB.out.1⟩
              first | rfl | (simp; done) | (simp; omega) | (rw [Bool.eq_iff_iff]; simp; omega)
          · by_cases h7 : 63 < node
            · have HG : Hid (goodA ⟨k, node, n, ⟨fk, fd, fa, fp, fb⟩, b⟩ = false) := by unfold Hid goodA; dsimp only; rw [if_neg h1, if_neg h3, if_pos (by omega)]
              have D1 := Lib.hid (And.intro h1 h3)
              have q1 : (k == 1) = false := by simpa using h1
              have q3 : (k == 3) = false := by simpa using h3
              unfold Ac.cells
              clear h1 h3
              go_enter Tryd.func16, Tryd.ntmps16
              go_wp2
              all_goals
                go_ret
                refine ⟨ret_bool (Eq.trans ?_ HG.out.symm), HB.out.1⟩
                first | rfl | (simp; done) | (simp; omega) | (rw [Bool.eq_iff_iff]; simp; omega)
            · have hr : ¬ (k < 1 ∨ 8 < k ∨ node < 0 ∨ 63 < node) := by omega
              by_cases h2 : k = 2
              · subst h2
                obtain ⟨v, hv⟩ : ∃ v, acB ⟨2, node, n, ⟨fk, fd, fa, fp, fb⟩, b⟩ ⟨2, node, n, Fa0, []⟩ = v := ⟨_, rfl⟩
                have C1 := refSameV _ _ A none len 0 c 0 v hv _ HB.out.2.1 HB.out.2.2 (U8At.nil _ _) rfl
                have HG : Hid (goodA ⟨2, node, n, ⟨fk, fd, fa, fp, fb⟩, b⟩ = (v && (decide (-1048576 ≤ n) && decide (n ≤ 1048576)))) := by unfold Hid goodA; dsimp only; rw [if_neg (by decide), if_neg (by decide), if_neg hr, if_pos rfl, hv]
                unfold Ac.cells Fa0 at C1
                have C1 := Lib.hid C1
                unfold Ac.cells
                clear hv
                clear h1 h3 hr
                rcases v with _ | _
                · go_enter Tryd.func16, Tryd.ntmps16
                  go_wp2_with fail
                  refine C1.out.mono ?_
                  rintro e w1 ⟨rfl, hb⟩
                  have HF := Lib.hid (HB.out.1.trans (hb.mono (by simp)))
                  have r1 := (hb.cell (p := ⟨w.heap.size, 1, none⟩) (by simp)).trans (show _ = some (.int .i64 node) by simp)
                  have r2 := (hb.cell (p := ⟨w.heap.size, 2, none⟩) (by simp)).trans (show _ = some (.int .i64 n) by simp)
                  have r3 := (hb.cell (p := ⟨w.heap.size, 3, none⟩) (by simp)).trans (show _ = some (.int .i64 fk) by simp)
                  have r4 := (hb.cell (p := ⟨w.heap.size, 4, none⟩) (by simp)).trans (show _ = some (.int .i64 fd) by simp)
                  have r5 := (hb.cell (p := ⟨w.heap.size, 5, none⟩) (by simp)).trans (show _ = some (.int .i64 fa) by simp)
                  have r6 := (hb.cell (p := ⟨w.heap.size, 6, none⟩) (by simp)).trans (show _ = some (.int .u32 (fp : Int)) by simp)
                  have r7 := (hb.cell (p := ⟨w.heap.size, 7, none⟩) (by simp)).trans (show _ = some (.int .u32 (fb : Int)) by simp)
                  have r8 := (hb.cell (p := ⟨w.heap.size, 8, none⟩) (by simp)).trans (show _ = some (.slice A len c) by simp)
                  clear hb
                  go_wp2
                  all_goals
                    go_ret
                    refine ⟨ret_bool (Eq.trans ?_ HG.out.symm), HF.out⟩
                    first | rfl | (simp; done) | (simp; omega) | (rw [Bool.eq_iff_iff]; simp; omega)
                · by_cases h8 : -1048576 ≤ n
                  · by_cases h9 : n ≤ 1048576
                    · go_enter Tryd.func16, Tryd.ntmps16
                      go_wp2_with fail
                      refine C1.out.mono ?_
                      rintro e w1 ⟨rfl, hb⟩
                      have HF := Lib.hid (HB.out.1.trans (hb.mono (by simp)))
                      have r1 := (hb.cell (p := ⟨w.heap.size, 1, none⟩) (by simp)).trans (show _ = some (.int .i64 node) by simp)
                      have r2 := (hb.cell (p := ⟨w.heap.size, 2, none⟩) (by simp)).trans (show _ = some (.int .i64 n) by simp)
                      have r3 := (hb.cell (p := ⟨w.heap.size, 3, none⟩) (by simp)).trans (show _ = some (.int .i64 fk) by simp)
                      have r4 := (hb.cell (p := ⟨w.heap.size, 4, none⟩) (by simp)).trans (show _ = some (.int .i64 fd) by simp)
                      have r5 := (hb.cell (p := ⟨w.heap.size, 5, none⟩) (by simp)).trans (show _ = some (.int .i64 fa) by simp)
                      have r6 := (hb.cell (p := ⟨w.heap.size, 6, none⟩) (by simp)).trans (show _ = some (.int .u32 (fp : Int)) by simp)
                      have r7 := (hb.cell (p := ⟨w.heap.size, 7, none⟩) (by simp)).trans (show _ = some (.int .u32 (fb : Int)) by simp)
                      have r8 := (hb.cell (p := ⟨w.heap.size, 8, none⟩) (by simp)).trans (show _ = some (.slice A len c) by simp)
                      clear hb
                      go_wp2
                      all_goals
                        go_ret
                        refine ⟨ret_bool (Eq.trans ?_ HG.out.symm), HF.out⟩
                        first | rfl | (simp; done) | (simp; omega) | (rw [Bool.eq_iff_iff]; simp; omega)
                    · go_enter Tryd.func16, Tryd.ntmps16
                      go_wp2_with fail
                      refine C1.out.mono ?_
                      rintro e w1 ⟨rfl, hb⟩
                      have HF := Lib.hid (HB.out.1.trans (hb.mono (by simp)))
                      have r1 := (hb.cell (p := ⟨w.heap.size, 1, none⟩) (by simp)).trans (show _ = some (.int .i64 node) by simp)
                      have r2 := (hb.cell (p := ⟨w.heap.size, 2, none⟩) (by simp)).trans (show _ = some (.int .i64 n) by simp)
                      have r3 := (hb.cell (p := ⟨w.heap.size, 3, none⟩) (by simp)).trans (show _ = some (.int .i64 fk) by simp)
                      have r4 := (hb.cell (p := ⟨w.heap.size, 4, none⟩) (by simp)).trans (show _ = some (.int .i64 fd) by simp)
                      have r5 := (hb.cell (p := ⟨w.heap.size, 5, none⟩) (by simp)).trans (show _ = some (.int .i64 fa) by simp)
                      have r6 := (hb.cell (p := ⟨w.heap.size, 6, none⟩) (by simp)).trans (show _ = some (.int .u32 (fp : Int)) by simp)
                      have r7 := (hb.cell (p := ⟨w.heap.size, 7, none⟩) (by simp)).trans (show _ = some (.int .u32 (fb : Int)) by simp)
                      have r8 := (hb.cell (p := ⟨w.heap.size, 8, none⟩) (by simp)).trans (show _ = some (.slice A len c) by simp)
                      clear hb
                      go_wp2
                      all_goals
                        go_ret
                        refine ⟨ret_bool (Eq.trans ?_ HG.out.symm), HF.out⟩
                        first | rfl | (simp; done) | (simp; omega) | (rw [Bool.eq_iff_iff]; simp; omega)
                  · go_enter Tryd.func16, Tryd.ntmps16
                    go_wp2_with fail
                    refine C1.out.mono ?_
                    rintro e w1 ⟨rfl, hb⟩
                    have HF := Lib.hid (HB.out.1.trans (hb.mono (by simp)))
                    have r1 := (hb.cell (p := ⟨w.heap.size, 1, none⟩) (by simp)).trans (show _ = some (.int .i64 node) by simp)
                    have r2 := (hb.cell (p := ⟨w.heap.size, 2, none⟩) (by simp)).trans (show _ = some (.int .i64 n) by simp)
                    have r3 := (hb.cell (p := ⟨w.heap.size, 3, none⟩) (by simp)).trans (show _ = some (.int .i64 fk) by simp)
                    have r4 := (hb.cell (p := ⟨w.heap.size, 4, none⟩) (by simp)).trans (show _ = some (.int .i64 fd) by simp)
                    have r5 := (hb.cell (p := ⟨w.heap.size, 5, none⟩) (by simp)).trans (show _ = some (.int .i64 fa) by simp)
                    have r6 := (hb.cell (p := ⟨w.heap.size, 6, none⟩) (by simp)).trans (show _ = some (.int .u32 (fp : Int)) by simp)
                    have r7 := (hb.cell (p := ⟨w.heap.size, 7, none⟩) (by simp)).trans (show _ = some (.int .u32 (fb : Int)) by simp)
                    have r8 := (hb.cell (p := ⟨w.heap.size, 8, none⟩) (by simp)).trans (show _ = some (.slice A len c) by simp)
                    clear hb
                    go_wp2
                    all_goals
                      go_ret
                      refine ⟨ret_bool (Eq.trans ?_ HG.out.symm), HF.out⟩
                      first | rfl | (simp; done) | (simp; omega) | (rw [Bool.eq_iff_iff]; simp; omega)
              · by_cases h10 : k = 6
                · subst h10
                  obtain ⟨v, hv⟩ : ∃ v, acB ⟨6, node, n, ⟨fk, fd, fa, fp, fb⟩, b⟩ ⟨6, node, 0, Fa0, b⟩ = v := ⟨_, rfl⟩
                  have C1 := refSameV _ _ A A len len c c v hv _ HB.out.2.1 HB.out.2.2 HB.out.2.1 HB.out.2.2
                  have HG : Hid (goodA ⟨6, node, n, ⟨fk, fd, fa, fp, fb⟩, b⟩ = (v && decide (b.length < 1025))) := by unfold Hid goodA; dsimp only; rw [if_neg (by decide), if_neg (by decide), if_neg hr, if_neg (by decide), if_pos rfl, hv]
                  unfold Ac.cells Fa0 at C1
                  have C1 := Lib.hid C1
                  unfold Ac.cells
                  clear hv
                  rw [HB.out.2.2] at HG
                  clear h1 h3 hr h2
                  rcases v with _ | _
                  · go_enter Tryd.func16, Tryd.ntmps16
                    go_wp2_with fail
                    refine C1.out.mono ?_
                    rintro e w1 ⟨rfl, hb⟩
                    have HF := Lib.hid (HB.out.1.trans (hb.mono (by simp)))
                    have r1 := (hb.cell (p := ⟨w.heap.size, 1, none⟩) (by simp)).trans (show _ = some (.int .i64 node) by simp)
                    have r2 := (hb.cell (p := ⟨w.heap.size, 2, none⟩) (by simp)).trans (show _ = some (.int .i64 n) by simp)
                    have r3 := (hb.cell (p := ⟨w.heap.size, 3, none⟩) (by simp)).trans (show _ = some (.int .i64 fk) by simp)
                    have r4 := (hb.cell (p := ⟨w.heap.size, 4, none⟩) (by simp)).trans (show _ = some (.int .i64 fd) by simp)
                    have r5 := (hb.cell (p := ⟨w.heap.size, 5, none⟩) (by simp)).trans (show _ = some (.int .i64 fa) by simp)
                    have r6 := (hb.cell (p := ⟨w.heap.size, 6, none⟩) (by simp)).trans (show _ = some (.int .u32 (fp : Int)) by simp)
                    have r7 := (hb.cell (p := ⟨w.heap.size, 7, none⟩) (by simp)).trans (show _ = some (.int .u32 (fb : Int)) by simp)
                    have r8 := (hb.cell (p := ⟨w.heap.size, 8, none⟩) (by simp)).trans (show _ = some (.slice A len c) by simp)
                    clear hb
                    go_wp2
                    all_goals
                      go_ret
                      refine ⟨ret_bool (Eq.trans ?_ HG.out.symm), HF.out⟩
                      first | rfl | (simp; done) | (simp; omega) | (rw [Bool.eq_iff_iff]; simp; omega)
                  · by_cases h8 : len < 1025
                    · go_enter Tryd.func16, Tryd.ntmps16
                      go_wp2_with fail
                      refine C1.out.mono ?_
                      rintro e w1 ⟨rfl, hb⟩
                      have HF := Lib.hid (HB.out.1.trans (hb.mono (by simp)))
                      have r1 := (hb.cell (p := ⟨w.heap.size, 1, none⟩) (by simp)).trans (show _ = some (.int .i64 node) by simp)
                      have r2 := (hb.cell (p := ⟨w.heap.size, 2, none⟩) (by simp)).trans (show _ = some (.int .i64 n) by simp)
                      have r3 := (hb.cell (p := ⟨w.heap.size, 3, none⟩) (by simp)).trans (show _ = some (.int .i64 fk) by simp)
                      have r4 := (hb.cell (p := ⟨w.heap.size, 4, none⟩) (by simp)).trans (show _ = some (.int .i64 fd) by simp)
                      have r5 := (hb.cell (p := ⟨w.heap.size, 5, none⟩) (by simp)).trans (show _ = some (.int .i64 fa) by simp)
                      have r6 := (hb.cell (p := ⟨w.heap.size, 6, none⟩) (by simp)).trans (show _ = some (.int .u32 (fp : Int)) by simp)
                      have r7 := (hb.cell (p := ⟨w.heap.size, 7, none⟩) (by simp)).trans (show _ = some (.int .u32 (fb : Int)) by simp)
                      have r8 := (hb.cell (p := ⟨w.heap.size, 8, none⟩) (by simp)).trans (show _ = some (.slice A len c) by simp)
                      clear hb
                      go_wp2
                      all_goals
                        go_ret
                        refine ⟨ret_bool (Eq.trans ?_ HG.out.symm), HF.out⟩
                        first | rfl | (simp; done) | (simp; omega) | (rw [Bool.eq_iff_iff]; simp; omega)
                    · go_enter Tryd.func16, Tryd.ntmps16
                      go_wp2_with fail
                      refine C1.out.mono ?_
                      rintro e w1 ⟨rfl, hb⟩
                      have HF := Lib.hid (HB.out.1.trans (hb.mono (by simp)))
                      have r1 := (hb.cell (p := ⟨w.heap.size, 1, none⟩) (by simp)).trans (show _ = some (.int .i64 node) by simp)
                      have r2 := (hb.cell (p := ⟨w.heap.size, 2, none⟩) (by simp)).trans (show _ = some (.int .i64 n) by simp)
                      have r3 := (hb.cell (p := ⟨w.heap.size, 3, none⟩) (by simp)).trans (show _ = some (.int .i64 fk) by simp)
                      have r4 := (hb.cell (p := ⟨w.heap.size, 4, none⟩) (by simp)).trans (show _ = some (.int .i64 fd) by simp)
                      have r5 := (hb.cell (p := ⟨w.heap.size, 5, none⟩) (by simp)).trans (show _ = some (.int .i64 fa) by simp)
                      have r6 := (hb.cell (p := ⟨w.heap.size, 6, none⟩) (by simp)).trans (show _ = some (.int .u32 (fp : Int)) by simp)
                      have r7 := (hb.cell (p := ⟨w.heap.size, 7, none⟩) (by simp)).trans (show _ = some (.int .u32 (fb : Int)) by simp)
                      have r8 := (hb.cell (p := ⟨w.heap.size, 8, none⟩) (by simp)).trans (show _ = some (.slice A len c) by simp)
                      clear hb
                      go_wp2
                      all_goals
                        go_ret
                        refine ⟨ret_bool (Eq.trans ?_ HG.out.symm), HF.out⟩
                        first | rfl | (simp; done) | (simp; omega) | (rw [Bool.eq_iff_iff]; simp; omega)
                · have q1 : (k == 1) = false := by simpa using h1
                  have q3 : (k == 3) = false := by simpa using h3
                  have q2 : (k == 2) = false := by simpa using h2
                  have q6 : (k == 6) = false := by simpa using h10
                  obtain ⟨v, hv⟩ : ∃ v, acB ⟨k, node, n, ⟨fk, fd, fa, fp, fb⟩, b⟩ ⟨k, node, 0, Fa0, []⟩ = v := ⟨_, rfl⟩
                  have C1 := refSameV _ _ A none len 0 c 0 v hv _ HB.out.2.1 HB.out.2.2 (U8At.nil _ _) rfl
                  have HG : Hid (goodA ⟨k, node, n, ⟨fk, fd, fa, fp, fb⟩, b⟩ = v) := by unfold Hid goodA; dsimp only; rw [if_neg h1, if_neg h3, if_neg hr, if_neg h2, if_neg h10, hv]
                  unfold Ac.cells Fa0 at C1
                  have C1 := Lib.hid C1
                  unfold Ac.cells
                  clear hv
                  clear h1 h3 hr h2 h10
                  go_enter Tryd.func16, Tryd.ntmps16
                  go_wp2_with fail
                  refine C1.out.mono ?_
                  rintro e w1 ⟨rfl, hb⟩
                  have HF := Lib.hid (HB.out.1.trans (hb.mono (by simp)))
                  have r1 := (hb.cell (p := ⟨w.heap.size, 1, none⟩) (by simp)).trans (show _ = some (.int .i64 node) by simp)
                  have r2 := (hb.cell (p := ⟨w.heap.size, 2, none⟩) (by simp)).trans (show _ = some (.int .i64 n) by simp)
                  have r3 := (hb.cell (p := ⟨w.heap.size, 3, none⟩) (by simp)).trans (show _ = some (.int .i64 fk) by simp)
                  have r4 := (hb.cell (p := ⟨w.heap.size, 4, none⟩) (by simp)).trans (show _ = some (.int .i64 fd) by simp)
                  have r5 := (hb.cell (p := ⟨w.heap.size, 5, none⟩) (by simp)).trans (show _ = some (.int .i64 fa) by simp)
                  have r6 := (hb.cell (p := ⟨w.heap.size, 6, none⟩) (by simp)).trans (show _ = some (.int .u32 (fp : Int)) by simp)
                  have r7 := (hb.cell (p := ⟨w.heap.size, 7, none⟩) (by simp)).trans (show _ = some (.int .u32 (fb : Int)) by simp)
                  have r8 := (hb.cell (p := ⟨w.heap.size, 8, none⟩) (by simp)).trans (show _ = some (.slice A len c) by simp)
                  clear hb
                  go_wp2
                  all_goals
                    go_ret
                    refine ⟨ret_bool (Eq.trans ?_ HG.out.symm), HF.out⟩
                    first | rfl | (simp; done) | (simp; omega) | (rw [Bool.eq_iff_iff]; simp; omega)
end Go.Proofs.YtndpdonlombodaaDoor
