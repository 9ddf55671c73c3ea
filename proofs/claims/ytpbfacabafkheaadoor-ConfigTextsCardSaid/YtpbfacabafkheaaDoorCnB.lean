/- Are two lists of links the same? The program's slices.Equal. -/
import Derived.Test.YtpbfacabafkheaaDoorCnA
import Derived.Test.YtpbfacabafkheaaDoorBase
namespace Go.Proofs.YtpbfacabafkheaaDoor
open Go.RowKit Law Go.Shelf
set_option linter.unusedVariables false
set_option linter.unusedSimpArgs false
set_option maxRecDepth 100000
attribute [local go_sem] Oper.semAt_some

theorem take_same {L M : List Pr} {k : Nat} (h : L.take k = M.take k) (h1 : k < L.length) (h2 : k < M.length) (he : L[k] = M[k]) : L.take (k + 1) = M.take (k + 1) := by
  rw [List.take_succ_eq_append_getElem h1, List.take_succ_eq_append_getElem h2, h, he]
set_option maxHeartbeats 3200000 in
theorem linksEqual {n m : Nat} (A B : Option Addr) (c d : Nat) (L M : List Pr) (hL : L.length = n) (hM : M.length = m) (hn : n ≤ 4000000000) (hm : m ≤ 4000000000) (w : World) (hA : LinksAt w A L) (hB : LinksAt w B M) :
    Calls Tryd.prog 51 #[.slice A n c, .slice B m d] w fun e w' => e = .returned (.bool (decide (L = M))) ∧ Below w.heap.size w w' := by
  have HA := Lib.hid hA
  have HB := Lib.hid hB
  have HL := Lib.hid hL
  have HM := Lib.hid hM
  clear hA hB
  by_cases hnm : n = m
  rotate_left
  · have HV : Hid (decide (L = M) = false) := by
      unfold Hid; rw [decide_eq_false_iff_not]; intro e; rw [e] at hL; omega
    clear hL hM
    go_enter Tryd.func51, Tryd.ntmps51
    go_wp2
    go_ret
    exact ⟨ret_bool HV.out.symm, Below.refl _ _⟩
  subst hnm
  clear hL hM
  go_enter Tryd.func51, Tryd.ntmps51
  go_wp2
  go_loopw [13] (fun i wr => ∃ k : Nat, k ≤ n ∧ i = .int .i64 k ∧ L.take k = M.take k ∧ Below w.heap.size w wr) (fun i _ => n - (intOf i).toNat)
  case atStart => exact ⟨0, Nat.zero_le _, rfl, rfl, Below.refl _ _⟩
  case round =>
    obtain ⟨k, hk, rfl, hsame, hb⟩ := hrel
    obtain ⟨W1, rfl⟩ : ∃ W1, W1 = wr := ⟨_, rfl⟩
    by_cases hlt : k < n
    · have h1 : k < L.length := by rw [HL.out]; exact hlt
      have h2 : k < M.length := by rw [HM.out]; exact hlt
      obtain ⟨b1, o1, rfl, c0, c1⟩ := HA.out.at_ hb h1
      obtain ⟨b2, o2, rfl, d0, d1⟩ := HB.out.at_ hb h2
      have HT := Lib.hid (fun he => take_same hsame h1 h2 he)
      have HNE := Lib.hid (fun (he : L[k] ≠ M[k]) => show decide (L = M) = false from by
        rw [decide_eq_false_iff_not]; intro e; subst e; exact he rfl)
      have HBE := Lib.hid hb
      generalize L[k] = p at *
      generalize M[k] = q at *
      obtain ⟨p1, p2⟩ := p
      obtain ⟨q1, q2⟩ := q
      simp only at c0 c1 d0 d1
      have e0 := fun U : Later W1 => Later.cell c0 U
      have e1 := fun U : Later W1 => Later.cell c1 U
      have g0 := fun U : Later W1 => Later.cell d0 U
      have g1 := fun U : Later W1 => Later.cell d1 U
      clear hsame hb c0 c1 d0 d1
      by_cases hpq : ((p1, p2) : Pr) = (q1, q2)
      · have HT1 := Lib.hid (HT.out hpq)
        obtain ⟨rfl, rfl⟩ : p1 = q1 ∧ p2 = q2 := by simpa using hpq
        clear hpq HT HNE
        have hE : ∀ W : World, (Op.equalIn 10000 60 (.agg #[.int .i64 p1, .int .i64 p2]) (.agg #[.int .i64 p1, .int .i64 p2])).run Tryd.prog W = .ok true W := fun W => by rw [pr_eq]; simp
        go_wp2
        refine wp_region_later (by kernel_rfl) (by kernel_rfl) ?_
        repeat (go_big_quiet_step (fail))
        refine wpQuiet_nil ?_
        rintro W4 ⟨⟨W4_, hb4⟩, rfl⟩
        try dsimp only
        have HB4 := Lib.hid (HBE.out.trans (hb4.mono HBE.out.size))
        clear hb4 e0 e1 g0 g1
        go_wp2
        go_roundw
        case rel => exact ⟨k + 1, by omega, by go_num, HT1.out, HB4.out⟩
        case measure => simp [intOf]; omega
      · have HV := Lib.hid (HNE.out hpq)
        have hpq' : ¬ (p1 = q1 ∧ p2 = q2) := by simpa using hpq
        have hE : ∀ W : World, (Op.equalIn 10000 60 (.agg #[.int .i64 p1, .int .i64 p2]) (.agg #[.int .i64 q1, .int .i64 q2])).run Tryd.prog W = .ok false W := fun W => by
          rw [pr_eq]
          have : (p1 == q1 && p2 == q2) = false := by
            rw [Bool.eq_false_iff]; intro h; simp only [Bool.and_eq_true, beq_iff_eq] at h; exact hpq' h
          rw [this]
        clear hpq hpq' HT HNE
        go_wp2
        refine wp_region_later (by kernel_rfl) (by kernel_rfl) ?_
        repeat (go_big_quiet_step (fail))
        refine wpQuiet_nil ?_
        rintro W4 ⟨⟨W4_, hb4⟩, rfl⟩
        try dsimp only
        have HB4 := Lib.hid (HBE.out.trans (hb4.mono HBE.out.size))
        clear hb4 e0 e1 g0 g1
        go_wp2
        all_goals
          go_ret
          exact ⟨ret_bool HV.out.symm, HB4.out⟩
    · obtain rfl : k = n := by omega
      have HV : Hid (decide (L = M) = true) := by
        unfold Hid; rw [decide_eq_true_eq, ← List.take_length (l := L), ← List.take_length (l := M), HL.out, HM.out]; exact hsame
      have HBE := Lib.hid hb
      clear hsame hb
      go_wp2
      go_ret
      exact ⟨ret_bool HV.out.symm, HBE.out⟩
end Go.Proofs.YtpbfacabafkheaaDoor
