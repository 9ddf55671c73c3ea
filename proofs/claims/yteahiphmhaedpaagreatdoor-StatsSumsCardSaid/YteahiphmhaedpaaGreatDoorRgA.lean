/- The reference's graph: a list of links. -/
import Derived.Test.YteahiphmhaedpaaGreatDoorGrB
import Derived.Test.YteahiphmhaedpaaGreatDoorBase
namespace Go.Proofs.YteahiphmhaedpaaGreatDoor
open Go.RowKit Law
set_option linter.unusedVariables false
set_option linter.unusedSimpArgs false
set_option maxRecDepth 100000

theorem rNode (n : Nat) (A : Option Addr) (l k : Nat) (i : Int) (w : World) : Calls Tryz.prog 121 #[.agg #[.int .i64 (n : Int), .slice A l k], .int .i64 i] w fun e w' => e = .returned (.bool (nodeB n i)) ∧ Below w.heap.size w w' := by
  have HG : Hid (nodeB n i = (decide (0 ≤ i) && decide (i < (n : Int)))) := rfl
  have HB := Lib.hid ((Below.refl w.heap.size w).alloc (Nat.le_refl _) (.cells #[.int .i64 (n : Int), .slice A l k] 118))
  go_enter Tryz.func121, Tryz.ntmps121
  go_wp2
  all_goals
    go_ret
    refine ⟨ret_bool ?_, HB.out⟩
    rw [HG.out]
    first | (simp [*]; done) | (simp [*]; omega)
def adjS (p : Pr) (a b : Int) : Bool := (p.1 == a && p.2 == b) || (p.1 == b && p.2 == a)
theorem adjB_take {L : List Pr} {k : Nat} (hk : k < L.length) (a b : Int) : adjB (L.take (k + 1)) a b = (adjB (L.take k) a b || adjS L[k] a b) := by
  rw [List.take_succ_eq_append_getElem hk, adjB_snoc]; rfl
theorem adjB_hit {L : List Pr} {k : Nat} (hk : k < L.length) {a b : Int} (h : adjS L[k] a b = true) : adjB L a b = true := by
  unfold adjB
  rw [List.any_eq_true]
  exact ⟨L[k], List.getElem_mem hk, h⟩
set_option maxHeartbeats 1600000 in
theorem rLinked (n : Int) (A : Option Addr) (l c : Nat) (L : List Pr) (hl : L.length = l) (hm : l ≤ 140737488355328) (a b : Int) (w : World) (hA : LinksAt w A L) :
    Calls Tryz.prog 122 #[.agg #[.int .i64 n, .slice A l c], .int .i64 a, .int .i64 b] w fun e w' => e = .returned (.bool (adjB L a b)) ∧ Below w.heap.size w w' := by
  have HN := Lib.hid hl
  clear hl
  have hb0 := (Below.refl w.heap.size w).alloc (Nat.le_refl _) (.cells #[.int .i64 n, .slice A l c] 118)
  have HA := Lib.hid (hA.below hb0)
  have HB := Lib.hid hb0
  clear hb0
  go_enter Tryz.func122, Tryz.ntmps122
  go_wp2
  go_loop [7] (fun i => ∃ k : Nat, k ≤ l ∧ i = .int .i64 k ∧ adjB (L.take k) a b = false) (fun i => l - (intOf i).toNat)
  case atStart => exact ⟨0, Nat.zero_le _, rfl, rfl⟩
  case round =>
    obtain ⟨k, hk, rfl, hin⟩ := hrel
    by_cases hlt : k < l
    · have hlt' : k < L.length := by rw [HN.out]; exact hlt
      obtain ⟨bb, off, rfl, c0, c1⟩ := HA.out.at_ (Below.refl _ _) hlt'
      have HS := Lib.hid (adjB_take hlt' a b)
      have HH := Lib.hid (fun h => adjB_hit (a := a) (b := b) hlt' h)
      have HD : Hid (adjS L[k] a b = ((L[k].1 == a && L[k].2 == b) || (L[k].1 == b && L[k].2 == a))) := rfl
      generalize L[k] = p at *
      obtain ⟨p1, p2⟩ := p
      simp only at c0 c1 HD
      cases q : adjS (p1, p2) a b
      · have HI := Lib.hid (show adjB (L.take (k + 1)) a b = false by rw [HS.out, hin, q]; rfl)
        have hq := HD.out
        rw [q] at hq
        have h1 : (p1 == a && p2 == b) = false := by
          cases hx : (p1 == a && p2 == b)
          · rfl
          · rw [hx] at hq; cases hq
        have h2 : (p1 == b && p2 == a) = false := by
          cases hx : (p1 == b && p2 == a)
          · rfl
          · rw [hx, h1] at hq; cases hq
        clear hin HH HS hq q
        cases e1 : (p1 == a)
        · have e1' : ¬ p1 = a := beq_eq_false_iff_ne.1 e1
          cases e2 : (p1 == b)
          · have e2' : ¬ p1 = b := beq_eq_false_iff_ne.1 e2
            go_wp2
            go_round
            case rel => exact ⟨k + 1, by omega, by go_num, HI.out⟩
            case measure => simp [intOf]; omega
          · rw [e2] at h2
            have e3 : (p2 == a) = false := h2
            go_wp2
            go_round
            case rel => exact ⟨k + 1, by omega, by go_num, HI.out⟩
            case measure => simp [intOf]; omega
        · rw [e1] at h1
          have e3 : (p2 == b) = false := h1
          cases e2 : (p1 == b)
          · go_wp2
            go_round
            case rel => exact ⟨k + 1, by omega, by go_num, HI.out⟩
            case measure => simp [intOf]; omega
          · rw [e2] at h2
            have e4 : (p2 == a) = false := h2
            go_wp2
            go_round
            case rel => exact ⟨k + 1, by omega, by go_num, HI.out⟩
            case measure => simp [intOf]; omega
      · have HI := Lib.hid (HH.out q)
        have hq := HD.out
        rw [q] at hq
        clear hin HH HS q
        cases e1 : (p1 == a && p2 == b)
        · rw [e1] at hq
          have e2 : (p1 == b) = true ∧ (p2 == a) = true := by
            have : (p1 == b && p2 == a) = true := by simpa using hq.symm
            simpa using this
          obtain ⟨e2, e3⟩ := e2
          clear hq
          cases e4 : (p1 == a)
          · go_wp2
            go_ret
            exact ⟨ret_bool (by rw [HI.out]), HB.out⟩
          · rw [e4] at e1
            have e5 : (p2 == b) = false := e1
            go_wp2
            go_ret
            exact ⟨ret_bool (by rw [HI.out]), HB.out⟩
        · have e2 : (p1 == a) = true ∧ (p2 == b) = true := by simpa using e1
          obtain ⟨e2, e3⟩ := e2
          clear hq e1
          go_wp2
          go_ret
          exact ⟨ret_bool (by rw [HI.out]), HB.out⟩
    · have ht : L.take k = L := List.take_of_length_le (by rw [HN.out]; omega)
      rw [ht] at hin
      have HI := Lib.hid hin
      clear hin ht
      go_wp2
      go_ret
      exact ⟨ret_bool (by rw [HI.out]), HB.out⟩
end Go.Proofs.YteahiphmhaedpaaGreatDoor
