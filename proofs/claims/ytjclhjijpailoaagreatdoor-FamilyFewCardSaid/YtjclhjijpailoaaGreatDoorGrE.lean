/- reach: what is reached from a node; is a graph whole without some nodes? -/
import Derived.Test.YtjclhjijpailoaaGreatDoorGrD
namespace Go.Proofs.YtjclhjijpailoaaGreatDoor
open Go.RowKit Law Go.Shelf
set_option linter.unusedVariables false
set_option linter.unusedSimpArgs false
set_option maxRecDepth 100000

theorem unionL_take (l : List Nat) {k : Nat} (hk : k < l.length) : unionL (l.take (k + 1)) = unionL (l.take k) ||| l[k] := by
  rw [List.take_succ_eq_append_getElem hk, unionL_snoc]
theorem ringsN_lt {near : Nat → Nat} {off n : Nat} (hn : ∀ j, near j < 2 ^ n) : ∀ (f all ring : Nat), ring < 2 ^ n → ∀ x ∈ ringsN near off f all ring, x < 2 ^ n
  | 0, _, _, _, x, hx => by simp [ringsN] at hx
  | f + 1, all, ring, hr, x, hx => by
    by_cases h : ring = 0
    · subst h; rw [ringsN_zero] at hx; simp at hx
    · rw [ringsN_step h] at hx
      rcases List.mem_cons.1 hx with rfl | hx
      · exact hr
      · exact ringsN_lt hn f _ _ (Nat.xor_lt_two_pow (grow_pow hn hr) (Nat.lt_of_le_of_lt Nat.and_le_left (grow_pow hn hr))) x hx
theorem startN_lt (n i off : Nat) (hn : n ≤ 64) : startN n i off < 2 ^ n := by
  unfold startN andNot
  have ha : allN (n : Int) ≤ 2 ^ n - 1 := by
    unfold allN
    split
    · rename_i h1; rw [show n = 64 by omega]; decide
    · split
      · omega
      · simp
  have hp := Nat.two_pow_pos n
  have h1 : 2 ^ i &&& allN (n : Int) < 2 ^ n := Nat.lt_of_le_of_lt Nat.and_le_right (by omega)
  exact Nat.xor_lt_two_pow h1 (Nat.lt_of_le_of_lt Nat.and_le_left h1)
set_option maxHeartbeats 1600000 in
theorem rBall {w : World} {G R : Nat} {near : List Nat} (i off : Nat) (hi64 : i < 64) (ho : off < 18446744073709551616) (hnp : ∀ j, nr near j < 2 ^ near.length) (h : GrAt w G R near) (hTw : T64 w) :
    Calls Tryz.prog 99 #[.pointer (some ⟨G, 0, none⟩), .int .i64 (i : Int), .int .i64 64, .int .u64 (off : Int)] w fun e w' => e = .returned (.int .u64 (fromN near.length (nr near) off i : Int)) ∧ Below w.heap.size w w' := by
  have hle := h.le
  have CR := Lib.hid (rRings i off hi64 ho hnp h hTw)
  have HL := Lib.hid (fun x hx => pow64 (ringsN_lt (off := off) hnp 65 0 _ (startN_lt near.length i off hle) x hx) hle)
  have HF : Hid (fromN near.length (nr near) off i = unionL (ringsN (nr near) off 65 0 (startN near.length i off))) := rfl
  generalize fromN near.length (nr near) off i = F at *
  obtain ⟨l, hl⟩ : ∃ l, ringsN (nr near) off 65 0 (startN near.length i off) = l := ⟨_, rfl⟩
  rw [hl] at CR HL HF
  clear hl
  go_enter Tryz.func99, Tryz.ntmps99
  go_wp2_with fail
  refine CR.out.mono ?_
  rintro e w1 ⟨hlen, v, rfl, hown, hb⟩
  obtain ⟨A, c, rfl, hcap⟩ := own_form hown
  have hat : ∀ k (hk : k < l.length), ∃ g, A = some ⟨g, 0, none⟩ ∧ w1.cell? ⟨g, k, none⟩ = some (.int .u64 (l[k] : Int)) := fun k hk => by
    obtain ⟨g, cap, hv⟩ := Joins.ownsRow_form hown (by omega)
    obtain rfl : A = some ⟨g, 0, none⟩ := by injection hv
    refine ⟨g, rfl, ?_⟩
    have := hown.cells (g := g) rfl k (.int .u64 (l[k] : Int)) (by rw [List.getElem?_map, List.getElem?_eq_getElem hk]; rfl)
    rwa [Lib.add_plain, Nat.zero_add] at this
  obtain ⟨n, hn⟩ : ∃ n, l.length = n := ⟨_, rfl⟩
  have HN := Lib.hid hn
  rw [hn] at hlen hcap ⊢
  have HAT := Lib.hid hat
  have HB := Lib.hid hb
  clear hown hat hb hn
  go_wp2
  go_loop [9, 17] (fun s i => ∃ k : Nat, k ≤ n ∧ i = .int .i64 k ∧ s = .int .u64 (unionL (l.take k) : Int)) (fun _ i => n - (intOf i).toNat)
  case atStart => exact ⟨0, Nat.zero_le _, rfl, rfl⟩
  case round =>
    obtain ⟨k, hk, rfl, rfl⟩ := hrel
    by_cases hlt : k < n
    · have hlt' : k < l.length := by rw [HN.out]; exact hlt
      obtain ⟨g, rfl, c0⟩ := HAT.out k hlt'
      have HS := Lib.hid (unionL_take l hlt')
      have h1 := HL.out _ (List.getElem_mem hlt')
      have h2 := unionL_lt (l.take k) (fun x hx => HL.out _ (List.mem_of_mem_take hx))
      have hor := bits_or_u64_nat _ _ h2 h1
      generalize unionL (l.take k) = X at *
      generalize l[k] = y at *
      go_wp2
      go_round
      case rel => exact ⟨k + 1, by omega, by go_num, by rw [HS.out]⟩
      case measure => simp [intOf]; omega
    · have HT : Hid (l.take k = l) := List.take_of_length_le (by rw [HN.out]; omega)
      rw [HT.out]
      go_wp2
      go_ret
      exact ⟨ret_int (by rw [HF.out]), HB.out⟩
theorem rFrom {w : World} {G R : Nat} {near : List Nat} (i off : Nat) (hi64 : i < 64) (ho : off < 18446744073709551616) (hnp : ∀ j, nr near j < 2 ^ near.length) (h : GrAt w G R near) (hTw : T64 w) :
    Calls Tryz.prog 94 #[.pointer (some ⟨G, 0, none⟩), .int .i64 (i : Int), .int .u64 (off : Int)] w fun e w' => e = .returned (.int .u64 (fromN near.length (nr near) off i : Int)) ∧ Below w.heap.size w w' := by
  have C := Lib.hid (rBall i off hi64 ho hnp h hTw)
  generalize fromN near.length (nr near) off i = F at *
  go_enter Tryz.func94, Tryz.ntmps94
  go_wp2_with fail
  refine C.out.mono ?_
  rintro e w1 ⟨rfl, hb⟩
  go_wp2
  go_ret
  exact ⟨rfl, hb⟩
theorem thereN_lt (n off : Nat) : thereN n off < 18446744073709551616 := andNot_lt64 (allN_lt _)
theorem rWhole {w : World} {G R : Nat} {near : List Nat} (off : Nat) (ho : off < 18446744073709551616) (hnp : ∀ j, nr near j < 2 ^ near.length) (h : GrAt w G R near) (hTw : T64 w) :
    Calls Tryz.prog 84 #[.pointer (some ⟨G, 0, none⟩), .int .u64 (off : Int)] w fun e w' => e = .returned (.bool (wholeB near.length (nr near) off)) ∧ Below w.heap.size w w' := by
  have hle := h.le
  have hal := allN_lt (near.length : Int)
  have hba := bits_andNot_u64_nat (allN (near.length : Int)) off hal ho
  have CN := Lib.hid (grN h)
  have CA := Lib.hid (fun W => nodesAll (near.length : Int) (by omega) (by omega) W)
  have HT : Hid (thereN near.length off = allN (near.length : Int) ^^^ (allN (near.length : Int) &&& off)) := rfl
  by_cases h0 : thereN near.length off = 0
  · have HW : Hid (wholeB near.length (nr near) off = false) := by unfold Hid wholeB; rw [decide_eq_false (by simp [h0])]; rfl
    rw [← HT.out, h0] at hba
    generalize allN (near.length : Int) = al at *
    go_enter Tryz.func84, Tryz.ntmps84
    go_wp2_with fail
    refine CN.out.mono ?_
    rintro e w1 ⟨rfl, rfl⟩
    go_wp2_with fail
    refine (CA.out _).mono ?_
    rintro e w1 ⟨rfl, rfl⟩
    go_wp2
    go_ret
    exact ⟨ret_bool (by rw [HW.out]), Below.refl _ _⟩
  · have hTl := thereN_lt near.length off
    have hl64 : low (thereN near.length off) < 64 := by obtain ⟨_, _, hx⟩ := low_spec h0 hTl; exact hx
    have CF := Lib.hid (rFrom (low (thereN near.length off)) off hl64 ho hnp h hTw)
    have CL := Lib.hid (nodesLeast (thereN near.length off) h0 hTl w hTw)
    have HW : Hid (wholeB near.length (nr near) off = (fromN near.length (nr near) off (low (thereN near.length off)) == thereN near.length off)) := by unfold Hid wholeB; rw [decide_eq_true h0]; rfl
    have hne : ((thereN near.length off : Int) != 0) = true := by simp; omega
    rw [← HT.out] at hba
    generalize thereN near.length off = th at *
    generalize fromN near.length (nr near) off (low th) = fr at *
    generalize low th = lo at *
    generalize allN (near.length : Int) = al at *
    clear h0
    go_enter Tryz.func84, Tryz.ntmps84
    go_wp2_with fail
    refine CN.out.mono ?_
    rintro e w1 ⟨rfl, rfl⟩
    go_wp2_with fail
    refine (CA.out _).mono ?_
    rintro e w1 ⟨rfl, rfl⟩
    go_wp2_with fail
    refine CL.out.mono ?_
    rintro e w1 ⟨rfl, rfl⟩
    go_wp2_with fail
    refine CF.out.mono ?_
    rintro e w1 ⟨rfl, hb⟩
    go_wp2
    go_ret
    exact ⟨ret_bool (by rw [HW.out]; rw [Bool.eq_iff_iff]; simp; omega), hb⟩
theorem rCuts {w : World} {G R : Nat} {near : List Nat} (off : Nat) (ho : off < 18446744073709551616) (hnp : ∀ j, nr near j < 2 ^ near.length) (h : GrAt w G R near) (hTw : T64 w) :
    Calls Tryz.prog 71 #[.pointer (some ⟨G, 0, none⟩), .int .u64 (off : Int)] w fun e w' => e = .returned (.bool (!wholeB near.length (nr near) off)) ∧ Below w.heap.size w w' := by
  have C := Lib.hid (rWhole off ho hnp h hTw)
  generalize wholeB near.length (nr near) off = F at *
  go_enter Tryz.func71, Tryz.ntmps71
  go_wp2_with fail
  refine C.out.mono ?_
  rintro e w1 ⟨rfl, hb⟩
  go_wp2
  go_ret
  exact ⟨rfl, hb⟩
end Go.Proofs.YtjclhjijpailoaaGreatDoor
