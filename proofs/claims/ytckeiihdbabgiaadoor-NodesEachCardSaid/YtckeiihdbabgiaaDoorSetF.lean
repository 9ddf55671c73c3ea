/- The reference's text of a set. -/
import Derived.Test.YtckeiihdbabgiaaDoorSetE
namespace Go.Proofs.YtckeiihdbabgiaaDoor
open Go.RowKit Law
set_option linter.unusedVariables false

def textK (l : List Int) (k : Nat) : List UInt8 := Lib.join ((l.take k).map Lib.itoa) [44]
theorem join_snoc (x : List UInt8) : ∀ (xs : List (List UInt8)), xs ≠ [] → Lib.join (xs ++ [x]) [44] = Lib.join xs [44] ++ ([44] ++ x)
  | [], h => absurd rfl h
  | [a], _ => by simp [Lib.join, List.intercalate]
  | a :: b :: r, _ => by
    have ih := join_snoc x (b :: r) (by simp)
    have e : ∀ ys : List (List UInt8), ys ≠ [] → Lib.join (a :: ys) [44] = a ++ ([44] ++ Lib.join ys [44]) := by
      intro ys hy
      cases ys with
      | nil => exact absurd rfl hy
      | cons y t => simp [Lib.join, List.intercalate]
    rw [List.cons_append, e _ (by simp), ih, e _ (by simp)]
    simp
theorem textK_succ {l : List Int} {k : Nat} (hk : k < l.length) (h0 : 0 < k) : textK l (k + 1) = textK l k ++ ([44] ++ Lib.itoa l[k]) := by
  unfold textK
  rw [List.take_succ_eq_append_getElem hk, List.map_append]
  refine join_snoc _ _ ?_
  intro h
  have h2 := congrArg List.length h
  rw [List.length_map, List.length_take, List.length_nil] at h2
  omega
theorem textK_one {l : List Int} (hk : 0 < l.length) : textK l 1 = Lib.itoa l[0] := by
  unfold textK
  rw [List.take_succ_eq_append_getElem hk]
  simp [Lib.join_one]
theorem dec_pos (n : Nat) : 1 ≤ (Lib.decDigits n).length := by
  rw [Lib.decDigits]
  split <;> simp
theorem itoa_dec {z : Int} (h : 0 ≤ z) : Lib.itoa z = Lib.decDigits z.toNat := by
  unfold Lib.itoa
  rw [if_neg (by omega)]
theorem itoa_pos (z : Int) : 1 ≤ (Lib.itoa z).length := by
  unfold Lib.itoa
  split
  · simp
  · exact dec_pos _
theorem textK_pos {l : List Int} {k : Nat} (hk : k ≤ l.length) (h0 : 0 < k) : 1 ≤ (textK l k).length := by
  obtain ⟨j, rfl⟩ : ∃ j, k = j + 1 := ⟨k - 1, by omega⟩
  by_cases hj : j = 0
  · subst hj
    have := itoa_pos l[0]
    rw [show 0 + 1 = 1 from rfl, textK_one (by omega)]
    exact this
  · rw [textK_succ (by omega) (by omega), List.length_append]
    have := itoa_pos l[j]
    rw [List.length_append]
    omega
theorem els_in {s : Nat} {k : Nat} (hk : k < (elsI s).length) : ∃ y : Nat, (elsI s)[k] = (y : Int) ∧ y < 64 := by
  have hm : (elsI s)[k] ∈ elsI s := List.getElem_mem hk
  unfold elsI at hm
  obtain ⟨y, hy, he⟩ := List.mem_map.1 hm
  exact ⟨y, he.symm, (mem_els.1 hy).1⟩
/-- A set's text. -/
def textS (s : Nat) : List UInt8 := if s = 0 then [45] else Lib.join ((elsI s).map Lib.itoa) [44]
set_option maxHeartbeats 1600000 in
theorem refText (s : Nat) (hs : s < 18446744073709551616) (w : World) :
    Calls Tryd.prog 32 #[.int .u64 (s : Int)] w fun e w' => e = .returned (.string ⟨(textS s).toArray⟩) ∧ Below w.heap.size w w' := by
  have hel := elsI_len s
  obtain ⟨m, hm2⟩ : ∃ m, (elsI s).length = m := ⟨_, rfl⟩
  have HM := Lib.hid hm2
  rw [hm2] at hel
  clear hm2
  go_enter Tryd.func32, Tryd.ntmps32
  go_wp2_with fail
  refine (refList s hs _).mono ?_
  rintro e w1 ⟨v, rfl, hown, hb⟩
  obtain ⟨A2, c2, rfl, hc2⟩ := own_form hown
  have hA2 := ownInts hown
  rw [HM.out] at hc2 ⊢
  clear hown
  go_wp2
  go_loop [3, 5] (fun t i => ∃ (k : Nat) (T : List UInt8), k ≤ m ∧ i = .int .i64 k ∧ t = .string ⟨T.toArray⟩ ∧ T = textK (elsI s) k ∧ (T.length : Int) ≤ 30 * k) (fun _ i => m - (intOf i).toNat)
  case atStart => exact ⟨0, [], Nat.zero_le _, rfl, rfl, rfl, by simp⟩
  case round =>
    obtain ⟨k, T, hk, rfl, rfl, hT, hTl⟩ := hrel
    have HT := Lib.hid hT
    clear hT
    by_cases hlt : k < m
    · have hlt' : k < (elsI s).length := by rw [HM.out]; exact hlt
      obtain ⟨b, off, rfl, c0⟩ := hA2.at_ (Below.refl _ _) hlt'
      obtain ⟨y, hy, hy1⟩ := els_in hlt'
      have HI : Hid (Lib.itoa (elsI s)[k] = Lib.decDigits (y : Int).toNat) := by unfold Hid; rw [hy]; exact itoa_dec (by omega)
      rw [hy] at c0
      have HY := Lib.hid hy
      clear hy
      have hdl := dec_len (n := (y : Int)) (by omega)
      have HC := Lib.hid (digits03 (y : Int) (by omega) (by omega))
      obtain ⟨D, hD⟩ : ∃ D, Lib.decDigits (y : Int).toNat = D := ⟨_, rfl⟩
      rw [hD] at hdl HI HC
      clear hD
      by_cases h0 : 0 < k
      · have HS := Lib.hid ((textK_succ hlt' h0).trans (by rw [HI.out, ← HT.out]))
        have hd : decide (0 < k) = true := by simpa using h0
        go_wp2_with fail
        refine (HC.out _).mono ?_
        rintro e w' ⟨rfl, rfl⟩
        go_wp2
        go_round
        case rel => exact ⟨k + 1, T ++ ([44] ++ D), by omega, by go_num, congrArg Value.string ((congrArg (· ++ (⟨D.toArray⟩ : ByteArray)) (str_app T [44])).trans ((str_app _ D).trans (by rw [List.append_assoc]))), HS.out.symm, by simp only [List.length_append, List.length_cons, List.length_nil]; omega⟩
        case measure => simp [intOf]; omega
      · obtain rfl : k = 0 := by omega
        have HS := Lib.hid ((textK_one (by omega)).trans HI.out)
        rw [Nat.add_zero] at c0
        have HT0 : Hid (T = []) := HT.out
        go_wp2_with fail
        refine (HC.out _).mono ?_
        rintro e w' ⟨rfl, rfl⟩
        go_wp2
        go_round
        case rel => exact ⟨1, D, by omega, rfl, by rw [HT0.out]; exact congrArg Value.string (str_app [] D), HS.out.symm, by omega⟩
        case measure => simp [intOf]; omega
    · obtain rfl : k = m := by omega
      have HA : Hid (textK (elsI s) k = Lib.join ((elsI s).map Lib.itoa) [44]) := by
        unfold Hid textK
        rw [List.take_of_length_le (by rw [HM.out]; omega)]
      by_cases hs0 : s = 0
      · have HE : Hid (T = []) := by
          unfold Hid
          rw [HT.out, HA.out, hs0]
          simp [elsI, els_zero, Lib.join_nil]
        have HW : Hid (textS s = [45]) := by unfold Hid textS; rw [if_pos hs0]
        obtain rfl := HE.out
        clear hs0
        go_wp2
        go_ret
        exact ⟨ret_str (by rw [HW.out]), hb⟩
      · have hT1 : 1 ≤ T.length := by
          rw [HT.out]
          refine textK_pos (by rw [HM.out]; omega) ?_
          have h1 : (elsI s).length = k := HM.out
          unfold elsI at h1
          rw [List.length_map, els_cons hs0 hs, List.length_cons] at h1
          omega
        have HW : Hid (textS s = T) := by unfold Hid textS; rw [if_neg hs0, HT.out, HA.out]
        cases T with
        | nil => simp at hT1
        | cons t0 T1 =>
          clear hs0
          go_wp2
          go_ret
          exact ⟨ret_str (by rw [HW.out]), hb⟩
end Go.Proofs.YtckeiihdbabgiaaDoor
