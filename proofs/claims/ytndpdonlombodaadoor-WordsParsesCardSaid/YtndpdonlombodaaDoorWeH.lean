/- The reference's bytes. -/
import Derived.Test.YtndpdonlombodaaDoorWeC
import Derived.BigQuiet
import Derived.Deep.AppendLies
import Derived.Deep.RegionHeld3
import Derived.Deep.DrawnRows
namespace Go.Proofs.YtndpdonlombodaaDoor
open Go.RowKit Law
set_option linter.unusedVariables false
set_option linter.unusedSimpArgs false

theorem hexP_odd : ∀ (k : Nat) (p : List UInt8) (a : UInt8), p.length = 2 * k → hexP (p ++ [a]) = hexP p
  | 0, p, a, h => by
    obtain rfl : p = [] := List.eq_nil_of_length_eq_zero (by omega)
    rfl
  | k + 1, x :: y :: r, a, h => by
    have ih := hexP_odd k r a (by simp at h; omega)
    show hexP (x :: y :: (r ++ [a])) = hexP (x :: y :: r)
    unfold hexP
    rw [ih]
theorem digC (x : UInt8) (W : World) : Calls Tryd.prog 58 #[.int .u8 (x.toNat : Int)] W fun e w' => e = .returned (.int .i64 (digV x)) ∧ w' = W :=
  (refDigit x _ rfl W).mono fun e w' h => ⟨h.1, h.2.symm⟩
set_option maxHeartbeats 6400000 in
set_option maxRecDepth 100000 in
theorem refBytes (s : ByteArray) (hs : s.size ≤ 1048576) (w : World) : Calls Tryd.prog 43 #[.string s] w (BodyPost (hexL s.data.toList) w) := by
  obtain ⟨i0, hi, hz0, hz1, hz2⟩ := info_parts u8Info
  have HL : Hid (s.data.toList.length = s.size) := by unfold Hid; rw [Lib.size_eq]
  have hown0 : (w.alloc (.cells #[] 5)).ownsRow w.heap.size 5 1 (.slice (some ⟨w.heap.size, 0, none⟩) 0 0) 0 (u8V []) := World.ownsRow_made (base := w.heap.size) (e := 5) (size := 1) w #[] 0 (Nat.le_refl _) (by simp [maxLen]) rfl
  have HO := Lib.hid (And.intro hown0 ((Below.refl w.heap.size w).alloc (Nat.le_refl _) (.cells #[] 5)))
  clear hown0
  go_enter Tryd.func43, Tryd.ntmps43
  go_wp2
  go_loopw [4, 5] (fun v i wr => ∃ (k j : Nat) (bs : List UInt8), j ≤ s.size ∧ Hid (j = 2 * k) ∧ i = .int .i64 j ∧ bs.length = k ∧ hexP (s.data.toList.take j) = some bs ∧ wr.ownsRow w.heap.size 5 1 v k (u8V bs) ∧ Below w.heap.size w wr) (fun _ i _ => s.size + 2 - (intOf i).toNat)
  case atStart => exact ⟨0, 0, [], Nat.zero_le _, Lib.hid rfl, rfl, rfl, rfl, HO.out.1, HO.out.2⟩
  case round =>
    obtain ⟨k, j, bs, hj, hjk, rfl, hlb, hbs, hown, hb⟩ := hrel
    obtain ⟨Av, cv, rfl, hcv⟩ := OwnOr.form (show OwnOr _ _ _ _ _ _ _ from .inl hown)
    by_cases hlt2 : j + 1 < s.size
    · have hlL : j + 1 < s.data.toList.length := by rw [HL.out]; exact hlt2
      have hlt : j < s.size := by omega
      have htl : (s.data.toList.take j).length = 2 * k := by rw [List.length_take, HL.out]; have := hjk.out; omega
      have hok := hexP_snoc k (s.data.toList.take j) bs s.data.toList[j] s.data.toList[j + 1] htl hbs
      rw [← take_two _ j hlL] at hok
      have hbad := hexP_bad k (s.data.toList.take j) s.data.toList[j] s.data.toList[j + 1] (s.data.toList.drop (j + 2)) htl
      rw [← cut_two _ j hlL] at hbad
      rw [show s.data.toList[j] = s[j] from rfl, show s.data.toList[j + 1] = s[j + 1] from rfl] at hok hbad
      have g1 : (0 : Int) ≤ (j : Int) + 1 := by omega
      have g2 : (j : Int) + 1 < (s.size : Int) := by omega
      have C1 := fun W => digC s[j] W
      have C2 := fun W => digC s[j + 1] W
      obtain ⟨a0, a1⟩ := digV_lt s[j]
      obtain ⟨b0, b1⟩ := digV_lt s[j + 1]
      obtain ⟨p, hp⟩ : ∃ p, digV s[j] = p := ⟨_, rfl⟩
      obtain ⟨q, hq⟩ : ∃ q, digV s[j + 1] = q := ⟨_, rfl⟩
      rw [hp] at a0 a1 hok hbad C1
      rw [hq] at b0 b1 hok hbad C2
      have C1 := Lib.hid C1
      have C2 := Lib.hid C2
      have HH := Lib.hid (And.intro hown (And.intro hb (And.intro hlb (And.intro hok hbad))))
      clear hown hb hbs hok hbad htl hp hq
      by_cases d1 : p < 0
      · have HN : Hid (hexL s.data.toList = none) := by
          unfold Hid hexL
          rw [HH.out.2.2.2.2 (Or.inl d1)]
          split <;> rfl
        have HB := Lib.hid HH.out.2.1
        go_wp2_with fail
        refine (C1.out _).mono ?_
        rintro e w2 ⟨rfl, hw⟩
        subst w2
        go_wp2
        go_ret2
        unfold BodyPost
        rw [HN.out]
        exact ⟨⟨_, _, _, rfl⟩, HB.out⟩
      by_cases d2 : q < 0
      · have HN : Hid (hexL s.data.toList = none) := by
          unfold Hid hexL
          rw [HH.out.2.2.2.2 (Or.inr d2)]
          split <;> rfl
        have HB := Lib.hid HH.out.2.1
        go_wp2_with fail
        refine (C1.out _).mono ?_
        rintro e w2 ⟨rfl, hw⟩
        subst w2
        go_wp2_with fail
        refine (C2.out _).mono ?_
        rintro e w2 ⟨rfl, hw⟩
        subst w2
        go_wp2
        go_ret2
        unfold BodyPost
        rw [HN.out]
        exact ⟨⟨_, _, _, rfl⟩, HB.out⟩
      obtain ⟨P, hP⟩ : ∃ P : Nat, p = (P : Int) := ⟨p.toNat, by omega⟩
      obtain ⟨Q, hQ⟩ : ∃ Q : Nat, q = (Q : Int) := ⟨q.toNat, by omega⟩
      subst hP hQ
      have HOk := Lib.hid (HH.out.2.2.2.1 (by omega))
      go_wp2_with fail
      refine (C1.out _).mono ?_
      rintro e w2 ⟨rfl, hw⟩
      subst w2
      go_wp2_with fail
      refine (C2.out _).mono ?_
      rintro e w2 ⟨rfl, hw⟩
      subst w2
      have hval : 16 * (P : Int) + (Q : Int) = ((UInt8.ofNat (16 * P + Q)).toNat : Int) := by
        rw [UInt8.toNat_ofNat']
        omega
      obtain ⟨B, hB⟩ : ∃ B, UInt8.ofNat (16 * P + Q) = B := ⟨_, rfl⟩
      rw [hB] at hval
      have HBB := Lib.hid hB
      clear hB
      have HA := Lib.hid (HH.out.1.alloc (.cells #[.int .u8 (B.toNat : Int)] 5)).drew
      have HCL : Hid (∀ (j2 : Nat) (u : Value), ([.int .u8 (B.toNat : Int)] : List Value)[j2]? = some u → (wr.alloc (.cells #[.int .u8 (B.toNat : Int)] 5)).drew.cell? ((⟨wr.heap.size, 0, none⟩ : Addr).add j2) = some u) := fun j2 u hu => by
        show (wr.alloc (.cells #[.int .u8 (B.toNat : Int)] 5)).cell? _ = _
        rw [Lib.add_plain, Nat.zero_add, World.cell?_alloc_at _ _ _ _ (by simp)]
        simpa using hu
      have HB := Lib.hid (And.intro HH.out.2.1 ((HH.out.2.1.alloc HH.out.2.1.size (.cells #[.int .u8 (B.toNat : Int)] 5)).drew))
      have hm1 : k + 1 ≤ maxLen := by unfold maxLen; have := hjk.out; omega
      have hm2 : (k + 1) * 1 ≤ 140737488355328 := by have := hjk.out; omega
      go_wp2_with fail
      have hw1 : IntKind.i64.wrap ((j : Int) + 1) = (j : Int) + 1 := IntWalk.i64_in _ (by omega)
      have hw2 : ((j : Int) + 1).toNat = j + 1 := by omega
      have hB255 := B.toNat_lt
      have s1 : IntKind.i64.wrap (16 * (P : Int)) = 16 * (P : Int) := IntWalk.i64_in _ (by omega)
      have s2 : IntKind.i64.wrap (B.toNat : Int) = (B.toNat : Int) := IntWalk.i64_in _ (by omega)
      have s3 : IntKind.u8.wrap (B.toNat : Int) = (B.toNat : Int) := IntWalk.u8_in _ (by omega)
      go_region_held3 (fun w' => True) (trivial)
        ((first
          | (go_at_call 58; first | ((with_reducible refine (C1.out _).mono ?_); rintro e w5 ⟨rfl, rfl⟩) | ((with_reducible refine (C2.out _).mono ?_); rintro e w5 ⟨rfl, rfl⟩))
          | (refine step_append_lies _ (by rfl) _ _ 27 (by rfl) w.heap.size 5 i0 (.int .u8 0) 1 1 Tryd.underlying27 hi hz0 hz1 hz2 rfl (by decide) (.slice Av k cv) k (u8V bs) (by rfl) HA.out ⟨wr.heap.size, 0, none⟩ 1 1 [.int .u8 (B.toNat : Int)] (by rfl) (by rfl) HCL.out (by intro u hu; simp at hu; subst hu; rfl) (by decide) hm1 hm2 HB.out.2.size _ rfl ?_; intro g cap w3 hown3 hgrow hat hlt3)))
      all_goals
        have hb2 : Below w.heap.size w w3 := HB.out.2.grown hgrow HB.out.2.size (fun k hk => (HA.out.lt k hk).1)
        have HN := Lib.hid (And.intro hown3 hb2)
        clear hown3 hgrow hat hlt3 hb2
        go_wp2
        go_roundw
        case rel =>
          refine ⟨k + 1, j + 2, bs ++ [B], by omega, Lib.hid (by have := hjk.out; omega), by go_num, by simp [HH.out.2.2.1], ?_, by rw [show u8V (bs ++ [B]) = u8V bs ++ [.int .u8 (B.toNat : Int)] by simp [u8V]]; exact HN.out.1, HN.out.2⟩
          rw [← HBB.out]
          simpa using HOk.out
        case measure => simp [intOf]; omega
    · have hge : ¬ ((j : Int) + 1 < (s.size : Int)) := by omega
      have HH := Lib.hid (And.intro hown (And.intro hb (And.intro hlb hbs)))
      clear hown hb hlb hbs
      by_cases he : s.size % 2 = 0
      · have hm3 : (s.size : Int) % 2 = 0 := by omega
        have hm2 : (s.size : Int).tmod 2 = 0 := by
          rw [Int.tmod_eq_emod_of_nonneg (by omega)]; omega
        have hj : j = s.size := by have := hjk.out; omega
        by_cases h0 : s.size = 0
        · have HN : Hid (hexL s.data.toList = none) := by
            unfold Hid hexL hexOk
            rw [HL.out, h0]; rfl
          have hd0 : decide ((0 : Int) < (s.size : Int)) = false := decide_eq_false (by omega)
          have hd1 : decide (0 < s.size) = false := decide_eq_false (by omega)
          go_wp2
          go_ret2
          unfold BodyPost
          rw [HN.out]
          exact ⟨⟨_, _, _, rfl⟩, HH.out.2.1⟩
        · have hd0 : decide ((0 : Int) < (s.size : Int)) = true := decide_eq_true (by omega)
          have hd1 : decide (0 < s.size) = true := decide_eq_true (by omega)
          have HN : Hid (hexL s.data.toList = some bs) := by
            unfold Hid hexL hexOk
            rw [HL.out, if_pos (by simp [he]; omega)]
            have h := HH.out.2.2.2
            rw [hj, List.take_of_length_le (by rw [HL.out]; exact Nat.le_refl _)] at h
            exact h
          go_wp2
          go_ret2
          unfold BodyPost
          rw [HN.out]
          refine ⟨Av, cv, by rw [HH.out.2.2.1]; rfl, ?_, HH.out.2.1⟩
          rw [HH.out.2.2.1]
          exact HH.out.1
      · have hm3 : (s.size : Int) % 2 = 1 := by omega
        have hm2 : (s.size : Int).tmod 2 = 1 := by
          rw [Int.tmod_eq_emod_of_nonneg (by omega)]; omega
        have HN : Hid (hexL s.data.toList = none) := by
          unfold Hid hexL hexOk
          rw [HL.out, if_neg (by simp [he])]
        go_wp2
        go_ret2
        unfold BodyPost
        rw [HN.out]
        exact ⟨⟨_, _, _, rfl⟩, HH.out.2.1⟩
end Go.Proofs.YtndpdonlombodaaDoor
