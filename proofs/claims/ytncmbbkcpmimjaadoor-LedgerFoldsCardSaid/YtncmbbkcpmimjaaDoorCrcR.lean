/- The reference's Sum, and trace.Sum. -/
import Derived.Test.YtncmbbkcpmimjaaDoorCrcW
import Derived.Lib.ConvBytes
namespace Go.Proofs.YtncmbbkcpmimjaaDoor
open Go.RowKit Law
set_option linter.unusedVariables false

theorem refStepH (c v : Nat) (hc : c < 4294967296) (w : World) : Calls Tryd.prog 62 #[.int .u32 (c : Int), .int .u32 ((v : Int) % 2)] w fun e w' => e = .returned (.int .u32 (stepR c (v % 2) : Nat)) ∧ w' = w := by
  have h := refStep c (v % 2) hc (by omega) w
  rw [show ((v % 2 : Nat) : Int) = (v : Int) % 2 by omega] at h
  exact h
set_option maxHeartbeats 1600000 in
theorem refMore {n : Nat} (z : Int) (c : Nat) (hz : z = (c : Int)) (hc : c < 4294967296) (A : Option Addr) (cap : Nat) (l : List UInt8) (hn : l.length = n) (hm : n ≤ 1000000) (w : World) (hA : U8At w A l) :
    Calls Tryd.prog 45 #[.int .u32 z, .slice A n cap] w fun e w' => e = .returned (.int .u32 (foldC c l : Nat)) ∧ w' = w := by
  subst hz
  have HN := Lib.hid hn
  clear hn
  go_enter Tryd.func45, Tryd.ntmps45
  go_wp2
  go_loopw [0, 5] (fun v i wr => ∃ k : Nat, k ≤ n ∧ i = .int .i64 k ∧ v = .int .u32 (foldC c (l.take k) : Nat) ∧ wr = w) (fun _ i _ => n - (intOf i).toNat)
  case atStart => exact ⟨0, Nat.zero_le _, rfl, rfl, rfl⟩
  case round =>
    obtain ⟨k, hk, rfl, rfl, rfl⟩ := hrel
    have hfl := foldC_lt (l.take k) hc
    by_cases hlt : k < n
    · have hlt' : k < l.length := by rw [HN.out]; exact hlt
      obtain ⟨blk, off, rfl, hcell⟩ := hA.at_ hlt'
      have HS := Lib.hid (foldC_snoc c l k hlt')
      have hb := l[k].toNat_lt
      generalize l[k].toNat = b at *
      generalize foldC c (l.take k) = f at *
      have hb' : b < 256 := hb
      have hcv : (b : Int) % 4294967296 = (b : Int) := by omega
      have HB := Lib.hid (bitsR8 f b hb')
      go_wp2
      go_loopw [0, 6, 7] (fun v x j wq => ∃ m cc vv : Nat, m ≤ 8 ∧ j = .int .i64 m ∧ v = .int .u32 (cc : Int) ∧ x = .int .u32 (vv : Int) ∧ cc < 4294967296 ∧ vv < 256 ∧ bitsR (8 - m) cc vv = bitsR 8 f b ∧ wq = wr) (fun _ _ j _ => 8 - (intOf j).toNat)
      case atStart => exact ⟨0, f, b, by omega, rfl, rfl, rfl, hfl, hb', rfl, rfl⟩
      case round =>
        obtain ⟨m, cc, vv, hm8, rfl, rfl, rfl, hcc, hvv, hbits, rfl⟩ := hrel
        by_cases hml : m < 8
        · have e1 : 8 - m = (8 - (m + 1)) + 1 := by omega
          have hs' := Lib.hid (show bitsR (8 - (m + 1)) (stepR cc (vv % 2)) (vv / 2) = bitsR 8 f b by rw [← hbits, e1]; rfl)
          have hl := Lib.hid (stepR_lt (bit := vv % 2) hcc)
          have HH := Lib.hid (fun wx => refStepH cc vv hcc wx)
          clear hbits e1
          go_wp2_with (go_at_call 62; refine (HH.out _).mono ?_; rintro e w1 ⟨rfl, rfl⟩)
          go_roundw
          case rel => exact ⟨m + 1, stepR cc (vv % 2), vv / 2, by omega, by go_num, rfl, by go_num, hl.out, by omega, hs'.out, trivial⟩
          case measure => simp [intOf]; omega
        · obtain rfl : m = 8 := by omega
          have hs' := Lib.hid (show byteC f b = cc by rw [← HB.out, ← hbits]; rfl)
          clear hbits
          go_wp2
          go_roundw
          case rel => exact ⟨k + 1, by omega, by go_num, by rw [HS.out, hs'.out], trivial⟩
          case measure => simp [intOf]; omega
    · have ht : l.take k = l := List.take_of_length_le (by rw [HN.out]; omega)
      rw [ht]
      clear ht hfl
      go_wp2
      go_ret
      exact ⟨rfl, rfl⟩

set_option maxHeartbeats 800000 in
theorem refSum {n : Nat} (A : Option Addr) (cap : Nat) (l : List UInt8) (hn : l.length = n) (hm : n ≤ 1000000) (w : World) (hA : U8At w A l) :
    Calls Tryd.prog 28 #[.slice A n cap] w fun e w' => e = .returned (.int .u32 (notC (foldC 4294967295 l) : Nat)) ∧ w' = w := by
  have H := Lib.hid (refMore 4294967295 4294967295 (by rfl) (by decide) A cap l hn hm w hA)
  have hfl := foldC_lt l (c := 4294967295) (by decide)
  clear hn hA
  unfold notC
  generalize foldC 4294967295 l = f at *
  go_enter Tryd.func28, Tryd.ntmps28
  go_wp2_with (go_at_call 45; refine H.out.mono ?_; rintro e w1 ⟨rfl, rfl⟩)
  go_ret
  exact ⟨ret_int (by omega), rfl⟩
end Go.Proofs.YtncmbbkcpmimjaaDoor
