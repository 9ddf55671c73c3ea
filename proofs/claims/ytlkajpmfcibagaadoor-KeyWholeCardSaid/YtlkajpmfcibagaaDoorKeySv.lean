/- Two lists of keys that are the same, compared; the head of KeySorts. -/
import Derived.Test.YtlkajpmfcibagaaDoorKeySu
namespace Go.Proofs.YtlkajpmfcibagaaDoor
open Go.RowKit Law
set_option linter.unusedVariables false

set_option maxHeartbeats 1600000 in
theorem lawSame {n : Nat} (A A' : Option Addr) (c c' : Nat) (ks : List K) (hn : ks.length = n) (hm : n ≤ 1000000) (w : World) (hA : KeyAt w A ks) (hA' : KeyAt w A' ks) :
    Calls Tryd.prog 23 #[.slice A n c, .slice A' n c'] w fun e w' => e = .returned (.bool true) ∧ Below w.heap.size w w' := by
  have HN := Lib.hid hn
  clear hn
  go_enter Tryd.func23, Tryd.ntmps23
  go_wp2
  go_loopw [13] (fun i wr => ∃ k : Nat, k ≤ n ∧ i = .int .i64 k ∧ ∃ q, wr = w.drewN q) (fun i _ => n - (intOf i).toNat)
  case atStart => exact ⟨0, Nat.zero_le _, rfl, 0, rfl⟩
  case round =>
    obtain ⟨k, hk, rfl, q, rfl⟩ := hrel
    by_cases hlt : k < n
    · have hlt' : k < ks.length := by rw [HN.out]; exact hlt
      obtain ⟨b, off, rfl, a0, a1, a2⟩ := hA.at_ (Below.refl _ _) hlt'
      obtain ⟨b', off', rfl, b0, b1, b2⟩ := hA'.at_ (Below.refl _ _) hlt'
      obtain ⟨x, hx⟩ : ∃ x, ks[k] = x := ⟨_, rfl⟩
      rw [hx] at a0 a1 a2 b0 b1 b2
      have he := run_neK x x
      have hq : eqK x x = true := (eqK_iff x x).2 rfl
      rw [hq] at he
      clear hx hq
      go_wp2
      go_quiet (fail)
      go_wp2
      go_roundw
      case rel => exact ⟨k + 1, by omega, by go_num, _, by first | rfl | (rw [World.drewN_drewN])⟩
      case measure => simp [intOf]; omega
    · go_wp2
      go_ret
      exact ⟨rfl, below_draws (Below.refl _ _) _⟩
end Go.Proofs.YtlkajpmfcibagaaDoor
