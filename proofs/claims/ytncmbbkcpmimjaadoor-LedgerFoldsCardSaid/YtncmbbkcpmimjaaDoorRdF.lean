/- The reference's GetFixed where there are bytes enough. -/
import Derived.Test.YtncmbbkcpmimjaaDoorRdE
namespace Go.Proofs.YtncmbbkcpmimjaaDoor
open Go.RowKit Law
set_option linter.unusedVariables false

theorem leN_drop (l : List UInt8) (j : Nat) (hj : j < l.length) : leN (l.drop j) = l[j].toNat + 256 * leN (l.drop (j + 1)) := by
  rw [List.drop_eq_getElem_cons hj]
  rfl
set_option maxHeartbeats 1600000 in
set_option maxRecDepth 100000 in
theorem refGetFixed (n : Nat) (hn1 : 1 ≤ n) (hn8 : n ≤ 8) (A : Option Addr) (m c : Nat) (L : List UInt8) (hL : L.length = m) (hnm : n ≤ m) (hmc : m ≤ c) (w : World) (hA : U8At w A L) :
    Calls Tryd.prog 43 #[.slice A m c, .int .i64 (n : Int)] w fun en w' => en = .returned (.tuple #[.int .u64 (cutN L 0 n : Int), .slice (if c = n then A else A.map (·.add (n * 1))) (m - n) (c - n), .int .i64 0]) ∧ ∃ k, w' = w.drewN k := by
  have hTl : (L.take n).length = n := by rw [List.length_take]; omega
  have s2 := fun W => u8_from A m c n hnm W
  obtain ⟨A2, hA2⟩ : ∃ A2, (if c = n then A else A.map (·.add (n * 1))) = A2 := ⟨_, rfl⟩
  simp only [hA2] at s2 ⊢
  have hbd := leN_lt (L.take n)
  have hTA : U8At w A (L.take n) := hA.take n
  obtain ⟨T, hT⟩ : ∃ T, L.take n = T := ⟨_, rfl⟩
  have hcut : cutN L 0 n = leN T := by unfold cutN; rw [List.drop_zero, hT]
  rw [hcut]
  rw [hT] at hTl hbd hTA
  rw [hTl] at hbd
  have h64 : (256 : Nat) ^ n ≤ 18446744073709551616 := Nat.le_trans (Nat.pow_le_pow_right (by decide) hn8) (by decide)
  have hT64 : ∀ j, leN (T.drop j) < 18446744073709551616 := fun j => by
    have h1 := leN_lt (T.drop j)
    have h2 : (T.drop j).length ≤ 8 := by rw [List.length_drop]; omega
    exact Nat.lt_of_lt_of_le h1 (Nat.le_trans (Nat.pow_le_pow_right (by decide) h2) (by decide))
  have HT := Lib.hid (And.intro hTl (And.intro hTA hT64))
  have HS := Lib.hid s2
  clear hA2 hL hA hTl hbd hTA hT hcut h64 hT64 s2
  go_enter Tryd.func43, Tryd.ntmps43
  go_wp2
  go_loop [7, 8] (fun x i => ∃ j : Nat, j ≤ n ∧ i = .int .i64 ((j : Int) - 1) ∧ x = .int .u64 (leN (T.drop j) : Int)) (fun _ i => (intOf i + 1).toNat)
  case atStart => exact ⟨n, Nat.le_refl _, rfl, by rw [List.drop_of_length_le (by have := HT.out.1; omega)]; rfl⟩
  case round =>
    obtain ⟨j, hj, rfl, rfl⟩ := hrel
    rcases j with _ | j
    · have s2 := HS.out
      have h00 : (((0 : Nat) : Int) - 1) = -1 := rfl
      rw [List.drop_zero, h00]
      go_wp2
      go_quiet (fail)
      go_wp2
      go_ret3
      exact ⟨rfl, _, rfl⟩
    · have hjT : j < T.length := by have := HT.out.1; omega
      obtain ⟨blk, off, rfl, hc⟩ := HT.out.2.1.at_ hjT
      have e := leN_drop T j hjT
      have h64 := HT.out.2.2 j
      rw [e] at h64
      obtain ⟨d, hd⟩ : ∃ d, (T[j]).toNat = d := ⟨_, rfl⟩
      obtain ⟨y, hy⟩ : ∃ y, leN (T.drop (j + 1)) = y := ⟨_, rfl⟩
      rw [hd] at hc e h64
      rw [hy] at e h64 ⊢
      rw [show (((j + 1 : Nat) : Int) - 1) = (j : Int) by omega]
      have HE := Lib.hid e
      have hd8 : d < 256 := by rw [← hd]; exact UInt8.toNat_lt _
      have hjm : (j : Int) < (m : Int) := by omega
      clear e hd hy
      go_wp2
      go_round
      case rel => exact ⟨j, by omega, by go_num, by rw [HE.out]; exact congrArg (Value.int .u64) (by omega)⟩
      case measure => simp [intOf]
end Go.Proofs.YtncmbbkcpmimjaaDoor
