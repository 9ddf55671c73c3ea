/- Numbers as texts: strconv's Itoa and the reference's Digits: each gives the decimal numeral. -/
import Derived.Test.YtfkfheddhnjaaaaGreatLaw
import Derived.Test.YtfkfheddhnjaaaaGreatShelf
import Derived.Lib.ItoaMem
import Derived.Lib.SmallJoins
import Derived.Lib.Hide
import Derived.Outline
namespace Go.Proofs.YtfkfheddhnjaaaaGreat
open Go.RowKit Law Go.Sort
set_option linter.unusedVariables false
set_option linter.unusedSimpArgs false

theorem below_grow (w : World) (k : Nat) (os : Array Obj) : Below w.heap.size w (grow (w.drewN k) os) :=
  ⟨rfl, rfl, rfl, by simp [grow], fun j hj => (heap_grow_old (w.drewN k) os hj)⟩

/-! ### The references' digits -/
def dgt (n : Int) : UInt8 := UInt8.ofNat (48 + n.toNat % 10)
def SliceDig (d : Int) : Prop := ∀ W : World, (Instr.slice 9 (.string ⟨#[48, 49, 50, 51, 52, 53, 54, 55, 56, 57]⟩) (some (.int .i64 d)) (some (.int .i64 (d + 1))) none).run Tryz.prog W = .ok (.string ⟨#[dgt d]⟩) W
theorem slice_dig0 : SliceDig 0 := fun W => by kernel_rfl
theorem slice_dig1 : SliceDig 1 := fun W => by kernel_rfl
theorem slice_dig2 : SliceDig 2 := fun W => by kernel_rfl
theorem slice_dig3 : SliceDig 3 := fun W => by kernel_rfl
theorem slice_dig4 : SliceDig 4 := fun W => by kernel_rfl
theorem slice_dig5 : SliceDig 5 := fun W => by kernel_rfl
theorem slice_dig6 : SliceDig 6 := fun W => by kernel_rfl
theorem slice_dig7 : SliceDig 7 := fun W => by kernel_rfl
theorem slice_dig8 : SliceDig 8 := fun W => by kernel_rfl
theorem slice_dig9 : SliceDig 9 := fun W => by kernel_rfl
theorem slice_dig (d : Int) (h0 : 0 ≤ d) (h1 : d < 10) : SliceDig d := by
  have h : d = 0 ∨ d = 1 ∨ d = 2 ∨ d = 3 ∨ d = 4 ∨ d = 5 ∨ d = 6 ∨ d = 7 ∨ d = 8 ∨ d = 9 := by omega
  rcases h with rfl | rfl | rfl | rfl | rfl | rfl | rfl | rfl | rfl | rfl
  · exact slice_dig0
  · exact slice_dig1
  · exact slice_dig2
  · exact slice_dig3
  · exact slice_dig4
  · exact slice_dig5
  · exact slice_dig6
  · exact slice_dig7
  · exact slice_dig8
  · exact slice_dig9
theorem dgt_mod {n : Int} (h : 0 ≤ n) : dgt (n % 10) = dgt n := by
  unfold dgt
  rw [show (n % 10).toNat % 10 = n.toNat % 10 by omega]
theorem ret_str {a b : ByteArray} (h : a = b) : Ending.returned (.string a) = .returned (.string b) := by rw [h]
theorem dec_small {n : Int} (h0 : 0 ≤ n) (h : n < 10) : Lib.decDigits n.toNat = [dgt n] := by
  rw [Lib.decDigits_one (by omega)]
  unfold dgt
  rw [show n.toNat % 10 = n.toNat by omega]
theorem dec_big {n : Int} (h : 9 < n) : Lib.decDigits n.toNat = Lib.decDigits (n / 10).toNat ++ [dgt n] := by
  rw [Lib.decDigits, dif_neg (by omega), show (n / 10).toNat = n.toNat / 10 by omega]
  rfl
theorem str_app (a b : List UInt8) : (⟨a.toArray⟩ : ByteArray) ++ ⟨b.toArray⟩ = ⟨(a ++ b).toArray⟩ := by
  apply ByteArray.ext
  simp
theorem nDigits_le (k : Nat) : ∀ n : Nat, n < 10 ^ (k + 1) → Lib.nDigits n ≤ k + 1 := by
  induction k with
  | zero => intro n h; rw [Lib.nDigits_small (by omega)]; omega
  | succ k ih =>
    intro n h
    by_cases hn : n < 10
    · rw [Lib.nDigits_small hn]; omega
    · rw [Lib.nDigits_big hn]
      have := ih (n / 10) (by rw [Nat.div_lt_iff_lt_mul (by omega)]; rw [Nat.pow_succ] at h; exact h)
      omega
theorem dec_len {n : Int} (hb : n ≤ 18446744073709551615) : ((Lib.decDigits n.toNat).length : Int) ≤ 20 := by
  rw [Lib.decDigits_length]
  have := nDigits_le 19 n.toNat (by omega)
  omega
theorem dec_len' (n : Nat) (hb : n ≤ 18446744073709551615) : ((Lib.decDigits n).length : Int) ≤ 20 := by
  rw [Lib.decDigits_length]
  have := nDigits_le 19 n (by omega)
  omega
theorem itoa_len {n : Int} (h0 : -9223372036854775808 ≤ n) (h1 : n ≤ 9223372036854775807) : ((Lib.itoa n).length : Int) ≤ 21 := by
  unfold Lib.itoa
  split
  · have := dec_len' n.natAbs (by omega)
    rw [List.length_cons]; omega
  · have := dec_len' n.toNat (by omega)
    omega
end Go.Proofs.YtfkfheddhnjaaaaGreat
