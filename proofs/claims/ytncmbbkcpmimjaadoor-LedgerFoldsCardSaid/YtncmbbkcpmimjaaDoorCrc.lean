/- The sum of bytes: the program's table-free form, a byte at a time, and the reference's, a bit at a time, are one. -/
import Derived.Test.YtncmbbkcpmimjaaDoorLaw
import Derived.Test.YtncmbbkcpmimjaaDoorRet
import Derived.Laws.BitsAllLaws
namespace Go.Proofs.YtncmbbkcpmimjaaDoor
open Go.RowKit Law
set_option linter.unusedVariables false

/-! ### the plain law -/
def P32 : Nat := 3988292384
def stp (x : Nat) : Nat := if x % 2 = 1 then x / 2 ^^^ P32 else x / 2
def stpN : Nat → Nat → Nat
  | 0, x => x
  | n + 1, x => stpN n (stp x)
def byteC (c b : Nat) : Nat := c / 256 ^^^ stpN 8 ((c ^^^ b) % 256)
def stepR (c bit : Nat) : Nat := if c % 2 = bit then c / 2 else c / 2 ^^^ P32
def bitsR : Nat → Nat → Nat → Nat
  | 0, c, _ => c
  | n + 1, c, v => bitsR n (stepR c (v % 2)) (v / 2)

theorem xor_half (a b : Nat) : (a ^^^ b) / 2 = a / 2 ^^^ b / 2 := by
  have h := Nat.shiftRight_xor_distrib (a := a) (b := b) (i := 1)
  simpa [Nat.shiftRight_eq_div_pow] using h
theorem xor_256 (a b : Nat) : (a ^^^ b) / 256 = a / 256 ^^^ b / 256 := by
  have h := Nat.shiftRight_xor_distrib (a := a) (b := b) (i := 8)
  simpa [Nat.shiftRight_eq_div_pow] using h
theorem xor_par (a b : Nat) : (a ^^^ b) % 2 = (a % 2 + b % 2) % 2 := by
  have h := Nat.xor_mod_two_pow (a := a) (b := b) (n := 1)
  have e1 : a % 2 = 0 ∨ a % 2 = 1 := by omega
  have e2 : b % 2 = 0 ∨ b % 2 = 1 := by omega
  rw [Nat.pow_one] at h
  rw [h]
  rcases e1 with e1 | e1 <;> rcases e2 with e2 | e2 <;> rw [e1, e2] <;> rfl
theorem xor4 (a b p : Nat) : (a ^^^ p) ^^^ (b ^^^ p) = a ^^^ b := by
  rw [Nat.xor_assoc, Nat.xor_comm b p, ← Nat.xor_assoc p p b, Nat.xor_self, Nat.zero_xor]
theorem stp_xor (a b : Nat) : stp (a ^^^ b) = stp a ^^^ stp b := by
  unfold stp
  rw [xor_par, xor_half]
  have e1 : a % 2 = 0 ∨ a % 2 = 1 := by omega
  have e2 : b % 2 = 0 ∨ b % 2 = 1 := by omega
  rcases e1 with e1 | e1 <;> rcases e2 with e2 | e2 <;> rw [e1, e2]
  · rfl
  · show (a / 2 ^^^ b / 2) ^^^ P32 = a / 2 ^^^ (b / 2 ^^^ P32)
    rw [Nat.xor_assoc]
  · show (a / 2 ^^^ b / 2) ^^^ P32 = (a / 2 ^^^ P32) ^^^ b / 2
    rw [Nat.xor_assoc, Nat.xor_assoc, Nat.xor_comm (b / 2)]
  · show a / 2 ^^^ b / 2 = (a / 2 ^^^ P32) ^^^ (b / 2 ^^^ P32)
    rw [xor4]
theorem stpN_xor : ∀ (n a b : Nat), stpN n (a ^^^ b) = stpN n a ^^^ stpN n b
  | 0, _, _ => rfl
  | n + 1, a, b => by
    show stpN n (stp (a ^^^ b)) = stpN n (stp a) ^^^ stpN n (stp b)
    rw [stp_xor, stpN_xor n]
theorem stp_even (z : Nat) : stp (z * 2) = z := by
  unfold stp
  rw [if_neg (by omega)]
  omega
theorem stp256 (z : Nat) : stpN 8 (z * 256) = z := by
  have h : ∀ m, stp (z * (m * 2)) = z * m := fun m => by rw [← Nat.mul_assoc]; exact stp_even _
  show stp (stp (stp (stp (stp (stp (stp (stp (z * 256)))))))) = z
  rw [show (256 : Nat) = 128 * 2 from rfl, h, show (128 : Nat) = 64 * 2 from rfl, h, show (64 : Nat) = 32 * 2 from rfl, h, show (32 : Nat) = 16 * 2 from rfl, h, show (16 : Nat) = 8 * 2 from rfl, h,
    show (8 : Nat) = 4 * 2 from rfl, h, show (4 : Nat) = 2 * 2 from rfl, h, show (2 : Nat) = 1 * 2 from rfl, h, Nat.mul_one]
theorem split256 (x : Nat) : x = x / 256 * 256 ^^^ x % 256 := by
  apply Nat.eq_of_testBit_eq
  intro i
  rw [Nat.testBit_xor, show (256 : Nat) = 2 ^ 8 from rfl, Nat.testBit_mod_two_pow, Nat.testBit_mul_two_pow, Nat.testBit_div_two_pow]
  by_cases h : i < 8
  · simp [h, show ¬ 8 ≤ i by omega]
  · simp [h, show 8 ≤ i by omega, show i - 8 + 8 = i by omega]
theorem byteC_eq (c b : Nat) (hb : b < 256) : byteC c b = stpN 8 (c ^^^ b) := by
  conv => rhs; rw [split256 (c ^^^ b)]
  rw [stpN_xor, stp256, xor_256, show b / 256 = 0 by omega, Nat.xor_zero]
  rfl
theorem stepR_eq (c v : Nat) : stepR c (v % 2) ^^^ v / 2 = stp (c ^^^ v) := by
  unfold stepR stp
  rw [xor_par, xor_half]
  have e1 : c % 2 = 0 ∨ c % 2 = 1 := by omega
  have e2 : v % 2 = 0 ∨ v % 2 = 1 := by omega
  rcases e1 with e1 | e1 <;> rcases e2 with e2 | e2 <;> rw [e1, e2]
  · rfl
  · show (c / 2 ^^^ P32) ^^^ v / 2 = (c / 2 ^^^ v / 2) ^^^ P32
    rw [Nat.xor_assoc, Nat.xor_assoc, Nat.xor_comm P32]
  · show (c / 2 ^^^ P32) ^^^ v / 2 = (c / 2 ^^^ v / 2) ^^^ P32
    rw [Nat.xor_assoc, Nat.xor_assoc, Nat.xor_comm P32]
  · rfl
theorem bitsR_eq : ∀ (n c v : Nat), bitsR n c v ^^^ v / 2 ^ n = stpN n (c ^^^ v)
  | 0, c, v => by simp [bitsR, stpN]
  | n + 1, c, v => by
    have h := bitsR_eq n (stepR c (v % 2)) (v / 2)
    rw [stepR_eq, Nat.div_div_eq_div_mul, show 2 * 2 ^ n = 2 ^ (n + 1) by rw [Nat.pow_succ]; omega] at h
    exact h
theorem bitsR8 (c v : Nat) (hv : v < 256) : bitsR 8 c v = byteC c v := by
  have h := bitsR_eq 8 c v
  rw [show v / 2 ^ 8 = 0 by omega, Nat.xor_zero] at h
  rw [h, byteC_eq c v hv]
theorem stp_lt {x : Nat} (h : x < 4294967296) : stp x < 4294967296 := by
  unfold stp
  split
  · have : x / 2 ^^^ P32 < 2 ^ 32 := Nat.xor_lt_two_pow (by omega) (by decide)
    exact this
  · omega
theorem stpN_lt : ∀ (n : Nat) {x : Nat}, x < 4294967296 → stpN n x < 4294967296
  | 0, _, h => h
  | n + 1, _, h => stpN_lt n (stp_lt h)
theorem byteC_lt {c b : Nat} (h : c < 4294967296) : byteC c b < 4294967296 := by
  have h1 := stpN_lt 8 (x := (c ^^^ b) % 256) (by omega)
  have : c / 256 ^^^ stpN 8 ((c ^^^ b) % 256) < 2 ^ 32 := Nat.xor_lt_two_pow (by omega) h1
  exact this
theorem stepR_lt {c bit : Nat} (h : c < 4294967296) : stepR c bit < 4294967296 := by
  unfold stepR
  split
  · omega
  · have : c / 2 ^^^ P32 < 2 ^ 32 := Nat.xor_lt_two_pow (by omega) (by decide)
    exact this
def foldC (c : Nat) (l : List UInt8) : Nat := l.foldl (fun c b => byteC c b.toNat) c
theorem foldC_lt : ∀ (l : List UInt8) {c : Nat}, c < 4294967296 → foldC c l < 4294967296
  | [], _, h => h
  | b :: l, c, h => foldC_lt l (c := byteC c b.toNat) (byteC_lt h)
theorem foldC_snoc (c : Nat) (l : List UInt8) (k : Nat) (hk : k < l.length) : foldC c (l.take (k + 1)) = byteC (foldC c (l.take k)) l[k].toNat := by
  unfold foldC
  rw [List.take_succ_eq_append_getElem hk, List.foldl_append]
  rfl
theorem foldC_app (c : Nat) (a b : List UInt8) : foldC c (a ++ b) = foldC (foldC c a) b := by
  unfold foldC
  rw [List.foldl_append]
def notC (c : Nat) : Nat := 4294967295 - c
theorem notC_notC {c : Nat} (h : c < 4294967296) : notC (notC c) = c := by unfold notC; omega
theorem notC_lt (c : Nat) : notC c < 4294967296 := by unfold notC; omega
theorem ones_xor (n c : Nat) (h : c < 2 ^ n) : (2 ^ n - 1) ^^^ c = 2 ^ n - 1 - c := by
  apply Nat.eq_of_testBit_eq
  intro i
  rw [Nat.sub_sub, Nat.add_comm 1 c, Nat.testBit_xor, Nat.testBit_two_pow_sub_one, Nat.testBit_two_pow_sub_succ h]
  by_cases hi : i < n
  · simp [hi]
  · have : c < 2 ^ i := Nat.lt_of_lt_of_le h (Nat.pow_le_pow_right (by decide) (by omega))
    simp [hi, Nat.testBit_lt_two_pow this]
theorem not_bits {c : Nat} (h : c < 4294967296) : bits .xor .u32 (IntKind.max .u32) (c : Int) = (notC c : Int) := by
  rw [show IntKind.max .u32 = 4294967295 by decide]
  have h1 := u32_xor_nat 4294967295 c (by decide) h
  have h2 := ones_xor 32 c (Nat.lt_of_lt_of_eq h (by decide))
  rw [show 2 ^ 32 - 1 = 4294967295 by decide] at h2
  rw [h2] at h1
  exact h1
theorem xor_bits {a b : Nat} (ha : a < 4294967296) (hb : b < 4294967296) : bits .xor .u32 (a : Int) (b : Int) = ((a ^^^ b : Nat) : Int) := u32_xor_nat a b ha hb
theorem and1_bits {a : Nat} (ha : a < 4294967296) : bits .and .u32 (a : Int) 1 = ((a % 2 : Nat) : Int) := by
  have h1 := u32_and_nat a 1 ha (by decide)
  rw [show a &&& 1 = a % 2 from Nat.and_two_pow_sub_one_eq_mod a 1] at h1
  exact h1
theorem and255_bits {a : Nat} (ha : a < 4294967296) : bits .and .u32 (a : Int) 255 = ((a % 256 : Nat) : Int) := by
  have h1 := u32_and_nat a 255 ha (by decide)
  rw [show a &&& 255 = a % 256 from Nat.and_two_pow_sub_one_eq_mod a 8] at h1
  exact h1
theorem xorP_bits {a : Nat} (ha : a < 4294967296) : bits .xor .u32 (a : Int) 3988292384 = ((a ^^^ P32 : Nat) : Int) := u32_xor_nat a P32 ha (by decide)
end Go.Proofs.YtncmbbkcpmimjaaDoor
