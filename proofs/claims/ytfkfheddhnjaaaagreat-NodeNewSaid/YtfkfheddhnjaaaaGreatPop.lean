/- The number of one bits of a 64-bit number, as math/bits.OnesCount64 sums them side by side: plain Lean, no program. -/
import Derived.Test.YtfkfheddhnjaaaaGreatSetP
namespace Go.Proofs.YtfkfheddhnjaaaaGreat
open Go
set_option linter.unusedVariables false
set_option linter.unusedSimpArgs false

/-- A function on each digit to the base B. -/
def dm (B : Nat) (f : Nat → Nat) : Nat → Nat → Nat
  | 0, _ => 0
  | k + 1, x => f (x % B) + B * dm B f k (x / B)
/-- The sum of a function of each digit. -/
def sd (B : Nat) (f : Nat → Nat) : Nat → Nat → Nat
  | 0, _ => 0
  | k + 1, x => f (x % B) + sd B f k (x / B)
theorem dm_mod {B : Nat} {f : Nat → Nat} (hf : ∀ d, d < B → f d < B) (hB : 0 < B) (k x : Nat) : dm B f (k + 1) x % B = f (x % B) := by
  show (f (x % B) + B * dm B f k (x / B)) % B = _
  rw [Nat.add_mul_mod_self_left, Nat.mod_eq_of_lt (hf _ (Nat.mod_lt _ hB))]
theorem dm_div {B : Nat} {f : Nat → Nat} (hf : ∀ d, d < B → f d < B) (hB : 0 < B) (k x : Nat) : dm B f (k + 1) x / B = dm B f k (x / B) := by
  show (f (x % B) + B * dm B f k (x / B)) / B = _
  rw [Nat.add_mul_div_left _ _ hB, Nat.div_eq_of_lt (hf _ (Nat.mod_lt _ hB)), Nat.zero_add]
theorem sd_dm {B : Nat} {f : Nat → Nat} (g : Nat → Nat) (hf : ∀ d, d < B → f d < B) (hB : 0 < B) : ∀ k x, sd B g k (dm B f k x) = sd B (fun d => g (f d)) k x
  | 0, _ => rfl
  | k + 1, x => by
    show g (dm B f (k + 1) x % B) + sd B g k (dm B f (k + 1) x / B) = g (f (x % B)) + sd B (fun d => g (f d)) k (x / B)
    rw [dm_mod hf hB, dm_div hf hB, sd_dm g hf hB k]
theorem sd_two {B : Nat} (f : Nat → Nat) : ∀ k x, sd (B * B) (fun d => f (d % B) + f (d / B)) k x = sd B f (2 * k) x
  | 0, _ => rfl
  | k + 1, x => by
    show f (x % (B * B) % B) + f (x % (B * B) / B) + sd (B * B) _ k (x / (B * B)) = f (x % B) + (f (x / B % B) + sd B f (2 * k) (x / B / B))
    rw [sd_two f k, Nat.mod_mul_right_mod, Nat.mod_mul_right_div_self, Nat.div_div_eq_div_mul, Nat.add_assoc]
/-- The mask whose digits are all c. -/
def mask (B c : Nat) : Nat → Nat
  | 0 => 0
  | k + 1 => c + B * mask B c k
theorem and_split (j x a m : Nat) (ha : a < 2 ^ j) : x &&& (a + 2 ^ j * m) = (x % 2 ^ j &&& a) + 2 ^ j * (x / 2 ^ j &&& m) := by
  have h1 : (x &&& (a + 2 ^ j * m)) % 2 ^ j = x % 2 ^ j &&& a := by
    rw [Nat.and_mod_two_pow, Nat.add_mul_mod_self_left, Nat.mod_eq_of_lt ha]
  have h2 : (x &&& (a + 2 ^ j * m)) / 2 ^ j = x / 2 ^ j &&& m := by
    rw [Nat.and_div_two_pow, Nat.add_mul_div_left _ _ (Nat.two_pow_pos j), Nat.div_eq_of_lt ha, Nat.zero_add]
  rw [← h1, ← h2]
  exact (Nat.mod_add_div _ _).symm
/-- Under a mask each digit keeps its lower half. -/
theorem and_mask (j c : Nat) (hc : 2 ^ c ≤ 2 ^ j) : ∀ k x, x &&& mask (2 ^ j) (2 ^ c - 1) k = dm (2 ^ j) (fun d => d % 2 ^ c) k x
  | 0, x => by simp [mask, dm]
  | k + 1, x => by
    have hp := Nat.two_pow_pos c
    show x &&& (2 ^ c - 1 + 2 ^ j * mask (2 ^ j) (2 ^ c - 1) k) = x % 2 ^ j % 2 ^ c + 2 ^ j * dm (2 ^ j) _ k (x / 2 ^ j)
    rw [and_split j x _ _ (by omega), and_mask j c hc k, Nat.and_two_pow_sub_one_eq_mod]
theorem dm_add {B : Nat} (f g : Nat → Nat) : ∀ k x, dm B f k x + dm B g k x = dm B (fun d => f d + g d) k x
  | 0, _ => rfl
  | k + 1, x => by
    show (f (x % B) + B * dm B f k (x / B)) + (g (x % B) + B * dm B g k (x / B)) = (f (x % B) + g (x % B)) + B * dm B (fun d => f d + g d) k (x / B)
    rw [← dm_add f g k, Nat.mul_add]
    omega
/-- The upper halves, moved down. -/
theorem dm_half {b : Nat} (hb : 0 < b) : ∀ k x, dm (b * b) (fun d => d % b) k (x / b) = dm (b * b) (fun d => d / b) k x
  | 0, _ => rfl
  | k + 1, x => by
    show x / b % (b * b) % b + b * b * dm (b * b) _ k (x / b / (b * b)) = x % (b * b) / b + b * b * dm (b * b) _ k (x / (b * b))
    rw [Nat.mod_mul_right_mod, Nat.mod_mul_right_div_self]
    congr 2
    rw [Nat.div_div_eq_div_mul, Nat.mul_comm b (b * b), ← Nat.div_div_eq_div_mul, dm_half hb k]
theorem sd_congr {B : Nat} {f g : Nat → Nat} (hB : 0 < B) (h : ∀ d, d < B → f d = g d) : ∀ k x, sd B f k x = sd B g k x
  | 0, _ => rfl
  | k + 1, x => by
    show f (x % B) + sd B f k (x / B) = g (x % B) + sd B g k (x / B)
    rw [h _ (Nat.mod_lt _ hB), sd_congr hB h k]

/-! ### the three steps -/
def pop1 (x : Nat) : Nat := dm 4 (fun d => d / 2 + d % 2) 32 x
def pop2 (x : Nat) : Nat := dm 16 (fun d => d / 4 + d % 4) 16 x
def pop3 (x : Nat) : Nat := dm 256 (fun d => d / 16 + d % 16) 8 x
theorem pop1_eq (x : Nat) : (x / 2 &&& 6148914691236517205) + (x &&& 6148914691236517205) = pop1 x := by
  have e : (6148914691236517205 : Nat) = mask (2 ^ 2) (2 ^ 1 - 1) 32 := by decide +kernel
  rw [e, and_mask 2 1 (by decide), and_mask 2 1 (by decide)]
  have h := dm_half (b := 2) (by decide) 32 x
  show dm (2 * 2) (fun d => d % 2) 32 (x / 2) + dm (2 * 2) (fun d => d % 2) 32 x = _
  rw [h, dm_add]
  rfl
theorem pop2_eq (x : Nat) : (x / 4 &&& 3689348814741910323) + (x &&& 3689348814741910323) = pop2 x := by
  have e : (3689348814741910323 : Nat) = mask (2 ^ 4) (2 ^ 2 - 1) 16 := by decide +kernel
  rw [e, and_mask 4 2 (by decide), and_mask 4 2 (by decide)]
  have h := dm_half (b := 4) (by decide) 16 x
  show dm (4 * 4) (fun d => d % 4) 16 (x / 4) + dm (4 * 4) (fun d => d % 4) 16 x = _
  rw [h, dm_add]
  rfl
theorem dm_head {B m : Nat} {f : Nat → Nat} (hf : ∀ d, d < B → f d ≤ m) (hm : m < B) (hB : 0 < B) (k x : Nat) : dm B f k x % B ≤ m := by
  cases k with
  | zero => simp [dm]
  | succ k => rw [dm_mod (fun d hd => Nat.lt_of_le_of_lt (hf d hd) hm) hB]; exact hf _ (Nat.mod_lt _ hB)
/-- Sixteenths of at most 6 each: no sum of two passes on. -/
theorem pop3_step {f : Nat → Nat} (hf : ∀ d, d < 16 → f d ≤ 6) : ∀ k x, (dm 16 f (2 * k) x / 16 + dm 16 f (2 * k) x) &&& mask (2 ^ 8) (2 ^ 4 - 1) k = dm 256 (fun d => d / 16 + d % 16) k (dm 16 f (2 * k) x)
  | 0, x => by simp [mask, dm]
  | k + 1, x => by
    have ha := hf (x % 16) (Nat.mod_lt _ (by decide))
    have hb := hf (x / 16 % 16) (Nat.mod_lt _ (by decide))
    have hy := dm_head hf (by decide) (by decide) (2 * k) (x / 16 / 16)
    have ih := pop3_step hf k (x / 16 / 16)
    have e : dm 16 f (2 * (k + 1)) x = f (x % 16) + 16 * (f (x / 16 % 16) + 16 * dm 16 f (2 * k) (x / 16 / 16)) := rfl
    rw [e]
    generalize dm 16 f (2 * k) (x / 16 / 16) = y at *
    generalize f (x % 16) = a at *
    generalize f (x / 16 % 16) = b at *
    show _ &&& (2 ^ 4 - 1 + 2 ^ 8 * mask (2 ^ 8) (2 ^ 4 - 1) k) = (_ % 256 / 16 + _ % 256 % 16) + 256 * dm 256 _ k (_ / 256)
    rw [and_split 8 _ _ _ (by decide), Nat.and_two_pow_sub_one_eq_mod]
    have e1 : ((a + 16 * (b + 16 * y)) / 16 + (a + 16 * (b + 16 * y))) / 2 ^ 8 = y / 16 + y := by omega
    have e2 : (a + 16 * (b + 16 * y)) / 256 = y := by omega
    rw [e1, e2, ih]
    omega
theorem pop3_eq (x : Nat) : (pop2 x / 16 + pop2 x) &&& 1085102592571150095 = pop3 (pop2 x) := by
  have e : (1085102592571150095 : Nat) = mask (2 ^ 8) (2 ^ 4 - 1) 8 := by decide +kernel
  rw [e]
  exact pop3_step (f := fun d => d / 4 + d % 4) (fun d hd => by omega) 8 x
/-- The bits, counted. -/
theorem sd_filter : ∀ k x, sd 2 (fun d => d) k x = ((List.range k).filter x.testBit).length
  | 0, _ => rfl
  | k + 1, x => by
    show x % 2 + sd 2 _ k (x / 2) = _
    rw [sd_filter k, List.range_succ_eq_map, List.filter_cons, List.filter_map]
    have e : (x.testBit ∘ Nat.succ) = (x / 2).testBit := by
      funext i
      exact Nat.testBit_succ x i
    rw [e]
    by_cases h : x % 2 = 1
    · have h0 : x.testBit 0 = true := by rw [Nat.testBit_zero]; simp [h]
      rw [if_pos h0]; simp [h]; omega
    · have h0 : x.testBit 0 = false := by rw [Nat.testBit_zero]; simp [h]
      rw [h0]
      have : x % 2 = 0 := by omega
      simp [this]
theorem pop_sum (x : Nat) : sd 256 (fun d => d) 8 (pop3 (pop2 (pop1 x))) = (els x).length := by
  have h1 : sd 256 (fun d => d) 8 (pop3 (pop2 (pop1 x))) = sd 256 (fun d => d / 16 + d % 16) 8 (pop2 (pop1 x)) := sd_dm (B := 256) (fun d => d) (fun d hd => by omega) (by decide) 8 _
  have h2 : sd 16 (fun d => d) 16 (pop2 (pop1 x)) = sd 16 (fun d => d / 4 + d % 4) 16 (pop1 x) := sd_dm (B := 16) (fun d => d) (fun d hd => by omega) (by decide) 16 _
  have h3 : sd 4 (fun d => d) 32 (pop1 x) = sd 4 (fun d => d / 2 + d % 2) 32 x := sd_dm (B := 4) (fun d => d) (fun d hd => by omega) (by decide) 32 _
  have t1 := sd_two (B := 16) (fun d => d) 8 (pop2 (pop1 x))
  have t2 := sd_two (B := 4) (fun d => d) 16 (pop1 x)
  have t3 := sd_two (B := 2) (fun d => d) 32 x
  have c1 : sd 256 (fun d => d / 16 + d % 16) 8 (pop2 (pop1 x)) = sd (16 * 16) (fun d => d % 16 + d / 16) 8 (pop2 (pop1 x)) := sd_congr (by decide) (fun d _ => Nat.add_comm _ _) 8 _
  have c2 : sd 16 (fun d => d / 4 + d % 4) 16 (pop1 x) = sd (4 * 4) (fun d => d % 4 + d / 4) 16 (pop1 x) := sd_congr (by decide) (fun d _ => Nat.add_comm _ _) 16 _
  have c3 : sd 4 (fun d => d / 2 + d % 2) 32 x = sd (2 * 2) (fun d => d % 2 + d / 2) 32 x := sd_congr (by decide) (fun d _ => Nat.add_comm _ _) 32 _
  rw [h1, c1, t1]
  show sd 16 (fun d => d) 16 _ = _
  rw [h2, c2, t2]
  show sd 4 (fun d => d) 32 _ = _
  rw [h3, c3, t3]
  exact sd_filter 64 x
theorem lt8 {a0 a1 a2 a3 a4 a5 a6 a7 s : Nat} (h0 : a0 ≤ 250) (h1 : a1 ≤ 250) (h2 : a2 ≤ 250) (h3 : a3 ≤ 250) (h4 : a4 ≤ 250) (h5 : a5 ≤ 250) (h6 : a6 ≤ 250) (h7 : a7 ≤ 250)
    (hs : s = a0 + 256 * (a1 + 256 * (a2 + 256 * (a3 + 256 * (a4 + 256 * (a5 + 256 * (a6 + 256 * a7))))))) : s < 18446744073709551616 := by
  subst hs
  have e7 : a6 + 256 * a7 < 65536 := by omega
  generalize a6 + 256 * a7 = r6 at *
  have e6 : a5 + 256 * r6 < 16777216 := by omega
  generalize a5 + 256 * r6 = r5 at *
  have e5 : a4 + 256 * r5 < 4294967296 := by omega
  generalize a4 + 256 * r5 = r4 at *
  have e4 : a3 + 256 * r4 < 1099511627776 := by omega
  generalize a3 + 256 * r4 = r3 at *
  have e3 : a2 + 256 * r3 < 281474976710656 := by omega
  generalize a2 + 256 * r3 = r2 at *
  have e2 : a1 + 256 * r2 < 72057594037927936 := by omega
  omega
theorem mod8 {a r s : Nat} (ha : a ≤ 64) (hs : s = a + 256 * r) : s % 128 = a := by omega
set_option maxHeartbeats 2000000 in
/-- Eight digits of at most 30 each, folded down. -/
theorem fold8 (y0 y1 y2 y3 y4 y5 y6 y7 z : Nat) (h0 : y0 ≤ 30) (h1 : y1 ≤ 30) (h2 : y2 ≤ 30) (h3 : y3 ≤ 30) (h4 : y4 ≤ 30) (h5 : y5 ≤ 30) (h6 : y6 ≤ 30) (h7 : y7 ≤ 30)
    (hz : z = y0 + 256 * (y1 + 256 * (y2 + 256 * (y3 + 256 * (y4 + 256 * (y5 + 256 * (y6 + 256 * y7)))))))
    (hs : y0 + (y1 + (y2 + (y3 + (y4 + (y5 + (y6 + y7)))))) ≤ 64) :
    z + z / 256 < 18446744073709551616 ∧ (z + z / 256) + (z + z / 256) / 65536 < 18446744073709551616 ∧
      ((z + z / 256) + (z + z / 256) / 65536) + ((z + z / 256) + (z + z / 256) / 65536) / 4294967296 < 18446744073709551616 ∧
      (((z + z / 256) + (z + z / 256) / 65536) + ((z + z / 256) + (z + z / 256) / 65536) / 4294967296) % 128 = y0 + (y1 + (y2 + (y3 + (y4 + (y5 + (y6 + y7)))))) := by
  have e1 : z / 256 = y1 + 256 * (y2 + 256 * (y3 + 256 * (y4 + 256 * (y5 + 256 * (y6 + 256 * y7))))) := by omega
  generalize hs1 : z + z / 256 = s1
  have f1 : s1 = (y0 + y1) + 256 * ((y1 + y2) + 256 * ((y2 + y3) + 256 * ((y3 + y4) + 256 * ((y4 + y5) + 256 * ((y5 + y6) + 256 * ((y6 + y7) + 256 * y7)))))) := by omega
  have e2 : s1 / 65536 = (y2 + y3) + 256 * ((y3 + y4) + 256 * ((y4 + y5) + 256 * ((y5 + y6) + 256 * ((y6 + y7) + 256 * y7)))) := by omega
  generalize hs2 : s1 + s1 / 65536 = s2
  have f2 : s2 = (y0 + y1 + y2 + y3) + 256 * ((y1 + y2 + y3 + y4) + 256 * ((y2 + y3 + y4 + y5) + 256 * ((y3 + y4 + y5 + y6) + 256 * ((y4 + y5 + y6 + y7) + 256 * ((y5 + y6 + y7) + 256 * ((y6 + y7) + 256 * y7)))))) := by omega
  have e3 : s2 / 4294967296 = (y4 + y5 + y6 + y7) + 256 * ((y5 + y6 + y7) + 256 * ((y6 + y7) + 256 * y7)) := by omega
  have f3 : s2 + s2 / 4294967296 = (y0 + (y1 + (y2 + (y3 + (y4 + (y5 + (y6 + y7))))))) + 256 * ((y1 + y2 + y3 + y4 + y5 + y6 + y7) + 256 * ((y2 + y3 + y4 + y5 + y6 + y7) + 256 * ((y3 + y4 + y5 + y6 + y7) + 256 * ((y4 + y5 + y6 + y7) + 256 * ((y5 + y6 + y7) + 256 * ((y6 + y7) + 256 * y7)))))) := by
    rw [e3, f2]
    clear e1 e2 e3 f1 f2 hs1 hs2 hz
    omega
  clear e1 e2 e3 hs1 hs2 hz
  have g1 := lt8 (by clear f1 f2 f3; omega) (by clear f1 f2 f3; omega) (by clear f1 f2 f3; omega) (by clear f1 f2 f3; omega) (by clear f1 f2 f3; omega) (by clear f1 f2 f3; omega) (by clear f1 f2 f3; omega) (by clear f1 f2 f3; omega) f1
  have g2 := lt8 (by clear f1 f2 f3; omega) (by clear f1 f2 f3; omega) (by clear f1 f2 f3; omega) (by clear f1 f2 f3; omega) (by clear f1 f2 f3; omega) (by clear f1 f2 f3; omega) (by clear f1 f2 f3; omega) (by clear f1 f2 f3; omega) f2
  have g3 := lt8 (by clear f1 f2 f3; omega) (by clear f1 f2 f3; omega) (by clear f1 f2 f3; omega) (by clear f1 f2 f3; omega) (by clear f1 f2 f3; omega) (by clear f1 f2 f3; omega) (by clear f1 f2 f3; omega) (by clear f1 f2 f3; omega) f3
  exact ⟨g1, g2, g3, mod8 hs f3⟩
theorem dm8 (f : Nat → Nat) (u : Nat) : dm 256 f 8 u = f (u % 256) + 256 * (f (u / 256 % 256) + 256 * (f (u / 256 / 256 % 256) + 256 * (f (u / 256 / 256 / 256 % 256) + 256 * (f (u / 256 / 256 / 256 / 256 % 256) + 256 * (f (u / 256 / 256 / 256 / 256 / 256 % 256) + 256 * (f (u / 256 / 256 / 256 / 256 / 256 / 256 % 256) + 256 * f (u / 256 / 256 / 256 / 256 / 256 / 256 / 256 % 256))))))) := by
  simp only [dm, Nat.mul_zero, Nat.add_zero]
theorem sd8 (f : Nat → Nat) (u : Nat) : sd 256 f 8 u = f (u % 256) + (f (u / 256 % 256) + (f (u / 256 / 256 % 256) + (f (u / 256 / 256 / 256 % 256) + (f (u / 256 / 256 / 256 / 256 % 256) + (f (u / 256 / 256 / 256 / 256 / 256 % 256) + (f (u / 256 / 256 / 256 / 256 / 256 / 256 % 256) + f (u / 256 / 256 / 256 / 256 / 256 / 256 / 256 % 256))))))) := by
  simp only [sd, Nat.add_zero]
theorem pop_fold (x : Nat) :
    pop3 (pop2 (pop1 x)) + pop3 (pop2 (pop1 x)) / 256 < 18446744073709551616 ∧
    (pop3 (pop2 (pop1 x)) + pop3 (pop2 (pop1 x)) / 256) + (pop3 (pop2 (pop1 x)) + pop3 (pop2 (pop1 x)) / 256) / 65536 < 18446744073709551616 ∧
    ((pop3 (pop2 (pop1 x)) + pop3 (pop2 (pop1 x)) / 256) + (pop3 (pop2 (pop1 x)) + pop3 (pop2 (pop1 x)) / 256) / 65536) + ((pop3 (pop2 (pop1 x)) + pop3 (pop2 (pop1 x)) / 256) + (pop3 (pop2 (pop1 x)) + pop3 (pop2 (pop1 x)) / 256) / 65536) / 4294967296 < 18446744073709551616 ∧
    (((pop3 (pop2 (pop1 x)) + pop3 (pop2 (pop1 x)) / 256) + (pop3 (pop2 (pop1 x)) + pop3 (pop2 (pop1 x)) / 256) / 65536) + ((pop3 (pop2 (pop1 x)) + pop3 (pop2 (pop1 x)) / 256) + (pop3 (pop2 (pop1 x)) + pop3 (pop2 (pop1 x)) / 256) / 65536) / 4294967296) % 128 = (els x).length := by
  have hs := pop_sum x
  have hl := els_len x
  obtain ⟨u, hu⟩ : ∃ u, pop2 (pop1 x) = u := ⟨_, rfl⟩
  rw [hu] at hs ⊢
  have hf : ∀ d, d < 256 → (fun d => d / 16 + d % 16) d ≤ 30 := fun d hd => by show d / 16 + d % 16 ≤ 30; omega
  have hz : sd 256 (fun d => d) 8 (pop3 u) = sd 256 (fun d => d / 16 + d % 16) 8 u := sd_dm (B := 256) (fun d => d) (fun d hd => by have := hf d hd; simp at this; omega) (by decide) 8 u
  rw [hz] at hs
  have b : ∀ v : Nat, v % 256 / 16 + v % 256 % 16 ≤ 30 := fun v => by omega
  have e8 := dm8 (fun d => d / 16 + d % 16) u
  have s8 := sd8 (fun d => d / 16 + d % 16) u
  have hl' : sd 256 (fun d => d / 16 + d % 16) 8 u ≤ 64 := by rw [hs]; exact hl
  rw [s8] at hs hl'
  have key := fold8 _ _ _ _ _ _ _ _ (pop3 u) (b u) (b (u / 256)) (b (u / 256 / 256)) (b (u / 256 / 256 / 256)) (b (u / 256 / 256 / 256 / 256)) (b (u / 256 / 256 / 256 / 256 / 256)) (b (u / 256 / 256 / 256 / 256 / 256 / 256)) (b (u / 256 / 256 / 256 / 256 / 256 / 256 / 256)) e8 hl'
  rw [← hs]
  exact key
/-! ### what the walk asks -/
theorem pop1_lt (x : Nat) (hx : x < 18446744073709551616) : (x / 2 &&& 6148914691236517205) + (x &&& 6148914691236517205) < 18446744073709551616 := by
  have h1 : x / 2 &&& 6148914691236517205 ≤ 6148914691236517205 := Nat.and_le_right
  have h2 : x &&& 6148914691236517205 ≤ 6148914691236517205 := Nat.and_le_right
  omega
theorem pop2_lt (x : Nat) : (x / 4 &&& 3689348814741910323) + (x &&& 3689348814741910323) < 18446744073709551616 := by
  have h1 : x / 4 &&& 3689348814741910323 ≤ 3689348814741910323 := Nat.and_le_right
  have h2 : x &&& 3689348814741910323 ≤ 3689348814741910323 := Nat.and_le_right
  omega
theorem pop2_le (x : Nat) : pop2 x ≤ 7378697629483820646 := by
  rw [← pop2_eq]
  have h1 : x / 4 &&& 3689348814741910323 ≤ 3689348814741910323 := Nat.and_le_right
  have h2 : x &&& 3689348814741910323 ≤ 3689348814741910323 := Nat.and_le_right
  omega
end Go.Proofs.YtfkfheddhnjaaaaGreat
