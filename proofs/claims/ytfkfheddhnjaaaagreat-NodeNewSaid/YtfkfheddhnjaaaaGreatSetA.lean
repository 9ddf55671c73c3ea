/- Sets of nodes: the walks of the functions that only compute (bits counted, the least one, one node's bit, has, all, count). -/
import Derived.Test.YtfkfheddhnjaaaaGreatPop
import Derived.Test.YtfkfheddhnjaaaaGreatNumI
import Derived.Shelf.Spec.TrailingZeros
import Derived.Laws.Bits64b
import Derived.Lib.Hide
namespace Go.Proofs.YtfkfheddhnjaaaaGreat
open Go.RowKit Law
set_option linter.unusedVariables false
set_option linter.unusedSimpArgs false
set_option maxRecDepth 100000

theorem ret_int {k : IntKind} {a b : Int} (h : a = b) : Ending.returned (.int k a) = .returned (.int k b) := by rw [h]
theorem ret_bool {a b : Bool} (h : a = b) : Ending.returned (.bool a) = .returned (.bool b) := by rw [h]
theorem wrap_nat {n : Nat} (h : n < 18446744073709551616) : IntKind.u64.wrap (n : Int) = (n : Int) := by rw [IntKind.wrap_u64]; omega
/-- x &^ y, on numbers below 2^64. -/
theorem bits_andNot_u64_nat (a b : Nat) (ha : a < 18446744073709551616) (hb : b < 18446744073709551616) :
    bits .andNot .u64 (a : Int) (b : Int) = ((a ^^^ (a &&& b) : Nat) : Int) := by
  have hx : a ^^^ (a &&& b) < 2 ^ 64 := andNot_lt ha
  have h1 : (BitVec.ofInt 64 (a : Int)).toNat = a := by
    rw [BitVec.ofInt_natCast, BitVec.toNat_ofNat]; exact Nat.mod_eq_of_lt (by omega)
  have h2 : (BitVec.ofInt 64 (b : Int)).toNat = b := by
    rw [BitVec.ofInt_natCast, BitVec.toNat_ofNat]; exact Nat.mod_eq_of_lt (by omega)
  have h3 : (BitVec.ofInt 64 (a : Int) &&& ~~~BitVec.ofInt 64 (b : Int)) = BitVec.ofInt 64 (a : Int) ^^^ (BitVec.ofInt 64 (a : Int) &&& BitVec.ofInt 64 (b : Int)) := by
    apply BitVec.eq_of_getLsbD_eq
    intro i hi
    simp only [BitVec.getLsbD_and, BitVec.getLsbD_not, BitVec.getLsbD_xor]
    cases (BitVec.ofInt 64 (a : Int)).getLsbD i <;> cases (BitVec.ofInt 64 (b : Int)).getLsbD i <;> simp [hi]
  show IntKind.u64.wrap ((BitVec.ofInt 64 (a : Int) &&& ~~~BitVec.ofInt 64 (b : Int)).toNat : Int) = _
  rw [h3, BitVec.toNat_xor, BitVec.toNat_and, h1, h2, wrap_nat (by omega)]

/-! ### bits counted -/
theorem pk1 (x : Nat) (hx : x < 18446744073709551616) : IntKind.u64.wrap (bits .and .u64 ((x : Int) / 2) 6148914691236517205 + bits .and .u64 (x : Int) 6148914691236517205) = ((pop1 x : Nat) : Int) := by
  have h1 := bits_and_u64_nat (x / 2) 6148914691236517205 (by omega) (by decide)
  have h2 := bits_and_u64_nat x 6148914691236517205 hx (by decide)
  have e1 : bits .and .u64 ((x : Int) / 2) 6148914691236517205 = ((x / 2 &&& 6148914691236517205 : Nat) : Int) := h1
  have e2 : bits .and .u64 (x : Int) 6148914691236517205 = ((x &&& 6148914691236517205 : Nat) : Int) := h2
  rw [e1, e2, ← pop1_eq, ← Int.natCast_add, wrap_nat (pop1_lt x hx)]
theorem pk2 (x : Nat) (hx : x < 18446744073709551616) : IntKind.u64.wrap (bits .and .u64 ((x : Int) / 4) 3689348814741910323 + bits .and .u64 (x : Int) 3689348814741910323) = ((pop2 x : Nat) : Int) := by
  have h1 := bits_and_u64_nat (x / 4) 3689348814741910323 (by omega) (by decide)
  have h2 := bits_and_u64_nat x 3689348814741910323 hx (by decide)
  have e1 : bits .and .u64 ((x : Int) / 4) 3689348814741910323 = ((x / 4 &&& 3689348814741910323 : Nat) : Int) := h1
  have e2 : bits .and .u64 (x : Int) 3689348814741910323 = ((x &&& 3689348814741910323 : Nat) : Int) := h2
  rw [e1, e2, ← pop2_eq, ← Int.natCast_add, wrap_nat (pop2_lt x)]
theorem pk3 (x : Nat) : bits .and .u64 (IntKind.u64.wrap (((pop2 x : Nat) : Int) / 16 + ((pop2 x : Nat) : Int))) 1085102592571150095 = ((pop3 (pop2 x) : Nat) : Int) := by
  have hl := pop2_le x
  have e : ((pop2 x : Nat) : Int) / 16 + ((pop2 x : Nat) : Int) = ((pop2 x / 16 + pop2 x : Nat) : Int) := by omega
  rw [e, wrap_nat (by omega), ← pop3_eq]
  exact bits_and_u64_nat (pop2 x / 16 + pop2 x) 1085102592571150095 (by omega) (by decide)
theorem pk4 (z : Nat) (m : Nat) (h : z + z / m < 18446744073709551616) : IntKind.u64.wrap ((z : Int) + (z : Int) / (m : Int)) = ((z + z / m : Nat) : Int) := by
  have e : (z : Int) + (z : Int) / (m : Int) = ((z + z / m : Nat) : Int) := by rw [Int.natCast_add, Int.natCast_ediv]
  rw [e, wrap_nat h]
theorem pk5 (z : Nat) : bits .and .i64 (wrap64 (z : Int)) 127 = ((z % 128 : Nat) : Int) := by
  have h0 : BitVec.ofInt 64 (wrap64 (z : Int)) = BitVec.ofNat 64 z := by
    apply BitVec.eq_of_toInt_eq
    rw [BitVec.toInt_ofInt, ← BitVec.ofInt_natCast, BitVec.toInt_ofInt]
    unfold wrap64
    rw [Int.bmod_def, Int.bmod_def]
    omega
  have h1 : (BitVec.ofNat 64 z &&& BitVec.ofInt 64 127).toNat = z % 128 := by
    rw [BitVec.toNat_and, BitVec.toNat_ofNat]
    show z % 2 ^ 64 &&& (2 ^ 7 - 1) = _
    rw [Nat.and_two_pow_sub_one_eq_mod, Nat.mod_mod_of_dvd _ (by decide)]
  show IntKind.i64.wrap ((BitVec.ofInt 64 (wrap64 (z : Int)) &&& BitVec.ofInt 64 127).toNat : Int) = _
  rw [h0, h1]
  simp [IntKind.wrap, IntKind.signed, IntKind.bits]
  omega
theorem pop1_lt' (x : Nat) (hx : x < 18446744073709551616) : pop1 x < 18446744073709551616 := by rw [← pop1_eq]; exact pop1_lt x hx
/-! ### the least one -/
/-! ### one node's bit -/
theorem nodesBit (i : Int) (h0 : -9223372036854775808 ≤ i) (h1 : i ≤ 9223372036854775807) (w : World) :
    Calls Tryz.prog 117 #[.int .i64 i] w fun e w' => e = .returned (.int .u64 (bitN i : Int)) ∧ w' = w := by
  by_cases ha : 0 ≤ i
  · by_cases hb : i < 64
    · obtain ⟨k, rfl⟩ : ∃ k : Nat, i = k := ⟨i.toNat, by omega⟩
      have hk : k < 64 := by omega
      have E : Hid ((bitN (k : Int) : Int) = 2 ^ k) := by
        unfold Hid bitN
        rw [if_pos ⟨ha, hb⟩]
        simp
      have hp : (2 : Nat) ^ k < 18446744073709551616 := Nat.pow_lt_pow_right (m := k) (n := 64) (by decide) hk
      go_enter Tryz.func117, Tryz.ntmps117
      have hp' := Lib.hid (wrap_nat hp)
      clear hp
      go_wp2
      go_ret
      exact ⟨ret_int (by rw [E.out]; have h := hp'.out; simpa using h), rfl⟩
    · have E : Hid (bitN i = 0) := by unfold Hid bitN; rw [if_neg (by omega)]
      have hd : decide (i < 0) = false := by simp; omega
      go_enter Tryz.func117, Tryz.ntmps117
      go_wp2
      go_ret
      exact ⟨ret_int (by rw [E.out]; rfl), rfl⟩
  · have E : Hid (bitN i = 0) := by unfold Hid bitN; rw [if_neg (by omega)]
    have hd : decide (i < 0) = true := by simp; omega
    go_enter Tryz.func117, Tryz.ntmps117
    go_wp2
    go_ret
    exact ⟨ret_int (by rw [E.out]; rfl), rfl⟩

/-! ### has, all, below -/
def hasB (s : Nat) (i : Int) : Bool := decide (0 ≤ i ∧ i < 64) && s.testBit i.toNat
theorem hasB_and (s : Nat) (i : Int) : hasB s i = (((s &&& bitN i : Nat) : Int) != 0) := by
  unfold hasB bitN
  by_cases h : 0 ≤ i ∧ i < 64
  · rw [if_pos h]
    have hp := Nat.two_pow_pos i.toNat
    have e : s &&& 2 ^ i.toNat = if s.testBit i.toNat then 2 ^ i.toNat else 0 := by
      apply Nat.eq_of_testBit_eq
      intro j
      rw [Nat.testBit_and, Nat.testBit_two_pow]
      by_cases hj : i.toNat = j
      · subst hj
        cases hb : s.testBit i.toNat <;> simp
      · split <;> simp [hj]
    rw [e]
    cases s.testBit i.toNat
    · simp
    · simp only [h, and_self, decide_true, Bool.and_self, Bool.true_and, if_true]
      rw [eq_comm, bne_iff_ne]
      omega
  · rw [if_neg h]
    simp [h]
theorem nodesAll (n : Int) (h0 : -9223372036854775808 ≤ n) (h1 : n ≤ 9223372036854775807) (w : World) :
    Calls Tryz.prog 113 #[.int .i64 n] w fun e w' => e = .returned (.int .u64 (allN n : Int)) ∧ w' = w := by
  by_cases ha : 64 ≤ n
  · have E : Hid (allN n = 18446744073709551615) := by unfold Hid allN; rw [if_pos ha]
    go_enter Tryz.func113, Tryz.ntmps113
    go_wp2
    go_ret
    exact ⟨ret_int (by rw [E.out]; rfl), rfl⟩
  · by_cases hb : n < 1
    · have E : Hid (allN n = 0) := by unfold Hid allN; rw [if_neg ha, if_pos hb]
      go_enter Tryz.func113, Tryz.ntmps113
      go_wp2
      go_ret
      exact ⟨ret_int (by rw [E.out]; rfl), rfl⟩
    · have hp : 0 < bitN n ∧ bitN n < 18446744073709551616 := ⟨by unfold bitN; rw [if_pos (by omega)]; exact Nat.two_pow_pos _, bitN_lt n⟩
      have E : Hid ((allN n : Int) = (bitN n : Int) - 1) := by
        unfold Hid
        have e : allN n = bitN n - 1 := by unfold allN bitN; rw [if_neg ha, if_neg hb, if_pos (by omega)]
        omega
      obtain ⟨hp0, hp1⟩ := hp
      have hw := Lib.hid (wrap_nat (n := bitN n - 1) (by omega))
      have hc := Lib.hid (show ((bitN n - 1 : Nat) : Int) = (bitN n : Int) - 1 by omega)
      go_enter Tryz.func113, Tryz.ntmps113
      go_wp2_with (go_at_call 117; refine (nodesBit n h0 h1 _).mono ?_; rintro e w' ⟨rfl, rfl⟩)
      go_ret
      exact ⟨ret_int (by rw [E.out]; first | done | rw [← hc.out, hw.out]), rfl⟩
/-! ### the first ones -/
theorem neg_and (s : Nat) (h0 : s ≠ 0) (hs : s < 18446744073709551616) : bits .and .u64 (s : Int) (IntKind.u64.wrap (-(s : Int))) = ((2 ^ low s : Nat) : Int) := by
  have e1 : IntKind.u64.wrap (-(s : Int)) = ((18446744073709551616 - s : Nat) : Int) := by rw [IntKind.wrap_u64]; omega
  rw [e1, bits_and_u64_nat s _ hs (by omega), low_and h0 hs]
theorem sub_and (s : Nat) (h0 : s ≠ 0) (hs : s < 18446744073709551616) : bits .and .u64 (s : Int) ((s : Int) - 1) = ((rest s : Nat) : Int) := by
  have e1 : (s : Int) - 1 = ((s - 1 : Nat) : Int) := by omega
  rw [e1, bits_and_u64_nat s _ hs (by omega)]
  rfl
theorem pow_low_lt (s : Nat) (h0 : s ≠ 0) (hs : s < 18446744073709551616) : 2 ^ low s < 18446744073709551616 := by
  obtain ⟨m, _, hk⟩ := low_spec h0 hs
  exact Nat.pow_lt_pow_right (m := low s) (n := 64) (by decide) hk
theorem firstN_step (k s o : Nat) (h0 : s ≠ 0) : firstN (k + 1) s o = firstN k (rest s) (o ||| 2 ^ low s) := by
  show (if s = 0 then o else _) = _
  rw [if_neg h0]
theorem firstN_stop (k o : Nat) : firstN k 0 o = o := by cases k <;> simp [firstN]
end Go.Proofs.YtfkfheddhnjaaaaGreat
