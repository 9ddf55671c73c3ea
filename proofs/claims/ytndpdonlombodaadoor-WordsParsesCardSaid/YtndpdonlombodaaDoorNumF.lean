/- Numbers as texts: strconv's FormatInt to the base 10, and the references' Digits: each gives the decimal numeral. -/
import Derived.Test.YtndpdonlombodaaDoorLaw
import Derived.Test.YtndpdonlombodaaDoorShelf
import Derived.Lib.ItoaMem
import Derived.Lib.SmallJoins
import Derived.Lib.Hide
import Derived.Outline
namespace Go.Proofs.YtndpdonlombodaaDoor
open Go.RowKit Law Go.Sort
set_option linter.unusedVariables false
set_option linter.unusedSimpArgs false

def P10 (w : World) : Prop := Lib.TabIs Tryd.prog w "internal/strconv.uint64pow10" .u64 Lib.pow10Tab
theorem P10.below {w w' : World} (h : P10 w) (hb : Below w.heap.size w w') : P10 w' := Joins.tab_stays g_strconv_uint64pow10 h hb (Nat.le_refl _)
theorem P10.of_laid {w : World} (h : laidMet Tryd.prog tables w) : P10 w := tab_strconv_uint64pow10 h
theorem P10.later {w : World} (h : P10 w) (W : Later w) : P10 W.val := h.below W.h
theorem below_grow (w : World) (k : Nat) (os : Array Obj) : Below w.heap.size w (grow (w.drewN k) os) :=
  ⟨rfl, rfl, rfl, by simp [grow], fun j hj => (heap_grow_old (w.drewN k) os hj)⟩

theorem fmtInt (n : Int) (h0 : -9223372036854775808 ≤ n) (h1 : n ≤ 9223372036854775807) (w : World) (h : P10 w) :
    Calls Tryd.prog 34 #[.int .i64 n, .int .i64 10] w fun e w' => e = .returned (.string ⟨(Lib.itoa n).toArray⟩) ∧ Below w.heap.size w w' :=
  (Tryd.strconv_FormatInt_10 n h0 h1 w h).mono fun _ _ ⟨he, k, os, hw⟩ => ⟨he, by subst hw; exact below_grow _ _ _⟩
/-! ### The references' digits -/
def dgt (n : Int) : UInt8 := UInt8.ofNat (48 + n.toNat % 10)
def SliceDig (d : Int) : Prop := ∀ W : World, (Instr.slice 9 (.string ⟨#[48, 49, 50, 51, 52, 53, 54, 55, 56, 57]⟩) (some (.int .i64 d)) (some (.int .i64 (d + 1))) none).run Tryd.prog W = .ok (.string ⟨#[dgt d]⟩) W
theorem slice_dig0 : SliceDig 0 := fun W => by kernel_rfl
theorem slice_dig1 : SliceDig 1 := fun W => by kernel_rfl
theorem slice_dig2 : SliceDig 2 := fun W => by kernel_rfl
theorem slice_dig3 : SliceDig 3 := fun W => by kernel_rfl
theorem slice_dig4 : SliceDig 4 := fun W => by kernel_rfl
theorem slice_dig5 : SliceDig 5 := fun W => by kernel_rfl
theorem slice_dig6 : SliceDig 6 := fun W => by kernel_rfl
theorem slice_dig7 : SliceDig 7 := fun W => by kernel_rfl
theorem slice_dig8 : SliceDig 8 := fun W => by kernel_rfl
theorem slice_dig9 : SliceDig 9 := fun W => by kernel_rfl
theorem slice_dig (d : Int) (h0 : 0 ≤ d) (h1 : d < 10) : SliceDig d := by
  have h : d = 0 ∨ d = 1 ∨ d = 2 ∨ d = 3 ∨ d = 4 ∨ d = 5 ∨ d = 6 ∨ d = 7 ∨ d = 8 ∨ d = 9 := by omega
  rcases h with rfl | rfl | rfl | rfl | rfl | rfl | rfl | rfl | rfl | rfl
  · exact slice_dig0
  · exact slice_dig1
  · exact slice_dig2
  · exact slice_dig3
  · exact slice_dig4
  · exact slice_dig5
  · exact slice_dig6
  · exact slice_dig7
  · exact slice_dig8
  · exact slice_dig9
theorem dgt_mod {n : Int} (h : 0 ≤ n) : dgt (n % 10) = dgt n := by
  unfold dgt
  rw [show (n % 10).toNat % 10 = n.toNat % 10 by omega]
theorem ret_str {a b : ByteArray} (h : a = b) : Ending.returned (.string a) = .returned (.string b) := by rw [h]
theorem dec_small {n : Int} (h0 : 0 ≤ n) (h : n < 10) : Lib.decDigits n.toNat = [dgt n] := by
  rw [Lib.decDigits_one (by omega)]
  unfold dgt
  rw [show n.toNat % 10 = n.toNat by omega]
theorem dec_big {n : Int} (h : 9 < n) : Lib.decDigits n.toNat = Lib.decDigits (n / 10).toNat ++ [dgt n] := by
  rw [Lib.decDigits, dif_neg (by omega), show (n / 10).toNat = n.toNat / 10 by omega]
  rfl
theorem str_app (a b : List UInt8) : (⟨a.toArray⟩ : ByteArray) ++ ⟨b.toArray⟩ = ⟨(a ++ b).toArray⟩ := by
  apply ByteArray.ext
  simp
theorem nDigits_le (k : Nat) : ∀ n : Nat, n < 10 ^ (k + 1) → Lib.nDigits n ≤ k + 1 := by
  induction k with
  | zero => intro n h; rw [Lib.nDigits_small (by omega)]; omega
  | succ k ih =>
    intro n h
    by_cases hn : n < 10
    · rw [Lib.nDigits_small hn]; omega
    · rw [Lib.nDigits_big hn]
      have := ih (n / 10) (by rw [Nat.div_lt_iff_lt_mul (by omega)]; rw [Nat.pow_succ] at h; exact h)
      omega
theorem dec_len {n : Int} (hb : n ≤ 18446744073709551615) : ((Lib.decDigits n.toNat).length : Int) ≤ 20 := by
  rw [Lib.decDigits_length]
  have := nDigits_le 19 n.toNat (by omega)
  omega
theorem dec_len' (n : Nat) (hb : n ≤ 18446744073709551615) : ((Lib.decDigits n).length : Int) ≤ 20 := by
  rw [Lib.decDigits_length]
  have := nDigits_le 19 n (by omega)
  omega
theorem itoa_len {n : Int} (h0 : -9223372036854775808 ≤ n) (h1 : n ≤ 9223372036854775807) : ((Lib.itoa n).length : Int) ≤ 21 := by
  unfold Lib.itoa
  split
  · have := dec_len' n.natAbs (by omega)
    rw [List.length_cons]; omega
  · have := dec_len' n.toNat (by omega)
    omega
theorem digits03_ (k : Nat) : ∀ (n : Int) (w : World), n.toNat ≤ k → 0 ≤ n → n ≤ 9223372036854775807 →
    Calls Tryd.prog 49 #[.int .i64 n] w fun e w' => e = .returned (.string ⟨(Lib.decDigits n.toNat).toArray⟩) ∧ w = w' := by
  induction k with
  | zero =>
    intro n w hk h0 hb
    obtain rfl : n = 0 := by omega
    go_enter Tryd.func49, Tryd.ntmps49
    go_wp2_with fail
    go_ret
    exact ⟨ret_str (by decide +kernel), rfl⟩
  | succ k ih =>
    intro n w hk h0 hb
    have hs := slice_dig (n % 10) (by omega) (by omega)
    unfold SliceDig at hs
    rw [dgt_mod h0] at hs
    by_cases hn : 9 < n
    · have ih' := ih (n / 10) w (by omega) (by omega) (by omega)
      have hl := dec_len (n := n / 10) (by omega)
      have E := Lib.hid (dec_big hn)
      have IH := Lib.hid ih'
      clear ih ih' hk
      go_enter Tryd.func49, Tryd.ntmps49
      go_wp2_with fail
      refine IH.out.mono ?_
      rintro e w' ⟨rfl, rfl⟩
      go_wp2_with fail
      go_ret
      refine ⟨ret_str ?_, rfl⟩
      rw [E.out]
      exact str_app _ _
    · have E := Lib.hid (dec_small (n := n) h0 (by omega))
      clear ih hk
      go_enter Tryd.func49, Tryd.ntmps49
      go_wp2_with fail
      go_ret
      exact ⟨ret_str (by rw [E.out]), rfl⟩
theorem digits03 (n : Int) (h0 : 0 ≤ n) (hb : n ≤ 9223372036854775807) (w : World) :
    Calls Tryd.prog 49 #[.int .i64 n] w fun e w' => e = .returned (.string ⟨(Lib.decDigits n.toNat).toArray⟩) ∧ w = w' := digits03_ n.toNat n w (Nat.le_refl _) h0 hb

theorem big06_ (k : Nat) : ∀ (u : Int) (w : World), u.toNat ≤ k → 0 ≤ u → u ≤ 18446744073709551615 →
    Calls Tryd.prog 35 #[.int .u64 u] w fun e w' => e = .returned (.string ⟨(Lib.decDigits u.toNat).toArray⟩) ∧ w = w' := by
  induction k with
  | zero =>
    intro u w hk h0 hb
    obtain rfl : u = 0 := by omega
    go_enter Tryd.func35, Tryd.ntmps35
    go_wp2_with (go_at_call 49; refine (digits03 _ (by omega) (by omega) _).mono ?_; rintro e w' ⟨rfl, rfl⟩)
    go_ret
    exact ⟨rfl, rfl⟩
  | succ k ih =>
    intro u w hk h0 hb
    by_cases hn : u < 10
    · clear ih hk
      go_enter Tryd.func35, Tryd.ntmps35
      go_wp2_with (go_at_call 49; refine (digits03 _ (by omega) (by omega) _).mono ?_; rintro e w' ⟨rfl, rfl⟩)
      go_ret
      exact ⟨rfl, rfl⟩
    · have ih' := fun w => ih (u / 10) w (by omega) (by omega) (by omega)
      have hl := dec_len (n := u / 10) (by omega)
      have hl2 := dec_len (n := u % 10) (by omega)
      have E := Lib.hid (dec_big (n := u) (by omega))
      have E2 := Lib.hid (dec_small (n := u % 10) (by omega) (by omega))
      have E3 := Lib.hid (dgt_mod h0)
      have IH := Lib.hid ih'
      clear ih ih' hk
      go_enter Tryd.func35, Tryd.ntmps35
      go_wp2_with fail
      refine (IH.out _).mono ?_
      rintro e w' ⟨rfl, rfl⟩
      go_wp2_with fail
      refine (digits03 _ (by omega) (by omega) _).mono ?_
      rintro e w' ⟨rfl, rfl⟩
      go_wp2_with fail
      go_ret
      refine ⟨ret_str ?_, rfl⟩
      rw [E.out, E2.out, E3.out]
      exact str_app _ _
theorem big06 (u : Int) (h0 : 0 ≤ u) (hb : u ≤ 18446744073709551615) (w : World) :
    Calls Tryd.prog 35 #[.int .u64 u] w fun e w' => e = .returned (.string ⟨(Lib.decDigits u.toNat).toArray⟩) ∧ w = w' := big06_ u.toNat u w (Nat.le_refl _) h0 hb

theorem digits06 (n : Int) (h0 : -9223372036854775808 ≤ n) (h1 : n ≤ 9223372036854775807) (w : World) :
    Calls Tryd.prog 21 #[.int .i64 n] w fun e w' => e = .returned (.string ⟨(Lib.itoa n).toArray⟩) ∧ w = w' := by
  by_cases hn : n < 0
  · have E : Hid (Lib.itoa n = 45 :: Lib.decDigits (-(n + 1) + 1).toNat) := by
      unfold Hid Lib.itoa
      rw [if_pos hn, show (-(n + 1) + 1).toNat = n.natAbs by omega]
    have hl := dec_len (n := -(n + 1) + 1) (by omega)
    go_enter Tryd.func21, Tryd.ntmps21
    go_wp2_with (go_at_call 35; refine (big06 _ (by omega) (by omega) _).mono ?_; rintro e w' ⟨rfl, rfl⟩)
    go_ret
    refine ⟨ret_str ?_, rfl⟩
    rw [E.out]
    exact str_app [45] _
  · have E : Hid (Lib.itoa n = Lib.decDigits n.toNat) := by
      unfold Hid Lib.itoa
      rw [if_neg hn]
    go_enter Tryd.func21, Tryd.ntmps21
    go_wp2_with (go_at_call 35; refine (big06 _ (by omega) (by omega) _).mono ?_; rintro e w' ⟨rfl, rfl⟩)
    go_ret
    exact ⟨ret_str (by rw [E.out]), rfl⟩
end Go.Proofs.YtndpdonlombodaaDoor
