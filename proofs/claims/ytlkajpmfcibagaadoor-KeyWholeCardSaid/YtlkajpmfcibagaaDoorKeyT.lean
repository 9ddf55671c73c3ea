/- Keys as values, and their texts: key.Text and the reference's Text give the same numeral text. -/
import Derived.Test.YtlkajpmfcibagaaDoorNum
import Derived.Lib.Hide
namespace Go.Proofs.YtlkajpmfcibagaaDoor
open Go.RowKit Law
set_option linter.unusedVariables false

theorem ret_int {k : IntKind} {a b : Int} (h : a = b) : Ending.returned (.int k a) = .returned (.int k b) := by rw [h]
theorem ret_bool {a b : Bool} (h : a = b) : Ending.returned (.bool a) = .returned (.bool b) := by rw [h]
/-- A key as a value; which of two is ahead. -/
structure K where
  t : Int
  f : Int
  s : Int
def K.val (k : K) : Value := .agg #[.int .i64 k.t, .int .i64 k.f, .int .u32 k.s]
/-- The numbers of a key fit their kinds. -/
def K.Fits (k : K) : Prop := (-9223372036854775808 ≤ k.t ∧ k.t ≤ 9223372036854775807) ∧ (-9223372036854775808 ≤ k.f ∧ k.f ≤ 9223372036854775807) ∧ (0 ≤ k.s ∧ k.s ≤ 4294967295)
def textK (k : K) : List UInt8 := Lib.itoa k.t ++ [46] ++ Lib.itoa k.f ++ [46] ++ Lib.itoa k.s
theorem itoa_dec {s : Int} (h : 0 ≤ s) : Lib.itoa s = Lib.decDigits s.toNat := by
  unfold Lib.itoa
  rw [if_neg (by omega)]
theorem fmtUintZ (u : Int) (h0 : 0 ≤ u) (hu64 : u ≤ 18446744073709551615) (w : World) (h : P10 w) :
    Calls Tryd.prog 32 #[.int .u64 u, .int .i64 10] w fun e w' => e = .returned (.string ⟨(Lib.itoa u).toArray⟩) ∧ Below w.heap.size w w' := by
  obtain ⟨n, rfl⟩ := Int.eq_ofNat_of_zero_le h0
  rw [Lib.itoa_nonneg]
  exact fmtUint n (by omega) w h
theorem textK_arr (k : K) : (⟨(Lib.itoa k.t).toArray⟩ : ByteArray) ++ ⟨#[46]⟩ ++ ⟨(Lib.itoa k.f).toArray⟩ ++ ⟨#[46]⟩ ++ ⟨(Lib.itoa k.s).toArray⟩ = ⟨(textK k).toArray⟩ := by
  apply ByteArray.ext
  simp [textK]
set_option maxHeartbeats 800000 in
theorem keyText (k : K) (hk : k.Fits) (w : World) (h : P10 w) : Calls Tryd.prog 15 #[.agg #[.int .i64 k.t, .int .i64 k.f, .int .u32 k.s]] w fun e w' => e = .returned (.string ⟨(textK k).toArray⟩) ∧ Below w.heap.size w w' := by
  obtain ⟨⟨t0, t1⟩, ⟨f0, f1⟩, s0, s1⟩ := hk
  have lt := itoa_len t0 t1
  have lf := itoa_len f0 f1
  have ls := itoa_len (n := k.s) (by omega) (by omega)
  have hp := Lib.hid (h.below ((Below.refl _ w).alloc (Nat.le_refl _) (.cells #[.int .i64 k.t, .int .i64 k.f, .int .u32 k.s] 24)))
  clear h
  go_enter Tryd.func15, Tryd.ntmps15
  go_wp2_with fail
  have c1 : ∀ W : Later (w.alloc (.cells #[.int .i64 k.t, .int .i64 k.f, .int .u32 k.s] 24)),
    W.val.cell? ⟨w.heap.size, 0, none⟩ = some (.int .i64 k.t) ∧ W.val.cell? ⟨w.heap.size, 1, none⟩ = some (.int .i64 k.f) ∧ W.val.cell? ⟨w.heap.size, 2, none⟩ = some (.int .u32 k.s) :=
    fun W => ⟨Later.cell (by simp) W, Later.cell (by simp) W, Later.cell (by simp) W⟩
  refine wp_region_later (by kernel_rfl) (by kernel_rfl) ?_
  repeat (go_big_quiet_step (first | exact later_of (fmtInt _ t0 t1 _ (hp.out.later _)) | exact later_of (itoaInt _ f0 f1 _ (hp.out.later _)) | exact later_of (fmtUintZ _ (by omega) (by omega) _ (hp.out.later _))))
  refine wpQuiet_nil ?_
  rintro _ ⟨⟨W, hW⟩, rfl⟩
  clear c1
  go_wp2_with fail
  go_ret
  exact ⟨ret_str (textK_arr k), ((Below.refl _ w).alloc (Nat.le_refl _) _).trans (hW.mono (by simp))⟩
set_option maxHeartbeats 800000 in
theorem refText (k : K) (hk : k.Fits) (w : World) : Calls Tryd.prog 16 #[.agg #[.int .i64 k.t, .int .i64 k.f, .int .u32 k.s]] w fun e w' => e = .returned (.string ⟨(textK k).toArray⟩) ∧ Below w.heap.size w w' := by
  obtain ⟨⟨t0, t1⟩, ⟨f0, f1⟩, s0, s1⟩ := hk
  have lt := itoa_len t0 t1
  have lf := itoa_len f0 f1
  have ls := itoa_len (n := k.s) (by omega) (by omega)
  go_enter Tryd.func16, Tryd.ntmps16
  go_wp2_with fail
  have c1 : ∀ W : Later (w.alloc (.cells #[.int .i64 k.t, .int .i64 k.f, .int .u32 k.s] 24)),
    W.val.cell? ⟨w.heap.size, 0, none⟩ = some (.int .i64 k.t) ∧ W.val.cell? ⟨w.heap.size, 1, none⟩ = some (.int .i64 k.f) ∧ W.val.cell? ⟨w.heap.size, 2, none⟩ = some (.int .u32 k.s) :=
    fun W => ⟨Later.cell (by simp) W, Later.cell (by simp) W, Later.cell (by simp) W⟩
  refine wp_region_later (by kernel_rfl) (by kernel_rfl) ?_
  repeat (go_big_quiet_step (exact later_of ((digits06 _ (by omega) (by omega) _).mono fun _ _ ⟨he, hw⟩ => ⟨he, by subst hw; exact Below.refl _ _⟩)))
  refine wpQuiet_nil ?_
  rintro _ ⟨⟨W, hW⟩, rfl⟩
  clear c1
  go_wp2_with fail
  go_ret
  exact ⟨ret_str (textK_arr k), ((Below.refl _ w).alloc (Nat.le_refl _) _).trans (hW.mono (by simp))⟩

theorem keyTextB {k : K} {s : ByteArray} (hs : (⟨(textK k).toArray⟩ : ByteArray) = s) (hk : k.Fits) (w : World) (h : P10 w) : Calls Tryd.prog 15 #[.agg #[.int .i64 k.t, .int .i64 k.f, .int .u32 k.s]] w fun e w' => e = .returned (.string s) ∧ Below w.heap.size w w' := by
  subst hs; exact keyText k hk w h
end Go.Proofs.YtlkajpmfcibagaaDoor
