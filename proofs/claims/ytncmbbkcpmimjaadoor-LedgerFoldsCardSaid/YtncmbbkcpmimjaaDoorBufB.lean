/- A number's bytes, the lowest first: the reference's Fixed, unit.Bytes. -/
import Derived.Test.YtncmbbkcpmimjaaDoorLedF
import Derived.Test.YtncmbbkcpmimjaaDoorBufA
namespace Go.Proofs.YtncmbbkcpmimjaaDoor
open Go.RowKit Law
set_option linter.unusedVariables false

def leB : Nat → Nat → List UInt8
  | 0, _ => []
  | k + 1, x => UInt8.ofNat (x % 256) :: leB k (x / 256)
theorem leB_len : ∀ k x, (leB k x).length = k
  | 0, _ => rfl
  | k + 1, x => by show (leB k (x / 256)).length + 1 = _; rw [leB_len k]
theorem leB_snoc : ∀ k x, leB (k + 1) x = leB k x ++ [UInt8.ofNat (x / 256 ^ k % 256)]
  | 0, x => by simp [leB]
  | k + 1, x => by
    have ih := leB_snoc k (x / 256)
    show UInt8.ofNat (x % 256) :: leB (k + 1) (x / 256) = UInt8.ofNat (x % 256) :: leB k (x / 256) ++ _
    rw [ih, Nat.div_div_eq_div_mul, show 256 * 256 ^ k = 256 ^ (k + 1) by rw [Nat.pow_succ]; omega]
    rfl
theorem u8V_snoc (b : List UInt8) (c : UInt8) : u8V (b ++ [c]) = u8V b ++ [.int .u8 (c.toNat : Int)] := by simp [u8V]
set_option maxHeartbeats 1600000 in
set_option maxRecDepth 100000 in
theorem refFixed (x n : Nat) (hx : x < 18446744073709551616) (hn : n ≤ 8) (w : World) :
    Calls Tryd.prog 40 #[.int .u64 (x : Int), .int .i64 (n : Int)] w fun e w' => ∃ v, e = .returned v ∧ w'.ownsRow w.heap.size 5 1 v n (u8V (leB n x)) ∧ Below w.heap.size w w' := by
  obtain ⟨i0, hi, hz0, hz1, hz2⟩ := info_parts u8Info
  have H00 := Lib.hid (World.ownsRow_made (base := w.heap.size) (e := 5) (size := 1) w #[] 0 (Nat.le_refl _) (by simp [maxLen]) rfl)
  go_enter Tryd.func40, Tryd.ntmps40
  go_wp2
  go_loopw [0, 5, 6] (fun u v i wr => ∃ k : Nat, k ≤ n ∧ i = .int .i64 k ∧ u = .int .u64 ((x / 256 ^ k : Nat) : Int) ∧ wr.ownsRow w.heap.size 5 1 v k (u8V (leB k x)) ∧ Below w.heap.size w wr) (fun _ _ i _ => n - (intOf i).toNat)
  case atStart => exact ⟨0, Nat.zero_le _, rfl, by simp, by simpa [leB, u8V] using H00.out, (Below.refl _ _).alloc (Nat.le_refl _) _⟩
  case round =>
    obtain ⟨k, hk, rfl, rfl, hown, hb⟩ := hrel
    obtain ⟨y, hy⟩ : ∃ y, x / 256 ^ k = y := ⟨_, rfl⟩
    rw [hy]
    by_cases hlt : k < n
    · have hyx : y < 18446744073709551616 := by rw [← hy]; exact Nat.lt_of_le_of_lt (Nat.div_le_self _ _) hx
      obtain ⟨d, hd⟩ : ∃ d, y % 256 = d := ⟨_, rfl⟩
      have hdy : (y : Int) % 256 = (d : Int) := by omega
      have hd8 : d < 256 := by omega
      have HS : Hid (leB (k + 1) x = leB k x ++ [UInt8.ofNat d]) := by unfold Hid; rw [leB_snoc, hy, hd]
      have HY : Hid (x / 256 ^ (k + 1) = y / 256) := by unfold Hid; rw [Nat.pow_succ, ← Nat.div_div_eq_div_mul, hy]
      have hdn : (UInt8.ofNat d).toNat = d := by rw [UInt8.toNat_ofNat']; omega
      have HDN := Lib.hid hdn
      have hwu : IntKind.u8.wrap (d : Int) = (d : Int) := by rw [IntKind.wrap_u8]; omega
      clear hy hd hdn
      go_wp2_with (at_builtin; refine wpList_append_own _ rfl _ _ 29 rfl w.heap.size 5 i0 (.int .u8 0) 1 1 Tryd.underlying29 hi hz0 hz1 hz2 rfl (by decide) _ _ _ rfl (hown.alloc _) ⟨wr.heap.size, 0, none⟩ 1 1 [.int .u8 (d : Int)] rfl rfl ?c1 ?c2 ?c3 ?c4 ?c5 ?_)
      case c1 =>
        intro j u hj
        rw [Lib.add_plain, World.cell?_alloc_at _ _ _ _ (by simp)]
        simpa using hj
      case c2 => intro u hu; simp at hu; subst hu; rfl
      case c3 => unfold maxLen; omega
      case c4 => omega
      case c5 => have := hb.size; simp; omega
      intro v' w1 hown' hgrow _
      have hb3 : Below w.heap.size w w1 := (hb.alloc hb.size _).grown hgrow (by have := hb.size; simp; omega) (fun j hj => (hown.lt j hj).1)
      go_wp2
      go_roundw
      case rel => exact ⟨k + 1, by omega, by go_num, by rw [HY.out] <;> rfl, by rw [HS.out, u8V_snoc, HDN.out]; exact hown', hb3⟩
      case measure => simp [intOf]; omega
    · obtain rfl : k = n := by omega
      have HF := Lib.hid (And.intro hown hb)
      clear hy hown hb
      go_wp2
      go_ret
      exact ⟨_, rfl, HF.out⟩

/-! ### unit.Bytes: an array by value -/
theorem a8Zero : (Tryd.prog.info? 98).map (fun i => (i.zero, i.size)) = some (some (.agg #[.int .u8 0, .int .u8 0, .int .u8 0, .int .u8 0, .int .u8 0, .int .u8 0, .int .u8 0, .int .u8 0]), 8) := by kernel_rfl
def b8 (x : Nat) : Array Value := #[.int .u8 ((x % 256 : Nat) : Int), .int .u8 ((x / 256 % 256 : Nat) : Int), .int .u8 ((x / 65536 % 256 : Nat) : Int), .int .u8 ((x / 16777216 % 256 : Nat) : Int), .int .u8 ((x / 4294967296 % 256 : Nat) : Int), .int .u8 ((x / 1099511627776 % 256 : Nat) : Int), .int .u8 ((x / 281474976710656 % 256 : Nat) : Int), .int .u8 ((x / 72057594037927936 % 256 : Nat) : Int)]
end Go.Proofs.YtncmbbkcpmimjaaDoor
