/- unit.Number: the number that has these eight bytes. -/
import Derived.Test.YtncmbbkcpmimjaaDoorBufI
import Derived.Test.YtncmbbkcpmimjaaDoorLdOf
namespace Go.Proofs.YtncmbbkcpmimjaaDoor
open Go.RowKit Law
set_option linter.unusedVariables false

def leN : List UInt8 → Nat
  | [] => 0
  | c :: l => c.toNat + 256 * leN l
theorem leN_lt : ∀ l : List UInt8, leN l < 256 ^ l.length
  | [] => by simp [leN]
  | c :: l => by
    have := leN_lt l
    have hc : c.toNat < 256 := UInt8.toNat_lt c
    show c.toNat + 256 * leN l < 256 ^ (l.length + 1)
    rw [Nat.pow_succ]
    omega
theorem leN_snoc : ∀ (l : List UInt8) (c : UInt8), leN (l ++ [c]) = leN l + c.toNat * 256 ^ l.length
  | [], c => by simp [leN]
  | d :: l, c => by
    show d.toNat + 256 * leN (l ++ [c]) = d.toNat + 256 * leN l + c.toNat * 256 ^ (l.length + 1)
    rw [leN_snoc l c, Nat.pow_succ, Nat.mul_add]
    have : 256 * (c.toNat * 256 ^ l.length) = c.toNat * (256 ^ l.length * 256) := by rw [← Nat.mul_assoc, Nat.mul_comm 256, Nat.mul_assoc, Nat.mul_comm 256]
    omega
theorem or_low {x c s : Nat} (hx : x < 2 ^ s) : x ||| (c * 2 ^ s) = x + c * 2 ^ s := by
  rw [Nat.or_comm, Nat.mul_comm, ← Nat.two_pow_add_eq_or_of_lt hx c, Nat.add_comm]
set_option maxHeartbeats 1600000 in
set_option maxRecDepth 100000 in
theorem unitNumber (l : List UInt8) (hl : l.length = 8) (w : World) :
    Calls Tryd.prog 60 #[.agg (u8V l).toArray] w fun e w' => e = .returned (.int .u64 (leN l : Int)) ∧ Below w.heap.size w w' := by
  have hA : ∀ k (hk : k < 8), (w.alloc (.cells (u8V l).toArray 98)).cell? ⟨w.heap.size, k, none⟩ = some (.int .u8 ((l[k]'(by omega)).toNat : Int)) := fun k hk => by
    rw [World.cell?_alloc_at _ _ _ _ rfl]
    unfold u8V
    have : k < l.length := by omega
    simp [this]
  go_enter Tryd.func60, Tryd.ntmps60
  go_wp2
  go_loopw [3, 5] (fun x i wr => ∃ k : Nat, k ≤ 8 ∧ i = .int .i64 k ∧ x = .int .u64 (leN (l.take k) : Int) ∧ wr = w.alloc (.cells (u8V l).toArray 98)) (fun _ i _ => 8 - (intOf i).toNat)
  case atStart => exact ⟨0, Nat.zero_le _, rfl, rfl, rfl⟩
  case round =>
    obtain ⟨k, hk, rfl, rfl, rfl⟩ := hrel
    by_cases hlt : k < 8
    · have hlt' : k < l.length := by omega
      have hc := hA k hlt
      have hsn := leN_snoc (l.take k) l[k]
      have hxl := leN_lt (l.take k)
      rw [← List.take_succ_eq_append_getElem hlt'] at hsn
      rw [List.length_take, Nat.min_eq_left (by omega)] at hsn hxl
      obtain ⟨c, hce⟩ : ∃ c, (l[k]).toNat = c := ⟨_, rfl⟩
      have hc8 : c < 256 := by rw [← hce]; exact UInt8.toNat_lt _
      obtain ⟨X, hX⟩ : ∃ X, leN (l.take k) = X := ⟨_, rfl⟩
      rw [hce] at hc hsn
      rw [hX] at hsn hxl ⊢
      have HS := Lib.hid hsn
      clear hA hce hX hsn
      have hor : ∀ s m : Nat, s ≤ 64 → X < 2 ^ s → m = c * 2 ^ s → m < 18446744073709551616 → bits .or .u64 (X : Int) (m : Int) = ((X + m : Nat) : Int) := fun s m hs64 h1 h2 h3 => by
        have hx64 : X < 18446744073709551616 := Nat.lt_of_lt_of_le h1 (Nat.le_trans (Nat.pow_le_pow_right (by decide) hs64) (by decide))
        rw [u64_or_nat X m hx64 h3, h2, or_low h1]
      have HO := Lib.hid hor
      clear hor
      have h8 : k = 0 ∨ k = 1 ∨ k = 2 ∨ k = 3 ∨ k = 4 ∨ k = 5 ∨ k = 6 ∨ k = 7 := by omega
      rcases h8 with rfl | rfl | rfl | rfl | rfl | rfl | rfl | rfl
      · have hb : bits .or .u64 (X : Int) (c : Int) = ((X + c : Nat) : Int) := HO.out 0 c (by omega) (by simpa using hxl) (by omega) (by omega)
        go_wp2
        go_roundw
        case rel => exact ⟨1, by omega, by go_num, by rw [HS.out]; exact congrArg (Value.int .u64) (by omega), by first | rfl | trivial⟩
        case measure => simp [intOf]
      · have hb : bits .or .u64 (X : Int) ((c : Int) * 256) = ((X + c * 256 : Nat) : Int) := HO.out 8 (c * 256) (by omega) (by omega) (by omega) (by omega)
        go_wp2
        go_roundw
        case rel => exact ⟨2, by omega, by go_num, by rw [HS.out]; exact congrArg (Value.int .u64) (by omega), by first | rfl | trivial⟩
        case measure => simp [intOf]
      · have hb : bits .or .u64 (X : Int) ((c : Int) * 65536) = ((X + c * 65536 : Nat) : Int) := HO.out 16 (c * 65536) (by omega) (by omega) (by omega) (by omega)
        go_wp2
        go_roundw
        case rel => exact ⟨3, by omega, by go_num, by rw [HS.out]; exact congrArg (Value.int .u64) (by omega), by first | rfl | trivial⟩
        case measure => simp [intOf]
      · have hb : bits .or .u64 (X : Int) ((c : Int) * 16777216) = ((X + c * 16777216 : Nat) : Int) := HO.out 24 (c * 16777216) (by omega) (by omega) (by omega) (by omega)
        go_wp2
        go_roundw
        case rel => exact ⟨4, by omega, by go_num, by rw [HS.out]; exact congrArg (Value.int .u64) (by omega), by first | rfl | trivial⟩
        case measure => simp [intOf]
      · have hb : bits .or .u64 (X : Int) ((c : Int) * 4294967296) = ((X + c * 4294967296 : Nat) : Int) := HO.out 32 (c * 4294967296) (by omega) (by omega) (by omega) (by omega)
        go_wp2
        go_roundw
        case rel => exact ⟨5, by omega, by go_num, by rw [HS.out]; exact congrArg (Value.int .u64) (by omega), by first | rfl | trivial⟩
        case measure => simp [intOf]
      · have hb : bits .or .u64 (X : Int) ((c : Int) * 1099511627776) = ((X + c * 1099511627776 : Nat) : Int) := HO.out 40 (c * 1099511627776) (by omega) (by omega) (by omega) (by omega)
        go_wp2
        go_roundw
        case rel => exact ⟨6, by omega, by go_num, by rw [HS.out]; exact congrArg (Value.int .u64) (by omega), by first | rfl | trivial⟩
        case measure => simp [intOf]
      · have hb : bits .or .u64 (X : Int) ((c : Int) * 281474976710656) = ((X + c * 281474976710656 : Nat) : Int) := HO.out 48 (c * 281474976710656) (by omega) (by omega) (by omega) (by omega)
        go_wp2
        go_roundw
        case rel => exact ⟨7, by omega, by go_num, by rw [HS.out]; exact congrArg (Value.int .u64) (by omega), by first | rfl | trivial⟩
        case measure => simp [intOf]
      · have hb : bits .or .u64 (X : Int) ((c : Int) * 72057594037927936) = ((X + c * 72057594037927936 : Nat) : Int) := HO.out 56 (c * 72057594037927936) (by omega) (by omega) (by omega) (by omega)
        go_wp2
        go_roundw
        case rel => exact ⟨8, by omega, by go_num, by rw [HS.out]; exact congrArg (Value.int .u64) (by omega), by first | rfl | trivial⟩
        case measure => simp [intOf]
    · obtain rfl : k = 8 := by omega
      clear hA
      rw [List.take_of_length_le (by omega)]
      go_wp2
      go_ret
      exact ⟨rfl, (Below.refl _ _).alloc (Nat.le_refl _) _⟩
end Go.Proofs.YtncmbbkcpmimjaaDoor
