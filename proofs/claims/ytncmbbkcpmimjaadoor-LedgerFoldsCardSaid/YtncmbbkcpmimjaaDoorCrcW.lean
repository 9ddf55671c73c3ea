/- crc.More and the reference's Sum, walked. -/
import Derived.Test.YtncmbbkcpmimjaaDoorCrc
namespace Go.Proofs.YtncmbbkcpmimjaaDoor
open Go.RowKit Law
set_option linter.unusedVariables false

theorem stp_odd {y : Nat} (h : y % 2 = 1) : stp y = y / 2 ^^^ P32 := if_pos h
theorem stp_evn {y : Nat} (h : y % 2 = 0) : stp y = y / 2 := if_neg (by omega)
theorem xorH {y : Nat} (hy : y < 4294967296) : bits .xor .u32 ((y : Int) / 2) 3988292384 = ((y / 2 ^^^ P32 : Nat) : Int) := by
  rw [show (y : Int) / 2 = ((y / 2 : Nat) : Int) by omega]
  exact xorP_bits (by omega)
set_option maxHeartbeats 800000 in
theorem halve (x : Nat) (hx : x < 4294967296) (w : World) : Calls Tryd.prog 73 #[.int .u32 (x : Int)] w fun e w' => e = .returned (.int .u32 (stpN 8 x : Nat)) ∧ w' = w := by
  go_enter Tryd.func73, Tryd.ntmps73
  go_wp2
  go_loopw [0, 3] (fun v i wr => ∃ k y : Nat, k ≤ 8 ∧ i = .int .i64 k ∧ v = .int .u32 (y : Int) ∧ y < 4294967296 ∧ stpN (8 - k) y = stpN 8 x ∧ wr = w) (fun _ i _ => 8 - (intOf i).toNat)
  case atStart => exact ⟨0, x, by omega, rfl, rfl, hx, rfl, rfl⟩
  case round =>
    obtain ⟨k, y, hk, rfl, rfl, hy, hs, rfl⟩ := hrel
    by_cases hlt : k < 8
    · have e1 : 8 - k = (8 - (k + 1)) + 1 := by omega
      have hs' := Lib.hid (show stpN (8 - (k + 1)) (stp y) = stpN 8 x by rw [← hs, e1]; rfl)
      have hl := Lib.hid (stp_lt hy)
      clear hs e1
      by_cases hp : y % 2 = 1
      · have hb : bits .and .u32 (y : Int) 1 = 1 := by rw [and1_bits hy, hp]; rfl
        have HP := Lib.hid (stp_odd hp)
        have hxx := xorH hy
        clear hp
        go_wp2
        go_roundw
        case rel => exact ⟨k + 1, stp y, by omega, by go_num, by rw [HP.out], hl.out, hs'.out, trivial⟩
        case measure => simp [intOf]; omega
      · have hp0 : y % 2 = 0 := by omega
        have hb : bits .and .u32 (y : Int) 1 = 0 := by rw [and1_bits hy, hp0]; rfl
        have HP := Lib.hid (stp_evn hp0)
        clear hp hp0
        go_wp2
        go_roundw
        case rel => exact ⟨k + 1, stp y, by omega, by go_num, by rw [HP.out]; rfl, hl.out, hs'.out, trivial⟩
        case measure => simp [intOf]; omega
    · obtain rfl : k = 8 := by omega
      have hs' := Lib.hid hs
      clear hs
      go_wp2
      go_ret
      exact ⟨ret_int (by have := hs'.out; rw [← this]; rfl), rfl⟩

/-- A slice value's address and the bytes that it reads as. -/
def U8At (w : World) (A : Option Addr) (l : List UInt8) : Prop :=
  ∀ (k : Nat) (b : UInt8), l[k]? = some b → ∃ blk off, A = some ⟨blk, off, none⟩ ∧ w.cell? ⟨blk, off + k, none⟩ = some (.int .u8 b.toNat)
theorem U8At.at_ {w : World} {A : Option Addr} {l : List UInt8} (h : U8At w A l) {k : Nat} (hk : k < l.length) : ∃ blk off, A = some ⟨blk, off, none⟩ ∧ w.cell? ⟨blk, off + k, none⟩ = some (.int .u8 l[k].toNat) := h k l[k] (List.getElem?_eq_getElem hk)

set_option maxHeartbeats 800000 in
theorem crcMore {n : Nat} (c : Nat) (hc : c < 4294967296) (A : Option Addr) (cap : Nat) (l : List UInt8) (hn : l.length = n) (hm : n ≤ 1000000) (w : World) (hA : U8At w A l) :
    Calls Tryd.prog 61 #[.int .u32 (c : Int), .slice A n cap] w fun e w' => e = .returned (.int .u32 (notC (foldC (notC c) l) : Nat)) ∧ w' = w := by
  have HN := Lib.hid hn
  have hnot := not_bits hc
  clear hn
  go_enter Tryd.func61, Tryd.ntmps61
  go_wp2
  go_loopw [5, 12] (fun v i wr => ∃ k : Nat, k ≤ n ∧ i = .int .i64 k ∧ v = .int .u32 (foldC (notC c) (l.take k) : Nat) ∧ wr = w) (fun _ i _ => n - (intOf i).toNat)
  case atStart => exact ⟨0, Nat.zero_le _, rfl, rfl, rfl⟩
  case round =>
    obtain ⟨k, hk, rfl, rfl, rfl⟩ := hrel
    have hfl := foldC_lt (l.take k) (notC_lt c)
    by_cases hlt : k < n
    · have hlt' : k < l.length := by rw [HN.out]; exact hlt
      obtain ⟨blk, off, rfl, hcell⟩ := hA.at_ hlt'
      have HS := Lib.hid (foldC_snoc (notC c) l k hlt')
      have hb := l[k].toNat_lt
      generalize l[k].toNat = b at *
      generalize foldC (notC c) (l.take k) = f at *
      have hb' : b < 256 := hb
      have hx1 := xor_bits hfl (show b < 4294967296 by omega)
      have hxl : f ^^^ b < 4294967296 := by
        have : f ^^^ b < 2 ^ 32 := Nat.xor_lt_two_pow (by omega) (by omega)
        omega
      have ha1 := and255_bits hxl
      have hsl := stpN_lt 8 (x := (f ^^^ b) % 256) (by omega)
      have H2 := fun wx => halve ((f ^^^ b) % 256) (by omega) wx
      have hx2 : bits .xor .u32 ((f : Int) / 256) (stpN 8 ((f ^^^ b) % 256) : Nat) = (byteC f b : Nat) := by
        rw [show (f : Int) / 256 = ((f / 256 : Nat) : Int) by omega]
        exact xor_bits (by omega) hsl
      have HH := Lib.hid H2
      clear H2
      go_wp2_with (go_at_call 73; refine (HH.out _).mono ?_; rintro e w1 ⟨rfl, rfl⟩)
      go_roundw
      case rel => exact ⟨k + 1, by omega, by go_num, by rw [HS.out], trivial⟩
      case measure => simp [intOf]; omega
    · have ht : l.take k = l := List.take_of_length_le (by rw [HN.out]; omega)
      rw [ht] at hfl ⊢
      clear ht
      have hnot2 := not_bits hfl
      go_wp2
      go_ret
      exact ⟨rfl, rfl⟩

set_option maxHeartbeats 800000 in
theorem refStep (c bit : Nat) (hc : c < 4294967296) (hb : bit < 2) (w : World) : Calls Tryd.prog 62 #[.int .u32 (c : Int), .int .u32 (bit : Int)] w fun e w' => e = .returned (.int .u32 (stepR c bit : Nat)) ∧ w' = w := by
  by_cases h : c % 2 = bit
  · have E := Lib.hid (show stepR c bit = c / 2 from if_pos h)
    have he : (c : Int) % 2 = (bit : Int) := by omega
    have he2 : ((c : Int) % 2 == (bit : Int)) = true := by simpa using he
    clear h he
    go_enter Tryd.func62, Tryd.ntmps62
    go_wp2
    go_ret
    exact ⟨ret_int (by rw [E.out]; rfl), rfl⟩
  · have E := Lib.hid (show stepR c bit = c / 2 ^^^ P32 from if_neg h)
    have he : ¬ (c : Int) % 2 = (bit : Int) := by omega
    have he2 : ((c : Int) % 2 == (bit : Int)) = false := by simpa using he
    have hx := xorH hc
    clear h he
    go_enter Tryd.func62, Tryd.ntmps62
    go_wp2
    go_ret
    exact ⟨ret_int (by rw [E.out]), rfl⟩
end Go.Proofs.YtncmbbkcpmimjaaDoor
