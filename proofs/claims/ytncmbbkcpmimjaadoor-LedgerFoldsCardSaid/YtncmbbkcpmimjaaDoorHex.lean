/- strconv.FormatUint to the base 16. -/
import Derived.Test.YtncmbbkcpmimjaaDoorRet
import Derived.Shelf.Spec.TrailingZeros
import Derived.Laws.BitsAllLaws
import Derived.Deep.MidRow
import Derived.Deep.WholeRow
import Derived.Lib.Hide
namespace Go.Proofs.YtncmbbkcpmimjaaDoor
open Go.RowKit Law
set_option linter.unusedVariables false

/-! ### plain -/
def hxd (n : Nat) : UInt8 := if n % 16 < 10 then UInt8.ofNat (48 + n % 16) else UInt8.ofNat (87 + n % 16)
/-- So many digits, the highest first. -/
def hexN : Nat → Nat → List UInt8
  | 0, _ => []
  | k + 1, x => hexN k (x / 16) ++ [hxd x]
theorem hexN_len : ∀ k x, (hexN k x).length = k
  | 0, _ => rfl
  | k + 1, x => by show (hexN k (x / 16) ++ [hxd x]).length = _; rw [List.length_append, hexN_len k]; rfl
theorem hexN_add (x : Nat) : ∀ b a, hexN (a + b) x = hexN a (x / 16 ^ b) ++ hexN b x
  | 0, a => by simp [hexN]
  | b + 1, a => by
    show hexN (a + b) (x / 16) ++ [hxd x] = _
    rw [hexN_add (x / 16) b a, Nat.div_div_eq_div_mul, show 16 * 16 ^ b = 16 ^ (b + 1) by rw [Nat.pow_succ]; omega, List.append_assoc]
    rfl
theorem hexN_zero : ∀ k, hexN k 0 = List.replicate k 48
  | 0 => rfl
  | k + 1 => by
    show hexN k (0 / 16) ++ [hxd 0] = _
    rw [Nat.zero_div, hexN_zero k, List.replicate_succ']
    rfl
theorem hexN_head (x j : Nat) : hexN (j + 1) x = hxd (x / 16 ^ j) :: hexN j x := by
  rw [Nat.add_comm, hexN_add]
  rfl
theorem hexN_pad {x j : Nat} (hj : j ≤ 16) (hlt : x < 16 ^ j) : List.replicate (16 - j) 48 ++ hexN j x = hexN 16 x := by
  have h := Nat.div_eq_of_lt hlt
  have := hexN_add x j (16 - j)
  rw [show 16 - j + j = 16 by omega] at this
  rw [this, h, hexN_zero]

/-! ### the walk -/
def T64 (w : World) : Prop := Lib.TabIs Tryd.prog w "math/bits.deBruijn64tab" .u8 bits_deBruijn64tab
theorem T64.below {w w' : World} (h : T64 w) (hb : Below w.heap.size w w') : T64 w' := Joins.tab_stays g_bits_deBruijn64tab h hb (Nat.le_refl _)
theorem T64.of_laid {w : World} (h : laidMet Tryd.prog tables w) : T64 w := tab_bits_deBruijn64tab h
theorem T64.later {w : World} (h : T64 w) (W : Later w) : T64 W.val := h.below W.h
theorem trailing64_16 (w : World) (hT : T64 w) :
    Calls Tryd.prog 82 #[.int .u64 16] w fun e w' => e = .returned (.int .i64 4) ∧ w' = w := by
  have hcell := Lib.TabIs.cell hT g_bits_deBruijn64tab 15 (by decide)
  have e : bits_deBruijn64tab.getD 15 0 = 4 := by decide +kernel
  rw [e] at hcell
  have key : IntKind.u64.wrap (bits BinOp.and IntKind.u64 16 (IntKind.u64.wrap (-16)) * 285870213051353865) / 288230376151711744 = 15 := by decide +kernel
  have key2 : bits BinOp.and IntKind.u64 16 18446744073709551600 = 16 := by decide +kernel
  go_enter Tryd.func82, Tryd.ntmps82
  go_wp2_with (simp only [key])
  go_ret
  exact ⟨rfl, rfl⟩
theorem trailing16 (w : World) (hT : T64 w) :
    Calls Tryd.prog 78 #[.int .u64 16] w fun e w' => e = .returned (.int .i64 4) ∧ w' = w := by
  have C := Lib.hid (trailing64_16 w hT)
  go_enter Tryd.func78, Tryd.ntmps78
  go_wp2_with fail
  refine C.out.mono ?_
  rintro e w' ⟨rfl, rfl⟩
  go_wp2
  go_ret
  exact ⟨rfl, rfl⟩
theorem pow2_16 (w : World) : Calls Tryd.prog 77 #[.int .i64 16] w fun e w' => e = .returned (.bool true) ∧ w' = w := by
  have key : bits BinOp.and IntKind.i64 16 15 = 0 := by decide +kernel
  go_enter Tryd.func77, Tryd.ntmps77
  go_wp2
  go_ret
  exact ⟨rfl, rfl⟩
def IdxDig (d : Nat) : Prop := ∀ W : World, (Instr.index 9 (.string ⟨#[48, 49, 50, 51, 52, 53, 54, 55, 56, 57, 97, 98, 99, 100, 101, 102, 103, 104, 105, 106, 107, 108, 109, 110, 111, 112, 113, 114, 115, 116, 117, 118, 119, 120, 121, 122]⟩) (.int .u64 (d : Int))).run Tryd.prog W = .ok (.int .u8 ((hxd d).toNat : Int)) W
theorem idx0 : IdxDig 0 := fun W => by kernel_rfl
theorem idx1 : IdxDig 1 := fun W => by kernel_rfl
theorem idx2 : IdxDig 2 := fun W => by kernel_rfl
theorem idx3 : IdxDig 3 := fun W => by kernel_rfl
theorem idx4 : IdxDig 4 := fun W => by kernel_rfl
theorem idx5 : IdxDig 5 := fun W => by kernel_rfl
theorem idx6 : IdxDig 6 := fun W => by kernel_rfl
theorem idx7 : IdxDig 7 := fun W => by kernel_rfl
theorem idx8 : IdxDig 8 := fun W => by kernel_rfl
theorem idx9 : IdxDig 9 := fun W => by kernel_rfl
theorem idx10 : IdxDig 10 := fun W => by kernel_rfl
theorem idx11 : IdxDig 11 := fun W => by kernel_rfl
theorem idx12 : IdxDig 12 := fun W => by kernel_rfl
theorem idx13 : IdxDig 13 := fun W => by kernel_rfl
theorem idx14 : IdxDig 14 := fun W => by kernel_rfl
theorem idx15 : IdxDig 15 := fun W => by kernel_rfl
theorem index36 (d : Nat) (hd : d < 16) : IdxDig d := by
  have h : d = 0 ∨ d = 1 ∨ d = 2 ∨ d = 3 ∨ d = 4 ∨ d = 5 ∨ d = 6 ∨ d = 7 ∨ d = 8 ∨ d = 9 ∨ d = 10 ∨ d = 11 ∨ d = 12 ∨ d = 13 ∨ d = 14 ∨ d = 15 := by omega
  rcases h with rfl | rfl | rfl | rfl | rfl | rfl | rfl | rfl | rfl | rfl | rfl | rfl | rfl | rfl | rfl | rfl
  · exact idx0
  · exact idx1
  · exact idx2
  · exact idx3
  · exact idx4
  · exact idx5
  · exact idx6
  · exact idx7
  · exact idx8
  · exact idx9
  · exact idx10
  · exact idx11
  · exact idx12
  · exact idx13
  · exact idx14
  · exact idx15
/-- The bytes that are written, from p on to the end (65). -/
def HexAt (w : World) (B p : Nat) (l : List UInt8) : Prop := p + l.length = 65 ∧ (∀ q b, l[q]? = some b → w.cell? ⟨B, p + q, none⟩ = some (.int .u8 (b.toNat : Int))) ∧ ∀ q, q < 65 → (∃ v, w.cell? ⟨B, q, none⟩ = some v) ∧ w.frozen? ⟨B, q, none⟩ = false
theorem HexAt.put {w : World} {B p : Nat} {l : List UInt8} (h : HexAt w B (p + 1) l) (b : UInt8) : HexAt (w.setCell ⟨B, p, none⟩ (.int .u8 (b.toNat : Int))) B p (b :: l) := by
  obtain ⟨h1, h2, h3⟩ := h
  refine ⟨by simp; omega, fun q c hq => ?_, fun q hq => ?_⟩
  · match q, hq with
    | 0, hq =>
      simp at hq
      subst hq
      obtain ⟨⟨v, hv⟩, _⟩ := h3 p (by omega)
      exact World.cell?_setCell_same' _ _ _ (by rw [hv]; rfl)
    | q + 1, hq =>
      rw [World.cell?_setCell_other _ _ _ _ (by simp)]
      have := h2 q c (by simpa using hq)
      rwa [show p + 1 + q = p + (q + 1) by omega] at this
  · obtain ⟨⟨v, hv⟩, hf⟩ := h3 q hq
    refine ⟨?_, by rw [World.frozen?_setCell]; exact hf⟩
    by_cases hpq : q = p
    · subst hpq
      exact ⟨_, World.cell?_setCell_same' _ _ _ (by rw [hv]; rfl)⟩
    · exact ⟨v, by rw [World.cell?_setCell_other _ _ _ _ (fun e => by injection e with _ e2; omega)]; exact hv⟩
theorem arr65 : (Tryd.prog.info? 120).map (fun i => (i.zero, i.size)) = some (some (.agg (Array.replicate 65 (.int .u8 0))), 65) := by kernel_rfl
set_option maxHeartbeats 3200000 in
set_option maxRecDepth 100000 in
theorem fmtBits16 (x : Nat) (hx : x < 18446744073709551616) (w : World) (hT : T64 w) :
    Calls Tryd.prog 66 #[.slice none 0 0, .int .u64 x, .int .i64 16, .bool false, .bool false] w fun e w' => ∃ j, j < 16 ∧ x < 16 ^ (j + 1) ∧ e = .returned (.tuple #[.slice none 0 0, .string ⟨(hexN (j + 1) x).toArray⟩]) ∧ Below w.heap.size w w' := by
  obtain ⟨hz, hsz⟩ := zero_of_info arr65
  have hb0 : Below w.heap.size w (w.alloc (.cells (Array.replicate 65 (.int .u8 0)) 120)) := (Below.refl _ _).alloc (Nat.le_refl _) _
  have H0 : HexAt (w.alloc (.cells (Array.replicate 65 (.int .u8 0)) 120)) w.heap.size 65 [] := ⟨rfl, fun q b h => by simp at h, fun q hq => ⟨⟨.int .u8 0, by rw [World.cell?_alloc_at _ _ _ _ rfl]; simp [hq]⟩, by simp⟩⟩
  have C1 := Lib.hid (trailing16 (w.alloc (.cells (Array.replicate 65 (.int .u8 0)) 120)) (hT.below hb0))
  have hp2 := pow2_16
  have HH := Lib.hid (And.intro hb0 H0)
  clear hb0 H0
  go_enter Tryd.func66, Tryd.ntmps66
  go_wp2_with (first | (go_at_call 77; refine (hp2 _).mono ?_; rintro e w' ⟨rfl, rfl⟩) | (go_at_call 78; refine C1.out.mono ?_; rintro e w' ⟨rfl, rfl⟩))
  go_loopw [1, 13] (fun u i wr => ∃ (j p : Nat) (l : List UInt8), j ≤ 15 ∧ p + j = 65 ∧ u = .int .u64 ((x / 16 ^ j : Nat) : Int) ∧ i = .int .i64 (p : Int) ∧ l = hexN j x ∧ HexAt wr w.heap.size p l ∧ Below w.heap.size w wr) (fun _ i _ => (intOf i).toNat)
  case atStart => exact ⟨0, 65, [], by omega, rfl, by simp, rfl, rfl, HH.out.2, HH.out.1⟩
  case round =>
    obtain ⟨j, p, l, hj, hp, rfl, rfl, hl, hx1, hb⟩ := hrel
    obtain ⟨y, hy⟩ : ∃ y, x / 16 ^ j = y := ⟨_, rfl⟩
    rw [hy]
    obtain ⟨q, hq⟩ : ∃ q, p = q + 1 := ⟨p - 1, by omega⟩
    have hpq : (p : Int) - 1 = (q : Int) := by omega
    have hq65 : q < 65 := by omega
    obtain ⟨v0, hc0⟩ := (hx1.2.2 q hq65).1
    have hf0 := (hx1.2.2 q hq65).2
    have hyx : y < 18446744073709551616 := by rw [← hy]; exact Nat.lt_of_le_of_lt (Nat.div_le_self _ _) hx
    have HY := Lib.hid (And.intro hy (And.intro hl (And.intro hx1 hb)))
    have hy2 : x / 16 ^ (j + 1) = y / 16 := by rw [← hy, Nat.div_div_eq_div_mul, Nat.pow_succ]
    have HY2 := Lib.hid hy2
    clear hl hx1 hb
    by_cases hge : 16 ≤ y
    · have hj14 : j ≤ 14 := by
        by_cases h15 : j = 15
        · subst h15; omega
        · omega
      obtain ⟨d, hd⟩ : ∃ d, y % 16 = d := ⟨_, rfl⟩
      have hd16 : d < 16 := by omega
      have hand : bits .and .u64 (y : Int) 15 = (d : Int) := by
        have h := u64_and_nat y 15 hyx (by decide)
        rw [nat_mask4, hd] at h
        exact h
      have hix := index36 d hd16
      unfold IdxDig at hix
      have HD := Lib.hid hd
      clear hy hy2 hd
      go_wp2
      go_roundw
      case rel =>
        have hxd2 : hxd d = hxd y := by rw [← HD.out]; unfold hxd; rw [Nat.mod_mod]
        refine ⟨j + 1, q, hxd d :: l, by omega, by omega, by rw [HY2.out]; rfl, rfl, ?_, ?_, HY.out.2.2.2.setCell (p := ⟨w.heap.size, q, none⟩) (Nat.le_refl _) _⟩
        · rw [hexN_head, HY.out.1, HY.out.2.1, hxd2]
        · have h := HY.out.2.2.1
          rw [hq] at h
          exact h.put (hxd d)
      case measure => simp [intOf]; omega
    · have hix := index36 y (by omega)
      unfold IdxDig at hix
      have hal : Tryd.prog.arrayLen 120 = 65 := by kernel_rfl
      obtain ⟨W9, hW9⟩ : ∃ W9, wr.setCell ⟨w.heap.size, q, none⟩ (.int .u8 ((hxd y).toNat : Int)) = W9 := ⟨_, rfl⟩
      have hput : HexAt W9 w.heap.size q (hexN (j + 1) x) := by
        have h := HY.out.2.2.1
        rw [hq] at h
        have h2 := h.put (hxd y)
        rw [hW9, HY.out.2.1, ← HY.out.1, ← hexN_head] at h2
        exact h2
      have hlen : (hexN (j + 1) x).length = 65 - q := by have := hput.1; omega
      have hsl : (Instr.sliceAt 120 (.pointer (some ⟨w.heap.size, 0, none⟩)) (some (.int .i64 (q : Int))) none none).run Tryd.prog W9 = .ok (.slice (some ⟨w.heap.size, q, none⟩) (65 - q) (65 - q)) W9 := by
        rw [run_sliceAt_array_l W9 120 ⟨w.heap.size, 0, none⟩ (by simp [Program.arrayLen, Program.elem, Tryd.underlying120]) .i64 (q : Int) (by omega) (by rw [hal]; omega)]
        have he : Tryd.prog.elem 120 = 5 := by kernel_rfl
        rw [he, hal]
        have hne : ¬ q = 65 := by omega
        have hne2 : ¬ 65 = q := by omega
        simp [go_sem, Tryd.sizeOf5, Addr.add, slicedAt, hne, hne2]
        try omega
      have hcv : (convert 29 9 (.slice (some ⟨w.heap.size, q, none⟩) (65 - q) (65 - q))).run Tryd.prog W9 = .ok (.string ⟨(hexN (j + 1) x).toArray⟩) W9 := by
        have h := run_convert_bytes_back (P := Tryd.prog) W9 29 9 5 ⟨w.heap.size, q, none⟩ (65 - q) (hexN (j + 1) x) Tryd.underlying29 Tryd.underlying5 Tryd.underlying9 (fun k hk => by
          rw [Lib.add_plain]
          exact hput.2.1 k _ (List.getElem?_eq_getElem hk))
        rw [hlen] at h
        exact h
      have HB : Hid (Below w.heap.size w W9) := by
        unfold Hid
        rw [← hW9]
        exact HY.out.2.2.2.setCell (p := ⟨w.heap.size, q, none⟩) (Nat.le_refl _) _
      have HZ : Hid (x < 16 ^ (j + 1)) := by
        unfold Hid
        refine (Nat.div_eq_zero_iff_lt (Nat.pow_pos (by decide))).1 ?_
        rw [HY2.out]; omega
      clear hy hy2 hal hput hlen
      go_wp2
      refine bodyPost_ret (v := .tuple #[.slice none 0 0, .string ⟨(hexN (j + 1) x).toArray⟩]) (by simp [results, Tryd.results66, go_sem]) rfl ⟨j, by omega, HZ.out, rfl, HB.out⟩
/-- FormatUint to the base 16. -/
def Hex16 (x : Nat) (w : World) (e : Ending) (w' : World) : Prop := ∃ j, j < 16 ∧ x < 16 ^ (j + 1) ∧ e = .returned (.string ⟨(hexN (j + 1) x).toArray⟩) ∧ Below w.heap.size w w'
theorem fmtUint16In (x : Nat) (hx : x < 18446744073709551616) (w : World) (hT : T64 w) :
    Calls Tryd.prog 46 #[.int .u64 x, .int .i64 16] w (Hex16 x w) := by
  have C := Lib.hid (fmtBits16 x hx w hT)
  go_enter Tryd.func46, Tryd.ntmps46
  go_wp2_with fail
  refine C.out.mono ?_
  rintro e w' ⟨j, hj, hz, rfl, hb⟩
  have H := Lib.hid (And.intro hz hb)
  clear hz hb
  go_wp2
  go_ret
  exact ⟨j, hj, H.out.1, rfl, H.out.2⟩
theorem fmtUint16 (x : Nat) (hx : x < 18446744073709551616) (w : World) (hT : T64 w) :
    Calls Tryd.prog 29 #[.int .u64 x, .int .i64 16] w (Hex16 x w) := by
  have C := Lib.hid (fmtUint16In x hx w hT)
  go_enter Tryd.func29, Tryd.ntmps29
  go_wp2_with fail
  refine C.out.mono ?_
  rintro e w' ⟨j, hj, hz, rfl, hb⟩
  have H := Lib.hid (And.intro hz hb)
  clear hz hb
  go_wp2
  go_ret
  exact ⟨j, hj, H.out.1, rfl, H.out.2⟩
end Go.Proofs.YtncmbbkcpmimjaaDoor
