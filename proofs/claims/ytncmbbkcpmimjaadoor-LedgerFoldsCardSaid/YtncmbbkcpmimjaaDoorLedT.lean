/- The text of a ledger. -/
import Derived.Test.YtncmbbkcpmimjaaDoorLedA
namespace Go.Proofs.YtncmbbkcpmimjaaDoor
open Go.RowKit Law
set_option linter.unusedVariables false

def partK (l : Ld) (k : Nat) : List UInt8 := if l.of.getD k 0 = 0 then [] else [32] ++ Lib.itoa (k : Int) ++ [58] ++ Lib.itoa ((l.of.getD k 0 : Nat) : Int)
def accK (l : Ld) : Nat → List UInt8
  | 0 => Lib.itoa l.count ++ [32] ++ hexN 16 l.sum
  | k + 1 => accK l k ++ partK l k
def textL (l : Ld) (n : Int) : List UInt8 := accK l (clampN n)
theorem itoa_dec {z : Int} (h : 0 ≤ z) : Lib.itoa z = Lib.decDigits z.toNat := by
  unfold Lib.itoa
  rw [if_neg (by omega)]
theorem itoa_nat (n : Nat) : Lib.itoa (n : Int) = Lib.decDigits n := itoa_dec (by omega)
theorem repeat_one (c : Nat) : Lib.repeatL [48] c = List.replicate c 48 := by
  induction c with
  | zero => rfl
  | succ c ih => simp [Lib.repeatL, ih, List.replicate_succ]
set_option maxHeartbeats 3200000 in
set_option maxRecDepth 100000 in
theorem ledText (l : Ld) (hf : l.Fits) (n : Int) (w : World) (hP : P10 w) (hT : T64 w) :
    Calls Tryd.prog 11 #[l.val, .int .i64 n] w fun e w' => e = .returned (.string ⟨(textL l n).toArray⟩) ∧ Below w.heap.size w w' := by
  have hA0 := LdAt.new w l 26
  have hb0 : Below w.heap.size w (w.alloc (.cells l.cells.toArray 26)) := (Below.refl _ _).alloc (Nat.le_refl _) _
  have h1 := hA0.sum
  have C1 := Lib.hid (fmtUint16 l.sum hf.s (w.alloc (.cells l.cells.toArray 26)) (hT.below hb0))
  have H0 := Lib.hid (And.intro hA0 hb0)
  clear hA0 hb0
  unfold Ld.val
  go_enter Tryd.func11, Tryd.ntmps11
  go_wp2_with fail
  refine C1.out.mono ?_
  rintro e w1 ⟨j, hj, hx, rfl, hb1⟩
  obtain ⟨T, hT⟩ : ∃ T, hexN (j + 1) l.sum = T := ⟨_, rfl⟩
  have hTl : T.length = j + 1 := by rw [← hT]; exact hexN_len _ _
  obtain ⟨m, hm⟩ : ∃ m, m = 15 - j := ⟨_, rfl⟩
  have hm2 : 16 - ((j : Int) + 1) = (m : Int) := by omega
  obtain ⟨R, hR⟩ : ∃ R : List UInt8, List.replicate m 48 = R := ⟨_, rfl⟩
  have HS : Hid (R ++ T = hexN 16 l.sum) := by
    unfold Hid
    rw [← hR, ← hT, ← hexN_pad (j := j + 1) (by omega) hx, show m = 16 - (j + 1) by omega]
  have HRR := Lib.hid hR
  have hRl : R.length = m := by rw [← hR, List.length_replicate]
  have hm15 : m ≤ 15 := by omega
  rw [hT]
  have hb2 := H0.out.2.trans (hb1.mono (by simp))
  have h0 := (H0.out.1.below hb1).count
  have HB1 := Lib.hid (And.intro hb2 (H0.out.1.below hb1))
  obtain ⟨D, hD⟩ : ∃ D, Lib.itoa l.count = D := ⟨_, rfl⟩
  have hDl : (D.length : Int) ≤ 21 := by rw [← hD]; exact itoa_len hf.c0 hf.c1
  have C2 := Lib.hid (fmtInt l.count hf.c0 hf.c1 w1 (hP.below hb2))
  rw [hD] at C2
  have HD := Lib.hid hD
  clear hb1 hb2 hT hx h1 hD hm hR
  go_wp2_with fail
  refine C2.out.mono ?_
  rintro e w2 ⟨rfl, hb2⟩
  have HB2 := Lib.hid (And.intro (HB1.out.1.trans (hb2.mono HB1.out.1.size)) (HB1.out.2.below hb2))
  have C3 := Lib.hid (Tryd.strings_Repeat ⟨#[48]⟩ m w2 (by omega) (by have : (⟨#[48]⟩ : ByteArray).size = 1 := rfl; rw [this]; omega))
  rw [show (⟨#[48]⟩ : ByteArray).data.toList = [48] from rfl, repeat_one, HRR.out] at C3
  clear hb2 h0
  go_wp2_with fail
  refine C3.out.mono ?_
  rintro e w3 ⟨rfl, hb3⟩
  have HB3 := Lib.hid (And.intro (HB2.out.1.trans (hb3.mono HB2.out.1.size)) (HB2.out.2.below hb3))
  clear hb3
  go_wp2_with fail
  refine (ledNodes n _).mono ?_
  rintro e w4 ⟨rfl, rfl⟩
  have hq64 := clampN_le n
  obtain ⟨q, hq⟩ : ∃ q, clampN n = q := ⟨_, rfl⟩
  rw [hq] at hq64 ⊢
  have HQ := Lib.hid hq
  have hal : Tryd.prog.arrayLen 24 = 64 := by kernel_rfl
  have hsl : (Instr.sliceAt 24 (.pointer (some ⟨w.heap.size, 2, none⟩)) none (some (.int .i64 (q : Int))) none).run Tryd.prog w3 = .ok (.slice (some ⟨w.heap.size, 2, none⟩) q 64) w3 := by
    rw [run_sliceAt_array_h w3 24 ⟨w.heap.size, 2, none⟩ (by simp [Program.arrayLen, Program.elem, Tryd.underlying24]) .i64 (q : Int) (by omega) (by rw [hal]; omega)]
    have he : Tryd.prog.elem 24 = 23 := by kernel_rfl
    rw [he, hal]
    simp [go_sem, Tryd.sizeOf23, Addr.add, slicedAt]
  have HS0 : Hid (accK l 0 = D ++ [32] ++ (R ++ T)) := by
    unfold Hid
    rw [HS.out, ← HD.out]
    rfl
  clear hq hal hm2
  go_wp2
  go_loopw [6, 28] (fun t i wr => ∃ (k : Nat) (S : List UInt8), k ≤ q ∧ i = .int .i64 k ∧ t = .string ⟨S.toArray⟩ ∧ S = accK l k ∧ (S.length : Int) ≤ 60 + 50 * k ∧ Below w.heap.size w wr ∧ LdAt wr w.heap.size l) (fun _ i _ => q - (intOf i).toNat)
  case atStart =>
    refine ⟨0, D ++ [32] ++ (R ++ T), Nat.zero_le _, rfl, ?_, HS0.out.symm, ?_, HB3.out.1, HB3.out.2⟩
    · show Value.string ((⟨D.toArray⟩ : ByteArray) ++ ⟨[32].toArray⟩ ++ ⟨R.toArray⟩ ++ ⟨T.toArray⟩) = _
      rw [str_app, str_app, str_app, List.append_assoc]
    · simp only [List.length_append, List.length_cons, List.length_nil]; omega
  case round =>
    obtain ⟨k, S, hk, rfl, rfl, hS, hSl, hb, hA⟩ := hrel
    have HB := Lib.hid (And.intro hS (And.intro hb hA))
    by_cases hlt : k < q
    · have hlt' : k < l.of.length := by rw [hf.n]; omega
      have hc := hA.of hlt'
      have hcf := hf.o _ (List.getElem_mem hlt')
      obtain ⟨c, hce⟩ : ∃ c, l.of[k] = c := ⟨_, rfl⟩
      have hgd : l.of.getD k 0 = c := by rw [List.getD_eq_getElem?_getD, List.getElem?_eq_getElem hlt', hce]; rfl
      rw [hce] at hc hcf
      have HG := Lib.hid hgd
      have hb2 := hP.below hb
      clear hS hb hA hce hgd
      by_cases hc0 : c = 0
      · subst hc0
        have HP : Hid (accK l (k + 1) = accK l k) := by
          unfold Hid
          show accK l k ++ partK l k = _
          unfold partK
          rw [if_pos HG.out, List.append_nil]
        clear HG
        go_wp2
        go_roundw
        case rel => exact ⟨k + 1, S, by omega, by go_num, rfl, by rw [HP.out]; exact HB.out.1, by omega, HB.out.2.1, HB.out.2.2⟩
        case measure => simp [intOf]; omega
      · have hcp : (0 : Int) < (c : Int) := by omega
        obtain ⟨I, hI⟩ : ∃ I, Lib.itoa (k : Int) = I := ⟨_, rfl⟩
        obtain ⟨F, hF⟩ : ∃ F, Lib.decDigits c = F := ⟨_, rfl⟩
        have hIl : (I.length : Int) ≤ 21 := by rw [← hI]; exact itoa_len (by omega) (by omega)
        have hFl : (F.length : Int) ≤ 20 := by rw [← hF]; exact dec_len' c (by omega)
        have C5 := Lib.hid (itoaInt (k : Int) (by omega) (by omega) wr hb2)
        have C6 := Lib.hid (fun W hW => fmtUint c (by omega) W hW)
        rw [hI] at C5
        rw [hF] at C6
        have HP5 := Lib.hid hb2
        have HP : Hid (accK l (k + 1) = S ++ ([32] ++ I ++ [58] ++ F)) := by
          unfold Hid
          show accK l k ++ partK l k = _
          unfold partK
          rw [HG.out, if_neg hc0, HB.out.1, hI, itoa_nat, hF]
        clear HG hI hF hc0 hb2
        go_wp2_with fail
        refine C5.out.mono ?_
        rintro e w5 ⟨rfl, hb5⟩
        have HB5 := Lib.hid hb5
        have HP6 := Lib.hid (HP5.out.below hb5)
        clear hb5
        go_wp2_with fail
        refine (C6.out _ HP6.out).mono ?_
        rintro e w6 ⟨rfl, hb6⟩
        have HB6 := Lib.hid (HB5.out.trans (hb6.mono HB5.out.size))
        clear hb6
        go_wp2
        go_roundw
        case rel =>
          refine ⟨k + 1, S ++ ([32] ++ I ++ [58] ++ F), by omega, by go_num, ?_, by rw [HP.out], ?_, HB.out.2.1.trans (HB6.out.mono HB.out.2.1.size), HB.out.2.2.below HB6.out⟩
          · show Value.string ((⟨S.toArray⟩ : ByteArray) ++ ((⟨[32].toArray⟩ : ByteArray) ++ ⟨I.toArray⟩ ++ ⟨[58].toArray⟩ ++ ⟨F.toArray⟩)) = _
            rw [str_app, str_app, str_app, str_app]
          · simp only [List.length_append, List.length_cons, List.length_nil]; omega
        case measure => simp [intOf]; omega
    · obtain rfl : k = q := by omega
      clear hS hb hA
      go_wp2
      go_ret
      exact ⟨ret_str (by rw [HB.out.1]; unfold textL; rw [HQ.out]), HB.out.2.1⟩
theorem d06B {n : Int} {D : List UInt8} (hD : Lib.itoa n = D) (h0 : -9223372036854775808 ≤ n) (h1 : n ≤ 9223372036854775807) (w : World) :
    Calls Tryd.prog 34 #[.int .i64 n] w fun e w' => e = .returned (.string ⟨D.toArray⟩) ∧ Below w.heap.size w w' := by
  subst hD
  exact (digits06 n h0 h1 w).mono fun _ _ ⟨he, hw⟩ => ⟨he, by subst hw; exact Below.refl _ _⟩
theorem d03B {n : Int} {D : List UInt8} (hD : Lib.itoa n = D) (h0 : 0 ≤ n) (h1 : n ≤ 9223372036854775807) (w : World) :
    Calls Tryd.prog 37 #[.int .i64 n] w fun e w' => e = .returned (.string ⟨D.toArray⟩) ∧ Below w.heap.size w w' := by
  subst hD
  rw [itoa_dec h0]
  exact (digits03 n h0 h1 w).mono fun _ _ ⟨he, hw⟩ => ⟨he, by subst hw; exact Below.refl _ _⟩
theorem hexB {x : Nat} {D : List UInt8} (hD : hexN 16 x = D) (hx : x < 18446744073709551616) (w : World) :
    Calls Tryd.prog 35 #[.int .u64 (x : Int)] w fun e w' => e = .returned (.string ⟨D.toArray⟩) ∧ Below w.heap.size w w' := by
  subst hD
  exact (refHex x hx w).mono fun _ _ ⟨he, hw⟩ => ⟨he, by subst hw; exact Below.refl _ _⟩
set_option maxHeartbeats 3200000 in
set_option maxRecDepth 100000 in
theorem refText (l : Ld) (hf : l.Fits) (n : Int) (w : World) :
    Calls Tryd.prog 12 #[l.val, .int .i64 n] w fun e w' => e = .returned (.string ⟨(textL l n).toArray⟩) ∧ Below w.heap.size w w' := by
  have hA0 := LdAt.new w l 26
  have hb0 : Below w.heap.size w (w.alloc (.cells l.cells.toArray 26)) := (Below.refl _ _).alloc (Nat.le_refl _) _
  have h0 := fun W : Later (w.alloc (.cells l.cells.toArray 26)) => (hA0.below W.h).count
  have h1 := fun W : Later (w.alloc (.cells l.cells.toArray 26)) => (hA0.below W.h).sum
  obtain ⟨D, hD⟩ : ∃ D, Lib.itoa l.count = D := ⟨_, rfl⟩
  obtain ⟨H, hH⟩ : ∃ H, hexN 16 l.sum = H := ⟨_, rfl⟩
  have hDl : (D.length : Int) ≤ 21 := by rw [← hD]; exact itoa_len hf.c0 hf.c1
  have hHl : (H.length : Int) = 16 := by rw [← hH, hexN_len]; rfl
  have C1 := Lib.hid (d06B hD hf.c0 hf.c1)
  have C2 := Lib.hid (hexB hH hf.s)
  have HS0 : Hid (accK l 0 = D ++ [32] ++ H) := by
    unfold Hid
    rw [← hD, ← hH]
    rfl
  have H0 := Lib.hid (And.intro hA0 hb0)
  have hq64 := clampN_le n
  obtain ⟨q, hq⟩ : ∃ q, clampN n = q := ⟨_, rfl⟩
  have C3 := refNodes n
  rw [hq] at hq64 C3
  have C3 := Lib.hid C3
  have HQ := Lib.hid hq
  clear hA0 hb0 hD hH hq
  unfold Ld.val
  go_enter Tryd.func12, Tryd.ntmps12
  go_wp2_with fail
  refine wp_region_later (by kernel_rfl) (by kernel_rfl) ?_
  repeat (go_big_quiet_step (first | exact later_of (C1.out _) | exact later_of (C2.out _)))
  refine wpQuiet_nil ?_
  rintro W0 ⟨⟨W0x, hW0⟩, rfl⟩
  have HB0 := Lib.hid (And.intro (H0.out.2.trans (hW0.mono (by simp))) (H0.out.1.below hW0))
  clear h0 h1 hW0
  go_wp2
  go_loopw [5, 6] (fun t i wr => ∃ (k : Nat) (S : List UInt8), k ≤ q ∧ i = .int .i64 k ∧ t = .string ⟨S.toArray⟩ ∧ S = accK l k ∧ (S.length : Int) ≤ 60 + 50 * k ∧ Below w.heap.size w wr ∧ LdAt wr w.heap.size l) (fun _ i _ => q - (intOf i).toNat)
  case atStart =>
    refine ⟨0, D ++ [32] ++ H, Nat.zero_le _, rfl, ?_, HS0.out.symm, ?_, HB0.out.1, HB0.out.2⟩
    · show Value.string ((⟨D.toArray⟩ : ByteArray) ++ ⟨[32].toArray⟩ ++ ⟨H.toArray⟩) = _
      rw [str_app, str_app]
    · simp only [List.length_append, List.length_cons, List.length_nil]; omega
  case round =>
    obtain ⟨k, S, hk, rfl, rfl, hS, hSl, hb, hA⟩ := hrel
    have HB := Lib.hid (And.intro hS (And.intro hb hA))
    by_cases hlt : k < q
    · have hlt' : k < l.of.length := by rw [hf.n]; omega
      have hc := hA.of hlt'
      have hcf := hf.o _ (List.getElem_mem hlt')
      obtain ⟨c, hce⟩ : ∃ c, l.of[k] = c := ⟨_, rfl⟩
      have hgd : l.of.getD k 0 = c := by rw [List.getD_eq_getElem?_getD, List.getElem?_eq_getElem hlt', hce]; rfl
      rw [hce] at hc hcf
      have HG := Lib.hid hgd
      by_cases hc0 : c = 0
      · subst hc0
        have HP : Hid (accK l (k + 1) = accK l k) := by
          unfold Hid
          show accK l k ++ partK l k = _
          unfold partK
          rw [if_pos HG.out, List.append_nil]
        clear hS hb hA hce hgd HG
        go_wp2_with fail
        refine (C3.out _).mono ?_
        rintro e w5 ⟨rfl, rfl⟩
        go_wp2
        go_roundw
        case rel => exact ⟨k + 1, S, by omega, by go_num, rfl, by rw [HP.out]; exact HB.out.1, by omega, HB.out.2.1, HB.out.2.2⟩
        case measure => simp [intOf]; omega
      · have hcp : ((c : Int) != 0) = true := by simp; omega
        have hcp2 : (c : Int) ≠ 0 := by omega
        obtain ⟨I, hI⟩ : ∃ I, Lib.itoa (k : Int) = I := ⟨_, rfl⟩
        obtain ⟨F, hF⟩ : ∃ F, Lib.itoa (c : Int) = F := ⟨_, rfl⟩
        have hIl : (I.length : Int) ≤ 21 := by rw [← hI]; exact itoa_len (by omega) (by omega)
        have hFl : (F.length : Int) ≤ 21 := by rw [← hF]; exact itoa_len (by omega) (by omega)
        have C5 := Lib.hid (d03B hI (by omega) (by omega))
        have C6 := Lib.hid (d06B hF (by omega) (by omega))
        have HP : Hid (accK l (k + 1) = S ++ [32] ++ I ++ [58] ++ F) := by
          unfold Hid
          show accK l k ++ partK l k = _
          unfold partK
          rw [HG.out, if_neg hc0, HB.out.1, hI, hF]
          simp
        have hcL : ∀ W : Later wr, W.val.cell? ⟨w.heap.size, 2 + k, none⟩ = some (.int .u32 (c : Int)) := fun W => by
          have := (HB.out.2.2.below W.h).of hlt'
          rwa [hce] at this
        have hbs := hb.size
        clear HG hI hF hc0 hS hb hA hgd hce
        go_wp2_with fail
        refine (C3.out _).mono ?_
        rintro e w5 ⟨rfl, rfl⟩
        go_wp2_with fail
        refine wp_region_later (by kernel_rfl) (by kernel_rfl) ?_
        repeat (go_big_quiet_step (first | exact later_of (C5.out _) | exact later_of (C6.out _)))
        refine wpQuiet_nil ?_
        rintro W2 ⟨⟨W2x, hW2⟩, rfl⟩
        clear hcL
        go_wp2
        go_roundw
        case rel =>
          refine ⟨k + 1, S ++ [32] ++ I ++ [58] ++ F, by omega, by go_num, ?_, by rw [HP.out], ?_, HB.out.2.1.trans (hW2.mono hbs), HB.out.2.2.below hW2⟩
          · show Value.string ((⟨S.toArray⟩ : ByteArray) ++ ⟨[32].toArray⟩ ++ ⟨I.toArray⟩ ++ ⟨[58].toArray⟩ ++ ⟨F.toArray⟩) = _
            rw [str_app, str_app, str_app, str_app]
          · simp only [List.length_append, List.length_cons, List.length_nil]; omega
        case measure => simp [intOf]; omega
    · obtain rfl : k = q := by omega
      clear hS hb hA
      go_wp2_with fail
      refine (C3.out _).mono ?_
      rintro e w5 ⟨rfl, rfl⟩
      go_wp2
      go_ret
      exact ⟨ret_str (by rw [HB.out.1]; unfold textL; rw [HQ.out]), HB.out.2.1⟩
end Go.Proofs.YtncmbbkcpmimjaaDoor
