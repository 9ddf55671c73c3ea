/- A configuration's text, the program's. -/
import Derived.Test.YtpbfacabafkheaaDoorCnG
namespace Go.Proofs.YtpbfacabafkheaaDoor
open Go.RowKit Law
set_option linter.unusedVariables false
set_option linter.unusedSimpArgs false
set_option maxRecDepth 100000
attribute [local go_sem] Oper.semAt_some

theorem ix14 (a0 a1 a2 a3 a4 a5 a6 a7 a8 a9 a10 a11 a12 a13 : Int) (k : Nat) (hk : k < 14) (W : World) : (Instr.index 77 (.agg (intV [a0, a1, a2, a3, a4, a5, a6, a7, a8, a9, a10, a11, a12, a13]).toArray) (.int .i64 (k : Int))).run Tryd.prog W = .ok (.int .i64 ([a0, a1, a2, a3, a4, a5, a6, a7, a8, a9, a10, a11, a12, a13].getD k 0)) W := by
  rcases (show k = 0 ∨ k = 1 ∨ k = 2 ∨ k = 3 ∨ k = 4 ∨ k = 5 ∨ k = 6 ∨ k = 7 ∨ k = 8 ∨ k = 9 ∨ k = 10 ∨ k = 11 ∨ k = 12 ∨ k = 13 by omega) with rfl | rfl | rfl | rfl | rfl | rfl | rfl | rfl | rfl | rfl | rfl | rfl | rfl | rfl
  all_goals kernel_rfl
theorem cells_app (l m : List UInt8) : Lib.byteCells l ++ Lib.strCells ⟨m.toArray⟩ = Lib.byteCells (l ++ m) := by rw [byteCells_str, byteCells_app]
theorem str_size (l : List UInt8) : (⟨l.toArray⟩ : ByteArray).size = l.length := by simp [ByteArray.size]
theorem cells_len (l m : List UInt8) (h : l.length + m.length ≤ 140737488355328) : (Lib.byteCells l).length + (⟨m.toArray⟩ : ByteArray).size ≤ 140737488355328 := by rw [Lib.byteCells_length, str_size]; exact h
set_option maxHeartbeats 6400000 in
theorem cText (c : Cn) (hc : FitsC c) (A : Option Addr) (l k : Nat) (L : List Pr) (hl : L.length = l) (hfit : ∀ x ∈ L, PrF x) (hm : l ≤ 4096) (w : World) (hA : LinksAt w A L) (hP : P10 w) :
    Calls Tryd.prog 20 #[.agg (c.cells A l k).toArray] w fun e w' => e = .returned (.string ⟨(textC c L).toArray⟩) ∧ Below w.heap.size w w' := by
  have CN := Lib.hid (fun W => cNumbers c A l k W)
  have HIX : Hid (∀ (j : Nat), j < 14 → ∀ W : World, (Instr.index 77 (.agg (intV (numsC c)).toArray) (.int .i64 (j : Int))).run Tryd.prog W = .ok (.int .i64 ((numsC c).getD j 0)) W) := fun j hj W => ix14 c.n c.f c.dmin c.dmax c.rho c.slew c.round c.window c.attend c.seen c.hist c.fly c.quota c.body j hj W
  have HFT := Lib.hid (fun k => hc.at_ k)
  have HHL := Lib.hid (fun k => headT_le hc k)
  have HTX : Hid (textC c L = headT (numsC c) 14 ++ wordT ++ linksT L) := rfl
  have HLL := Lib.hid (linksT_le hfit)
  have HPR := Lib.hid hP
  have HLN := Lib.hid hl
  have HFI := Lib.hid hfit
  have HLT := Lib.hid (fun (k : Nat) => linksT_le (L := L.take k) (fun x hx => hfit x (List.mem_of_mem_take hx)))
  clear hP hfit hc
  obtain ⟨n, f, dmin, dmax, rho, slew, round, window, attend, seen, hist, fly, quota, body⟩ := c
  obtain ⟨arr, harr⟩ : ∃ arr, (intV (numsC ⟨n, f, dmin, dmax, rho, slew, round, window, attend, seen, hist, fly, quota, body⟩)).toArray = arr := ⟨_, rfl⟩
  obtain ⟨ns, hns⟩ : ∃ ns, numsC ⟨n, f, dmin, dmax, rho, slew, round, window, attend, seen, hist, fly, quota, body⟩ = ns := ⟨_, rfl⟩
  rw [harr] at CN HIX
  rw [hns] at HIX HFT HHL HTX
  obtain ⟨tx, htx⟩ : ∃ tx, textC ⟨n, f, dmin, dmax, rho, slew, round, window, attend, seen, hist, fly, quota, body⟩ L = tx := ⟨_, rfl⟩
  rw [htx] at HTX ⊢
  clear harr hns htx
  have k0 := boxF_made w [.int .i64 n, .slice A l k, .int .i64 f, .int .i64 dmin, .int .i64 dmax, .int .i64 rho, .int .i64 slew, .int .i64 round, .int .i64 window, .int .i64 attend, .int .i64 seen, .int .i64 hist, .int .i64 fly, .int .i64 quota, .int .i64 body] 24
  have k1 := (Below.refl w.heap.size w).alloc (Nat.le_refl _) (.cells #[.int .i64 n, .slice A l k, .int .i64 f, .int .i64 dmin, .int .i64 dmax, .int .i64 rho, .int .i64 slew, .int .i64 round, .int .i64 window, .int .i64 attend, .int .i64 seen, .int .i64 hist, .int .i64 fly, .int .i64 quota, .int .i64 body] 24)
  obtain ⟨w1, hw1⟩ : ∃ w1, w.alloc (.cells #[.int .i64 n, .slice A l k, .int .i64 f, .int .i64 dmin, .int .i64 dmax, .int .i64 rho, .int .i64 slew, .int .i64 round, .int .i64 window, .int .i64 attend, .int .i64 seen, .int .i64 hist, .int .i64 fly, .int .i64 quota, .int .i64 body] 24) = w1 := ⟨_, rfl⟩
  have hs1 : w1.heap.size = w.heap.size + 1 := by rw [← hw1]; simp
  rw [hw1] at k0 k1
  have hB0 := newB w1
  have k2 : Below w1.heap.size w1 (w1.alloc (.cells #[.pointer none, .slice none 0 0] 76)) := (Below.refl _ w1).alloc (Nat.le_refl _) _
  obtain ⟨w2, hw2⟩ : ∃ w2, w1.alloc (.cells #[.pointer none, .slice none 0 0] 76) = w2 := ⟨_, rfl⟩
  rw [hw2] at hB0 k2
  have k3 := k0.keep k2
  have d0 := k3.1 0 _ rfl
  have d1 := k3.1 1 _ rfl
  have d2 := k3.1 2 _ rfl
  have d3 := k3.1 3 _ rfl
  have d4 := k3.1 4 _ rfl
  have d5 := k3.1 5 _ rfl
  have d6 := k3.1 6 _ rfl
  have d7 := k3.1 7 _ rfl
  have d8 := k3.1 8 _ rfl
  have d9 := k3.1 9 _ rfl
  have d10 := k3.1 10 _ rfl
  have d11 := k3.1 11 _ rfl
  have d12 := k3.1 12 _ rfl
  have d13 := k3.1 13 _ rfl
  have d14 := k3.1 14 _ rfl
  have HW1 := Lib.hid hs1
  clear hs1
  go_enter Tryd.func20, Tryd.ntmps20
  go_wp2_with fail
  refine (CN.out _).mono ?_
  rintro e w3 ⟨rfl, hb3⟩
  have hIs3 := Lib.hid (IsB.below hB0 hb3)
  have hB3 := Lib.hid (k2.trans (hb3.mono k2.size))
  clear hB0 hb3 d0 d1 d2 d3 d4 d5 d6 d7 d8 d9 d10 d11 d12 d13 d14 k3 hw2 k2
  go_wp2_with fail
  go_loopw [10] (fun i wr => ∃ j : Nat, j ≤ 14 ∧ i = .int .i64 j ∧ IsB w1.heap.size w1.heap.size (Lib.byteCells (headT ns j)) wr ∧ Below w1.heap.size w1 wr) (fun i _ => 14 - (intOf i).toNat)
  case atStart => exact ⟨0, by omega, rfl, hIs3.out, hB3.out⟩
  case round =>
    obtain ⟨j, hj, rfl, hIs, hb⟩ := hrel
    clear hIs3 hB3
    by_cases hlt : j < 14
    · have hix := HIX.out j hlt
      obtain ⟨x, hx⟩ : ∃ x, ns.getD j 0 = x := ⟨_, rfl⟩
      obtain ⟨nm, hnm⟩ : ∃ nm, nameL.getD j [] = nm := ⟨_, rfl⟩
      have hft := HFT.out j
      have hsn := headT_succ ns j
      have hnl := nameL_le j
      have hhl := HHL.out j
      rw [hx] at hix hft hsn
      rw [hnm] at hsn hnl
      have hil := itoa_le hft
      obtain ⟨hd, hhd⟩ : ∃ hd, headT ns j = hd := ⟨_, rfl⟩
      rw [hhd] at hsn hhl hIs
      have HIS := Lib.hid hIs
      have HB := Lib.hid hb
      have HSN := Lib.hid hsn
      have L1 := Lib.hid (cells_len hd nm (by omega))
      have L2 := Lib.hid (cells_len (hd ++ nm) (Lib.itoa x) (by rw [List.length_append]; omega))
      have CM := Lib.hid (fun W => hnm ▸ cName j hlt W)
      have P1 := Lib.hid (HPR.out.below (k1.trans (hb.mono (by rw [HW1.out]; omega))))
      clear hIs hb hsn hx hnm hhd hhl hnl hil
      go_wp2_with fail
      refine (CM.out _).mono ?_
      rintro e w4 ⟨rfl, rfl⟩
      go_wp2_with (go_at_call 45; refine (writeString w1.heap.size w1.heap.size _ _ _ HIS.out L1.out HB.out.size).mono ?_)
      rintro e w5 ⟨rfl, hA5, hq5, -⟩
      have HB5 := Lib.hid (HB.out.trans hq5)
      have HI5 := Lib.hid (cells_app hd nm ▸ AtB.is hA5)
      have P5 := Lib.hid (HPR.out.below (k1.trans (HB5.out.mono (by rw [HW1.out]; omega))))
      clear hA5 hq5
      go_wp2_with fail
      refine (fmtInt x hft.1 hft.2 _ P5.out).mono ?_
      rintro e w6 ⟨rfl, hq6⟩
      have HI6 := Lib.hid (IsB.below HI5.out hq6)
      have HB6 := Lib.hid (HB5.out.trans (hq6.mono HB5.out.size))
      clear hq6
      go_wp2_with (go_at_call 45; refine (writeString w1.heap.size w1.heap.size _ _ _ HI6.out L2.out HB6.out.size).mono ?_)
      rintro e w7 ⟨rfl, hA7, hq7, -⟩
      have HI7 := Lib.hid (cells_app (hd ++ nm) (Lib.itoa x) ▸ AtB.is hA7)
      have HB7 := Lib.hid (HB6.out.trans hq7)
      clear hA7 hq7
      go_wp2
      go_roundw
      case rel => exact ⟨j + 1, by omega, by go_num, by rw [HSN.out, ← List.append_assoc]; exact HI7.out, HB7.out⟩
      case measure => simp [intOf]; omega
    · obtain rfl : j = 14 := by omega
      have hhl := HHL.out 14
      obtain ⟨hd, hhd⟩ : ∃ hd, headT ns 14 = hd := ⟨_, rfl⟩
      rw [hhd] at hIs hhl HTX
      have HIS := Lib.hid hIs
      have HB := Lib.hid hb
      have L1 := Lib.hid (cells_len hd wordT (by show hd.length + 6 ≤ _; omega))
      clear hIs hb hhd
      go_wp2_with (go_at_call 45; refine (writeString w1.heap.size w1.heap.size _ _ _ HIS.out L1.out HB.out.size).mono ?_)
      rintro e w4 ⟨rfl, hA4, hq4, -⟩
      have HI4 := Lib.hid (cells_app hd wordT ▸ AtB.is hA4)
      have HB4 := Lib.hid (HB.out.trans hq4)
      clear hA4 hq4
      obtain ⟨hw, hhw⟩ : ∃ hw, hd ++ wordT = hw := ⟨_, rfl⟩
      have hwl : hw.length ≤ 420 := by rw [← hhw, List.length_append]; show hd.length + 6 ≤ 420; omega
      rw [hhw] at HI4 HTX
      clear hhw hhl
      have c1 : w4.cell? ⟨w.heap.size, 1, none⟩ = some (.slice A l k) := by rw [HB4.out.cell (p := ⟨w.heap.size, 1, none⟩) (by show w.heap.size < _; rw [HW1.out]; omega)]; exact k0.1 1 _ rfl
      go_wp2_with fail
      clear c1
      go_loopw [25] (fun i wr => ∃ j : Nat, j ≤ l ∧ i = .int .i64 j ∧ IsB w1.heap.size w1.heap.size (Lib.byteCells (hw ++ linksT (L.take j))) wr ∧ Below w1.heap.size w1 wr) (fun i _ => l - (intOf i).toNat)
      case atStart => exact ⟨0, by omega, rfl, by simpa [linksT] using HI4.out, HB4.out⟩
      case round =>
        obtain ⟨j, hj, rfl, hIs, hb⟩ := hrel
        clear HI4 HB4
        by_cases hlt : j < l
        · have hlt' : j < L.length := by rw [HLN.out]; exact hlt
          have hbw : Below w.heap.size w wr := k1.trans (hb.mono (by rw [HW1.out]; omega))
          obtain ⟨b, off, rfl, e0, e1⟩ := hA.at_ hbw hlt'
          have hpf := HFI.out L[j] (List.getElem_mem hlt')
          have HSN := Lib.hid (linksT_succ L j hlt')
          have hLT := HLT.out j
          have hll := linkT_le hpf
          rw [List.length_take] at hLT
          obtain ⟨ls, hls⟩ : ∃ ls, hw ++ linksT (L.take j) = ls := ⟨_, rfl⟩
          have hlsl : ls.length ≤ 420 + 44 * 4096 := by rw [← hls, List.length_append]; omega
          rw [hls] at hIs
          have HLS := Lib.hid hls
          have HLK : Hid (linkT L[j] = 32 :: (Lib.itoa L[j].1 ++ 45 :: Lib.itoa L[j].2)) := rfl
          obtain ⟨lk, hlk⟩ : ∃ lk, linkT L[j] = lk := ⟨_, rfl⟩
          rw [hlk] at HLK hll HSN
          obtain ⟨x, hx⟩ : ∃ x, L[j].1 = x := ⟨_, rfl⟩
          obtain ⟨y, hy⟩ : ∃ y, L[j].2 = y := ⟨_, rfl⟩
          unfold PrF at hpf
          rw [hx, hy] at hpf
          rw [hx] at e0 HLK
          rw [hy] at e1 HLK
          have fx : -9223372036854775808 ≤ x ∧ x ≤ 9223372036854775807 := by omega
          have fy : -9223372036854775808 ≤ y ∧ y ≤ 9223372036854775807 := by omega
          have ix := itoa_le fx
          have iy := itoa_le fy
          have L3 := Lib.hid (cells_len ls lk (by omega))
          have hbx := (boxF_made wr [.int .i64 x, .int .i64 y] 60).1
          have hb4 := hb.alloc hb.size (.cells #[.int .i64 x, .int .i64 y] 60)
          have hI4 := Lib.hid (hIs.alloc (.cells #[.int .i64 x, .int .i64 y] 60))
          obtain ⟨w4, hw4⟩ : ∃ w4, wr.alloc (.cells #[.int .i64 x, .int .i64 y] 60) = w4 := ⟨_, rfl⟩
          rw [show wr.alloc (.cells [.int .i64 x, .int .i64 y].toArray 60) = w4 from hw4] at hbx
          rw [hw4] at hb4 hI4
          have HP4 := HPR.out.below (k1.trans (hb4.mono (by rw [HW1.out]; omega)))
          have q0 := hbx 0 _ rfl
          have q1 := hbx 1 _ rfl
          have d0 : ∀ W : Later w4, W.val.cell? ⟨wr.heap.size, 0, none⟩ = some (.int .i64 x) := fun W => Later.cell q0 W
          have d1 : ∀ W : Later w4, W.val.cell? ⟨wr.heap.size, 1, none⟩ = some (.int .i64 y) := fun W => Later.cell q1 W
          obtain ⟨sx, hsx⟩ : ∃ sx : ByteArray, (⟨(Lib.itoa x).toArray⟩ : ByteArray) = sx := ⟨_, rfl⟩
          obtain ⟨sy, hsy⟩ : ∃ sy : ByteArray, (⟨(Lib.itoa y).toArray⟩ : ByteArray) = sy := ⟨_, rfl⟩
          have CX := Lib.hid (fun W : Later w4 => hsx ▸ itoaInt x fx.1 fx.2 W.val (HP4.later W))
          have CY := Lib.hid (fun W : Later w4 => hsy ▸ itoaInt y fy.1 fy.2 W.val (HP4.later W))
          have hsx1 : (sx.size : Int) ≤ 21 := by rw [← hsx, str_size]; omega
          have hsy1 : (sy.size : Int) ≤ 21 := by rw [← hsy, str_size]; omega
          have HB4 := Lib.hid hb4
          have HSX := Lib.hid hsx
          have HSY := Lib.hid hsy
          have HLS := Lib.hid hls
          clear hIs hb hbw hb4 hbx q0 q1 hsx hsy hls hlk hx hy ix iy hLT hll hlsl HP4 fx fy hpf
          go_wp2_with fail
          refine wp_region_later_tail 9 (by kernel_rfl) (by kernel_rfl) ?_
          simp only [List.take_succ_cons, List.take_zero, List.drop_succ_cons, List.drop_zero]
          iterate 2 (go_big_quiet_step (fail))
          go_big_quiet_step (exact later_of (CX.out _))
          iterate 4 (go_big_quiet_step (fail))
          go_big_quiet_step (exact later_of (CY.out _))
          go_big_quiet_step (fail)
          refine wpQuiet_nil ?_
          rintro ⟨W, hW⟩
          dsimp only
          clear d0 d1 CX CY
          go_wp2_with fail
          have HB5 := Lib.hid (HB4.out.trans (hW.mono HB4.out.size))
          have HI5 := Lib.hid (IsB.below hI4.out hW)
          clear hW
          have hstr : (⟨#[32]⟩ : ByteArray) ++ sx ++ ⟨#[45]⟩ ++ sy = ⟨lk.toArray⟩ := by
            rw [← HSX.out, ← HSY.out, HLK.out, show (⟨#[32]⟩ : ByteArray) = ⟨([32] : List UInt8).toArray⟩ from rfl, show (⟨#[45]⟩ : ByteArray) = ⟨([45] : List UInt8).toArray⟩ from rfl, str_app, str_app, str_app]
            simp only [List.append_assoc, List.cons_append, List.nil_append]
          rw [hstr]
          clear hstr
          refine (writeString w1.heap.size w1.heap.size _ _ _ HI5.out L3.out HB5.out.size).mono ?_
          rintro e w6 ⟨rfl, hA6, hq6, -⟩
          have HI6 := Lib.hid (cells_app ls lk ▸ AtB.is hA6)
          have HB6 := Lib.hid (HB5.out.trans hq6)
          clear hA6 hq6
          go_wp2
          go_roundw
          case rel => exact ⟨j + 1, by omega, by go_num, by rw [HSN.out, ← List.append_assoc, HLS.out]; exact HI6.out, HB6.out⟩
          case measure => simp [intOf]; omega
        · obtain rfl : j = l := by omega
          have ht : L.take j = L := List.take_of_length_le (by rw [HLN.out]; exact Nat.le_refl _)
          rw [ht, ← HTX.out] at hIs
          have HI := Lib.hid hIs
          have HB := Lib.hid hb
          clear hIs hb ht
          go_wp2_with (go_at_call 49; refine (stringB w1.heap.size w1.heap.size _ _ HI.out HB.out.size).mono ?_)
          rintro e w5 ⟨rfl, hq5⟩
          go_wp2
          go_ret
          exact ⟨rfl, k1.trans ((HB.out.trans hq5).mono (by rw [HW1.out]; omega))⟩
end Go.Proofs.YtpbfacabafkheaaDoor
