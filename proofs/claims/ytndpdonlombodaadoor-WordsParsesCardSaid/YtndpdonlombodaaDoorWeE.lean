/- angeluslaw47.works, WordsPrints. -/
import Derived.Test.YtndpdonlombodaaDoorWeD
namespace Go.Proofs.YtndpdonlombodaaDoor
open Go.RowKit Law
set_option linter.unusedVariables false
set_option linter.unusedSimpArgs false

theorem parse0 : parseL [116, 105, 99, 107, 32, 51, 10, 115, 101, 110, 100, 32, 49, 32, 54, 56, 54, 57, 10, 102, 97, 116, 101, 32, 100, 114, 111, 112] = ([⟨1, 0, 3, Fa0, []⟩, ⟨6, 1, 0, Fa0, [104, 105]⟩, ⟨3, 0, 0, ⟨1, 0, 0, 0, 0⟩, []⟩], 3, 0) := by decide +kernel
theorem lines0 : (linesL [116, 105, 99, 107, 32, 51, 10, 115, 101, 110, 100, 32, 49, 32, 54, 56, 54, 57, 10, 102, 97, 116, 101, 32, 100, 114, 111, 112]).length ≤ 4096 := by decide +kernel
theorem print0 : printL [⟨1, 0, 3, Fa0, []⟩, ⟨6, 1, 0, Fa0, [104, 105]⟩, ⟨3, 0, 0, ⟨1, 0, 0, 0, 0⟩, []⟩] = [116, 105, 99, 107, 32, 51, 10, 115, 101, 110, 100, 32, 49, 32, 54, 56, 54, 57, 10, 102, 97, 116, 101, 32, 100, 114, 111, 112, 10] := by decide +kernel
set_option maxHeartbeats 1600000 in
theorem works47 (w : World) (hP : P10 w) (hM : MX w) (hE : E7 w) : Calls Tryd.prog 12 #[] w fun e w' => e = .returned (.bool true) ∧ Below w.heap.size w w' := by
  have C1 := wordsParse ⟨#[116, 105, 99, 107, 32, 51, 10, 115, 101, 110, 100, 32, 49, 32, 54, 56, 54, 57, 10, 102, 97, 116, 101, 32, 100, 114, 111, 112]⟩ (by decide) lines0 w hM hE
  rw [show (⟨#[116, 105, 99, 107, 32, 51, 10, 115, 101, 110, 100, 32, 49, 32, 54, 56, 54, 57, 10, 102, 97, 116, 101, 32, 100, 114, 111, 112]⟩ : ByteArray).data.toList = [116, 105, 99, 107, 32, 51, 10, 115, 101, 110, 100, 32, 49, 32, 54, 56, 54, 57, 10, 102, 97, 116, 101, 32, 100, 114, 111, 112] from rfl, parse0] at C1
  unfold ParsePost at C1
  have C1 := Lib.hid C1
  have HX := Lib.hid hP
  clear hP hM hE
  go_enter Tryd.func12, Tryd.ntmps12
  go_wp2_with fail
  refine C1.out.mono ?_
  rintro e w1 ⟨A, c, xs, rfl, hxs, hok, hA, hq⟩
  have hl3 : xs.length = 3 := by
    have := congrArg List.length hxs
    unfold acs at this
    rw [List.length_map] at this
    exact this
  rw [hl3]
  have C2 := wordsPrint A 3 c xs hl3 (by decide) hok w1 hA (HX.out.below hq)
  rw [hxs, print0] at C2
  have C2 := Lib.hid C2
  have HQ := Lib.hid hq
  clear hq hok hA hxs hl3
  go_wp2_with fail
  refine C2.out.mono ?_
  rintro e w2 ⟨rfl, hq2⟩
  have HB := Lib.hid (HQ.out.trans (hq2.mono HQ.out.size))
  clear hq2
  go_wp2
  go_ret
  exact ⟨ret_bool (by rfl), HB.out⟩
/-! ### WordsPrints -/
theorem cut_n60 {es : List Ac} {ys : List Aw} (h : ys.map Aw.a = (es.take 60).map cutA) : ys.length ≤ 60 := by
  have := congrArg List.length h
  simp only [List.length_map, List.length_take] at this
  omega
set_option maxHeartbeats 3200000 in
set_option maxRecDepth 100000 in
theorem walkWPrints (A : Option Addr) (len c : Nat) (xs : List Aw) (hl : xs.length = len) (hc : len ≤ c) (hcm : c ≤ maxLen) (hok : ∀ x ∈ xs, x.In) (w : World) (hA : ActsAt w A xs) (hP : P10 w) (hM : MX w) (hE : E7 w) :
    Calls Tryd.prog 3 #[.slice A len c] w fun e w' => e = .returned (.bool true) ∧ Below w.heap.size w w' := by
  obtain ⟨hz, hsz⟩ := zero_of_info (show (Tryd.prog.info? 29).map (fun i => (i.zero, i.size)) = some (some (.agg #[.int .i64 0, .int .i64 0, .int .i64 0, .int .i64 0, .int .i64 0, .int .i64 0, .int .u32 0, .int .u32 0, .slice none 0 0]), 9) by kernel_rfl)
  have CC := Lib.hid (cut46 A len c xs hl hc hcm hok w hA)
  have HP := Lib.hid (And.intro hP (And.intro hM hE))
  clear hl hcm hok hA hP hM hE
  go_enter Tryd.func3, Tryd.ntmps3
  go_wp2_with fail
  refine CC.out.mono ?_
  rintro e w1 ⟨v, ys, rfl, hown, hb1, hys, hmap⟩
  have hn60 := cut_n60 hmap
  obtain ⟨A1, c1, rfl, hc1⟩ := OwnOr.form (show OwnOr _ _ _ _ _ _ _ from .inl hown)
  have hE1 := acts_of_own hown (fun y hy => ⟨(hys y hy).1.1, (hys y hy).2⟩)
  have hyok : ∀ y ∈ ys, y.Ok := fun y hy => (hys y hy).1.1
  obtain ⟨n, hn⟩ : ∃ n, ys.length = n := ⟨_, rfl⟩
  rw [hn] at hn60 hc1 ⊢
  have HY := Lib.hid (And.intro hn (And.intro hE1 (And.intro hyok hb1)))
  clear hn hE1 hyok hown hb1 hys hmap
  go_wp2
  go_loopw [9] (fun i wr => ∃ k : Nat, k ≤ n ∧ i = .int .i64 k ∧ Below w1.heap.size w1 wr) (fun i _ => n - (intOf i).toNat)
  case atStart => exact ⟨0, Nat.zero_le _, rfl, Below.refl _ _⟩
  case round =>
    obtain ⟨k, hk, rfl, hb⟩ := hrel
    by_cases hlt : k < n
    · have hkx : k < ys.length := by rw [HY.out.1]; exact hlt
      obtain ⟨blk, off, rfl, hcells, hU⟩ := (HY.out.2.1.keep hb) k ys[k] (List.getElem?_eq_getElem hkx)
      have hxok := HY.out.2.2.1 ys[k] (List.getElem_mem hkx)
      obtain ⟨x, hx⟩ : ∃ x, ys[k] = x := ⟨_, rfl⟩
      rw [hx] at hcells hU hxok
      clear hx hkx
      have hPw := HP.out.1.below (HY.out.2.2.2.trans (hb.mono HY.out.2.2.2.size))
      have C1 := fun W (hW : Below wr.heap.size wr W) => wordsLine x.a hxok.fits x.A x.n x.c W (hU.keep hW) hxok.len (hPw.below hW)
      have C2 := fun W (hW : Below wr.heap.size wr W) => refLine x.a hxok.fits x.A x.n x.c W (hU.keep hW) hxok.len
      obtain ⟨⟨xk, xi, xN, ⟨fk, fd, fa, fp, fb⟩, xb⟩, xA, xn, xc⟩ := x
      have p0 := hcells 0 _ rfl
      have p1 := hcells 1 _ rfl
      have p2 := hcells 2 _ rfl
      have p3 := hcells 3 _ rfl
      have p4 := hcells 4 _ rfl
      have p5 := hcells 5 _ rfl
      have p6 := hcells 6 _ rfl
      have p7 := hcells 7 _ rfl
      have p8 := hcells 8 _ rfl
      simp only [Nat.add_zero] at p0 p1 p2 p3 p4 p5 p6 p7 p8 C1 C2
      obtain ⟨L, hL⟩ : ∃ L, lineL ⟨xk, xi, xN, ⟨fk, fd, fa, fp, fb⟩, xb⟩ = L := ⟨_, rfl⟩
      rw [hL] at C1 C2
      unfold Ac.cells at C1 C2
      have hbA : Below wr.heap.size wr (wr.alloc (.cells #[.int .i64 xk, .int .i64 xi, .int .i64 xN, .int .i64 fk, .int .i64 fd, .int .i64 fa, .int .u32 (fp : Int), .int .u32 (fb : Int), .slice xA xn xc] 29)) := (Below.refl _ _).alloc (Nat.le_refl _) _
      have hbx := boxAt_made wr [.int .i64 xk, .int .i64 xi, .int .i64 xN, .int .i64 fk, .int .i64 fd, .int .i64 fa, .int .u32 (fp : Int), .int .u32 (fb : Int), .slice xA xn xc] 29
      obtain ⟨W2, hW2⟩ : ∃ W2, (wr.alloc (.cells #[.int .i64 xk, .int .i64 xi, .int .i64 xN, .int .i64 fk, .int .i64 fd, .int .i64 fa, .int .u32 (fp : Int), .int .u32 (fb : Int), .slice xA xn xc] 29)) = W2 := ⟨_, rfl⟩
      rw [hW2] at hbA hbx
      have D1 := Lib.hid (fun W : Later W2 => C1 W.val (hbA.trans (W.h.mono hbA.size)))
      have D2 := Lib.hid (fun W : Later W2 => C2 W.val (hbA.trans (W.h.mono hbA.size)))
      have cells : ∀ W : Later W2, W.val.cell? ⟨wr.heap.size, 0, none⟩ = some (.int .i64 xk) ∧ W.val.cell? ⟨wr.heap.size, 1, none⟩ = some (.int .i64 xi) ∧ W.val.cell? ⟨wr.heap.size, 2, none⟩ = some (.int .i64 xN) ∧ W.val.cell? ⟨wr.heap.size, 3, none⟩ = some (.int .i64 fk) ∧ W.val.cell? ⟨wr.heap.size, 4, none⟩ = some (.int .i64 fd) ∧ W.val.cell? ⟨wr.heap.size, 5, none⟩ = some (.int .i64 fa) ∧ W.val.cell? ⟨wr.heap.size, 6, none⟩ = some (.int .u32 (fp : Int)) ∧ W.val.cell? ⟨wr.heap.size, 7, none⟩ = some (.int .u32 (fb : Int)) ∧ W.val.cell? ⟨wr.heap.size, 8, none⟩ = some (.slice xA xn xc) := fun W => ⟨Later.cell (hbx 0 _ rfl) W, Later.cell (hbx 1 _ rfl) W, Later.cell (hbx 2 _ rfl) W, Later.cell (hbx 3 _ rfl) W, Later.cell (hbx 4 _ rfl) W, Later.cell (hbx 5 _ rfl) W, Later.cell (hbx 6 _ rfl) W, Later.cell (hbx 7 _ rfl) W, Later.cell (hbx 8 _ rfl) W⟩
      have HH := Lib.hid (And.intro (hb.trans (hbA.mono hb.size)) hW2)
      clear hcells hU hxok hL C1 C2 hbA hbx hW2 hPw
      go_wp2_with fail
      rw [HH.out.2]
      refine wp_region_later (by kernel_rfl) (by kernel_rfl) ?_
      go_big_quiet_step (fail)
      go_big_quiet_step (exact later_of (D1.out _))
      go_big_quiet_step (fail)
      go_big_quiet_step (exact later_of (D2.out _))
      repeat (go_big_quiet_step (fail))
      refine wpQuiet_nil ?_
      rintro w9 ⟨⟨W, hW⟩, rfl⟩
      have HB := Lib.hid (HH.out.1.trans (hW.mono HH.out.1.size))
      clear cells hW p0 p1 p2 p3 p4 p5 p6 p7 p8
      go_wp2
      go_roundw
      case rel => exact ⟨k + 1, by omega, by go_num, HB.out⟩
      case measure => simp [intOf]; omega
    · have HB := Lib.hid (And.intro hb (HY.out.2.2.2.trans (hb.mono HY.out.2.2.2.size)))
      have C3 := wordsPrint A1 n c1 ys HY.out.1 (by omega) HY.out.2.2.1 wr (HY.out.2.1.keep hb) (HP.out.1.below HB.out.2)
      have C4 := fun W (hW : Below wr.heap.size wr W) => refPrint A1 n c1 ys HY.out.1 (by omega) HY.out.2.2.1 W ((HY.out.2.1.keep hb).keep hW)
      obtain ⟨L, hL⟩ : ∃ L, printL (acs ys) = L := ⟨_, rfl⟩
      rw [hL] at C3 C4
      have C3 := Lib.hid C3
      have C4 := Lib.hid C4
      clear hb hL
      go_wp2_with fail
      refine C3.out.mono ?_
      rintro e w3 ⟨rfl, hq3⟩
      have H3 := Lib.hid (And.intro hq3 (HB.out.2.trans (hq3.mono HB.out.2.size)))
      clear hq3
      go_wp2_with fail
      refine (C4.out _ H3.out.1).mono ?_
      rintro e w4 ⟨rfl, hq4⟩
      have H4 := Lib.hid (H3.out.2.trans (hq4.mono H3.out.2.size))
      have C5 := Lib.hid (works47 w4 (HP.out.1.below H4.out) (HP.out.2.1.below H4.out) (HP.out.2.2.below H4.out))
      clear hq4
      go_wp2_with fail
      refine C5.out.mono ?_
      rintro e w5 ⟨rfl, hq5⟩
      have H5 := Lib.hid (H4.out.trans (hq5.mono H4.out.size))
      clear hq5
      go_wp2
      go_ret
      exact ⟨rfl, H5.out⟩
end Go.Proofs.YtndpdonlombodaaDoor
