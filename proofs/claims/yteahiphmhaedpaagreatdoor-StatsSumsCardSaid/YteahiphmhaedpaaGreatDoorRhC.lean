/- The reference's Fault. -/
import Derived.Test.YteahiphmhaedpaaGreatDoorRgX
import Derived.Test.YteahiphmhaedpaaGreatDoorRhA
import Derived.Test.YteahiphmhaedpaaGreatDoorCfF
namespace Go.Proofs.YteahiphmhaedpaaGreatDoor
open Go.RowKit Law Go.Shelf
set_option linter.unusedVariables false
set_option linter.unusedSimpArgs false
set_option maxRecDepth 100000
attribute [local go_sem] Oper.semAt_some

theorem rWithin {x lo hi : Int} {r : Bool} (hr : (decide (lo ≤ x) && decide (x ≤ hi)) = r) (w : World) : Calls Tryz.prog 55 #[.int .i64 x, .int .i64 lo, .int .i64 hi] w fun e w' => e = .returned (.bool r) ∧ w = w' := by
  subst hr
  go_enter Tryz.func55, Tryz.ntmps55
  go_wp2
  all_goals
    go_ret
    refine ⟨ret_bool ?_, rfl⟩
    first | (simp [*]; done) | (simp [*]; omega)
set_option maxHeartbeats 6400000 in
theorem rFault (c : Cn) (A : Option Addr) (l k : Nat) (L : List Pr) (hl : L.length = l) (hm : l ≤ 4000000000) (h9 : gErr c.n L = 0 → c.n < 9) (w : World) (hA : LinksAt w A L) :
    Calls Tryz.prog 16 #[.agg (c.cells A l k).toArray] w fun e w' => e = .returned (.int .i64 (faultN c L : Int)) ∧ Below w.heap.size w w' := by
  have CE := fun W => refEnough c A l k W
  have HT : Hid (tabB c = (rowB c.seen && (rowB c.hist && (rowB c.fly && ((decide (1 ≤ c.quota) && decide (c.quota ≤ c.hist)) && (decide (0 ≤ c.body) && decide (c.body ≤ 1024))))))) := by
    unfold Hid tabB; simp only [Bool.and_assoc]
  have HF : Hid (faultN c L = if gErr c.n L ≠ 0 ∨ c.n < 2 then 1 else if safeB c.n.toNat (nr (nearL c.n.toNat L)) c.f = false then 2 else if enoughB c = false then 3 else if tabB c = false then 4 else 0) := rfl
  generalize enoughB c = EB at *
  generalize tabB c = TB at *
  generalize faultN c L = FN at *
  obtain ⟨n, f, dmin, dmax, rho, slew, round, window, attend, seen, hist, fly, quota, body⟩ := c
  simp only at *
  have kb := (Below.refl w.heap.size w).alloc (Nat.le_refl _) (.cells #[.int .i64 n, .slice A l k, .int .i64 f, .int .i64 dmin, .int .i64 dmax, .int .i64 rho, .int .i64 slew, .int .i64 round, .int .i64 window, .int .i64 attend, .int .i64 seen, .int .i64 hist, .int .i64 fly, .int .i64 quota, .int .i64 body] 32)
  have kx := boxF_made w [.int .i64 n, .slice A l k, .int .i64 f, .int .i64 dmin, .int .i64 dmax, .int .i64 rho, .int .i64 slew, .int .i64 round, .int .i64 window, .int .i64 attend, .int .i64 seen, .int .i64 hist, .int .i64 fly, .int .i64 quota, .int .i64 body] 32
  obtain ⟨w0, hw0⟩ : ∃ w0, w.alloc (.cells #[.int .i64 n, .slice A l k, .int .i64 f, .int .i64 dmin, .int .i64 dmax, .int .i64 rho, .int .i64 slew, .int .i64 round, .int .i64 window, .int .i64 attend, .int .i64 seen, .int .i64 hist, .int .i64 fly, .int .i64 quota, .int .i64 body] 32) = w0 := ⟨_, rfl⟩
  have hs0 : w0.heap.size = w.heap.size + 1 := by rw [← hw0]; simp
  rw [hw0] at kb kx
  unfold rowB at HT
  obtain ⟨b0, hb0⟩ : ∃ b, (decide (1 ≤ seen) && decide (seen ≤ 65536)) = b := ⟨_, rfl⟩
  obtain ⟨b1, hb1⟩ : ∃ b, (decide (1 ≤ hist) && decide (hist ≤ 65536)) = b := ⟨_, rfl⟩
  obtain ⟨b2, hb2⟩ : ∃ b, (decide (1 ≤ fly) && decide (fly ≤ 65536)) = b := ⟨_, rfl⟩
  obtain ⟨b3, hb3⟩ : ∃ b, (decide (1 ≤ quota) && decide (quota ≤ hist)) = b := ⟨_, rfl⟩
  obtain ⟨b4, hb4⟩ : ∃ b, (decide (0 ≤ body) && decide (body ≤ 1024)) = b := ⟨_, rfl⟩
  rw [hb0, hb1, hb2, hb3, hb4] at HT
  have CW0 := Lib.hid (fun W => rWithin hb0 W)
  have CW1 := Lib.hid (fun W => rWithin hb1 W)
  have CW2 := Lib.hid (fun W => rWithin hb2 W)
  have CW3 := Lib.hid (fun W => rWithin hb3 W)
  have CW4 := Lib.hid (fun W => rWithin hb4 W)
  clear hb0 hb1 hb2 hb3 hb4
  have HCN := Lib.hid (rNew n A k L hl hm w0 (hA.below kb))
  have HLL := Lib.hid hl
  have HCE := Lib.hid CE
  have q0 := kx.1 0 _ rfl
  have q1 := kx.1 1 _ rfl
  have HK := Lib.hid (And.intro kb kx)
  clear CE hA kb kx hl
  by_cases hg : gErr n L = 0
  rotate_left
  · have HV : Hid (FN = 1) := by unfold Hid; rw [HF.out, if_pos (.inl hg)]
    have hne : ((gErr n L : Int) != 0) = true := by simp; omega
    go_enter Tryz.func16, Tryz.ntmps16
    go_wp2_with fail
    refine HCN.out.mono ?_
    rintro e w1 ⟨hb, -, h2⟩
    obtain rfl := h2 hg
    have hb2 := HK.out.1.trans (hb.mono HK.out.1.size)
    have HB := Lib.hid (hb2.alloc hb2.size (.cells #[.int .i64 0, .slice none 0 0] 118))
    clear hb h2 hb2
    generalize gErr n L = G at *
    go_wp2
    refine bodyPost_ret (v := .int .i64 1) (by simp [results, Tryz.results16, go_sem]) rfl ?_
    exact ⟨ret_int (by rw [HV.out]; rfl), HB.out⟩
  have hn9 := h9 hg
  obtain ⟨g1, g2, g3⟩ := gErr_zero hg
  have HG3 := Lib.hid g3
  clear g3
  by_cases hn2 : n < 2
  · have HV : Hid (FN = 1) := by unfold Hid; rw [HF.out, if_pos (.inr hn2)]
    go_enter Tryz.func16, Tryz.ntmps16
    go_wp2_with fail
    refine HCN.out.mono ?_
    rintro e w1 ⟨hb, h1, -⟩
    obtain ⟨A2, c2, rfl, hL2, hc2⟩ := h1 hg
    obtain ⟨W2, hW2⟩ : ∃ W2, w1.alloc (.cells #[.int .i64 n, .slice A2 L.length c2] 118) = W2 := ⟨_, rfl⟩
    have hb2 : Below w1.heap.size w1 W2 := by rw [← hW2]; exact (Below.refl _ _).alloc (Nat.le_refl _) _
    have q0' := (HK.out.2.keep hb).1 0 _ rfl
    have q0'' := ((HK.out.2.keep hb).keep hb2).1 0 _ rfl
    have HB := Lib.hid ((HK.out.1.trans (hb.mono HK.out.1.size)).trans (hb2.mono (HK.out.1.trans (hb.mono HK.out.1.size)).size))
    clear hb h1 hL2 hb2
    go_wp2
    go_ret
    exact ⟨ret_int (by rw [HV.out]; rfl), HB.out⟩
  obtain ⟨m, rfl⟩ : ∃ m : Nat, n = m := ⟨n.toNat, by omega⟩
  rw [Int.toNat_natCast] at HF HG3
  have HF2 : Hid (FN = if safeB m (nr (nearL m L)) f = false then 2 else if EB = false then 3 else if TB = false then 4 else 0) := by
    unfold Hid; rw [HF.out, if_neg (by rintro (h | h); exact h hg; omega)]
  clear HF
  obtain ⟨SB, hSB⟩ : ∃ b, safeB m (nr (nearL m L)) f = b := ⟨_, rfl⟩
  rw [hSB] at HF2
  have HSB := Lib.hid hSB
  clear hSB
  cases SB
  · have HV : Hid (FN = 2) := by unfold Hid; rw [HF2.out]; rfl
    go_enter Tryz.func16, Tryz.ntmps16
    go_wp2_with fail
    refine HCN.out.mono ?_
    rintro e w1 ⟨hb, h1, -⟩
    obtain ⟨A2, c2, rfl, hL2, hc2⟩ := h1 hg
    obtain ⟨W2, hW2⟩ : ∃ W2, w1.alloc (.cells #[.int .i64 (m : Int), .slice A2 L.length c2] 118) = W2 := ⟨_, rfl⟩
    have hb2 : Below w1.heap.size w1 W2 := by rw [← hW2]; exact (Below.refl _ _).alloc (Nat.le_refl _) _
    have hbx : BoxF W2 w1.heap.size [.int .i64 (m : Int), .slice A2 L.length c2] := by rw [← hW2]; exact boxF_made _ _ _
    have hx1 := (HK.out.2.keep hb).keep hb2
    have q0' := (HK.out.2.keep hb).1 0 _ rfl
    have q0'' := hx1.1 0 _ rfl
    have q2' := hx1.1 2 _ rfl
    have r0 := hbx.1 0 _ rfl
    have r1 := hbx.1 1 _ rfl
    have CS := rSafeRef m f (by omega) A2 L.length c2 L rfl (by rw [HLL.out]; omega) HG3.out W2 (hL2.below hb2)
    rw [HSB.out] at CS
    have HCS := Lib.hid CS
    have HB1 := Lib.hid (And.intro ((HK.out.1.trans (hb.mono HK.out.1.size)).trans (hb2.mono (HK.out.1.trans (hb.mono HK.out.1.size)).size)) hx1)
    clear hb h1 CS hx1 hb2 hbx hL2
    go_wp2_with fail
    refine HCS.out.mono ?_
    rintro e w2 ⟨rfl, hb2⟩
    have HB2 := Lib.hid (And.intro (HB1.out.1.trans (hb2.mono HB1.out.1.size)) (HB1.out.2.keep hb2))
    clear hb2 HCS q0' q2' q0'' r0 r1 hW2
    go_wp2
    go_ret
    exact ⟨ret_int (by rw [HV.out]; rfl), HB2.out.1⟩
  cases EB
  · have HV : Hid (FN = 3) := by unfold Hid; rw [HF2.out]; rfl
    go_enter Tryz.func16, Tryz.ntmps16
    go_wp2_with fail
    refine HCN.out.mono ?_
    rintro e w1 ⟨hb, h1, -⟩
    obtain ⟨A2, c2, rfl, hL2, hc2⟩ := h1 hg
    obtain ⟨W2, hW2⟩ : ∃ W2, w1.alloc (.cells #[.int .i64 (m : Int), .slice A2 L.length c2] 118) = W2 := ⟨_, rfl⟩
    have hb2 : Below w1.heap.size w1 W2 := by rw [← hW2]; exact (Below.refl _ _).alloc (Nat.le_refl _) _
    have hbx : BoxF W2 w1.heap.size [.int .i64 (m : Int), .slice A2 L.length c2] := by rw [← hW2]; exact boxF_made _ _ _
    have hx1 := (HK.out.2.keep hb).keep hb2
    have q0' := (HK.out.2.keep hb).1 0 _ rfl
    have q0'' := hx1.1 0 _ rfl
    have q2' := hx1.1 2 _ rfl
    have r0 := hbx.1 0 _ rfl
    have r1 := hbx.1 1 _ rfl
    have CS := rSafeRef m f (by omega) A2 L.length c2 L rfl (by rw [HLL.out]; omega) HG3.out W2 (hL2.below hb2)
    rw [HSB.out] at CS
    have HCS := Lib.hid CS
    have HB1 := Lib.hid (And.intro ((HK.out.1.trans (hb.mono HK.out.1.size)).trans (hb2.mono (HK.out.1.trans (hb.mono HK.out.1.size)).size)) hx1)
    clear hb h1 CS hx1 hb2 hbx hL2
    go_wp2_with fail
    refine HCS.out.mono ?_
    rintro e w2 ⟨rfl, hb2⟩
    have HB2 := Lib.hid (And.intro (HB1.out.1.trans (hb2.mono HB1.out.1.size)) (HB1.out.2.keep hb2))
    clear hb2 HCS q0' q2' q0'' r0 r1 hW2
    have c0 := HB2.out.2.1 0 _ rfl
    have c1 := HB2.out.2.1 1 _ rfl
    have c2 := HB2.out.2.1 2 _ rfl
    have c3 := HB2.out.2.1 3 _ rfl
    have c4 := HB2.out.2.1 4 _ rfl
    have c5 := HB2.out.2.1 5 _ rfl
    have c6 := HB2.out.2.1 6 _ rfl
    have c7 := HB2.out.2.1 7 _ rfl
    have c8 := HB2.out.2.1 8 _ rfl
    have c9 := HB2.out.2.1 9 _ rfl
    have c10 := HB2.out.2.1 10 _ rfl
    have c11 := HB2.out.2.1 11 _ rfl
    have c12 := HB2.out.2.1 12 _ rfl
    have c13 := HB2.out.2.1 13 _ rfl
    have c14 := HB2.out.2.1 14 _ rfl
    go_wp2_with fail
    refine (HCE.out _).mono ?_
    rintro e w3 ⟨rfl, hb3⟩
    have HB3 := Lib.hid (And.intro (HB2.out.1.trans (hb3.mono HB2.out.1.size)) (HB2.out.2.keep hb3))
    clear hb3
    clear c0 c1 c2 c3 c4 c5 c6 c7 c8 c9 c10 c11 c12 c13 c14
    have c0 := HB3.out.2.1 0 _ rfl
    have c1 := HB3.out.2.1 1 _ rfl
    have c2 := HB3.out.2.1 2 _ rfl
    have c3 := HB3.out.2.1 3 _ rfl
    have c4 := HB3.out.2.1 4 _ rfl
    have c5 := HB3.out.2.1 5 _ rfl
    have c6 := HB3.out.2.1 6 _ rfl
    have c7 := HB3.out.2.1 7 _ rfl
    have c8 := HB3.out.2.1 8 _ rfl
    have c9 := HB3.out.2.1 9 _ rfl
    have c10 := HB3.out.2.1 10 _ rfl
    have c11 := HB3.out.2.1 11 _ rfl
    have c12 := HB3.out.2.1 12 _ rfl
    have c13 := HB3.out.2.1 13 _ rfl
    have c14 := HB3.out.2.1 14 _ rfl
    go_wp2
    go_ret
    exact ⟨ret_int (by rw [HV.out]; rfl), HB3.out.1⟩
  cases b0
  · have HV : Hid (FN = 4) := by unfold Hid; rw [HF2.out, HT.out]; first | rfl | (simp)
    go_enter Tryz.func16, Tryz.ntmps16
    go_wp2_with fail
    refine HCN.out.mono ?_
    rintro e w1 ⟨hb, h1, -⟩
    obtain ⟨A2, c2, rfl, hL2, hc2⟩ := h1 hg
    obtain ⟨W2, hW2⟩ : ∃ W2, w1.alloc (.cells #[.int .i64 (m : Int), .slice A2 L.length c2] 118) = W2 := ⟨_, rfl⟩
    have hb2 : Below w1.heap.size w1 W2 := by rw [← hW2]; exact (Below.refl _ _).alloc (Nat.le_refl _) _
    have hbx : BoxF W2 w1.heap.size [.int .i64 (m : Int), .slice A2 L.length c2] := by rw [← hW2]; exact boxF_made _ _ _
    have hx1 := (HK.out.2.keep hb).keep hb2
    have q0' := (HK.out.2.keep hb).1 0 _ rfl
    have q0'' := hx1.1 0 _ rfl
    have q2' := hx1.1 2 _ rfl
    have r0 := hbx.1 0 _ rfl
    have r1 := hbx.1 1 _ rfl
    have CS := rSafeRef m f (by omega) A2 L.length c2 L rfl (by rw [HLL.out]; omega) HG3.out W2 (hL2.below hb2)
    rw [HSB.out] at CS
    have HCS := Lib.hid CS
    have HB1 := Lib.hid (And.intro ((HK.out.1.trans (hb.mono HK.out.1.size)).trans (hb2.mono (HK.out.1.trans (hb.mono HK.out.1.size)).size)) hx1)
    clear hb h1 CS hx1 hb2 hbx hL2
    go_wp2_with fail
    refine HCS.out.mono ?_
    rintro e w2 ⟨rfl, hb2⟩
    have HB2 := Lib.hid (And.intro (HB1.out.1.trans (hb2.mono HB1.out.1.size)) (HB1.out.2.keep hb2))
    clear hb2 HCS q0' q2' q0'' r0 r1 hW2
    have c0 := HB2.out.2.1 0 _ rfl
    have c1 := HB2.out.2.1 1 _ rfl
    have c2 := HB2.out.2.1 2 _ rfl
    have c3 := HB2.out.2.1 3 _ rfl
    have c4 := HB2.out.2.1 4 _ rfl
    have c5 := HB2.out.2.1 5 _ rfl
    have c6 := HB2.out.2.1 6 _ rfl
    have c7 := HB2.out.2.1 7 _ rfl
    have c8 := HB2.out.2.1 8 _ rfl
    have c9 := HB2.out.2.1 9 _ rfl
    have c10 := HB2.out.2.1 10 _ rfl
    have c11 := HB2.out.2.1 11 _ rfl
    have c12 := HB2.out.2.1 12 _ rfl
    have c13 := HB2.out.2.1 13 _ rfl
    have c14 := HB2.out.2.1 14 _ rfl
    go_wp2_with fail
    refine (HCE.out _).mono ?_
    rintro e w3 ⟨rfl, hb3⟩
    have HB3 := Lib.hid (And.intro (HB2.out.1.trans (hb3.mono HB2.out.1.size)) (HB2.out.2.keep hb3))
    clear hb3
    clear c0 c1 c2 c3 c4 c5 c6 c7 c8 c9 c10 c11 c12 c13 c14
    have c0 := HB3.out.2.1 0 _ rfl
    have c1 := HB3.out.2.1 1 _ rfl
    have c2 := HB3.out.2.1 2 _ rfl
    have c3 := HB3.out.2.1 3 _ rfl
    have c4 := HB3.out.2.1 4 _ rfl
    have c5 := HB3.out.2.1 5 _ rfl
    have c6 := HB3.out.2.1 6 _ rfl
    have c7 := HB3.out.2.1 7 _ rfl
    have c8 := HB3.out.2.1 8 _ rfl
    have c9 := HB3.out.2.1 9 _ rfl
    have c10 := HB3.out.2.1 10 _ rfl
    have c11 := HB3.out.2.1 11 _ rfl
    have c12 := HB3.out.2.1 12 _ rfl
    have c13 := HB3.out.2.1 13 _ rfl
    have c14 := HB3.out.2.1 14 _ rfl
    go_wp2_with fail
    refine (CW0.out _).mono ?_
    rintro e w' ⟨rfl, rfl⟩
    go_wp2
    go_ret
    exact ⟨ret_int (by rw [HV.out]; rfl), HB3.out.1⟩
  cases b1
  · have HV : Hid (FN = 4) := by unfold Hid; rw [HF2.out, HT.out]; first | rfl | (simp)
    go_enter Tryz.func16, Tryz.ntmps16
    go_wp2_with fail
    refine HCN.out.mono ?_
    rintro e w1 ⟨hb, h1, -⟩
    obtain ⟨A2, c2, rfl, hL2, hc2⟩ := h1 hg
    obtain ⟨W2, hW2⟩ : ∃ W2, w1.alloc (.cells #[.int .i64 (m : Int), .slice A2 L.length c2] 118) = W2 := ⟨_, rfl⟩
    have hb2 : Below w1.heap.size w1 W2 := by rw [← hW2]; exact (Below.refl _ _).alloc (Nat.le_refl _) _
    have hbx : BoxF W2 w1.heap.size [.int .i64 (m : Int), .slice A2 L.length c2] := by rw [← hW2]; exact boxF_made _ _ _
    have hx1 := (HK.out.2.keep hb).keep hb2
    have q0' := (HK.out.2.keep hb).1 0 _ rfl
    have q0'' := hx1.1 0 _ rfl
    have q2' := hx1.1 2 _ rfl
    have r0 := hbx.1 0 _ rfl
    have r1 := hbx.1 1 _ rfl
    have CS := rSafeRef m f (by omega) A2 L.length c2 L rfl (by rw [HLL.out]; omega) HG3.out W2 (hL2.below hb2)
    rw [HSB.out] at CS
    have HCS := Lib.hid CS
    have HB1 := Lib.hid (And.intro ((HK.out.1.trans (hb.mono HK.out.1.size)).trans (hb2.mono (HK.out.1.trans (hb.mono HK.out.1.size)).size)) hx1)
    clear hb h1 CS hx1 hb2 hbx hL2
    go_wp2_with fail
    refine HCS.out.mono ?_
    rintro e w2 ⟨rfl, hb2⟩
    have HB2 := Lib.hid (And.intro (HB1.out.1.trans (hb2.mono HB1.out.1.size)) (HB1.out.2.keep hb2))
    clear hb2 HCS q0' q2' q0'' r0 r1 hW2
    have c0 := HB2.out.2.1 0 _ rfl
    have c1 := HB2.out.2.1 1 _ rfl
    have c2 := HB2.out.2.1 2 _ rfl
    have c3 := HB2.out.2.1 3 _ rfl
    have c4 := HB2.out.2.1 4 _ rfl
    have c5 := HB2.out.2.1 5 _ rfl
    have c6 := HB2.out.2.1 6 _ rfl
    have c7 := HB2.out.2.1 7 _ rfl
    have c8 := HB2.out.2.1 8 _ rfl
    have c9 := HB2.out.2.1 9 _ rfl
    have c10 := HB2.out.2.1 10 _ rfl
    have c11 := HB2.out.2.1 11 _ rfl
    have c12 := HB2.out.2.1 12 _ rfl
    have c13 := HB2.out.2.1 13 _ rfl
    have c14 := HB2.out.2.1 14 _ rfl
    go_wp2_with fail
    refine (HCE.out _).mono ?_
    rintro e w3 ⟨rfl, hb3⟩
    have HB3 := Lib.hid (And.intro (HB2.out.1.trans (hb3.mono HB2.out.1.size)) (HB2.out.2.keep hb3))
    clear hb3
    clear c0 c1 c2 c3 c4 c5 c6 c7 c8 c9 c10 c11 c12 c13 c14
    have c0 := HB3.out.2.1 0 _ rfl
    have c1 := HB3.out.2.1 1 _ rfl
    have c2 := HB3.out.2.1 2 _ rfl
    have c3 := HB3.out.2.1 3 _ rfl
    have c4 := HB3.out.2.1 4 _ rfl
    have c5 := HB3.out.2.1 5 _ rfl
    have c6 := HB3.out.2.1 6 _ rfl
    have c7 := HB3.out.2.1 7 _ rfl
    have c8 := HB3.out.2.1 8 _ rfl
    have c9 := HB3.out.2.1 9 _ rfl
    have c10 := HB3.out.2.1 10 _ rfl
    have c11 := HB3.out.2.1 11 _ rfl
    have c12 := HB3.out.2.1 12 _ rfl
    have c13 := HB3.out.2.1 13 _ rfl
    have c14 := HB3.out.2.1 14 _ rfl
    go_wp2_with fail
    refine (CW0.out _).mono ?_
    rintro e w' ⟨rfl, rfl⟩
    go_wp2_with fail
    refine (CW1.out _).mono ?_
    rintro e w' ⟨rfl, rfl⟩
    go_wp2
    go_ret
    exact ⟨ret_int (by rw [HV.out]; rfl), HB3.out.1⟩
  cases b2
  · have HV : Hid (FN = 4) := by unfold Hid; rw [HF2.out, HT.out]; first | rfl | (simp)
    go_enter Tryz.func16, Tryz.ntmps16
    go_wp2_with fail
    refine HCN.out.mono ?_
    rintro e w1 ⟨hb, h1, -⟩
    obtain ⟨A2, c2, rfl, hL2, hc2⟩ := h1 hg
    obtain ⟨W2, hW2⟩ : ∃ W2, w1.alloc (.cells #[.int .i64 (m : Int), .slice A2 L.length c2] 118) = W2 := ⟨_, rfl⟩
    have hb2 : Below w1.heap.size w1 W2 := by rw [← hW2]; exact (Below.refl _ _).alloc (Nat.le_refl _) _
    have hbx : BoxF W2 w1.heap.size [.int .i64 (m : Int), .slice A2 L.length c2] := by rw [← hW2]; exact boxF_made _ _ _
    have hx1 := (HK.out.2.keep hb).keep hb2
    have q0' := (HK.out.2.keep hb).1 0 _ rfl
    have q0'' := hx1.1 0 _ rfl
    have q2' := hx1.1 2 _ rfl
    have r0 := hbx.1 0 _ rfl
    have r1 := hbx.1 1 _ rfl
    have CS := rSafeRef m f (by omega) A2 L.length c2 L rfl (by rw [HLL.out]; omega) HG3.out W2 (hL2.below hb2)
    rw [HSB.out] at CS
    have HCS := Lib.hid CS
    have HB1 := Lib.hid (And.intro ((HK.out.1.trans (hb.mono HK.out.1.size)).trans (hb2.mono (HK.out.1.trans (hb.mono HK.out.1.size)).size)) hx1)
    clear hb h1 CS hx1 hb2 hbx hL2
    go_wp2_with fail
    refine HCS.out.mono ?_
    rintro e w2 ⟨rfl, hb2⟩
    have HB2 := Lib.hid (And.intro (HB1.out.1.trans (hb2.mono HB1.out.1.size)) (HB1.out.2.keep hb2))
    clear hb2 HCS q0' q2' q0'' r0 r1 hW2
    have c0 := HB2.out.2.1 0 _ rfl
    have c1 := HB2.out.2.1 1 _ rfl
    have c2 := HB2.out.2.1 2 _ rfl
    have c3 := HB2.out.2.1 3 _ rfl
    have c4 := HB2.out.2.1 4 _ rfl
    have c5 := HB2.out.2.1 5 _ rfl
    have c6 := HB2.out.2.1 6 _ rfl
    have c7 := HB2.out.2.1 7 _ rfl
    have c8 := HB2.out.2.1 8 _ rfl
    have c9 := HB2.out.2.1 9 _ rfl
    have c10 := HB2.out.2.1 10 _ rfl
    have c11 := HB2.out.2.1 11 _ rfl
    have c12 := HB2.out.2.1 12 _ rfl
    have c13 := HB2.out.2.1 13 _ rfl
    have c14 := HB2.out.2.1 14 _ rfl
    go_wp2_with fail
    refine (HCE.out _).mono ?_
    rintro e w3 ⟨rfl, hb3⟩
    have HB3 := Lib.hid (And.intro (HB2.out.1.trans (hb3.mono HB2.out.1.size)) (HB2.out.2.keep hb3))
    clear hb3
    clear c0 c1 c2 c3 c4 c5 c6 c7 c8 c9 c10 c11 c12 c13 c14
    have c0 := HB3.out.2.1 0 _ rfl
    have c1 := HB3.out.2.1 1 _ rfl
    have c2 := HB3.out.2.1 2 _ rfl
    have c3 := HB3.out.2.1 3 _ rfl
    have c4 := HB3.out.2.1 4 _ rfl
    have c5 := HB3.out.2.1 5 _ rfl
    have c6 := HB3.out.2.1 6 _ rfl
    have c7 := HB3.out.2.1 7 _ rfl
    have c8 := HB3.out.2.1 8 _ rfl
    have c9 := HB3.out.2.1 9 _ rfl
    have c10 := HB3.out.2.1 10 _ rfl
    have c11 := HB3.out.2.1 11 _ rfl
    have c12 := HB3.out.2.1 12 _ rfl
    have c13 := HB3.out.2.1 13 _ rfl
    have c14 := HB3.out.2.1 14 _ rfl
    go_wp2_with fail
    refine (CW0.out _).mono ?_
    rintro e w' ⟨rfl, rfl⟩
    go_wp2_with fail
    refine (CW1.out _).mono ?_
    rintro e w' ⟨rfl, rfl⟩
    go_wp2_with fail
    refine (CW2.out _).mono ?_
    rintro e w' ⟨rfl, rfl⟩
    go_wp2
    go_ret
    exact ⟨ret_int (by rw [HV.out]; rfl), HB3.out.1⟩
  cases b3
  · have HV : Hid (FN = 4) := by unfold Hid; rw [HF2.out, HT.out]; first | rfl | (simp)
    go_enter Tryz.func16, Tryz.ntmps16
    go_wp2_with fail
    refine HCN.out.mono ?_
    rintro e w1 ⟨hb, h1, -⟩
    obtain ⟨A2, c2, rfl, hL2, hc2⟩ := h1 hg
    obtain ⟨W2, hW2⟩ : ∃ W2, w1.alloc (.cells #[.int .i64 (m : Int), .slice A2 L.length c2] 118) = W2 := ⟨_, rfl⟩
    have hb2 : Below w1.heap.size w1 W2 := by rw [← hW2]; exact (Below.refl _ _).alloc (Nat.le_refl _) _
    have hbx : BoxF W2 w1.heap.size [.int .i64 (m : Int), .slice A2 L.length c2] := by rw [← hW2]; exact boxF_made _ _ _
    have hx1 := (HK.out.2.keep hb).keep hb2
    have q0' := (HK.out.2.keep hb).1 0 _ rfl
    have q0'' := hx1.1 0 _ rfl
    have q2' := hx1.1 2 _ rfl
    have r0 := hbx.1 0 _ rfl
    have r1 := hbx.1 1 _ rfl
    have CS := rSafeRef m f (by omega) A2 L.length c2 L rfl (by rw [HLL.out]; omega) HG3.out W2 (hL2.below hb2)
    rw [HSB.out] at CS
    have HCS := Lib.hid CS
    have HB1 := Lib.hid (And.intro ((HK.out.1.trans (hb.mono HK.out.1.size)).trans (hb2.mono (HK.out.1.trans (hb.mono HK.out.1.size)).size)) hx1)
    clear hb h1 CS hx1 hb2 hbx hL2
    go_wp2_with fail
    refine HCS.out.mono ?_
    rintro e w2 ⟨rfl, hb2⟩
    have HB2 := Lib.hid (And.intro (HB1.out.1.trans (hb2.mono HB1.out.1.size)) (HB1.out.2.keep hb2))
    clear hb2 HCS q0' q2' q0'' r0 r1 hW2
    have c0 := HB2.out.2.1 0 _ rfl
    have c1 := HB2.out.2.1 1 _ rfl
    have c2 := HB2.out.2.1 2 _ rfl
    have c3 := HB2.out.2.1 3 _ rfl
    have c4 := HB2.out.2.1 4 _ rfl
    have c5 := HB2.out.2.1 5 _ rfl
    have c6 := HB2.out.2.1 6 _ rfl
    have c7 := HB2.out.2.1 7 _ rfl
    have c8 := HB2.out.2.1 8 _ rfl
    have c9 := HB2.out.2.1 9 _ rfl
    have c10 := HB2.out.2.1 10 _ rfl
    have c11 := HB2.out.2.1 11 _ rfl
    have c12 := HB2.out.2.1 12 _ rfl
    have c13 := HB2.out.2.1 13 _ rfl
    have c14 := HB2.out.2.1 14 _ rfl
    go_wp2_with fail
    refine (HCE.out _).mono ?_
    rintro e w3 ⟨rfl, hb3⟩
    have HB3 := Lib.hid (And.intro (HB2.out.1.trans (hb3.mono HB2.out.1.size)) (HB2.out.2.keep hb3))
    clear hb3
    clear c0 c1 c2 c3 c4 c5 c6 c7 c8 c9 c10 c11 c12 c13 c14
    have c0 := HB3.out.2.1 0 _ rfl
    have c1 := HB3.out.2.1 1 _ rfl
    have c2 := HB3.out.2.1 2 _ rfl
    have c3 := HB3.out.2.1 3 _ rfl
    have c4 := HB3.out.2.1 4 _ rfl
    have c5 := HB3.out.2.1 5 _ rfl
    have c6 := HB3.out.2.1 6 _ rfl
    have c7 := HB3.out.2.1 7 _ rfl
    have c8 := HB3.out.2.1 8 _ rfl
    have c9 := HB3.out.2.1 9 _ rfl
    have c10 := HB3.out.2.1 10 _ rfl
    have c11 := HB3.out.2.1 11 _ rfl
    have c12 := HB3.out.2.1 12 _ rfl
    have c13 := HB3.out.2.1 13 _ rfl
    have c14 := HB3.out.2.1 14 _ rfl
    go_wp2_with fail
    refine (CW0.out _).mono ?_
    rintro e w' ⟨rfl, rfl⟩
    go_wp2_with fail
    refine (CW1.out _).mono ?_
    rintro e w' ⟨rfl, rfl⟩
    go_wp2_with fail
    refine (CW2.out _).mono ?_
    rintro e w' ⟨rfl, rfl⟩
    go_wp2_with fail
    refine (CW3.out _).mono ?_
    rintro e w' ⟨rfl, rfl⟩
    go_wp2
    go_ret
    exact ⟨ret_int (by rw [HV.out]; rfl), HB3.out.1⟩
  cases b4
  · have HV : Hid (FN = 4) := by unfold Hid; rw [HF2.out, HT.out]; first | rfl | (simp)
    go_enter Tryz.func16, Tryz.ntmps16
    go_wp2_with fail
    refine HCN.out.mono ?_
    rintro e w1 ⟨hb, h1, -⟩
    obtain ⟨A2, c2, rfl, hL2, hc2⟩ := h1 hg
    obtain ⟨W2, hW2⟩ : ∃ W2, w1.alloc (.cells #[.int .i64 (m : Int), .slice A2 L.length c2] 118) = W2 := ⟨_, rfl⟩
    have hb2 : Below w1.heap.size w1 W2 := by rw [← hW2]; exact (Below.refl _ _).alloc (Nat.le_refl _) _
    have hbx : BoxF W2 w1.heap.size [.int .i64 (m : Int), .slice A2 L.length c2] := by rw [← hW2]; exact boxF_made _ _ _
    have hx1 := (HK.out.2.keep hb).keep hb2
    have q0' := (HK.out.2.keep hb).1 0 _ rfl
    have q0'' := hx1.1 0 _ rfl
    have q2' := hx1.1 2 _ rfl
    have r0 := hbx.1 0 _ rfl
    have r1 := hbx.1 1 _ rfl
    have CS := rSafeRef m f (by omega) A2 L.length c2 L rfl (by rw [HLL.out]; omega) HG3.out W2 (hL2.below hb2)
    rw [HSB.out] at CS
    have HCS := Lib.hid CS
    have HB1 := Lib.hid (And.intro ((HK.out.1.trans (hb.mono HK.out.1.size)).trans (hb2.mono (HK.out.1.trans (hb.mono HK.out.1.size)).size)) hx1)
    clear hb h1 CS hx1 hb2 hbx hL2
    go_wp2_with fail
    refine HCS.out.mono ?_
    rintro e w2 ⟨rfl, hb2⟩
    have HB2 := Lib.hid (And.intro (HB1.out.1.trans (hb2.mono HB1.out.1.size)) (HB1.out.2.keep hb2))
    clear hb2 HCS q0' q2' q0'' r0 r1 hW2
    have c0 := HB2.out.2.1 0 _ rfl
    have c1 := HB2.out.2.1 1 _ rfl
    have c2 := HB2.out.2.1 2 _ rfl
    have c3 := HB2.out.2.1 3 _ rfl
    have c4 := HB2.out.2.1 4 _ rfl
    have c5 := HB2.out.2.1 5 _ rfl
    have c6 := HB2.out.2.1 6 _ rfl
    have c7 := HB2.out.2.1 7 _ rfl
    have c8 := HB2.out.2.1 8 _ rfl
    have c9 := HB2.out.2.1 9 _ rfl
    have c10 := HB2.out.2.1 10 _ rfl
    have c11 := HB2.out.2.1 11 _ rfl
    have c12 := HB2.out.2.1 12 _ rfl
    have c13 := HB2.out.2.1 13 _ rfl
    have c14 := HB2.out.2.1 14 _ rfl
    go_wp2_with fail
    refine (HCE.out _).mono ?_
    rintro e w3 ⟨rfl, hb3⟩
    have HB3 := Lib.hid (And.intro (HB2.out.1.trans (hb3.mono HB2.out.1.size)) (HB2.out.2.keep hb3))
    clear hb3
    clear c0 c1 c2 c3 c4 c5 c6 c7 c8 c9 c10 c11 c12 c13 c14
    have c0 := HB3.out.2.1 0 _ rfl
    have c1 := HB3.out.2.1 1 _ rfl
    have c2 := HB3.out.2.1 2 _ rfl
    have c3 := HB3.out.2.1 3 _ rfl
    have c4 := HB3.out.2.1 4 _ rfl
    have c5 := HB3.out.2.1 5 _ rfl
    have c6 := HB3.out.2.1 6 _ rfl
    have c7 := HB3.out.2.1 7 _ rfl
    have c8 := HB3.out.2.1 8 _ rfl
    have c9 := HB3.out.2.1 9 _ rfl
    have c10 := HB3.out.2.1 10 _ rfl
    have c11 := HB3.out.2.1 11 _ rfl
    have c12 := HB3.out.2.1 12 _ rfl
    have c13 := HB3.out.2.1 13 _ rfl
    have c14 := HB3.out.2.1 14 _ rfl
    go_wp2_with fail
    refine (CW0.out _).mono ?_
    rintro e w' ⟨rfl, rfl⟩
    go_wp2_with fail
    refine (CW1.out _).mono ?_
    rintro e w' ⟨rfl, rfl⟩
    go_wp2_with fail
    refine (CW2.out _).mono ?_
    rintro e w' ⟨rfl, rfl⟩
    go_wp2_with fail
    refine (CW3.out _).mono ?_
    rintro e w' ⟨rfl, rfl⟩
    go_wp2_with fail
    refine (CW4.out _).mono ?_
    rintro e w' ⟨rfl, rfl⟩
    go_wp2
    go_ret
    exact ⟨ret_int (by rw [HV.out]; rfl), HB3.out.1⟩
  · have HV : Hid (FN = 0) := by unfold Hid; rw [HF2.out, HT.out]; rfl
    go_enter Tryz.func16, Tryz.ntmps16
    go_wp2_with fail
    refine HCN.out.mono ?_
    rintro e w1 ⟨hb, h1, -⟩
    obtain ⟨A2, c2, rfl, hL2, hc2⟩ := h1 hg
    obtain ⟨W2, hW2⟩ : ∃ W2, w1.alloc (.cells #[.int .i64 (m : Int), .slice A2 L.length c2] 118) = W2 := ⟨_, rfl⟩
    have hb2 : Below w1.heap.size w1 W2 := by rw [← hW2]; exact (Below.refl _ _).alloc (Nat.le_refl _) _
    have hbx : BoxF W2 w1.heap.size [.int .i64 (m : Int), .slice A2 L.length c2] := by rw [← hW2]; exact boxF_made _ _ _
    have hx1 := (HK.out.2.keep hb).keep hb2
    have q0' := (HK.out.2.keep hb).1 0 _ rfl
    have q0'' := hx1.1 0 _ rfl
    have q2' := hx1.1 2 _ rfl
    have r0 := hbx.1 0 _ rfl
    have r1 := hbx.1 1 _ rfl
    have CS := rSafeRef m f (by omega) A2 L.length c2 L rfl (by rw [HLL.out]; omega) HG3.out W2 (hL2.below hb2)
    rw [HSB.out] at CS
    have HCS := Lib.hid CS
    have HB1 := Lib.hid (And.intro ((HK.out.1.trans (hb.mono HK.out.1.size)).trans (hb2.mono (HK.out.1.trans (hb.mono HK.out.1.size)).size)) hx1)
    clear hb h1 CS hx1 hb2 hbx hL2
    go_wp2_with fail
    refine HCS.out.mono ?_
    rintro e w2 ⟨rfl, hb2⟩
    have HB2 := Lib.hid (And.intro (HB1.out.1.trans (hb2.mono HB1.out.1.size)) (HB1.out.2.keep hb2))
    clear hb2 HCS q0' q2' q0'' r0 r1 hW2
    have c0 := HB2.out.2.1 0 _ rfl
    have c1 := HB2.out.2.1 1 _ rfl
    have c2 := HB2.out.2.1 2 _ rfl
    have c3 := HB2.out.2.1 3 _ rfl
    have c4 := HB2.out.2.1 4 _ rfl
    have c5 := HB2.out.2.1 5 _ rfl
    have c6 := HB2.out.2.1 6 _ rfl
    have c7 := HB2.out.2.1 7 _ rfl
    have c8 := HB2.out.2.1 8 _ rfl
    have c9 := HB2.out.2.1 9 _ rfl
    have c10 := HB2.out.2.1 10 _ rfl
    have c11 := HB2.out.2.1 11 _ rfl
    have c12 := HB2.out.2.1 12 _ rfl
    have c13 := HB2.out.2.1 13 _ rfl
    have c14 := HB2.out.2.1 14 _ rfl
    go_wp2_with fail
    refine (HCE.out _).mono ?_
    rintro e w3 ⟨rfl, hb3⟩
    have HB3 := Lib.hid (And.intro (HB2.out.1.trans (hb3.mono HB2.out.1.size)) (HB2.out.2.keep hb3))
    clear hb3
    clear c0 c1 c2 c3 c4 c5 c6 c7 c8 c9 c10 c11 c12 c13 c14
    have c0 := HB3.out.2.1 0 _ rfl
    have c1 := HB3.out.2.1 1 _ rfl
    have c2 := HB3.out.2.1 2 _ rfl
    have c3 := HB3.out.2.1 3 _ rfl
    have c4 := HB3.out.2.1 4 _ rfl
    have c5 := HB3.out.2.1 5 _ rfl
    have c6 := HB3.out.2.1 6 _ rfl
    have c7 := HB3.out.2.1 7 _ rfl
    have c8 := HB3.out.2.1 8 _ rfl
    have c9 := HB3.out.2.1 9 _ rfl
    have c10 := HB3.out.2.1 10 _ rfl
    have c11 := HB3.out.2.1 11 _ rfl
    have c12 := HB3.out.2.1 12 _ rfl
    have c13 := HB3.out.2.1 13 _ rfl
    have c14 := HB3.out.2.1 14 _ rfl
    go_wp2_with fail
    refine (CW0.out _).mono ?_
    rintro e w' ⟨rfl, rfl⟩
    go_wp2_with fail
    refine (CW1.out _).mono ?_
    rintro e w' ⟨rfl, rfl⟩
    go_wp2_with fail
    refine (CW2.out _).mono ?_
    rintro e w' ⟨rfl, rfl⟩
    go_wp2_with fail
    refine (CW3.out _).mono ?_
    rintro e w' ⟨rfl, rfl⟩
    go_wp2_with fail
    refine (CW4.out _).mono ?_
    rintro e w' ⟨rfl, rfl⟩
    go_wp2
    go_ret
    exact ⟨ret_int (by rw [HV.out]; rfl), HB3.out.1⟩
end Go.Proofs.YteahiphmhaedpaaGreatDoor
