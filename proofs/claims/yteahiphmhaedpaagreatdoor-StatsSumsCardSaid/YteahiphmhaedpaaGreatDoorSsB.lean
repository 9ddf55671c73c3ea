/- The sum of two clusters' numbers: stats.Sum. -/
import Derived.Test.YteahiphmhaedpaaGreatDoorSsA
import Derived.BigRegion
import Derived.Deep.Cut
import Derived.Deep.CutRange
namespace Go.Proofs.YteahiphmhaedpaaGreatDoor
open Go.RowKit Law
set_option linter.unusedVariables false
set_option linter.unusedSimpArgs false
set_option maxRecDepth 100000

def sumG (a b : List Int) : List Int := (List.range 32).map fun i => gS a i + gS b i
/-- The numbers when the first k ones are summed. -/
def mxI (a b : List Int) (k : Nat) : List Int := (List.range 32).map fun i => if i < k then gS a i + gS b i else gS a i
theorem mx_len (a b : List Int) (k : Nat) : (mxI a b k).length = 32 := by simp [mxI]
theorem mx_gS (a b : List Int) (k : Nat) {i : Nat} (h : i < 32) : gS (mxI a b k) i = if i < k then gS a i + gS b i else gS a i := by
  unfold mxI
  rw [gS, List.getD_eq_getElem?_getD, List.getElem?_map, List.getElem?_range h]
  rfl
theorem mx_at (a b : List Int) (k : Nat) {i : Nat} (h : i < 32) (hk : k ≤ i) : (vL (mxI a b k))[i]? = some (.int .i64 (gS a i)) := by
  rw [vL_at (by rw [mx_len]; exact h), mx_gS a b k h, if_neg (by omega)]
theorem mx_set (a b : List Int) {k : Nat} (h : k < 32) : (vL (mxI a b k)).set k (.int .i64 (gS a k + gS b k)) = vL (mxI a b (k + 1)) := by
  apply List.ext_getElem?
  intro i
  by_cases e : i = k
  · subst e
    rw [List.getElem?_set_self (by rw [vL_len, mx_len]; exact h), vL_at (by rw [mx_len]; exact h), mx_gS _ _ _ h, if_pos (by omega)]
  · rw [List.getElem?_set_ne (Ne.symm e)]
    by_cases hi : i < 32
    · rw [vL_at (by rw [mx_len]; exact hi), vL_at (by rw [mx_len]; exact hi), mx_gS _ _ _ hi, mx_gS _ _ _ hi]
      by_cases h1 : i < k
      · rw [if_pos h1, if_pos (by omega)]
      · rw [if_neg h1, if_neg (by omega)]
    · rw [List.getElem?_eq_none (by rw [vL_len, mx_len]; omega), List.getElem?_eq_none (by rw [vL_len, mx_len]; omega)]
theorem mx_zero {a : List Int} (b : List Int) (h : a.length = 32) : mxI a b 0 = a := by
  apply List.ext_getElem?
  intro i
  by_cases hi : i < 32
  · unfold mxI
    rw [List.getElem?_map, List.getElem?_range hi]
    simp [gS, List.getElem?_eq_getElem (h ▸ hi : i < a.length)]
  · rw [List.getElem?_eq_none (by rw [mx_len]; omega), List.getElem?_eq_none (by omega)]
theorem mx_full (a b : List Int) : mxI a b 32 = sumG a b := by
  unfold mxI sumG
  refine List.map_congr_left fun i hi => ?_
  rw [if_pos (List.mem_range.1 hi)]
set_option maxHeartbeats 12800000 in
theorem wSum (a b : List Int) (ha : a.length = 32) (hb : b.length = 32) (hw : ∀ k, IntKind.i64.wrap (gS a k + gS b k) = gS a k + gS b k) (w : World) : Calls Tryz.prog 5 #[.agg (vL a).toArray, .agg (vL b).toArray] w fun e w' => e = .returned (.agg (vL (sumG a b)).toArray) ∧ Below w.heap.size w w' := by
  obtain ⟨va, hva⟩ : ∃ va, vL a = va := ⟨_, rfl⟩
  obtain ⟨vb, hvb⟩ : ∃ vb, vL b = vb := ⟨_, rfl⟩
  have HAB := Lib.hid (And.intro ha (And.intro hb (And.intro hva hvb)))
  rw [hva, hvb]
  have b1 := (Below.refl w.heap.size w).alloc (Nat.le_refl _) (.cells va.toArray 25)
  have k1 := boxF_made w va 25
  obtain ⟨w1, hw1⟩ : ∃ W_, w.alloc (.cells va.toArray 25) = W_ := ⟨_, rfl⟩
  have sw1 : w1.heap.size = w.heap.size + 1 := by rw [← hw1]; simp
  rw [hw1] at b1
  replace k1 : BoxF w1 w.heap.size va := hw1 ▸ k1
  have b2 := (Below.refl w1.heap.size w1).alloc (Nat.le_refl _) (.cells vb.toArray 25)
  have k2 := boxF_made w1 vb 25
  obtain ⟨w2, hw2⟩ : ∃ W_, w1.alloc (.cells vb.toArray 25) = W_ := ⟨_, rfl⟩
  have sw2 : w2.heap.size = w1.heap.size + 1 := by rw [← hw2]; simp
  rw [hw2] at b2
  replace k2 : BoxF w2 w1.heap.size vb := hw2 ▸ k2
  have b3 := (Below.refl w2.heap.size w2).alloc (Nat.le_refl _) (.cells #[.int .i64 0, .int .i64 0, .int .i64 0, .int .i64 0, .int .i64 0, .int .i64 0, .int .i64 0, .int .i64 0, .int .i64 0, .int .i64 0, .int .i64 0, .int .i64 0, .int .i64 0, .int .i64 0, .int .i64 0, .int .i64 0, .int .i64 0, .int .i64 0, .int .i64 0, .int .i64 0, .int .i64 0, .int .i64 0, .int .i64 0, .int .i64 0, .int .i64 0, .int .i64 0, .int .i64 0, .int .i64 0, .int .i64 0, .int .i64 0, .int .i64 0, .int .i64 0] 25)
  have k3 := boxF_made w2 [.int .i64 0, .int .i64 0, .int .i64 0, .int .i64 0, .int .i64 0, .int .i64 0, .int .i64 0, .int .i64 0, .int .i64 0, .int .i64 0, .int .i64 0, .int .i64 0, .int .i64 0, .int .i64 0, .int .i64 0, .int .i64 0, .int .i64 0, .int .i64 0, .int .i64 0, .int .i64 0, .int .i64 0, .int .i64 0, .int .i64 0, .int .i64 0, .int .i64 0, .int .i64 0, .int .i64 0, .int .i64 0, .int .i64 0, .int .i64 0, .int .i64 0, .int .i64 0] 25
  obtain ⟨w3, hw3⟩ : ∃ W_, w2.alloc (.cells #[.int .i64 0, .int .i64 0, .int .i64 0, .int .i64 0, .int .i64 0, .int .i64 0, .int .i64 0, .int .i64 0, .int .i64 0, .int .i64 0, .int .i64 0, .int .i64 0, .int .i64 0, .int .i64 0, .int .i64 0, .int .i64 0, .int .i64 0, .int .i64 0, .int .i64 0, .int .i64 0, .int .i64 0, .int .i64 0, .int .i64 0, .int .i64 0, .int .i64 0, .int .i64 0, .int .i64 0, .int .i64 0, .int .i64 0, .int .i64 0, .int .i64 0, .int .i64 0] 25) = W_ := ⟨_, rfl⟩
  have sw3 : w3.heap.size = w2.heap.size + 1 := by rw [← hw3]; simp
  rw [hw3] at b3
  replace k3 : BoxF w3 w2.heap.size [.int .i64 0, .int .i64 0, .int .i64 0, .int .i64 0, .int .i64 0, .int .i64 0, .int .i64 0, .int .i64 0, .int .i64 0, .int .i64 0, .int .i64 0, .int .i64 0, .int .i64 0, .int .i64 0, .int .i64 0, .int .i64 0, .int .i64 0, .int .i64 0, .int .i64 0, .int .i64 0, .int .i64 0, .int .i64 0, .int .i64 0, .int .i64 0, .int .i64 0, .int .i64 0, .int .i64 0, .int .i64 0, .int .i64 0, .int .i64 0, .int .i64 0, .int .i64 0] := hw3 ▸ k3
  have b23 := b2.trans (b3.mono b2.size)
  have q1 : BoxF w3 w.heap.size (vL (mxI a b 0)) := by rw [mx_zero b ha, hva]; exact k1.keep b23
  have HN : Hid (w.heap.size < w1.heap.size ∧ w1.heap.size < w2.heap.size ∧ w2.heap.size < w3.heap.size) := ⟨by omega, by omega, by omega⟩
  have HB : ∀ k, k < 32 → vb[k]? = some (.int .i64 (gS b k)) := fun k hk => by rw [← hvb]; exact vL_at (by omega)
  have HBV := Lib.hid HB
  have H3 : Hid (BoxF w3 w.heap.size (vL (mxI a b 0)) ∧ BoxF w3 w1.heap.size vb ∧ BoxF w3 w2.heap.size [.int .i64 0, .int .i64 0, .int .i64 0, .int .i64 0, .int .i64 0, .int .i64 0, .int .i64 0, .int .i64 0, .int .i64 0, .int .i64 0, .int .i64 0, .int .i64 0, .int .i64 0, .int .i64 0, .int .i64 0, .int .i64 0, .int .i64 0, .int .i64 0, .int .i64 0, .int .i64 0, .int .i64 0, .int .i64 0, .int .i64 0, .int .i64 0, .int .i64 0, .int .i64 0, .int .i64 0, .int .i64 0, .int .i64 0, .int .i64 0, .int .i64 0, .int .i64 0] ∧ Below w.heap.size w w3) := ⟨q1, k2.keep b3, k3, b1.trans (b23.mono b1.size)⟩
  have HW := hw
  clear hw k1 k2 k3 b1 b2 b3 b23 q1 sw1 sw2 sw3 ha hb hva hvb HB
  have p0 := H3.out.1.1 0 _ (mx_at a b 0 (by omega) (by omega))
  have q0 := H3.out.2.1.1 0 _ (HBV.out 0 (by omega))
  have f0 := H3.out.1.2 0 (by rw [vL_len, mx_len]; omega)
  have j0 := H3.out.1
  have F0 := FrB.refl w.heap.size w3
  have j1 := j0.put 0 (by rw [vL_len, mx_len]; omega) (.int .i64 (gS a 0 + gS b 0))
  rw [mx_set a b (by omega)] at j1
  have F1 := F0.trans (FrB.set (w3) w.heap.size 0 (.int .i64 (gS a 0 + gS b 0)))
  obtain ⟨w4, hw4⟩ : ∃ W_, (w3).setCell ⟨w.heap.size, 0, none⟩ (.int .i64 (gS a 0 + gS b 0)) = W_ := ⟨_, rfl⟩
  rw [hw4] at j1 F1
  have H4 : Hid (BoxF w4 w.heap.size (vL (mxI a b 1)) ∧ BoxF w4 w1.heap.size vb ∧ BoxF w4 w2.heap.size [.int .i64 0, .int .i64 0, .int .i64 0, .int .i64 0, .int .i64 0, .int .i64 0, .int .i64 0, .int .i64 0, .int .i64 0, .int .i64 0, .int .i64 0, .int .i64 0, .int .i64 0, .int .i64 0, .int .i64 0, .int .i64 0, .int .i64 0, .int .i64 0, .int .i64 0, .int .i64 0, .int .i64 0, .int .i64 0, .int .i64 0, .int .i64 0, .int .i64 0, .int .i64 0, .int .i64 0, .int .i64 0, .int .i64 0, .int .i64 0, .int .i64 0, .int .i64 0] ∧ Below w.heap.size w w4) := ⟨j1, F1.box H3.out.2.1 (by rw [← HAB.out.2.2.2, vL_len, HAB.out.2.1]; decide) (by have := HN.out; omega), F1.box H3.out.2.2.1 (by simp) (by have := HN.out; omega), H3.out.2.2.2.trans (frB_below F1 (Nat.le_refl _) H3.out.2.2.2.size)⟩
  clear j0 j1 F0 F1
  go_enter Tryz.func5, Tryz.ntmps5
  go_upto_region 2 with fail
  clear p0 q0 f0 hw4
  go_cut [] from 12 to 29 (fun wx => BoxF wx w.heap.size (vL (mxI a b 4)) ∧ BoxF wx w1.heap.size vb ∧ BoxF wx w2.heap.size [.int .i64 0, .int .i64 0, .int .i64 0, .int .i64 0, .int .i64 0, .int .i64 0, .int .i64 0, .int .i64 0, .int .i64 0, .int .i64 0, .int .i64 0, .int .i64 0, .int .i64 0, .int .i64 0, .int .i64 0, .int .i64 0, .int .i64 0, .int .i64 0, .int .i64 0, .int .i64 0, .int .i64 0, .int .i64 0, .int .i64 0, .int .i64 0, .int .i64 0, .int .i64 0, .int .i64 0, .int .i64 0, .int .i64 0, .int .i64 0, .int .i64 0, .int .i64 0] ∧ Below w.heap.size w wx)
  case first =>
    have p1 := H4.out.1.1 1 _ (mx_at a b 1 (by omega) (by omega))
    have q1 := H4.out.2.1.1 1 _ (HBV.out 1 (by omega))
    have f1 := H4.out.1.2 1 (by rw [vL_len, mx_len]; omega)
    have p2 := H4.out.1.1 2 _ (mx_at a b 1 (by omega) (by omega))
    have q2 := H4.out.2.1.1 2 _ (HBV.out 2 (by omega))
    have f2 := H4.out.1.2 2 (by rw [vL_len, mx_len]; omega)
    have p3 := H4.out.1.1 3 _ (mx_at a b 1 (by omega) (by omega))
    have q3 := H4.out.2.1.1 3 _ (HBV.out 3 (by omega))
    have f3 := H4.out.1.2 3 (by rw [vL_len, mx_len]; omega)
    go_region
    have j0 := H4.out.1
    have F0 := FrB.refl w.heap.size w4
    have j1 := j0.put 1 (by rw [vL_len, mx_len]; omega) (.int .i64 (gS a 1 + gS b 1))
    rw [mx_set a b (by omega)] at j1
    have F1 := F0.trans (FrB.set (w4) w.heap.size 1 (.int .i64 (gS a 1 + gS b 1)))
    have j2 := j1.put 2 (by rw [vL_len, mx_len]; omega) (.int .i64 (gS a 2 + gS b 2))
    rw [mx_set a b (by omega)] at j2
    have F2 := F1.trans (FrB.set ((w4).setCell ⟨w.heap.size, 1, none⟩ (.int .i64 (gS a 1 + gS b 1))) w.heap.size 2 (.int .i64 (gS a 2 + gS b 2)))
    have j3 := j2.put 3 (by rw [vL_len, mx_len]; omega) (.int .i64 (gS a 3 + gS b 3))
    rw [mx_set a b (by omega)] at j3
    have F3 := F2.trans (FrB.set (((w4).setCell ⟨w.heap.size, 1, none⟩ (.int .i64 (gS a 1 + gS b 1))).setCell ⟨w.heap.size, 2, none⟩ (.int .i64 (gS a 2 + gS b 2))) w.heap.size 3 (.int .i64 (gS a 3 + gS b 3)))
    obtain ⟨x5, hx5⟩ : ∃ W_, (((w4).setCell ⟨w.heap.size, 1, none⟩ (.int .i64 (gS a 1 + gS b 1))).setCell ⟨w.heap.size, 2, none⟩ (.int .i64 (gS a 2 + gS b 2))).setCell ⟨w.heap.size, 3, none⟩ (.int .i64 (gS a 3 + gS b 3)) = W_ := ⟨_, rfl⟩
    rw [hx5] at j3 F3
    have HX5 : Hid (BoxF x5 w.heap.size (vL (mxI a b 4)) ∧ BoxF x5 w1.heap.size vb ∧ BoxF x5 w2.heap.size [.int .i64 0, .int .i64 0, .int .i64 0, .int .i64 0, .int .i64 0, .int .i64 0, .int .i64 0, .int .i64 0, .int .i64 0, .int .i64 0, .int .i64 0, .int .i64 0, .int .i64 0, .int .i64 0, .int .i64 0, .int .i64 0, .int .i64 0, .int .i64 0, .int .i64 0, .int .i64 0, .int .i64 0, .int .i64 0, .int .i64 0, .int .i64 0, .int .i64 0, .int .i64 0, .int .i64 0, .int .i64 0, .int .i64 0, .int .i64 0, .int .i64 0, .int .i64 0] ∧ Below w.heap.size w x5) := ⟨j3, F3.box H4.out.2.1 (by rw [← HAB.out.2.2.2, vL_len, HAB.out.2.1]; decide) (by have := HN.out; omega), F3.box H4.out.2.2.1 (by simp) (by have := HN.out; omega), H4.out.2.2.2.trans (frB_below F3 (Nat.le_refl _) H4.out.2.2.2.size)⟩
    clear j0 j1 j2 j3 F0 F1 F2 F3
    rw [hx5]
    have HXD : Hid (Below x5.heap.size x5 x5.drew) := (Below.refl _ _).drew
    have HEND : Hid (BoxF x5.drew w.heap.size (vL (mxI a b 4)) ∧ BoxF x5.drew w1.heap.size vb ∧ BoxF x5.drew w2.heap.size [.int .i64 0, .int .i64 0, .int .i64 0, .int .i64 0, .int .i64 0, .int .i64 0, .int .i64 0, .int .i64 0, .int .i64 0, .int .i64 0, .int .i64 0, .int .i64 0, .int .i64 0, .int .i64 0, .int .i64 0, .int .i64 0, .int .i64 0, .int .i64 0, .int .i64 0, .int .i64 0, .int .i64 0, .int .i64 0, .int .i64 0, .int .i64 0, .int .i64 0, .int .i64 0, .int .i64 0, .int .i64 0, .int .i64 0, .int .i64 0, .int .i64 0, .int .i64 0] ∧ Below w.heap.size w x5.drew) := ⟨HX5.out.1.keep HXD.out, HX5.out.2.1.keep HXD.out, HX5.out.2.2.1.keep HXD.out, HX5.out.2.2.2.trans (HXD.out.mono HX5.out.2.2.2.size)⟩
    clear p1 q1 f1 p2 q2 f2 p3 q3 f3 hx5 HXD
    go_wp2_with fail
    go_meet
    case rel => exact HEND.out
  case rest =>
  have H5 := Lib.hid hcut
  clear hcut
  go_upto_region 3 with fail
  go_cut [] from 30 to 47 (fun wx => BoxF wx w.heap.size (vL (mxI a b 7)) ∧ BoxF wx w1.heap.size vb ∧ BoxF wx w2.heap.size [.int .i64 0, .int .i64 0, .int .i64 0, .int .i64 0, .int .i64 0, .int .i64 0, .int .i64 0, .int .i64 0, .int .i64 0, .int .i64 0, .int .i64 0, .int .i64 0, .int .i64 0, .int .i64 0, .int .i64 0, .int .i64 0, .int .i64 0, .int .i64 0, .int .i64 0, .int .i64 0, .int .i64 0, .int .i64 0, .int .i64 0, .int .i64 0, .int .i64 0, .int .i64 0, .int .i64 0, .int .i64 0, .int .i64 0, .int .i64 0, .int .i64 0, .int .i64 0] ∧ Below w.heap.size w wx)
  case first =>
    have p4 := H5.out.1.1 4 _ (mx_at a b 4 (by omega) (by omega))
    have q4 := H5.out.2.1.1 4 _ (HBV.out 4 (by omega))
    have f4 := H5.out.1.2 4 (by rw [vL_len, mx_len]; omega)
    have p5 := H5.out.1.1 5 _ (mx_at a b 4 (by omega) (by omega))
    have q5 := H5.out.2.1.1 5 _ (HBV.out 5 (by omega))
    have f5 := H5.out.1.2 5 (by rw [vL_len, mx_len]; omega)
    have p6 := H5.out.1.1 6 _ (mx_at a b 4 (by omega) (by omega))
    have q6 := H5.out.2.1.1 6 _ (HBV.out 6 (by omega))
    have f6 := H5.out.1.2 6 (by rw [vL_len, mx_len]; omega)
    go_region
    have j0 := H5.out.1
    have F0 := FrB.refl w.heap.size wc
    have j1 := j0.put 4 (by rw [vL_len, mx_len]; omega) (.int .i64 (gS a 4 + gS b 4))
    rw [mx_set a b (by omega)] at j1
    have F1 := F0.trans (FrB.set (wc) w.heap.size 4 (.int .i64 (gS a 4 + gS b 4)))
    have j2 := j1.put 5 (by rw [vL_len, mx_len]; omega) (.int .i64 (gS a 5 + gS b 5))
    rw [mx_set a b (by omega)] at j2
    have F2 := F1.trans (FrB.set ((wc).setCell ⟨w.heap.size, 4, none⟩ (.int .i64 (gS a 4 + gS b 4))) w.heap.size 5 (.int .i64 (gS a 5 + gS b 5)))
    have j3 := j2.put 6 (by rw [vL_len, mx_len]; omega) (.int .i64 (gS a 6 + gS b 6))
    rw [mx_set a b (by omega)] at j3
    have F3 := F2.trans (FrB.set (((wc).setCell ⟨w.heap.size, 4, none⟩ (.int .i64 (gS a 4 + gS b 4))).setCell ⟨w.heap.size, 5, none⟩ (.int .i64 (gS a 5 + gS b 5))) w.heap.size 6 (.int .i64 (gS a 6 + gS b 6)))
    obtain ⟨x6, hx6⟩ : ∃ W_, (((wc).setCell ⟨w.heap.size, 4, none⟩ (.int .i64 (gS a 4 + gS b 4))).setCell ⟨w.heap.size, 5, none⟩ (.int .i64 (gS a 5 + gS b 5))).setCell ⟨w.heap.size, 6, none⟩ (.int .i64 (gS a 6 + gS b 6)) = W_ := ⟨_, rfl⟩
    rw [hx6] at j3 F3
    have HX6 : Hid (BoxF x6 w.heap.size (vL (mxI a b 7)) ∧ BoxF x6 w1.heap.size vb ∧ BoxF x6 w2.heap.size [.int .i64 0, .int .i64 0, .int .i64 0, .int .i64 0, .int .i64 0, .int .i64 0, .int .i64 0, .int .i64 0, .int .i64 0, .int .i64 0, .int .i64 0, .int .i64 0, .int .i64 0, .int .i64 0, .int .i64 0, .int .i64 0, .int .i64 0, .int .i64 0, .int .i64 0, .int .i64 0, .int .i64 0, .int .i64 0, .int .i64 0, .int .i64 0, .int .i64 0, .int .i64 0, .int .i64 0, .int .i64 0, .int .i64 0, .int .i64 0, .int .i64 0, .int .i64 0] ∧ Below w.heap.size w x6) := ⟨j3, F3.box H5.out.2.1 (by rw [← HAB.out.2.2.2, vL_len, HAB.out.2.1]; decide) (by have := HN.out; omega), F3.box H5.out.2.2.1 (by simp) (by have := HN.out; omega), H5.out.2.2.2.trans (frB_below F3 (Nat.le_refl _) H5.out.2.2.2.size)⟩
    clear j0 j1 j2 j3 F0 F1 F2 F3
    rw [hx6]
    have HXD : Hid (Below x6.heap.size x6 x6.drew) := (Below.refl _ _).drew
    have HEND : Hid (BoxF x6.drew w.heap.size (vL (mxI a b 7)) ∧ BoxF x6.drew w1.heap.size vb ∧ BoxF x6.drew w2.heap.size [.int .i64 0, .int .i64 0, .int .i64 0, .int .i64 0, .int .i64 0, .int .i64 0, .int .i64 0, .int .i64 0, .int .i64 0, .int .i64 0, .int .i64 0, .int .i64 0, .int .i64 0, .int .i64 0, .int .i64 0, .int .i64 0, .int .i64 0, .int .i64 0, .int .i64 0, .int .i64 0, .int .i64 0, .int .i64 0, .int .i64 0, .int .i64 0, .int .i64 0, .int .i64 0, .int .i64 0, .int .i64 0, .int .i64 0, .int .i64 0, .int .i64 0, .int .i64 0] ∧ Below w.heap.size w x6.drew) := ⟨HX6.out.1.keep HXD.out, HX6.out.2.1.keep HXD.out, HX6.out.2.2.1.keep HXD.out, HX6.out.2.2.2.trans (HXD.out.mono HX6.out.2.2.2.size)⟩
    clear p4 q4 f4 p5 q5 f5 p6 q6 f6 hx6 HXD
    go_wp2_with fail
    go_meet
    case rel => exact HEND.out
  case rest =>
  have H6 := Lib.hid hcut
  clear hcut
  go_upto_region 4 with fail
  go_cut [] from 48 to 65 (fun wx => BoxF wx w.heap.size (vL (mxI a b 10)) ∧ BoxF wx w1.heap.size vb ∧ BoxF wx w2.heap.size [.int .i64 0, .int .i64 0, .int .i64 0, .int .i64 0, .int .i64 0, .int .i64 0, .int .i64 0, .int .i64 0, .int .i64 0, .int .i64 0, .int .i64 0, .int .i64 0, .int .i64 0, .int .i64 0, .int .i64 0, .int .i64 0, .int .i64 0, .int .i64 0, .int .i64 0, .int .i64 0, .int .i64 0, .int .i64 0, .int .i64 0, .int .i64 0, .int .i64 0, .int .i64 0, .int .i64 0, .int .i64 0, .int .i64 0, .int .i64 0, .int .i64 0, .int .i64 0] ∧ Below w.heap.size w wx)
  case first =>
    have p7 := H6.out.1.1 7 _ (mx_at a b 7 (by omega) (by omega))
    have q7 := H6.out.2.1.1 7 _ (HBV.out 7 (by omega))
    have f7 := H6.out.1.2 7 (by rw [vL_len, mx_len]; omega)
    have p8 := H6.out.1.1 8 _ (mx_at a b 7 (by omega) (by omega))
    have q8 := H6.out.2.1.1 8 _ (HBV.out 8 (by omega))
    have f8 := H6.out.1.2 8 (by rw [vL_len, mx_len]; omega)
    have p9 := H6.out.1.1 9 _ (mx_at a b 7 (by omega) (by omega))
    have q9 := H6.out.2.1.1 9 _ (HBV.out 9 (by omega))
    have f9 := H6.out.1.2 9 (by rw [vL_len, mx_len]; omega)
    go_region
    have j0 := H6.out.1
    have F0 := FrB.refl w.heap.size wc
    have j1 := j0.put 7 (by rw [vL_len, mx_len]; omega) (.int .i64 (gS a 7 + gS b 7))
    rw [mx_set a b (by omega)] at j1
    have F1 := F0.trans (FrB.set (wc) w.heap.size 7 (.int .i64 (gS a 7 + gS b 7)))
    have j2 := j1.put 8 (by rw [vL_len, mx_len]; omega) (.int .i64 (gS a 8 + gS b 8))
    rw [mx_set a b (by omega)] at j2
    have F2 := F1.trans (FrB.set ((wc).setCell ⟨w.heap.size, 7, none⟩ (.int .i64 (gS a 7 + gS b 7))) w.heap.size 8 (.int .i64 (gS a 8 + gS b 8)))
    have j3 := j2.put 9 (by rw [vL_len, mx_len]; omega) (.int .i64 (gS a 9 + gS b 9))
    rw [mx_set a b (by omega)] at j3
    have F3 := F2.trans (FrB.set (((wc).setCell ⟨w.heap.size, 7, none⟩ (.int .i64 (gS a 7 + gS b 7))).setCell ⟨w.heap.size, 8, none⟩ (.int .i64 (gS a 8 + gS b 8))) w.heap.size 9 (.int .i64 (gS a 9 + gS b 9)))
    obtain ⟨x7, hx7⟩ : ∃ W_, (((wc).setCell ⟨w.heap.size, 7, none⟩ (.int .i64 (gS a 7 + gS b 7))).setCell ⟨w.heap.size, 8, none⟩ (.int .i64 (gS a 8 + gS b 8))).setCell ⟨w.heap.size, 9, none⟩ (.int .i64 (gS a 9 + gS b 9)) = W_ := ⟨_, rfl⟩
    rw [hx7] at j3 F3
    have HX7 : Hid (BoxF x7 w.heap.size (vL (mxI a b 10)) ∧ BoxF x7 w1.heap.size vb ∧ BoxF x7 w2.heap.size [.int .i64 0, .int .i64 0, .int .i64 0, .int .i64 0, .int .i64 0, .int .i64 0, .int .i64 0, .int .i64 0, .int .i64 0, .int .i64 0, .int .i64 0, .int .i64 0, .int .i64 0, .int .i64 0, .int .i64 0, .int .i64 0, .int .i64 0, .int .i64 0, .int .i64 0, .int .i64 0, .int .i64 0, .int .i64 0, .int .i64 0, .int .i64 0, .int .i64 0, .int .i64 0, .int .i64 0, .int .i64 0, .int .i64 0, .int .i64 0, .int .i64 0, .int .i64 0] ∧ Below w.heap.size w x7) := ⟨j3, F3.box H6.out.2.1 (by rw [← HAB.out.2.2.2, vL_len, HAB.out.2.1]; decide) (by have := HN.out; omega), F3.box H6.out.2.2.1 (by simp) (by have := HN.out; omega), H6.out.2.2.2.trans (frB_below F3 (Nat.le_refl _) H6.out.2.2.2.size)⟩
    clear j0 j1 j2 j3 F0 F1 F2 F3
    rw [hx7]
    have HXD : Hid (Below x7.heap.size x7 x7.drew) := (Below.refl _ _).drew
    have HEND : Hid (BoxF x7.drew w.heap.size (vL (mxI a b 10)) ∧ BoxF x7.drew w1.heap.size vb ∧ BoxF x7.drew w2.heap.size [.int .i64 0, .int .i64 0, .int .i64 0, .int .i64 0, .int .i64 0, .int .i64 0, .int .i64 0, .int .i64 0, .int .i64 0, .int .i64 0, .int .i64 0, .int .i64 0, .int .i64 0, .int .i64 0, .int .i64 0, .int .i64 0, .int .i64 0, .int .i64 0, .int .i64 0, .int .i64 0, .int .i64 0, .int .i64 0, .int .i64 0, .int .i64 0, .int .i64 0, .int .i64 0, .int .i64 0, .int .i64 0, .int .i64 0, .int .i64 0, .int .i64 0, .int .i64 0] ∧ Below w.heap.size w x7.drew) := ⟨HX7.out.1.keep HXD.out, HX7.out.2.1.keep HXD.out, HX7.out.2.2.1.keep HXD.out, HX7.out.2.2.2.trans (HXD.out.mono HX7.out.2.2.2.size)⟩
    clear p7 q7 f7 p8 q8 f8 p9 q9 f9 hx7 HXD
    go_wp2_with fail
    go_meet
    case rel => exact HEND.out
  case rest =>
  have H7 := Lib.hid hcut
  clear hcut
  go_upto_region 5 with fail
  go_cut [] from 66 to 77 (fun wx => BoxF wx w.heap.size (vL (mxI a b 12)) ∧ BoxF wx w1.heap.size vb ∧ BoxF wx w2.heap.size [.int .i64 0, .int .i64 0, .int .i64 0, .int .i64 0, .int .i64 0, .int .i64 0, .int .i64 0, .int .i64 0, .int .i64 0, .int .i64 0, .int .i64 0, .int .i64 0, .int .i64 0, .int .i64 0, .int .i64 0, .int .i64 0, .int .i64 0, .int .i64 0, .int .i64 0, .int .i64 0, .int .i64 0, .int .i64 0, .int .i64 0, .int .i64 0, .int .i64 0, .int .i64 0, .int .i64 0, .int .i64 0, .int .i64 0, .int .i64 0, .int .i64 0, .int .i64 0] ∧ Below w.heap.size w wx)
  case first =>
    have p10 := H7.out.1.1 10 _ (mx_at a b 10 (by omega) (by omega))
    have q10 := H7.out.2.1.1 10 _ (HBV.out 10 (by omega))
    have f10 := H7.out.1.2 10 (by rw [vL_len, mx_len]; omega)
    have p11 := H7.out.1.1 11 _ (mx_at a b 10 (by omega) (by omega))
    have q11 := H7.out.2.1.1 11 _ (HBV.out 11 (by omega))
    have f11 := H7.out.1.2 11 (by rw [vL_len, mx_len]; omega)
    go_region
    have j0 := H7.out.1
    have F0 := FrB.refl w.heap.size wc
    have j1 := j0.put 10 (by rw [vL_len, mx_len]; omega) (.int .i64 (gS a 10 + gS b 10))
    rw [mx_set a b (by omega)] at j1
    have F1 := F0.trans (FrB.set (wc) w.heap.size 10 (.int .i64 (gS a 10 + gS b 10)))
    have j2 := j1.put 11 (by rw [vL_len, mx_len]; omega) (.int .i64 (gS a 11 + gS b 11))
    rw [mx_set a b (by omega)] at j2
    have F2 := F1.trans (FrB.set ((wc).setCell ⟨w.heap.size, 10, none⟩ (.int .i64 (gS a 10 + gS b 10))) w.heap.size 11 (.int .i64 (gS a 11 + gS b 11)))
    obtain ⟨x8, hx8⟩ : ∃ W_, ((wc).setCell ⟨w.heap.size, 10, none⟩ (.int .i64 (gS a 10 + gS b 10))).setCell ⟨w.heap.size, 11, none⟩ (.int .i64 (gS a 11 + gS b 11)) = W_ := ⟨_, rfl⟩
    rw [hx8] at j2 F2
    have HX8 : Hid (BoxF x8 w.heap.size (vL (mxI a b 12)) ∧ BoxF x8 w1.heap.size vb ∧ BoxF x8 w2.heap.size [.int .i64 0, .int .i64 0, .int .i64 0, .int .i64 0, .int .i64 0, .int .i64 0, .int .i64 0, .int .i64 0, .int .i64 0, .int .i64 0, .int .i64 0, .int .i64 0, .int .i64 0, .int .i64 0, .int .i64 0, .int .i64 0, .int .i64 0, .int .i64 0, .int .i64 0, .int .i64 0, .int .i64 0, .int .i64 0, .int .i64 0, .int .i64 0, .int .i64 0, .int .i64 0, .int .i64 0, .int .i64 0, .int .i64 0, .int .i64 0, .int .i64 0, .int .i64 0] ∧ Below w.heap.size w x8) := ⟨j2, F2.box H7.out.2.1 (by rw [← HAB.out.2.2.2, vL_len, HAB.out.2.1]; decide) (by have := HN.out; omega), F2.box H7.out.2.2.1 (by simp) (by have := HN.out; omega), H7.out.2.2.2.trans (frB_below F2 (Nat.le_refl _) H7.out.2.2.2.size)⟩
    clear j0 j1 j2 F0 F1 F2
    rw [hx8]
    have HXD : Hid (Below x8.heap.size x8 x8.drew) := (Below.refl _ _).drew
    have HEND : Hid (BoxF x8.drew w.heap.size (vL (mxI a b 12)) ∧ BoxF x8.drew w1.heap.size vb ∧ BoxF x8.drew w2.heap.size [.int .i64 0, .int .i64 0, .int .i64 0, .int .i64 0, .int .i64 0, .int .i64 0, .int .i64 0, .int .i64 0, .int .i64 0, .int .i64 0, .int .i64 0, .int .i64 0, .int .i64 0, .int .i64 0, .int .i64 0, .int .i64 0, .int .i64 0, .int .i64 0, .int .i64 0, .int .i64 0, .int .i64 0, .int .i64 0, .int .i64 0, .int .i64 0, .int .i64 0, .int .i64 0, .int .i64 0, .int .i64 0, .int .i64 0, .int .i64 0, .int .i64 0, .int .i64 0] ∧ Below w.heap.size w x8.drew) := ⟨HX8.out.1.keep HXD.out, HX8.out.2.1.keep HXD.out, HX8.out.2.2.1.keep HXD.out, HX8.out.2.2.2.trans (HXD.out.mono HX8.out.2.2.2.size)⟩
    clear p10 q10 f10 p11 q11 f11 hx8 HXD
    go_wp2_with fail
    go_meet
    case rel => exact HEND.out
  case rest =>
  have H8 := Lib.hid hcut
  clear hcut
  go_wp2_with fail
  go_loopw [5, 78] (fun s i wr => ∃ j : Nat, j ≤ 20 ∧ i = .int .i64 (j : Int) ∧ BoxF wr w.heap.size (vL (mxI a b (12 + j))) ∧ BoxF wr w1.heap.size vb ∧ BoxF wr w2.heap.size [.int .i64 0, .int .i64 0, .int .i64 0, .int .i64 0, .int .i64 0, .int .i64 0, .int .i64 0, .int .i64 0, .int .i64 0, .int .i64 0, .int .i64 0, .int .i64 0, .int .i64 0, .int .i64 0, .int .i64 0, .int .i64 0, .int .i64 0, .int .i64 0, .int .i64 0, .int .i64 0, .int .i64 0, .int .i64 0, .int .i64 0, .int .i64 0, .int .i64 0, .int .i64 0, .int .i64 0, .int .i64 0, .int .i64 0, .int .i64 0, .int .i64 0, .int .i64 0] ∧ Below w.heap.size w wr) (fun _ i _ => 20 - (intOf i).toNat)
  case atStart => exact ⟨0, Nat.zero_le _, rfl, H8.out⟩
  case round =>
    obtain ⟨j, hj, rfl, hb, hp, hz, hB⟩ := hrel
    by_cases hlt : j < 20
    · have hltI : (j : Int) < 20 := by omega
      have HR0 := Lib.hid (And.intro hb (And.intro hp (And.intro hz hB)))
      have HK : Hid (∀ X, Below wr.heap.size wr X → X.cell? ⟨w.heap.size, 12 + j, none⟩ = some (.int .i64 (gS a (12 + j))) ∧ X.cell? ⟨w1.heap.size, 12 + j, none⟩ = some (.int .i64 (gS b (12 + j)))) := fun X hX => ⟨(HR0.out.1.keep hX).1 (12 + j) _ (mx_at a b (12 + j) (by omega) (by omega)), (HR0.out.2.1.keep hX).1 (12 + j) _ (HBV.out (12 + j) (by omega))⟩
      have HD : Hid (Below wr.heap.size wr wr.drew) := (Below.refl _ _).drew
      clear hb hp hz hB
      go_wp2_with fail
      refine wp_region_plan [] [(true, 0), (true, 1), (true, 2), (true, 3), (true, 4), (true, 5), (true, 6), (true, 7), (true, 8), (true, 9), (true, 10)] 11 12 (fun X => Below wr.heap.size wr X) (by kernel_rfl) (by kernel_rfl) (by intro c a t v w h; exact h) HD.out ?_
      simp only [pickB, pickL, List.drop_succ_cons, List.drop_zero, List.head?_cons, Option.toList_some, List.map_cons, List.map_nil, List.cons_append, List.nil_append]
      refine wpHead_nil ?_
      iterate 11 (refine wpPlan_rd _ (by rfl) (by intro W hW; have hk := HK.out W hW; have pj := hk.1; have qj := hk.2; clear hk hW; go_simp; with_reducible rfl) ?_; simp only [Act.put, List.setIfInBounds_toArray, List.set_cons_zero, List.set_cons_succ])
      refine wpPlan_nil ?_
      have kb := HR0.out.1.keep HD.out
      have zj := kb.1 (12 + j) _ (mx_at a b (12 + j) (by omega) (by omega))
      have fj := kb.2 (12 + j) (by rw [vL_len, mx_len]; omega)
      have k4 := kb.put (12 + j) (by rw [vL_len, mx_len]; omega) (.int .i64 (gS a (12 + j) + gS b (12 + j)))
      rw [mx_set a b (by omega)] at k4
      have F4 := FrB.set wr.drew w.heap.size (12 + j) (.int .i64 (gS a (12 + j) + gS b (12 + j)))
      have HB4 := HR0.out.2.2.2.trans (HD.out.mono HR0.out.2.2.2.size)
      have HR : Hid (BoxF (wr.drew.setCell ⟨w.heap.size, 12 + j, none⟩ (.int .i64 (gS a (12 + j) + gS b (12 + j)))) w.heap.size (vL (mxI a b (12 + (j + 1)))) ∧ BoxF (wr.drew.setCell ⟨w.heap.size, 12 + j, none⟩ (.int .i64 (gS a (12 + j) + gS b (12 + j)))) w1.heap.size vb ∧ BoxF (wr.drew.setCell ⟨w.heap.size, 12 + j, none⟩ (.int .i64 (gS a (12 + j) + gS b (12 + j)))) w2.heap.size [.int .i64 0, .int .i64 0, .int .i64 0, .int .i64 0, .int .i64 0, .int .i64 0, .int .i64 0, .int .i64 0, .int .i64 0, .int .i64 0, .int .i64 0, .int .i64 0, .int .i64 0, .int .i64 0, .int .i64 0, .int .i64 0, .int .i64 0, .int .i64 0, .int .i64 0, .int .i64 0, .int .i64 0, .int .i64 0, .int .i64 0, .int .i64 0, .int .i64 0, .int .i64 0, .int .i64 0, .int .i64 0, .int .i64 0, .int .i64 0, .int .i64 0, .int .i64 0] ∧ Below w.heap.size w (wr.drew.setCell ⟨w.heap.size, 12 + j, none⟩ (.int .i64 (gS a (12 + j) + gS b (12 + j))))) :=
        ⟨k4, F4.box (HR0.out.2.1.keep HD.out) (by rw [← HAB.out.2.2.2, vL_len, HAB.out.2.1]; decide) (by have := HN.out; omega), F4.box (HR0.out.2.2.1.keep HD.out) (by simp) (by have := HN.out; omega), HB4.trans (frB_below F4 (Nat.le_refl _) HB4.size)⟩
      clear kb k4 F4 HB4
      go_wp2
      go_roundw
      case rel => exact ⟨j + 1, by omega, by go_num, HR.out⟩
      case measure => simp [intOf]; omega
    · obtain rfl : j = 20 := by omega
      have HZ6 := Lib.hid hz
      have H6 := Lib.hid hB
      have HRA := Lib.hid (World.rangeAt_of hb)
      obtain ⟨L, hL⟩ : ∃ L, vL (mxI a b (12 + 20)) = L := ⟨_, rfl⟩
      have HL : Hid (L = vL (sumG a b)) := by rw [← mx_full]; exact hL.symm
      have HLN : Hid (L.length = 32) := by show L.length = 32; rw [← hL, vL_len, mx_len]
      rw [hL] at HRA
      clear hb hp hz hB hL
      go_wp2_with (first | (refine wpList_load_mid rfl 25 _ rfl w.heap.size 0 rfl L _ HRA.out Tryz.underlying25 rfl (by rw [HLN.out]; exact st_info) ?_) | (refine wp_boxStore rfl 25 _ _ rfl w2.heap.size [.int .i64 0, .int .i64 0, .int .i64 0, .int .i64 0, .int .i64 0, .int .i64 0, .int .i64 0, .int .i64 0, .int .i64 0, .int .i64 0, .int .i64 0, .int .i64 0, .int .i64 0, .int .i64 0, .int .i64 0, .int .i64 0, .int .i64 0, .int .i64 0, .int .i64 0, .int .i64 0, .int .i64 0, .int .i64 0, .int .i64 0, .int .i64 0, .int .i64 0, .int .i64 0, .int .i64 0, .int .i64 0, .int .i64 0, .int .i64 0, .int .i64 0, .int .i64 0] L rfl rfl HZ6.out HLN.out (by rw [HLN.out]; exact st_info) (by rw [HL.out]; exact vL_one _) ?_; intro x7 k7 hs7 F7))
      have hld : (loadVar 25 ⟨w2.heap.size, 0, none⟩).run Tryz.prog x7 = .ok (.agg L.toArray) x7 := run_loadVar_mid x7 w2.heap.size 0 25 L _ (fun j v hj => by rw [Nat.zero_add]; exact k7.1 j v hj) Tryz.underlying25 rfl (by rw [HLN.out]; exact st_info)
      have HF : Hid (Below w.heap.size w x7) := H6.out.trans (frB_below F7 (by have := HN.out; omega) H6.out.size)
      clear k7 hs7 F7
      go_wp2
      refine bodyPost_ret (v := .agg L.toArray) (by simp [results, Tryz.results5, asAddr, Act.put, hld]) rfl ⟨by rw [HL.out], HF.out⟩
end Go.Proofs.YteahiphmhaedpaaGreatDoor
