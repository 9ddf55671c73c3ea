/- The reference's First and Safe. -/
import Derived.Test.YtjclhjijpailoaaGreatDoorRgF
namespace Go.Proofs.YtjclhjijpailoaaGreatDoor
open Go.RowKit Law Go.Shelf
set_option linter.unusedVariables false
set_option linter.unusedSimpArgs false
set_option maxRecDepth 100000
attribute [local go_sem] Oper.semAt_some

theorem u64V_at {l : List Nat} {j : Nat} (hj : j < l.length) : (u64V l)[j]? = some (.int .u64 (l[j] : Int)) := by
  simp [u64V, hj]
set_option maxHeartbeats 6400000 in
theorem rFirstCut (n : Nat) (f : Nat) (hn : n < 9) (hf : f < 4) (A : Option Addr) (l c : Nat) (L : List Pr) (hl : L.length = l) (hm : l ≤ 140737488355328) (hLB : ∀ p ∈ L, nodeB n p.1 = true ∧ nodeB n p.2 = true) (w : World) (hA : LinksAt w A L) :
    Calls Tryz.prog 60 #[.agg #[.int .i64 (n : Int), .slice A l c], .int .i64 (f : Int)] w fun e w' => (∃ x : Nat, e = .returned (.tuple #[.int .u64 (x : Int), .bool (hasCut n (nr (nearL n L)) f)])) ∧ Below w.heap.size w w' := by
  have HH := Lib.hid (hasCut_sets hn hf (nr (nearL n L)))
  have hp2 : 2 ^ n ≤ 256 := Nat.pow_le_pow_right (n := 2) (j := 8) (by decide) (by omega)
  have hpos : 0 < (setsK n (min f n + 1)).length := List.length_pos_of_mem (mem_setsK.2 ⟨Nat.two_pow_pos n, by show (elsI 0).length < _; rw [show (elsI 0).length = 0 by decide]; omega⟩)
  have hlen : (setsK n (min f n + 1)).length ≤ 9 * 256 := Nat.le_trans (setsK_len _ _) (Nat.mul_le_mul (by omega) hp2)
  have hmem : ∀ s ∈ setsK n (min f n + 1), s < 18446744073709551616 := fun s hs => by have := (mem_setsK.1 hs).1; omega
  have CS := Lib.hid (fun W => rSets n f hn hf W)
  obtain ⟨SL, hSL⟩ : ∃ SL, setsK n (min f n + 1) = SL := ⟨_, rfl⟩
  rw [hSL] at HH hpos hlen hmem CS
  have HM := Lib.hid hmem
  have CC := Lib.hid (fun (s : Nat) (hs : s < 18446744073709551616) (W : World) (hW : Below w.heap.size w W) => rCutsRef n (by omega) A l c L hl hm hLB s hs W (hA.below hW))
  generalize hasCut n (nr (nearL n L)) f = HC at *
  have HX := Lib.hid (boxF_made w [.int .i64 (n : Int), .slice A l c] 89)
  have HB := Lib.hid ((Below.refl w.heap.size w).alloc (Nat.le_refl _) (.cells #[.int .i64 (n : Int), .slice A l c] 89))
  clear hl hmem hSL hp2
  go_enter Tryz.func60, Tryz.ntmps60
  go_wp2_with fail
  refine (CS.out _).mono ?_
  rintro e W0 ⟨v, rfl, hown, hb⟩
  obtain ⟨g, cap, rfl⟩ := Joins.ownsRow_form hown hpos
  have HOWN := Lib.hid hown
  have HBX := Lib.hid (HX.out.keep hb)
  have HB2 := Lib.hid (HB.out.trans (hb.mono HB.out.size))
  clear hown hb HB HX
  obtain ⟨ll, hll⟩ : ∃ ll, SL.length = ll := ⟨_, rfl⟩
  rw [hll] at hpos hlen HOWN ⊢
  have HLL := Lib.hid hll
  clear hll
  go_wp2
  go_loopw [7] (fun i wr => ∃ k : Nat, k ≤ ll ∧ i = .int .i64 k ∧ (∀ j s, j < k → SL[j]? = some s → wholeB n (nr (nearL n L)) s = true) ∧ BoxF wr w.heap.size [.int .i64 (n : Int), .slice A l c] ∧ wr.ownsRow (w.heap.size + 1) 32 1 (.slice (some ⟨g, 0, none⟩) ll cap) ll (u64V SL) ∧ Below w.heap.size w wr) (fun i _ => ll - (intOf i).toNat)
  case atStart => exact ⟨0, Nat.zero_le _, rfl, fun j s h => absurd h (Nat.not_lt_zero _), HBX.out, by simpa using HOWN.out, HB2.out⟩
  case round =>
    obtain ⟨k, hk, rfl, hno, hbx, hown, hb⟩ := hrel
    obtain ⟨W1, rfl⟩ : ∃ W1, W1 = wr := ⟨_, rfl⟩
    clear HBX HB2 HOWN
    by_cases hlt : k < ll
    · have hkl : k < SL.length := by rw [HLL.out]; exact hlt
      have b0 := fun U : Later W1 => (hbx.keep U.h).1 0 _ rfl
      have b1 := fun U : Later W1 => (hbx.keep U.h).1 1 _ rfl
      have a0 := fun U : Later W1 => ((own_below hown U.h).cellAt k (by omega)).trans (u64V_at hkl)
      have hs := HM.out _ (List.getElem_mem hkl)
      have CN := Lib.hid (fun U : Later W1 => CC.out SL[k] hs U.val (hb.trans (U.h.mono hb.size)))
      have HNO := Lib.hid (fun (h : wholeB n (nr (nearL n L)) SL[k] = true) j s (hj : j < k + 1) (hjs : SL[j]? = some s) => show wholeB n (nr (nearL n L)) s = true from by
        by_cases e : j = k
        · subst e
          rw [List.getElem?_eq_getElem hkl] at hjs
          injection hjs with hjs
          rw [← hjs]; exact h
        · exact hno j s (by omega) hjs)
      have HYES := Lib.hid (fun (h : wholeB n (nr (nearL n L)) SL[k] = false) => show HC = true from by
        rw [HH.out, List.any_eq_true]
        exact ⟨_, List.getElem_mem hkl, by rw [h]; rfl⟩)
      have HBX := Lib.hid hbx
      have HOWN := Lib.hid hown
      have HB := Lib.hid hb
      obtain ⟨s, hsk⟩ : ∃ s, SL[k] = s := ⟨_, rfl⟩
      rw [hsk] at hs CN HNO HYES
      simp only [hsk] at a0
      clear hno hbx hown hb hsk
      cases hq : wholeB n (nr (nearL n L)) s
      · rw [hq] at CN
        have HZ := Lib.hid (HYES.out hq)
        clear HNO HYES hq
        go_wp2
        refine wp_region_later (by kernel_rfl) (by kernel_rfl) ?_
        repeat (go_big_quiet_step (exact later_of (CN.out _)))
        refine wpQuiet_nil ?_
        rintro W4 ⟨⟨W4_, hb4⟩, rfl⟩
        try dsimp only
        have a0' := a0 ⟨W4, hb4⟩
        have HB4 := Lib.hid (HB.out.trans (hb4.mono HB.out.size))
        clear a0 b0 b1
        go_wp2
        refine bodyPost_ret (v := .tuple #[.int .u64 (s : Int), .bool true]) (by simp [results, Tryz.results60, go_sem]) rfl ?_
        exact ⟨⟨s, by rw [HZ.out]⟩, HB4.out⟩
      · rw [hq] at CN
        have HZ := Lib.hid (HNO.out hq)
        clear HNO HYES hq
        go_wp2
        refine wp_region_later (by kernel_rfl) (by kernel_rfl) ?_
        repeat (go_big_quiet_step (exact later_of (CN.out _)))
        refine wpQuiet_nil ?_
        rintro W4 ⟨⟨W4_, hb4⟩, rfl⟩
        try dsimp only
        have HR := Lib.hid (And.intro (HBX.out.keep hb4) (And.intro (own_below HOWN.out hb4) (HB.out.trans (hb4.mono HB.out.size))))
        clear a0 b0 b1
        go_wp2
        go_roundw
        case rel => exact ⟨k + 1, by omega, by go_num, HZ.out, HR.out⟩
        case measure => simp [intOf]; omega
    · obtain rfl : k = ll := by omega
      have HZ : Hid (HC = false) := by
        unfold Hid
        rw [HH.out, List.any_eq_false]
        intro s hs
        obtain ⟨j, hj, rfl⟩ := List.getElem_of_mem hs
        rw [hno j _ (by rw [← HLL.out]; exact hj) (List.getElem?_eq_getElem hj)]
        decide
      have HB := Lib.hid hb
      clear hno hbx hown hb
      go_wp2
      refine bodyPost_ret (v := .tuple #[.int .u64 0, .bool false]) (by simp [results, Tryz.results60, go_sem]) rfl ?_
      exact ⟨⟨0, by rw [HZ.out]; rfl⟩, HB.out⟩
set_option maxHeartbeats 1600000 in
theorem rSafeRef (n : Nat) (f : Int) (hn : n < 9) (A : Option Addr) (l c : Nat) (L : List Pr) (hl : L.length = l) (hm : l ≤ 140737488355328) (hLB : ∀ p ∈ L, nodeB n p.1 = true ∧ nodeB n p.2 = true) (w : World) (hA : LinksAt w A L) :
    Calls Tryz.prog 47 #[.agg #[.int .i64 (n : Int), .slice A l c], .int .i64 f] w fun e w' => e = .returned (.bool (safeB n (nr (nearL n L)) f)) ∧ Below w.heap.size w w' := by
  have HS : Hid (safeB n (nr (nearL n L)) f = (decide (0 ≤ f) && (decide (f ≤ 3) && (decide (f < n) && !hasCut n (nr (nearL n L)) f.toNat)))) := rfl
  have HB := Lib.hid ((Below.refl w.heap.size w).alloc (Nat.le_refl _) (.cells #[.int .i64 (n : Int), .slice A l c] 89))
  by_cases h0 : f < 0
  · have HX : Hid (safeB n (nr (nearL n L)) f = false) := by unfold Hid; rw [HS.out, decide_eq_false (by omega)]; rfl
    go_enter Tryz.func47, Tryz.ntmps47
    go_wp2
    go_ret
    exact ⟨ret_bool HX.out.symm, HB.out⟩
  by_cases h3 : f > 3
  · have HX : Hid (safeB n (nr (nearL n L)) f = false) := by unfold Hid; rw [HS.out, decide_eq_false (p := f ≤ 3) (by omega)]; simp
    go_enter Tryz.func47, Tryz.ntmps47
    go_wp2
    go_ret
    exact ⟨ret_bool HX.out.symm, HB.out⟩
  obtain ⟨k, rfl⟩ : ∃ k : Nat, f = k := ⟨f.toNat, by omega⟩
  by_cases hn' : n ≤ k
  · have HX : Hid (safeB n (nr (nearL n L)) (k : Int) = false) := by unfold Hid; rw [HS.out, decide_eq_false (p := (k : Int) < n) (by omega)]; simp
    go_enter Tryz.func47, Tryz.ntmps47
    go_wp2
    go_ret
    exact ⟨ret_bool HX.out.symm, HB.out⟩
  · have HX : Hid (safeB n (nr (nearL n L)) (k : Int) = !hasCut n (nr (nearL n L)) k) := by
      unfold Hid
      rw [HS.out, decide_eq_true (p := (0 : Int) ≤ k) (by omega), decide_eq_true (p := (k : Int) ≤ 3) (by omega), decide_eq_true (p := (k : Int) < n) (by omega), Int.toNat_natCast]
      simp
    have C := Lib.hid (fun (W : World) (hW : Below w.heap.size w W) => rFirstCut n k hn (by omega) A l c L hl hm hLB W (hA.below hW))
    generalize hasCut n (nr (nearL n L)) k = HC at *
    go_enter Tryz.func47, Tryz.ntmps47
    go_wp2_with fail
    refine (C.out _ HB.out).mono ?_
    rintro e W ⟨⟨x, rfl⟩, hb⟩
    have HB2 := Lib.hid (HB.out.trans (hb.mono HB.out.size))
    clear hb
    go_wp2
    go_ret
    exact ⟨ret_bool HX.out.symm, HB2.out⟩
end Go.Proofs.YtjclhjijpailoaaGreatDoor
