/- The reference's One, case by case: fates. -/
import Derived.Test.YtndpdonlombodaaDoorWeJ
namespace Go.Proofs.YtndpdonlombodaaDoor
open Go.RowKit Law
set_option linter.unusedVariables false
set_option linter.unusedSimpArgs false

set_option maxHeartbeats 3200000 in
set_option maxRecDepth 100000 in
theorem rone_f0_b0 (s : ByteArray) (w : World) (a0 a1 a2 : List UInt8) (CN0 : ∀ W, Calls Tryd.prog 42 #[.string ⟨a2.toArray⟩] W (NumPost none W))
    (CS : Calls Tryd.prog 28 #[.string s, .int .u8 32] (w.alloc (.cells #[.int .i64 0, .int .i64 0, .int .i64 0, .int .i64 0, .int .i64 0, .int .i64 0, .int .u32 0, .int .u32 0, .slice none 0 0] 29)) (SplitP 3 [a0, a1, a2] (w.alloc (.cells #[.int .i64 0, .int .i64 0, .int .i64 0, .int .i64 0, .int .i64 0, .int .i64 0, .int .u32 0, .int .u32 0, .slice none 0 0] 29))))
    (CH : ∀ W A c, RowAt W A (strV [a0, a1, a2]) → Calls Tryd.prog 41 #[.slice A 3 c] W (ShapePost 3 0 2 1 W)) :
    Calls Tryd.prog 29 #[.string s] w (ActPost (Ac0, 5) w) := by
  obtain ⟨hz, hsz⟩ := zero_of_info (show (Tryd.prog.info? 29).map (fun i => (i.zero, i.size)) = some (some (.agg #[.int .i64 0, .int .i64 0, .int .i64 0, .int .i64 0, .int .i64 0, .int .i64 0, .int .u32 0, .int .u32 0, .slice none 0 0]), 9) by kernel_rfl)
  unfold NumPost at CN0
  have hx0 : BoxF (w.alloc (.cells #[.int .i64 0, .int .i64 0, .int .i64 0, .int .i64 0, .int .i64 0, .int .i64 0, .int .u32 0, .int .u32 0, .slice none 0 0] 29)) w.heap.size [.int .i64 0, .int .i64 0, .int .i64 0, .int .i64 0, .int .i64 0, .int .i64 0, .int .u32 0, .int .u32 0, .slice none 0 0] := boxF_made w [.int .i64 0, .int .i64 0, .int .i64 0, .int .i64 0, .int .i64 0, .int .i64 0, .int .u32 0, .int .u32 0, .slice none 0 0] 29
  have hb0 : Below w.heap.size w (w.alloc (.cells #[.int .i64 0, .int .i64 0, .int .i64 0, .int .i64 0, .int .i64 0, .int .i64 0, .int .u32 0, .int .u32 0, .slice none 0 0] 29)) := (Below.refl _ _).alloc (Nat.le_refl _) _
  have HX := Lib.hid (And.intro hx0 hb0)
  have CS := Lib.hid CS
  have CH := Lib.hid CH
  clear hx0 hb0
  go_enter Tryd.func29, Tryd.ntmps29
  go_wp2_with fail
  refine CS.out.mono ?_
  rintro e w1 ⟨A, c, rfl, hlc, hrow, hq1⟩
  have hx1 := HX.out.1.keep hq1
  have hb1 : Below w.heap.size w w1 := HX.out.2.trans (hq1.mono HX.out.2.size)
  have C2 := CH.out w1 A c hrow
  have H1 := Lib.hid (And.intro hx1 (And.intro hb1 hrow))
  clear hx1 hb1 hrow hq1
  go_wp2_with fail
  refine C2.mono ?_
  rintro e w2 ⟨rfl, hq2⟩
  clear C2
  have HB2 := Lib.hid (And.intro (H1.out.2.1.trans (hq2.mono H1.out.2.1.size)) (H1.out.2.1.trans (hq2.mono H1.out.2.1.size)).size)
  have HR2 := Lib.hid (H1.out.1.keep hq2)
  have hrow2 := H1.out.2.2.keep hq2
  clear hq2
  obtain ⟨blk, off, rfl, hc0⟩ := hrow2 0 _ rfl
  have hc1 : w2.cell? ⟨blk, off + 1, none⟩ = _ := (by
    obtain ⟨b3, o3, he, hc⟩ := hrow2 1 _ rfl
    injection he with he
    injection he with h1 h2 h3
    subst h1 h2
    exact hc)
  have hc2 : w2.cell? ⟨blk, off + 2, none⟩ = _ := (by
    obtain ⟨b3, o3, he, hc⟩ := hrow2 2 _ rfl
    injection he with he
    injection he with h1 h2 h3
    subst h1 h2
    exact hc)
  simp only [Nat.add_zero] at hc0
  have hlt2 := World.block_lt_of_cell? _ _ hc0
  simp only at hlt2
  have HK : Hid (∀ W, Below w2.heap.size w2 W → W.cell? ⟨blk, off, none⟩ = some (.string ⟨a0.toArray⟩) ∧ W.cell? ⟨blk, off + 1, none⟩ = some (.string ⟨a1.toArray⟩) ∧ W.cell? ⟨blk, off + 2, none⟩ = some (.string ⟨a2.toArray⟩)) := fun W hW => ⟨(hW.cell (p := ⟨blk, off, none⟩) hlt2).trans hc0, (hW.cell (p := ⟨blk, off + 1, none⟩) hlt2).trans hc1, (hW.cell (p := ⟨blk, off + 2, none⟩) hlt2).trans hc2⟩
  clear hrow2
  go_wp2_with fail
  refine wp_loop_rounds 3 ?_
  rw [rounds_succ]
  go_wp2_with fail
  refine (CN0 _).mono ?_
  rintro e w3 ⟨⟨mm, rfl⟩, hq⟩
  have hX3 : BoxF w3 w2.heap.size [.int .i64 0, .int .i64 0, .int .i64 0] := (boxF_made w2 [.int .i64 0, .int .i64 0, .int .i64 0] 2).keep hq
  have hB3 : Below w2.heap.size w2 w3 := ((Below.refl _ _).alloc (Nat.le_refl _) (.cells #[.int .i64 0, .int .i64 0, .int .i64 0] 2)).trans (hq.mono (by simp))
  have HN3 := Lib.hid (And.intro hX3 hB3)
  clear hq hX3 hB3
  have hz3 : w2.heap.size < w3.heap.size := World.block_lt_of_cell? _ _ (HN3.out.1.1 0 _ rfl)
  have v0 := HN3.out.1.1 0 _ rfl
  have fv0 := HN3.out.1.2 0 (by simp)
  have v1 := HN3.out.1.1 1 _ rfl
  have fv1 := HN3.out.1.2 1 (by simp)
  have v2 := HN3.out.1.1 2 _ rfl
  have fv2 := HN3.out.1.2 2 (by simp)
  have u0 := (HR2.out.keep HN3.out.2).1 0 _ rfl
  have fu0 := (HR2.out.keep HN3.out.2).2 0 (by simp)
  have u1 := (HR2.out.keep HN3.out.2).1 1 _ rfl
  have fu1 := (HR2.out.keep HN3.out.2).2 1 (by simp)
  have u2 := (HR2.out.keep HN3.out.2).1 2 _ rfl
  have fu2 := (HR2.out.keep HN3.out.2).2 2 (by simp)
  have u3 := (HR2.out.keep HN3.out.2).1 3 _ rfl
  have fu3 := (HR2.out.keep HN3.out.2).2 3 (by simp)
  have u4 := (HR2.out.keep HN3.out.2).1 4 _ rfl
  have fu4 := (HR2.out.keep HN3.out.2).2 4 (by simp)
  have u5 := (HR2.out.keep HN3.out.2).1 5 _ rfl
  have fu5 := (HR2.out.keep HN3.out.2).2 5 (by simp)
  have u6 := (HR2.out.keep HN3.out.2).1 6 _ rfl
  have fu6 := (HR2.out.keep HN3.out.2).2 6 (by simp)
  have u7 := (HR2.out.keep HN3.out.2).1 7 _ rfl
  have fu7 := (HR2.out.keep HN3.out.2).2 7 (by simp)
  have u8 := (HR2.out.keep HN3.out.2).1 8 _ rfl
  have fu8 := (HR2.out.keep HN3.out.2).2 8 (by simp)
  have HB := Lib.hid (HB2.out.1.trans (HN3.out.2.mono HB2.out.2))
  go_wp2
  refine bodyPost_ret (v := .tuple #[.agg #[.int .i64 0, .int .i64 0, .int .i64 0, .int .i64 0, .int .i64 0, .int .i64 0, .int .u32 0, .int .u32 0, .slice none 0 0], .int .i64 5]) (by simp (maxDischargeDepth := 8) [results, Tryd.results29, go_sem, *]) rfl ?_
  refine actPost_bad Ac0 none 0 0 5 rfl rfl (by decide) ?_
  · skip
    repeat (first | with_reducible refine Below.setCell ?_ (by first | exact Nat.le_refl _ | exact HB2.out.2) _ | with_reducible refine Below.drew ?_ | with_reducible refine below_drewN ?_ _)
    exact HB.out
set_option maxHeartbeats 3200000 in
set_option maxRecDepth 100000 in
theorem rone_f0_ok (s : ByteArray) (w : World) (a0 a1 a2 : List UInt8) (z0 : Int) (CN0 : ∀ W, Calls Tryd.prog 42 #[.string ⟨a2.toArray⟩] W (NumPost (some z0) W)) (hvg : goodA ⟨3, 0, 0, ⟨0, z0, 0, 0, 0⟩, []⟩ = true)
    (CS : Calls Tryd.prog 28 #[.string s, .int .u8 32] (w.alloc (.cells #[.int .i64 0, .int .i64 0, .int .i64 0, .int .i64 0, .int .i64 0, .int .i64 0, .int .u32 0, .int .u32 0, .slice none 0 0] 29)) (SplitP 3 [a0, a1, a2] (w.alloc (.cells #[.int .i64 0, .int .i64 0, .int .i64 0, .int .i64 0, .int .i64 0, .int .i64 0, .int .u32 0, .int .u32 0, .slice none 0 0] 29))))
    (CH : ∀ W A c, RowAt W A (strV [a0, a1, a2]) → Calls Tryd.prog 41 #[.slice A 3 c] W (ShapePost 3 0 2 1 W)) :
    Calls Tryd.prog 29 #[.string s] w (ActPost (⟨3, 0, 0, ⟨0, z0, 0, 0, 0⟩, []⟩, 0) w) := by
  obtain ⟨hz, hsz⟩ := zero_of_info (show (Tryd.prog.info? 29).map (fun i => (i.zero, i.size)) = some (some (.agg #[.int .i64 0, .int .i64 0, .int .i64 0, .int .i64 0, .int .i64 0, .int .i64 0, .int .u32 0, .int .u32 0, .slice none 0 0]), 9) by kernel_rfl)
  unfold NumPost at CN0
  have CG : ∀ W, Calls Tryd.prog 16 #[.agg #[.int .i64 3, .int .i64 0, .int .i64 0, .int .i64 0, .int .i64 z0, .int .i64 0, .int .u32 0, .int .u32 0, .slice none 0 0]] W fun e w' => e = .returned (.bool true) ∧ Below W.heap.size W w' := fun W => refGoodV ⟨3, 0, 0, ⟨0, z0, 0, 0, 0⟩, []⟩ none 0 0 true hvg W (U8At.nil _ _) rfl
  have CG := Lib.hid CG
  clear hvg
  have hx0 : BoxF (w.alloc (.cells #[.int .i64 0, .int .i64 0, .int .i64 0, .int .i64 0, .int .i64 0, .int .i64 0, .int .u32 0, .int .u32 0, .slice none 0 0] 29)) w.heap.size [.int .i64 0, .int .i64 0, .int .i64 0, .int .i64 0, .int .i64 0, .int .i64 0, .int .u32 0, .int .u32 0, .slice none 0 0] := boxF_made w [.int .i64 0, .int .i64 0, .int .i64 0, .int .i64 0, .int .i64 0, .int .i64 0, .int .u32 0, .int .u32 0, .slice none 0 0] 29
  have hb0 : Below w.heap.size w (w.alloc (.cells #[.int .i64 0, .int .i64 0, .int .i64 0, .int .i64 0, .int .i64 0, .int .i64 0, .int .u32 0, .int .u32 0, .slice none 0 0] 29)) := (Below.refl _ _).alloc (Nat.le_refl _) _
  have HX := Lib.hid (And.intro hx0 hb0)
  have CS := Lib.hid CS
  have CH := Lib.hid CH
  clear hx0 hb0
  go_enter Tryd.func29, Tryd.ntmps29
  go_wp2_with fail
  refine CS.out.mono ?_
  rintro e w1 ⟨A, c, rfl, hlc, hrow, hq1⟩
  have hx1 := HX.out.1.keep hq1
  have hb1 : Below w.heap.size w w1 := HX.out.2.trans (hq1.mono HX.out.2.size)
  have C2 := CH.out w1 A c hrow
  have H1 := Lib.hid (And.intro hx1 (And.intro hb1 hrow))
  clear hx1 hb1 hrow hq1
  go_wp2_with fail
  refine C2.mono ?_
  rintro e w2 ⟨rfl, hq2⟩
  clear C2
  have HB2 := Lib.hid (And.intro (H1.out.2.1.trans (hq2.mono H1.out.2.1.size)) (H1.out.2.1.trans (hq2.mono H1.out.2.1.size)).size)
  have HR2 := Lib.hid (H1.out.1.keep hq2)
  have hrow2 := H1.out.2.2.keep hq2
  clear hq2
  obtain ⟨blk, off, rfl, hc0⟩ := hrow2 0 _ rfl
  have hc1 : w2.cell? ⟨blk, off + 1, none⟩ = _ := (by
    obtain ⟨b3, o3, he, hc⟩ := hrow2 1 _ rfl
    injection he with he
    injection he with h1 h2 h3
    subst h1 h2
    exact hc)
  have hc2 : w2.cell? ⟨blk, off + 2, none⟩ = _ := (by
    obtain ⟨b3, o3, he, hc⟩ := hrow2 2 _ rfl
    injection he with he
    injection he with h1 h2 h3
    subst h1 h2
    exact hc)
  simp only [Nat.add_zero] at hc0
  have hlt2 := World.block_lt_of_cell? _ _ hc0
  simp only at hlt2
  have HK : Hid (∀ W, Below w2.heap.size w2 W → W.cell? ⟨blk, off, none⟩ = some (.string ⟨a0.toArray⟩) ∧ W.cell? ⟨blk, off + 1, none⟩ = some (.string ⟨a1.toArray⟩) ∧ W.cell? ⟨blk, off + 2, none⟩ = some (.string ⟨a2.toArray⟩)) := fun W hW => ⟨(hW.cell (p := ⟨blk, off, none⟩) hlt2).trans hc0, (hW.cell (p := ⟨blk, off + 1, none⟩) hlt2).trans hc1, (hW.cell (p := ⟨blk, off + 2, none⟩) hlt2).trans hc2⟩
  clear hrow2
  go_wp2_with fail
  refine wp_loop_rounds 3 ?_
  rw [rounds_succ]
  go_wp2_with fail
  refine (CN0 _).mono ?_
  rintro e w3 ⟨rfl, hq⟩
  have hX3 : BoxF w3 w2.heap.size [.int .i64 0, .int .i64 0, .int .i64 0] := (boxF_made w2 [.int .i64 0, .int .i64 0, .int .i64 0] 2).keep hq
  have hB3 : Below w2.heap.size w2 w3 := ((Below.refl _ _).alloc (Nat.le_refl _) (.cells #[.int .i64 0, .int .i64 0, .int .i64 0] 2)).trans (hq.mono (by simp))
  have HN3 := Lib.hid (And.intro hX3 hB3)
  clear hq hX3 hB3
  have hz3 : w2.heap.size < w3.heap.size := World.block_lt_of_cell? _ _ (HN3.out.1.1 0 _ rfl)
  have v0 := HN3.out.1.1 0 _ rfl
  have fv0 := HN3.out.1.2 0 (by simp)
  have v1 := HN3.out.1.1 1 _ rfl
  have fv1 := HN3.out.1.2 1 (by simp)
  have v2 := HN3.out.1.1 2 _ rfl
  have fv2 := HN3.out.1.2 2 (by simp)
  clear hc0 hc1 hc2
  go_wp2_with fail
  rw [rounds_succ]
  go_wp2_with fail
  refine (CG.out _).mono ?_
  rintro e w9 ⟨rfl, hq⟩
  have hT : BoxF w9 (w3.setCell ⟨w2.heap.size, 0, none⟩ (.int .i64 z0)).heap.size [.int .i64 3, .int .i64 0, .int .i64 0, .int .i64 0, .int .i64 z0, .int .i64 0, .int .u32 0, .int .u32 0, .slice none 0 0] := (boxF_made _ [.int .i64 3, .int .i64 0, .int .i64 0, .int .i64 0, .int .i64 z0, .int .i64 0, .int .u32 0, .int .u32 0, .slice none 0 0] 29).keep hq
  rw [show (w3.setCell ⟨w2.heap.size, 0, none⟩ (.int .i64 z0)).heap.size = w3.heap.size by simp] at hT
  have hB9 : Below w2.heap.size w2 w9 := ((HN3.out.2.setCell (p := ⟨w2.heap.size, 0, none⟩) (Nat.le_refl _) (.int .i64 z0)).alloc (by simp; omega) (.cells #[.int .i64 3, .int .i64 0, .int .i64 0, .int .i64 0, .int .i64 z0, .int .i64 0, .int .u32 0, .int .u32 0, .slice none 0 0] 29)).trans (hq.mono (by simp; omega))
  have t0 := hT.1 0 _ rfl
  have t1 := hT.1 1 _ rfl
  have t2 := hT.1 2 _ rfl
  have t3 := hT.1 3 _ rfl
  have t4 := hT.1 4 _ rfl
  have t5 := hT.1 5 _ rfl
  have t6 := hT.1 6 _ rfl
  have t7 := hT.1 7 _ rfl
  have t8 := hT.1 8 _ rfl
  clear v0 fv0 v1 fv1 v2 fv2
  have u0 := (HR2.out.keep hB9).1 0 _ rfl
  have fu0 := (HR2.out.keep hB9).2 0 (by simp)
  have u1 := (HR2.out.keep hB9).1 1 _ rfl
  have fu1 := (HR2.out.keep hB9).2 1 (by simp)
  have u2 := (HR2.out.keep hB9).1 2 _ rfl
  have fu2 := (HR2.out.keep hB9).2 2 (by simp)
  have u3 := (HR2.out.keep hB9).1 3 _ rfl
  have fu3 := (HR2.out.keep hB9).2 3 (by simp)
  have u4 := (HR2.out.keep hB9).1 4 _ rfl
  have fu4 := (HR2.out.keep hB9).2 4 (by simp)
  have u5 := (HR2.out.keep hB9).1 5 _ rfl
  have fu5 := (HR2.out.keep hB9).2 5 (by simp)
  have u6 := (HR2.out.keep hB9).1 6 _ rfl
  have fu6 := (HR2.out.keep hB9).2 6 (by simp)
  have u7 := (HR2.out.keep hB9).1 7 _ rfl
  have fu7 := (HR2.out.keep hB9).2 7 (by simp)
  have u8 := (HR2.out.keep hB9).1 8 _ rfl
  have fu8 := (HR2.out.keep hB9).2 8 (by simp)
  have HB := Lib.hid (HB2.out.1.trans (hB9.mono HB2.out.2))
  clear hq hT hB9
  go_wp2
  refine bodyPost_ret (v := .tuple #[.agg #[.int .i64 3, .int .i64 0, .int .i64 0, .int .i64 0, .int .i64 z0, .int .i64 0, .int .u32 0, .int .u32 0, .slice none 0 0], .int .i64 0]) (by simp (maxDischargeDepth := 8) [results, Tryd.results29, go_sem, *]) rfl ?_
  refine actPost_ok ⟨3, 0, 0, ⟨0, z0, 0, 0, 0⟩, []⟩ none 0 0 rfl rfl rfl rfl (own_nil _ _) ?_
  · skip
    repeat (first | with_reducible refine Below.setCell ?_ (by first | exact Nat.le_refl _ | exact HB2.out.2) _ | with_reducible refine Below.drew ?_ | with_reducible refine below_drewN ?_ _)
    exact HB.out
set_option maxHeartbeats 3200000 in
set_option maxRecDepth 100000 in
theorem rone_f0_ng (s : ByteArray) (w : World) (a0 a1 a2 : List UInt8) (z0 : Int) (CN0 : ∀ W, Calls Tryd.prog 42 #[.string ⟨a2.toArray⟩] W (NumPost (some z0) W)) (hvg : goodA ⟨3, 0, 0, ⟨0, z0, 0, 0, 0⟩, []⟩ = false)
    (CS : Calls Tryd.prog 28 #[.string s, .int .u8 32] (w.alloc (.cells #[.int .i64 0, .int .i64 0, .int .i64 0, .int .i64 0, .int .i64 0, .int .i64 0, .int .u32 0, .int .u32 0, .slice none 0 0] 29)) (SplitP 3 [a0, a1, a2] (w.alloc (.cells #[.int .i64 0, .int .i64 0, .int .i64 0, .int .i64 0, .int .i64 0, .int .i64 0, .int .u32 0, .int .u32 0, .slice none 0 0] 29))))
    (CH : ∀ W A c, RowAt W A (strV [a0, a1, a2]) → Calls Tryd.prog 41 #[.slice A 3 c] W (ShapePost 3 0 2 1 W)) :
    Calls Tryd.prog 29 #[.string s] w (ActPost (Ac0, 2) w) := by
  obtain ⟨hz, hsz⟩ := zero_of_info (show (Tryd.prog.info? 29).map (fun i => (i.zero, i.size)) = some (some (.agg #[.int .i64 0, .int .i64 0, .int .i64 0, .int .i64 0, .int .i64 0, .int .i64 0, .int .u32 0, .int .u32 0, .slice none 0 0]), 9) by kernel_rfl)
  unfold NumPost at CN0
  have CG : ∀ W, Calls Tryd.prog 16 #[.agg #[.int .i64 3, .int .i64 0, .int .i64 0, .int .i64 0, .int .i64 z0, .int .i64 0, .int .u32 0, .int .u32 0, .slice none 0 0]] W fun e w' => e = .returned (.bool false) ∧ Below W.heap.size W w' := fun W => refGoodV ⟨3, 0, 0, ⟨0, z0, 0, 0, 0⟩, []⟩ none 0 0 false hvg W (U8At.nil _ _) rfl
  have CG := Lib.hid CG
  clear hvg
  have hx0 : BoxF (w.alloc (.cells #[.int .i64 0, .int .i64 0, .int .i64 0, .int .i64 0, .int .i64 0, .int .i64 0, .int .u32 0, .int .u32 0, .slice none 0 0] 29)) w.heap.size [.int .i64 0, .int .i64 0, .int .i64 0, .int .i64 0, .int .i64 0, .int .i64 0, .int .u32 0, .int .u32 0, .slice none 0 0] := boxF_made w [.int .i64 0, .int .i64 0, .int .i64 0, .int .i64 0, .int .i64 0, .int .i64 0, .int .u32 0, .int .u32 0, .slice none 0 0] 29
  have hb0 : Below w.heap.size w (w.alloc (.cells #[.int .i64 0, .int .i64 0, .int .i64 0, .int .i64 0, .int .i64 0, .int .i64 0, .int .u32 0, .int .u32 0, .slice none 0 0] 29)) := (Below.refl _ _).alloc (Nat.le_refl _) _
  have HX := Lib.hid (And.intro hx0 hb0)
  have CS := Lib.hid CS
  have CH := Lib.hid CH
  clear hx0 hb0
  go_enter Tryd.func29, Tryd.ntmps29
  go_wp2_with fail
  refine CS.out.mono ?_
  rintro e w1 ⟨A, c, rfl, hlc, hrow, hq1⟩
  have hx1 := HX.out.1.keep hq1
  have hb1 : Below w.heap.size w w1 := HX.out.2.trans (hq1.mono HX.out.2.size)
  have C2 := CH.out w1 A c hrow
  have H1 := Lib.hid (And.intro hx1 (And.intro hb1 hrow))
  clear hx1 hb1 hrow hq1
  go_wp2_with fail
  refine C2.mono ?_
  rintro e w2 ⟨rfl, hq2⟩
  clear C2
  have HB2 := Lib.hid (And.intro (H1.out.2.1.trans (hq2.mono H1.out.2.1.size)) (H1.out.2.1.trans (hq2.mono H1.out.2.1.size)).size)
  have HR2 := Lib.hid (H1.out.1.keep hq2)
  have hrow2 := H1.out.2.2.keep hq2
  clear hq2
  obtain ⟨blk, off, rfl, hc0⟩ := hrow2 0 _ rfl
  have hc1 : w2.cell? ⟨blk, off + 1, none⟩ = _ := (by
    obtain ⟨b3, o3, he, hc⟩ := hrow2 1 _ rfl
    injection he with he
    injection he with h1 h2 h3
    subst h1 h2
    exact hc)
  have hc2 : w2.cell? ⟨blk, off + 2, none⟩ = _ := (by
    obtain ⟨b3, o3, he, hc⟩ := hrow2 2 _ rfl
    injection he with he
    injection he with h1 h2 h3
    subst h1 h2
    exact hc)
  simp only [Nat.add_zero] at hc0
  have hlt2 := World.block_lt_of_cell? _ _ hc0
  simp only at hlt2
  have HK : Hid (∀ W, Below w2.heap.size w2 W → W.cell? ⟨blk, off, none⟩ = some (.string ⟨a0.toArray⟩) ∧ W.cell? ⟨blk, off + 1, none⟩ = some (.string ⟨a1.toArray⟩) ∧ W.cell? ⟨blk, off + 2, none⟩ = some (.string ⟨a2.toArray⟩)) := fun W hW => ⟨(hW.cell (p := ⟨blk, off, none⟩) hlt2).trans hc0, (hW.cell (p := ⟨blk, off + 1, none⟩) hlt2).trans hc1, (hW.cell (p := ⟨blk, off + 2, none⟩) hlt2).trans hc2⟩
  clear hrow2
  go_wp2_with fail
  refine wp_loop_rounds 3 ?_
  rw [rounds_succ]
  go_wp2_with fail
  refine (CN0 _).mono ?_
  rintro e w3 ⟨rfl, hq⟩
  have hX3 : BoxF w3 w2.heap.size [.int .i64 0, .int .i64 0, .int .i64 0] := (boxF_made w2 [.int .i64 0, .int .i64 0, .int .i64 0] 2).keep hq
  have hB3 : Below w2.heap.size w2 w3 := ((Below.refl _ _).alloc (Nat.le_refl _) (.cells #[.int .i64 0, .int .i64 0, .int .i64 0] 2)).trans (hq.mono (by simp))
  have HN3 := Lib.hid (And.intro hX3 hB3)
  clear hq hX3 hB3
  have hz3 : w2.heap.size < w3.heap.size := World.block_lt_of_cell? _ _ (HN3.out.1.1 0 _ rfl)
  have v0 := HN3.out.1.1 0 _ rfl
  have fv0 := HN3.out.1.2 0 (by simp)
  have v1 := HN3.out.1.1 1 _ rfl
  have fv1 := HN3.out.1.2 1 (by simp)
  have v2 := HN3.out.1.1 2 _ rfl
  have fv2 := HN3.out.1.2 2 (by simp)
  clear hc0 hc1 hc2
  go_wp2_with fail
  rw [rounds_succ]
  go_wp2_with fail
  refine (CG.out _).mono ?_
  rintro e w9 ⟨rfl, hq⟩
  have hT : BoxF w9 (w3.setCell ⟨w2.heap.size, 0, none⟩ (.int .i64 z0)).heap.size [.int .i64 3, .int .i64 0, .int .i64 0, .int .i64 0, .int .i64 z0, .int .i64 0, .int .u32 0, .int .u32 0, .slice none 0 0] := (boxF_made _ [.int .i64 3, .int .i64 0, .int .i64 0, .int .i64 0, .int .i64 z0, .int .i64 0, .int .u32 0, .int .u32 0, .slice none 0 0] 29).keep hq
  rw [show (w3.setCell ⟨w2.heap.size, 0, none⟩ (.int .i64 z0)).heap.size = w3.heap.size by simp] at hT
  have hB9 : Below w2.heap.size w2 w9 := ((HN3.out.2.setCell (p := ⟨w2.heap.size, 0, none⟩) (Nat.le_refl _) (.int .i64 z0)).alloc (by simp; omega) (.cells #[.int .i64 3, .int .i64 0, .int .i64 0, .int .i64 0, .int .i64 z0, .int .i64 0, .int .u32 0, .int .u32 0, .slice none 0 0] 29)).trans (hq.mono (by simp; omega))
  have t0 := hT.1 0 _ rfl
  have t1 := hT.1 1 _ rfl
  have t2 := hT.1 2 _ rfl
  have t3 := hT.1 3 _ rfl
  have t4 := hT.1 4 _ rfl
  have t5 := hT.1 5 _ rfl
  have t6 := hT.1 6 _ rfl
  have t7 := hT.1 7 _ rfl
  have t8 := hT.1 8 _ rfl
  clear v0 fv0 v1 fv1 v2 fv2
  have u0 := (HR2.out.keep hB9).1 0 _ rfl
  have fu0 := (HR2.out.keep hB9).2 0 (by simp)
  have u1 := (HR2.out.keep hB9).1 1 _ rfl
  have fu1 := (HR2.out.keep hB9).2 1 (by simp)
  have u2 := (HR2.out.keep hB9).1 2 _ rfl
  have fu2 := (HR2.out.keep hB9).2 2 (by simp)
  have u3 := (HR2.out.keep hB9).1 3 _ rfl
  have fu3 := (HR2.out.keep hB9).2 3 (by simp)
  have u4 := (HR2.out.keep hB9).1 4 _ rfl
  have fu4 := (HR2.out.keep hB9).2 4 (by simp)
  have u5 := (HR2.out.keep hB9).1 5 _ rfl
  have fu5 := (HR2.out.keep hB9).2 5 (by simp)
  have u6 := (HR2.out.keep hB9).1 6 _ rfl
  have fu6 := (HR2.out.keep hB9).2 6 (by simp)
  have u7 := (HR2.out.keep hB9).1 7 _ rfl
  have fu7 := (HR2.out.keep hB9).2 7 (by simp)
  have u8 := (HR2.out.keep hB9).1 8 _ rfl
  have fu8 := (HR2.out.keep hB9).2 8 (by simp)
  have HB := Lib.hid (HB2.out.1.trans (hB9.mono HB2.out.2))
  clear hq hT hB9
  go_wp2
  refine bodyPost_ret (v := .tuple #[.agg #[.int .i64 0, .int .i64 0, .int .i64 0, .int .i64 0, .int .i64 0, .int .i64 0, .int .u32 0, .int .u32 0, .slice none 0 0], .int .i64 2]) (by simp (maxDischargeDepth := 8) [results, Tryd.results29, go_sem, *]) rfl ?_
  refine actPost_bad Ac0 none 0 0 2 rfl rfl (by decide) ?_
  · skip
    repeat (first | with_reducible refine Below.setCell ?_ (by first | exact Nat.le_refl _ | exact HB2.out.2) _ | with_reducible refine Below.drew ?_ | with_reducible refine below_drewN ?_ _)
    exact HB.out
set_option maxHeartbeats 3200000 in
set_option maxRecDepth 100000 in
theorem rone_f1_ok (s : ByteArray) (w : World) (a0 a1 : List UInt8) (hvg : goodA ⟨3, 0, 0, ⟨1, 0, 0, 0, 0⟩, []⟩ = true)
    (CS : Calls Tryd.prog 28 #[.string s, .int .u8 32] (w.alloc (.cells #[.int .i64 0, .int .i64 0, .int .i64 0, .int .i64 0, .int .i64 0, .int .i64 0, .int .u32 0, .int .u32 0, .slice none 0 0] 29)) (SplitP 2 [a0, a1] (w.alloc (.cells #[.int .i64 0, .int .i64 0, .int .i64 0, .int .i64 0, .int .i64 0, .int .i64 0, .int .u32 0, .int .u32 0, .slice none 0 0] 29))))
    (CH : ∀ W A c, RowAt W A (strV [a0, a1]) → Calls Tryd.prog 41 #[.slice A 2 c] W (ShapePost 3 1 2 0 W)) :
    Calls Tryd.prog 29 #[.string s] w (ActPost (⟨3, 0, 0, ⟨1, 0, 0, 0, 0⟩, []⟩, 0) w) := by
  obtain ⟨hz, hsz⟩ := zero_of_info (show (Tryd.prog.info? 29).map (fun i => (i.zero, i.size)) = some (some (.agg #[.int .i64 0, .int .i64 0, .int .i64 0, .int .i64 0, .int .i64 0, .int .i64 0, .int .u32 0, .int .u32 0, .slice none 0 0]), 9) by kernel_rfl)
  have CG : ∀ W, Calls Tryd.prog 16 #[.agg #[.int .i64 3, .int .i64 0, .int .i64 0, .int .i64 1, .int .i64 0, .int .i64 0, .int .u32 0, .int .u32 0, .slice none 0 0]] W fun e w' => e = .returned (.bool true) ∧ Below W.heap.size W w' := fun W => refGoodV ⟨3, 0, 0, ⟨1, 0, 0, 0, 0⟩, []⟩ none 0 0 true hvg W (U8At.nil _ _) rfl
  have CG := Lib.hid CG
  clear hvg
  have hx0 : BoxF (w.alloc (.cells #[.int .i64 0, .int .i64 0, .int .i64 0, .int .i64 0, .int .i64 0, .int .i64 0, .int .u32 0, .int .u32 0, .slice none 0 0] 29)) w.heap.size [.int .i64 0, .int .i64 0, .int .i64 0, .int .i64 0, .int .i64 0, .int .i64 0, .int .u32 0, .int .u32 0, .slice none 0 0] := boxF_made w [.int .i64 0, .int .i64 0, .int .i64 0, .int .i64 0, .int .i64 0, .int .i64 0, .int .u32 0, .int .u32 0, .slice none 0 0] 29
  have hb0 : Below w.heap.size w (w.alloc (.cells #[.int .i64 0, .int .i64 0, .int .i64 0, .int .i64 0, .int .i64 0, .int .i64 0, .int .u32 0, .int .u32 0, .slice none 0 0] 29)) := (Below.refl _ _).alloc (Nat.le_refl _) _
  have HX := Lib.hid (And.intro hx0 hb0)
  have CS := Lib.hid CS
  have CH := Lib.hid CH
  clear hx0 hb0
  go_enter Tryd.func29, Tryd.ntmps29
  go_wp2_with fail
  refine CS.out.mono ?_
  rintro e w1 ⟨A, c, rfl, hlc, hrow, hq1⟩
  have hx1 := HX.out.1.keep hq1
  have hb1 : Below w.heap.size w w1 := HX.out.2.trans (hq1.mono HX.out.2.size)
  have C2 := CH.out w1 A c hrow
  have H1 := Lib.hid (And.intro hx1 (And.intro hb1 hrow))
  clear hx1 hb1 hrow hq1
  go_wp2_with fail
  refine C2.mono ?_
  rintro e w2 ⟨rfl, hq2⟩
  clear C2
  have HB2 := Lib.hid (And.intro (H1.out.2.1.trans (hq2.mono H1.out.2.1.size)) (H1.out.2.1.trans (hq2.mono H1.out.2.1.size)).size)
  have HR2 := Lib.hid (H1.out.1.keep hq2)
  have hrow2 := H1.out.2.2.keep hq2
  clear hq2
  obtain ⟨blk, off, rfl, hc0⟩ := hrow2 0 _ rfl
  have hc1 : w2.cell? ⟨blk, off + 1, none⟩ = _ := (by
    obtain ⟨b3, o3, he, hc⟩ := hrow2 1 _ rfl
    injection he with he
    injection he with h1 h2 h3
    subst h1 h2
    exact hc)
  simp only [Nat.add_zero] at hc0
  have hlt2 := World.block_lt_of_cell? _ _ hc0
  simp only at hlt2
  have HK : Hid (∀ W, Below w2.heap.size w2 W → W.cell? ⟨blk, off, none⟩ = some (.string ⟨a0.toArray⟩) ∧ W.cell? ⟨blk, off + 1, none⟩ = some (.string ⟨a1.toArray⟩)) := fun W hW => ⟨(hW.cell (p := ⟨blk, off, none⟩) hlt2).trans hc0, (hW.cell (p := ⟨blk, off + 1, none⟩) hlt2).trans hc1⟩
  clear hrow2
  go_wp2_with fail
  refine wp_loop_rounds 2 ?_
  rw [rounds_succ]
  go_wp2_with fail
  refine (CG.out _).mono ?_
  rintro e w9 ⟨rfl, hq⟩
  have hT : BoxF w9 (w2.alloc (.cells #[.int .i64 0, .int .i64 0, .int .i64 0] 2)).heap.size [.int .i64 3, .int .i64 0, .int .i64 0, .int .i64 1, .int .i64 0, .int .i64 0, .int .u32 0, .int .u32 0, .slice none 0 0] := (boxF_made _ [.int .i64 3, .int .i64 0, .int .i64 0, .int .i64 1, .int .i64 0, .int .i64 0, .int .u32 0, .int .u32 0, .slice none 0 0] 29).keep hq
  rw [show (w2.alloc (.cells #[.int .i64 0, .int .i64 0, .int .i64 0] 2)).heap.size = w2.heap.size + 1 by simp] at hT
  have hB9 : Below w2.heap.size w2 w9 := (((Below.refl _ _).alloc (Nat.le_refl _) (.cells #[.int .i64 0, .int .i64 0, .int .i64 0] 2)).alloc (by first | (simp; done) | (simp; omega)) (.cells #[.int .i64 3, .int .i64 0, .int .i64 0, .int .i64 1, .int .i64 0, .int .i64 0, .int .u32 0, .int .u32 0, .slice none 0 0] 29)).trans (hq.mono (by first | (simp; done) | (simp; omega)))
  have t0 := hT.1 0 _ rfl
  have t1 := hT.1 1 _ rfl
  have t2 := hT.1 2 _ rfl
  have t3 := hT.1 3 _ rfl
  have t4 := hT.1 4 _ rfl
  have t5 := hT.1 5 _ rfl
  have t6 := hT.1 6 _ rfl
  have t7 := hT.1 7 _ rfl
  have t8 := hT.1 8 _ rfl
  have u0 := (HR2.out.keep hB9).1 0 _ rfl
  have fu0 := (HR2.out.keep hB9).2 0 (by simp)
  have u1 := (HR2.out.keep hB9).1 1 _ rfl
  have fu1 := (HR2.out.keep hB9).2 1 (by simp)
  have u2 := (HR2.out.keep hB9).1 2 _ rfl
  have fu2 := (HR2.out.keep hB9).2 2 (by simp)
  have u3 := (HR2.out.keep hB9).1 3 _ rfl
  have fu3 := (HR2.out.keep hB9).2 3 (by simp)
  have u4 := (HR2.out.keep hB9).1 4 _ rfl
  have fu4 := (HR2.out.keep hB9).2 4 (by simp)
  have u5 := (HR2.out.keep hB9).1 5 _ rfl
  have fu5 := (HR2.out.keep hB9).2 5 (by simp)
  have u6 := (HR2.out.keep hB9).1 6 _ rfl
  have fu6 := (HR2.out.keep hB9).2 6 (by simp)
  have u7 := (HR2.out.keep hB9).1 7 _ rfl
  have fu7 := (HR2.out.keep hB9).2 7 (by simp)
  have u8 := (HR2.out.keep hB9).1 8 _ rfl
  have fu8 := (HR2.out.keep hB9).2 8 (by simp)
  have HB := Lib.hid (HB2.out.1.trans (hB9.mono HB2.out.2))
  clear hq hT hB9
  go_wp2
  refine bodyPost_ret (v := .tuple #[.agg #[.int .i64 3, .int .i64 0, .int .i64 0, .int .i64 1, .int .i64 0, .int .i64 0, .int .u32 0, .int .u32 0, .slice none 0 0], .int .i64 0]) (by simp (maxDischargeDepth := 8) [results, Tryd.results29, go_sem, *]) rfl ?_
  refine actPost_ok ⟨3, 0, 0, ⟨1, 0, 0, 0, 0⟩, []⟩ none 0 0 rfl rfl rfl rfl (own_nil _ _) ?_
  · skip
    repeat (first | with_reducible refine Below.setCell ?_ (by first | exact Nat.le_refl _ | exact HB2.out.2) _ | with_reducible refine Below.drew ?_ | with_reducible refine below_drewN ?_ _)
    exact HB.out
set_option maxHeartbeats 3200000 in
set_option maxRecDepth 100000 in
theorem rone_f1_ng (s : ByteArray) (w : World) (a0 a1 : List UInt8) (hvg : goodA ⟨3, 0, 0, ⟨1, 0, 0, 0, 0⟩, []⟩ = false)
    (CS : Calls Tryd.prog 28 #[.string s, .int .u8 32] (w.alloc (.cells #[.int .i64 0, .int .i64 0, .int .i64 0, .int .i64 0, .int .i64 0, .int .i64 0, .int .u32 0, .int .u32 0, .slice none 0 0] 29)) (SplitP 2 [a0, a1] (w.alloc (.cells #[.int .i64 0, .int .i64 0, .int .i64 0, .int .i64 0, .int .i64 0, .int .i64 0, .int .u32 0, .int .u32 0, .slice none 0 0] 29))))
    (CH : ∀ W A c, RowAt W A (strV [a0, a1]) → Calls Tryd.prog 41 #[.slice A 2 c] W (ShapePost 3 1 2 0 W)) :
    Calls Tryd.prog 29 #[.string s] w (ActPost (Ac0, 2) w) := by
  obtain ⟨hz, hsz⟩ := zero_of_info (show (Tryd.prog.info? 29).map (fun i => (i.zero, i.size)) = some (some (.agg #[.int .i64 0, .int .i64 0, .int .i64 0, .int .i64 0, .int .i64 0, .int .i64 0, .int .u32 0, .int .u32 0, .slice none 0 0]), 9) by kernel_rfl)
  have CG : ∀ W, Calls Tryd.prog 16 #[.agg #[.int .i64 3, .int .i64 0, .int .i64 0, .int .i64 1, .int .i64 0, .int .i64 0, .int .u32 0, .int .u32 0, .slice none 0 0]] W fun e w' => e = .returned (.bool false) ∧ Below W.heap.size W w' := fun W => refGoodV ⟨3, 0, 0, ⟨1, 0, 0, 0, 0⟩, []⟩ none 0 0 false hvg W (U8At.nil _ _) rfl
  have CG := Lib.hid CG
  clear hvg
  have hx0 : BoxF (w.alloc (.cells #[.int .i64 0, .int .i64 0, .int .i64 0, .int .i64 0, .int .i64 0, .int .i64 0, .int .u32 0, .int .u32 0, .slice none 0 0] 29)) w.heap.size [.int .i64 0, .int .i64 0, .int .i64 0, .int .i64 0, .int .i64 0, .int .i64 0, .int .u32 0, .int .u32 0, .slice none 0 0] := boxF_made w [.int .i64 0, .int .i64 0, .int .i64 0, .int .i64 0, .int .i64 0, .int .i64 0, .int .u32 0, .int .u32 0, .slice none 0 0] 29
  have hb0 : Below w.heap.size w (w.alloc (.cells #[.int .i64 0, .int .i64 0, .int .i64 0, .int .i64 0, .int .i64 0, .int .i64 0, .int .u32 0, .int .u32 0, .slice none 0 0] 29)) := (Below.refl _ _).alloc (Nat.le_refl _) _
  have HX := Lib.hid (And.intro hx0 hb0)
  have CS := Lib.hid CS
  have CH := Lib.hid CH
  clear hx0 hb0
  go_enter Tryd.func29, Tryd.ntmps29
  go_wp2_with fail
  refine CS.out.mono ?_
  rintro e w1 ⟨A, c, rfl, hlc, hrow, hq1⟩
  have hx1 := HX.out.1.keep hq1
  have hb1 : Below w.heap.size w w1 := HX.out.2.trans (hq1.mono HX.out.2.size)
  have C2 := CH.out w1 A c hrow
  have H1 := Lib.hid (And.intro hx1 (And.intro hb1 hrow))
  clear hx1 hb1 hrow hq1
  go_wp2_with fail
  refine C2.mono ?_
  rintro e w2 ⟨rfl, hq2⟩
  clear C2
  have HB2 := Lib.hid (And.intro (H1.out.2.1.trans (hq2.mono H1.out.2.1.size)) (H1.out.2.1.trans (hq2.mono H1.out.2.1.size)).size)
  have HR2 := Lib.hid (H1.out.1.keep hq2)
  have hrow2 := H1.out.2.2.keep hq2
  clear hq2
  obtain ⟨blk, off, rfl, hc0⟩ := hrow2 0 _ rfl
  have hc1 : w2.cell? ⟨blk, off + 1, none⟩ = _ := (by
    obtain ⟨b3, o3, he, hc⟩ := hrow2 1 _ rfl
    injection he with he
    injection he with h1 h2 h3
    subst h1 h2
    exact hc)
  simp only [Nat.add_zero] at hc0
  have hlt2 := World.block_lt_of_cell? _ _ hc0
  simp only at hlt2
  have HK : Hid (∀ W, Below w2.heap.size w2 W → W.cell? ⟨blk, off, none⟩ = some (.string ⟨a0.toArray⟩) ∧ W.cell? ⟨blk, off + 1, none⟩ = some (.string ⟨a1.toArray⟩)) := fun W hW => ⟨(hW.cell (p := ⟨blk, off, none⟩) hlt2).trans hc0, (hW.cell (p := ⟨blk, off + 1, none⟩) hlt2).trans hc1⟩
  clear hrow2
  go_wp2_with fail
  refine wp_loop_rounds 2 ?_
  rw [rounds_succ]
  go_wp2_with fail
  refine (CG.out _).mono ?_
  rintro e w9 ⟨rfl, hq⟩
  have hT : BoxF w9 (w2.alloc (.cells #[.int .i64 0, .int .i64 0, .int .i64 0] 2)).heap.size [.int .i64 3, .int .i64 0, .int .i64 0, .int .i64 1, .int .i64 0, .int .i64 0, .int .u32 0, .int .u32 0, .slice none 0 0] := (boxF_made _ [.int .i64 3, .int .i64 0, .int .i64 0, .int .i64 1, .int .i64 0, .int .i64 0, .int .u32 0, .int .u32 0, .slice none 0 0] 29).keep hq
  rw [show (w2.alloc (.cells #[.int .i64 0, .int .i64 0, .int .i64 0] 2)).heap.size = w2.heap.size + 1 by simp] at hT
  have hB9 : Below w2.heap.size w2 w9 := (((Below.refl _ _).alloc (Nat.le_refl _) (.cells #[.int .i64 0, .int .i64 0, .int .i64 0] 2)).alloc (by first | (simp; done) | (simp; omega)) (.cells #[.int .i64 3, .int .i64 0, .int .i64 0, .int .i64 1, .int .i64 0, .int .i64 0, .int .u32 0, .int .u32 0, .slice none 0 0] 29)).trans (hq.mono (by first | (simp; done) | (simp; omega)))
  have t0 := hT.1 0 _ rfl
  have t1 := hT.1 1 _ rfl
  have t2 := hT.1 2 _ rfl
  have t3 := hT.1 3 _ rfl
  have t4 := hT.1 4 _ rfl
  have t5 := hT.1 5 _ rfl
  have t6 := hT.1 6 _ rfl
  have t7 := hT.1 7 _ rfl
  have t8 := hT.1 8 _ rfl
  have u0 := (HR2.out.keep hB9).1 0 _ rfl
  have fu0 := (HR2.out.keep hB9).2 0 (by simp)
  have u1 := (HR2.out.keep hB9).1 1 _ rfl
  have fu1 := (HR2.out.keep hB9).2 1 (by simp)
  have u2 := (HR2.out.keep hB9).1 2 _ rfl
  have fu2 := (HR2.out.keep hB9).2 2 (by simp)
  have u3 := (HR2.out.keep hB9).1 3 _ rfl
  have fu3 := (HR2.out.keep hB9).2 3 (by simp)
  have u4 := (HR2.out.keep hB9).1 4 _ rfl
  have fu4 := (HR2.out.keep hB9).2 4 (by simp)
  have u5 := (HR2.out.keep hB9).1 5 _ rfl
  have fu5 := (HR2.out.keep hB9).2 5 (by simp)
  have u6 := (HR2.out.keep hB9).1 6 _ rfl
  have fu6 := (HR2.out.keep hB9).2 6 (by simp)
  have u7 := (HR2.out.keep hB9).1 7 _ rfl
  have fu7 := (HR2.out.keep hB9).2 7 (by simp)
  have u8 := (HR2.out.keep hB9).1 8 _ rfl
  have fu8 := (HR2.out.keep hB9).2 8 (by simp)
  have HB := Lib.hid (HB2.out.1.trans (hB9.mono HB2.out.2))
  clear hq hT hB9
  go_wp2
  refine bodyPost_ret (v := .tuple #[.agg #[.int .i64 0, .int .i64 0, .int .i64 0, .int .i64 0, .int .i64 0, .int .i64 0, .int .u32 0, .int .u32 0, .slice none 0 0], .int .i64 2]) (by simp (maxDischargeDepth := 8) [results, Tryd.results29, go_sem, *]) rfl ?_
  refine actPost_bad Ac0 none 0 0 2 rfl rfl (by decide) ?_
  · skip
    repeat (first | with_reducible refine Below.setCell ?_ (by first | exact Nat.le_refl _ | exact HB2.out.2) _ | with_reducible refine Below.drew ?_ | with_reducible refine below_drewN ?_ _)
    exact HB.out
set_option maxHeartbeats 3200000 in
set_option maxRecDepth 100000 in
theorem rone_f2_b0 (s : ByteArray) (w : World) (a0 a1 a2 a3 : List UInt8) (CN0 : ∀ W, Calls Tryd.prog 42 #[.string ⟨a2.toArray⟩] W (NumPost none W))
    (CS : Calls Tryd.prog 28 #[.string s, .int .u8 32] (w.alloc (.cells #[.int .i64 0, .int .i64 0, .int .i64 0, .int .i64 0, .int .i64 0, .int .i64 0, .int .u32 0, .int .u32 0, .slice none 0 0] 29)) (SplitP 4 [a0, a1, a2, a3] (w.alloc (.cells #[.int .i64 0, .int .i64 0, .int .i64 0, .int .i64 0, .int .i64 0, .int .i64 0, .int .u32 0, .int .u32 0, .slice none 0 0] 29))))
    (CH : ∀ W A c, RowAt W A (strV [a0, a1, a2, a3]) → Calls Tryd.prog 41 #[.slice A 4 c] W (ShapePost 3 2 2 2 W)) :
    Calls Tryd.prog 29 #[.string s] w (ActPost (Ac0, 5) w) := by
  obtain ⟨hz, hsz⟩ := zero_of_info (show (Tryd.prog.info? 29).map (fun i => (i.zero, i.size)) = some (some (.agg #[.int .i64 0, .int .i64 0, .int .i64 0, .int .i64 0, .int .i64 0, .int .i64 0, .int .u32 0, .int .u32 0, .slice none 0 0]), 9) by kernel_rfl)
  unfold NumPost at CN0
  have hx0 : BoxF (w.alloc (.cells #[.int .i64 0, .int .i64 0, .int .i64 0, .int .i64 0, .int .i64 0, .int .i64 0, .int .u32 0, .int .u32 0, .slice none 0 0] 29)) w.heap.size [.int .i64 0, .int .i64 0, .int .i64 0, .int .i64 0, .int .i64 0, .int .i64 0, .int .u32 0, .int .u32 0, .slice none 0 0] := boxF_made w [.int .i64 0, .int .i64 0, .int .i64 0, .int .i64 0, .int .i64 0, .int .i64 0, .int .u32 0, .int .u32 0, .slice none 0 0] 29
  have hb0 : Below w.heap.size w (w.alloc (.cells #[.int .i64 0, .int .i64 0, .int .i64 0, .int .i64 0, .int .i64 0, .int .i64 0, .int .u32 0, .int .u32 0, .slice none 0 0] 29)) := (Below.refl _ _).alloc (Nat.le_refl _) _
  have HX := Lib.hid (And.intro hx0 hb0)
  have CS := Lib.hid CS
  have CH := Lib.hid CH
  clear hx0 hb0
  go_enter Tryd.func29, Tryd.ntmps29
  go_wp2_with fail
  refine CS.out.mono ?_
  rintro e w1 ⟨A, c, rfl, hlc, hrow, hq1⟩
  have hx1 := HX.out.1.keep hq1
  have hb1 : Below w.heap.size w w1 := HX.out.2.trans (hq1.mono HX.out.2.size)
  have C2 := CH.out w1 A c hrow
  have H1 := Lib.hid (And.intro hx1 (And.intro hb1 hrow))
  clear hx1 hb1 hrow hq1
  go_wp2_with fail
  refine C2.mono ?_
  rintro e w2 ⟨rfl, hq2⟩
  clear C2
  have HB2 := Lib.hid (And.intro (H1.out.2.1.trans (hq2.mono H1.out.2.1.size)) (H1.out.2.1.trans (hq2.mono H1.out.2.1.size)).size)
  have HR2 := Lib.hid (H1.out.1.keep hq2)
  have hrow2 := H1.out.2.2.keep hq2
  clear hq2
  obtain ⟨blk, off, rfl, hc0⟩ := hrow2 0 _ rfl
  have hc1 : w2.cell? ⟨blk, off + 1, none⟩ = _ := (by
    obtain ⟨b3, o3, he, hc⟩ := hrow2 1 _ rfl
    injection he with he
    injection he with h1 h2 h3
    subst h1 h2
    exact hc)
  have hc2 : w2.cell? ⟨blk, off + 2, none⟩ = _ := (by
    obtain ⟨b3, o3, he, hc⟩ := hrow2 2 _ rfl
    injection he with he
    injection he with h1 h2 h3
    subst h1 h2
    exact hc)
  have hc3 : w2.cell? ⟨blk, off + 3, none⟩ = _ := (by
    obtain ⟨b3, o3, he, hc⟩ := hrow2 3 _ rfl
    injection he with he
    injection he with h1 h2 h3
    subst h1 h2
    exact hc)
  simp only [Nat.add_zero] at hc0
  have hlt2 := World.block_lt_of_cell? _ _ hc0
  simp only at hlt2
  have HK : Hid (∀ W, Below w2.heap.size w2 W → W.cell? ⟨blk, off, none⟩ = some (.string ⟨a0.toArray⟩) ∧ W.cell? ⟨blk, off + 1, none⟩ = some (.string ⟨a1.toArray⟩) ∧ W.cell? ⟨blk, off + 2, none⟩ = some (.string ⟨a2.toArray⟩) ∧ W.cell? ⟨blk, off + 3, none⟩ = some (.string ⟨a3.toArray⟩)) := fun W hW => ⟨(hW.cell (p := ⟨blk, off, none⟩) hlt2).trans hc0, (hW.cell (p := ⟨blk, off + 1, none⟩) hlt2).trans hc1, (hW.cell (p := ⟨blk, off + 2, none⟩) hlt2).trans hc2, (hW.cell (p := ⟨blk, off + 3, none⟩) hlt2).trans hc3⟩
  clear hrow2
  go_wp2_with fail
  refine wp_loop_rounds 4 ?_
  rw [rounds_succ]
  go_wp2_with fail
  refine (CN0 _).mono ?_
  rintro e w3 ⟨⟨mm, rfl⟩, hq⟩
  have hX3 : BoxF w3 w2.heap.size [.int .i64 0, .int .i64 0, .int .i64 0] := (boxF_made w2 [.int .i64 0, .int .i64 0, .int .i64 0] 2).keep hq
  have hB3 : Below w2.heap.size w2 w3 := ((Below.refl _ _).alloc (Nat.le_refl _) (.cells #[.int .i64 0, .int .i64 0, .int .i64 0] 2)).trans (hq.mono (by simp))
  have HN3 := Lib.hid (And.intro hX3 hB3)
  clear hq hX3 hB3
  have hz3 : w2.heap.size < w3.heap.size := World.block_lt_of_cell? _ _ (HN3.out.1.1 0 _ rfl)
  have v0 := HN3.out.1.1 0 _ rfl
  have fv0 := HN3.out.1.2 0 (by simp)
  have v1 := HN3.out.1.1 1 _ rfl
  have fv1 := HN3.out.1.2 1 (by simp)
  have v2 := HN3.out.1.1 2 _ rfl
  have fv2 := HN3.out.1.2 2 (by simp)
  have u0 := (HR2.out.keep HN3.out.2).1 0 _ rfl
  have fu0 := (HR2.out.keep HN3.out.2).2 0 (by simp)
  have u1 := (HR2.out.keep HN3.out.2).1 1 _ rfl
  have fu1 := (HR2.out.keep HN3.out.2).2 1 (by simp)
  have u2 := (HR2.out.keep HN3.out.2).1 2 _ rfl
  have fu2 := (HR2.out.keep HN3.out.2).2 2 (by simp)
  have u3 := (HR2.out.keep HN3.out.2).1 3 _ rfl
  have fu3 := (HR2.out.keep HN3.out.2).2 3 (by simp)
  have u4 := (HR2.out.keep HN3.out.2).1 4 _ rfl
  have fu4 := (HR2.out.keep HN3.out.2).2 4 (by simp)
  have u5 := (HR2.out.keep HN3.out.2).1 5 _ rfl
  have fu5 := (HR2.out.keep HN3.out.2).2 5 (by simp)
  have u6 := (HR2.out.keep HN3.out.2).1 6 _ rfl
  have fu6 := (HR2.out.keep HN3.out.2).2 6 (by simp)
  have u7 := (HR2.out.keep HN3.out.2).1 7 _ rfl
  have fu7 := (HR2.out.keep HN3.out.2).2 7 (by simp)
  have u8 := (HR2.out.keep HN3.out.2).1 8 _ rfl
  have fu8 := (HR2.out.keep HN3.out.2).2 8 (by simp)
  have HB := Lib.hid (HB2.out.1.trans (HN3.out.2.mono HB2.out.2))
  go_wp2
  refine bodyPost_ret (v := .tuple #[.agg #[.int .i64 0, .int .i64 0, .int .i64 0, .int .i64 0, .int .i64 0, .int .i64 0, .int .u32 0, .int .u32 0, .slice none 0 0], .int .i64 5]) (by simp (maxDischargeDepth := 8) [results, Tryd.results29, go_sem, *]) rfl ?_
  refine actPost_bad Ac0 none 0 0 5 rfl rfl (by decide) ?_
  · skip
    repeat (first | with_reducible refine Below.setCell ?_ (by first | exact Nat.le_refl _ | exact HB2.out.2) _ | with_reducible refine Below.drew ?_ | with_reducible refine below_drewN ?_ _)
    exact HB.out
set_option maxHeartbeats 3200000 in
set_option maxRecDepth 100000 in
theorem rone_f2_b1 (s : ByteArray) (w : World) (a0 a1 a2 a3 : List UInt8) (z0 : Int) (CN0 : ∀ W, Calls Tryd.prog 42 #[.string ⟨a2.toArray⟩] W (NumPost (some z0) W)) (CN1 : ∀ W, Calls Tryd.prog 42 #[.string ⟨a3.toArray⟩] W (NumPost none W))
    (CS : Calls Tryd.prog 28 #[.string s, .int .u8 32] (w.alloc (.cells #[.int .i64 0, .int .i64 0, .int .i64 0, .int .i64 0, .int .i64 0, .int .i64 0, .int .u32 0, .int .u32 0, .slice none 0 0] 29)) (SplitP 4 [a0, a1, a2, a3] (w.alloc (.cells #[.int .i64 0, .int .i64 0, .int .i64 0, .int .i64 0, .int .i64 0, .int .i64 0, .int .u32 0, .int .u32 0, .slice none 0 0] 29))))
    (CH : ∀ W A c, RowAt W A (strV [a0, a1, a2, a3]) → Calls Tryd.prog 41 #[.slice A 4 c] W (ShapePost 3 2 2 2 W)) :
    Calls Tryd.prog 29 #[.string s] w (ActPost (Ac0, 5) w) := by
  obtain ⟨hz, hsz⟩ := zero_of_info (show (Tryd.prog.info? 29).map (fun i => (i.zero, i.size)) = some (some (.agg #[.int .i64 0, .int .i64 0, .int .i64 0, .int .i64 0, .int .i64 0, .int .i64 0, .int .u32 0, .int .u32 0, .slice none 0 0]), 9) by kernel_rfl)
  unfold NumPost at CN0
  unfold NumPost at CN1
  have hx0 : BoxF (w.alloc (.cells #[.int .i64 0, .int .i64 0, .int .i64 0, .int .i64 0, .int .i64 0, .int .i64 0, .int .u32 0, .int .u32 0, .slice none 0 0] 29)) w.heap.size [.int .i64 0, .int .i64 0, .int .i64 0, .int .i64 0, .int .i64 0, .int .i64 0, .int .u32 0, .int .u32 0, .slice none 0 0] := boxF_made w [.int .i64 0, .int .i64 0, .int .i64 0, .int .i64 0, .int .i64 0, .int .i64 0, .int .u32 0, .int .u32 0, .slice none 0 0] 29
  have hb0 : Below w.heap.size w (w.alloc (.cells #[.int .i64 0, .int .i64 0, .int .i64 0, .int .i64 0, .int .i64 0, .int .i64 0, .int .u32 0, .int .u32 0, .slice none 0 0] 29)) := (Below.refl _ _).alloc (Nat.le_refl _) _
  have HX := Lib.hid (And.intro hx0 hb0)
  have CS := Lib.hid CS
  have CH := Lib.hid CH
  clear hx0 hb0
  go_enter Tryd.func29, Tryd.ntmps29
  go_wp2_with fail
  refine CS.out.mono ?_
  rintro e w1 ⟨A, c, rfl, hlc, hrow, hq1⟩
  have hx1 := HX.out.1.keep hq1
  have hb1 : Below w.heap.size w w1 := HX.out.2.trans (hq1.mono HX.out.2.size)
  have C2 := CH.out w1 A c hrow
  have H1 := Lib.hid (And.intro hx1 (And.intro hb1 hrow))
  clear hx1 hb1 hrow hq1
  go_wp2_with fail
  refine C2.mono ?_
  rintro e w2 ⟨rfl, hq2⟩
  clear C2
  have HB2 := Lib.hid (And.intro (H1.out.2.1.trans (hq2.mono H1.out.2.1.size)) (H1.out.2.1.trans (hq2.mono H1.out.2.1.size)).size)
  have HR2 := Lib.hid (H1.out.1.keep hq2)
  have hrow2 := H1.out.2.2.keep hq2
  clear hq2
  obtain ⟨blk, off, rfl, hc0⟩ := hrow2 0 _ rfl
  have hc1 : w2.cell? ⟨blk, off + 1, none⟩ = _ := (by
    obtain ⟨b3, o3, he, hc⟩ := hrow2 1 _ rfl
    injection he with he
    injection he with h1 h2 h3
    subst h1 h2
    exact hc)
  have hc2 : w2.cell? ⟨blk, off + 2, none⟩ = _ := (by
    obtain ⟨b3, o3, he, hc⟩ := hrow2 2 _ rfl
    injection he with he
    injection he with h1 h2 h3
    subst h1 h2
    exact hc)
  have hc3 : w2.cell? ⟨blk, off + 3, none⟩ = _ := (by
    obtain ⟨b3, o3, he, hc⟩ := hrow2 3 _ rfl
    injection he with he
    injection he with h1 h2 h3
    subst h1 h2
    exact hc)
  simp only [Nat.add_zero] at hc0
  have hlt2 := World.block_lt_of_cell? _ _ hc0
  simp only at hlt2
  have HK : Hid (∀ W, Below w2.heap.size w2 W → W.cell? ⟨blk, off, none⟩ = some (.string ⟨a0.toArray⟩) ∧ W.cell? ⟨blk, off + 1, none⟩ = some (.string ⟨a1.toArray⟩) ∧ W.cell? ⟨blk, off + 2, none⟩ = some (.string ⟨a2.toArray⟩) ∧ W.cell? ⟨blk, off + 3, none⟩ = some (.string ⟨a3.toArray⟩)) := fun W hW => ⟨(hW.cell (p := ⟨blk, off, none⟩) hlt2).trans hc0, (hW.cell (p := ⟨blk, off + 1, none⟩) hlt2).trans hc1, (hW.cell (p := ⟨blk, off + 2, none⟩) hlt2).trans hc2, (hW.cell (p := ⟨blk, off + 3, none⟩) hlt2).trans hc3⟩
  clear hrow2
  go_wp2_with fail
  refine wp_loop_rounds 4 ?_
  rw [rounds_succ]
  go_wp2_with fail
  refine (CN0 _).mono ?_
  rintro e w3 ⟨rfl, hq⟩
  have hX3 : BoxF w3 w2.heap.size [.int .i64 0, .int .i64 0, .int .i64 0] := (boxF_made w2 [.int .i64 0, .int .i64 0, .int .i64 0] 2).keep hq
  have hB3 : Below w2.heap.size w2 w3 := ((Below.refl _ _).alloc (Nat.le_refl _) (.cells #[.int .i64 0, .int .i64 0, .int .i64 0] 2)).trans (hq.mono (by simp))
  have HN3 := Lib.hid (And.intro hX3 hB3)
  clear hq hX3 hB3
  have hz3 : w2.heap.size < w3.heap.size := World.block_lt_of_cell? _ _ (HN3.out.1.1 0 _ rfl)
  have v0 := HN3.out.1.1 0 _ rfl
  have fv0 := HN3.out.1.2 0 (by simp)
  have v1 := HN3.out.1.1 1 _ rfl
  have fv1 := HN3.out.1.2 1 (by simp)
  have v2 := HN3.out.1.1 2 _ rfl
  have fv2 := HN3.out.1.2 2 (by simp)
  clear hc0 hc1 hc2 hc3
  have hk := HK.out _ HN3.out.2
  obtain ⟨hc0, hc1, hc2, hc3⟩ := hk
  go_wp2_with fail
  rw [rounds_succ]
  go_wp2_with fail
  refine (CN1 _).mono ?_
  rintro e w4 ⟨⟨mm, rfl⟩, hq⟩
  have hX4 : BoxF w4 w2.heap.size [.int .i64 z0, .int .i64 0, .int .i64 0] := (HN3.out.1.put 0 (by simp) (.int .i64 z0)).keep hq
  have hB4 : Below w2.heap.size w2 w4 := (HN3.out.2.setCell (p := ⟨w2.heap.size, 0, none⟩) (Nat.le_refl _) (.int .i64 z0)).trans (hq.mono (HN3.out.2.setCell (p := ⟨w2.heap.size, 0, none⟩) (Nat.le_refl _) (.int .i64 z0)).size)
  have HN4 := Lib.hid (And.intro hX4 hB4)
  clear hq hX4 hB4 v0 fv0 v1 fv1 v2 fv2
  have hz4 : w2.heap.size < w4.heap.size := World.block_lt_of_cell? _ _ (HN4.out.1.1 0 _ rfl)
  have v0 := HN4.out.1.1 0 _ rfl
  have fv0 := HN4.out.1.2 0 (by simp)
  have v1 := HN4.out.1.1 1 _ rfl
  have fv1 := HN4.out.1.2 1 (by simp)
  have v2 := HN4.out.1.1 2 _ rfl
  have fv2 := HN4.out.1.2 2 (by simp)
  have u0 := (HR2.out.keep HN4.out.2).1 0 _ rfl
  have fu0 := (HR2.out.keep HN4.out.2).2 0 (by simp)
  have u1 := (HR2.out.keep HN4.out.2).1 1 _ rfl
  have fu1 := (HR2.out.keep HN4.out.2).2 1 (by simp)
  have u2 := (HR2.out.keep HN4.out.2).1 2 _ rfl
  have fu2 := (HR2.out.keep HN4.out.2).2 2 (by simp)
  have u3 := (HR2.out.keep HN4.out.2).1 3 _ rfl
  have fu3 := (HR2.out.keep HN4.out.2).2 3 (by simp)
  have u4 := (HR2.out.keep HN4.out.2).1 4 _ rfl
  have fu4 := (HR2.out.keep HN4.out.2).2 4 (by simp)
  have u5 := (HR2.out.keep HN4.out.2).1 5 _ rfl
  have fu5 := (HR2.out.keep HN4.out.2).2 5 (by simp)
  have u6 := (HR2.out.keep HN4.out.2).1 6 _ rfl
  have fu6 := (HR2.out.keep HN4.out.2).2 6 (by simp)
  have u7 := (HR2.out.keep HN4.out.2).1 7 _ rfl
  have fu7 := (HR2.out.keep HN4.out.2).2 7 (by simp)
  have u8 := (HR2.out.keep HN4.out.2).1 8 _ rfl
  have fu8 := (HR2.out.keep HN4.out.2).2 8 (by simp)
  have HB := Lib.hid (HB2.out.1.trans (HN4.out.2.mono HB2.out.2))
  go_wp2
  refine bodyPost_ret (v := .tuple #[.agg #[.int .i64 0, .int .i64 0, .int .i64 0, .int .i64 0, .int .i64 0, .int .i64 0, .int .u32 0, .int .u32 0, .slice none 0 0], .int .i64 5]) (by simp (maxDischargeDepth := 8) [results, Tryd.results29, go_sem, *]) rfl ?_
  refine actPost_bad Ac0 none 0 0 5 rfl rfl (by decide) ?_
  · skip
    repeat (first | with_reducible refine Below.setCell ?_ (by first | exact Nat.le_refl _ | exact HB2.out.2) _ | with_reducible refine Below.drew ?_ | with_reducible refine below_drewN ?_ _)
    exact HB.out
set_option maxHeartbeats 3200000 in
set_option maxRecDepth 100000 in
theorem rone_f2_ok (s : ByteArray) (w : World) (a0 a1 a2 a3 : List UInt8) (z0 z1 : Int) (CN0 : ∀ W, Calls Tryd.prog 42 #[.string ⟨a2.toArray⟩] W (NumPost (some z0) W)) (CN1 : ∀ W, Calls Tryd.prog 42 #[.string ⟨a3.toArray⟩] W (NumPost (some z1) W)) (hvg : goodA ⟨3, 0, 0, ⟨2, z0, z1, 0, 0⟩, []⟩ = true)
    (CS : Calls Tryd.prog 28 #[.string s, .int .u8 32] (w.alloc (.cells #[.int .i64 0, .int .i64 0, .int .i64 0, .int .i64 0, .int .i64 0, .int .i64 0, .int .u32 0, .int .u32 0, .slice none 0 0] 29)) (SplitP 4 [a0, a1, a2, a3] (w.alloc (.cells #[.int .i64 0, .int .i64 0, .int .i64 0, .int .i64 0, .int .i64 0, .int .i64 0, .int .u32 0, .int .u32 0, .slice none 0 0] 29))))
    (CH : ∀ W A c, RowAt W A (strV [a0, a1, a2, a3]) → Calls Tryd.prog 41 #[.slice A 4 c] W (ShapePost 3 2 2 2 W)) :
    Calls Tryd.prog 29 #[.string s] w (ActPost (⟨3, 0, 0, ⟨2, z0, z1, 0, 0⟩, []⟩, 0) w) := by
  obtain ⟨hz, hsz⟩ := zero_of_info (show (Tryd.prog.info? 29).map (fun i => (i.zero, i.size)) = some (some (.agg #[.int .i64 0, .int .i64 0, .int .i64 0, .int .i64 0, .int .i64 0, .int .i64 0, .int .u32 0, .int .u32 0, .slice none 0 0]), 9) by kernel_rfl)
  unfold NumPost at CN0
  unfold NumPost at CN1
  have CG : ∀ W, Calls Tryd.prog 16 #[.agg #[.int .i64 3, .int .i64 0, .int .i64 0, .int .i64 2, .int .i64 z0, .int .i64 z1, .int .u32 0, .int .u32 0, .slice none 0 0]] W fun e w' => e = .returned (.bool true) ∧ Below W.heap.size W w' := fun W => refGoodV ⟨3, 0, 0, ⟨2, z0, z1, 0, 0⟩, []⟩ none 0 0 true hvg W (U8At.nil _ _) rfl
  have CG := Lib.hid CG
  clear hvg
  have hx0 : BoxF (w.alloc (.cells #[.int .i64 0, .int .i64 0, .int .i64 0, .int .i64 0, .int .i64 0, .int .i64 0, .int .u32 0, .int .u32 0, .slice none 0 0] 29)) w.heap.size [.int .i64 0, .int .i64 0, .int .i64 0, .int .i64 0, .int .i64 0, .int .i64 0, .int .u32 0, .int .u32 0, .slice none 0 0] := boxF_made w [.int .i64 0, .int .i64 0, .int .i64 0, .int .i64 0, .int .i64 0, .int .i64 0, .int .u32 0, .int .u32 0, .slice none 0 0] 29
  have hb0 : Below w.heap.size w (w.alloc (.cells #[.int .i64 0, .int .i64 0, .int .i64 0, .int .i64 0, .int .i64 0, .int .i64 0, .int .u32 0, .int .u32 0, .slice none 0 0] 29)) := (Below.refl _ _).alloc (Nat.le_refl _) _
  have HX := Lib.hid (And.intro hx0 hb0)
  have CS := Lib.hid CS
  have CH := Lib.hid CH
  clear hx0 hb0
  go_enter Tryd.func29, Tryd.ntmps29
  go_wp2_with fail
  refine CS.out.mono ?_
  rintro e w1 ⟨A, c, rfl, hlc, hrow, hq1⟩
  have hx1 := HX.out.1.keep hq1
  have hb1 : Below w.heap.size w w1 := HX.out.2.trans (hq1.mono HX.out.2.size)
  have C2 := CH.out w1 A c hrow
  have H1 := Lib.hid (And.intro hx1 (And.intro hb1 hrow))
  clear hx1 hb1 hrow hq1
  go_wp2_with fail
  refine C2.mono ?_
  rintro e w2 ⟨rfl, hq2⟩
  clear C2
  have HB2 := Lib.hid (And.intro (H1.out.2.1.trans (hq2.mono H1.out.2.1.size)) (H1.out.2.1.trans (hq2.mono H1.out.2.1.size)).size)
  have HR2 := Lib.hid (H1.out.1.keep hq2)
  have hrow2 := H1.out.2.2.keep hq2
  clear hq2
  obtain ⟨blk, off, rfl, hc0⟩ := hrow2 0 _ rfl
  have hc1 : w2.cell? ⟨blk, off + 1, none⟩ = _ := (by
    obtain ⟨b3, o3, he, hc⟩ := hrow2 1 _ rfl
    injection he with he
    injection he with h1 h2 h3
    subst h1 h2
    exact hc)
  have hc2 : w2.cell? ⟨blk, off + 2, none⟩ = _ := (by
    obtain ⟨b3, o3, he, hc⟩ := hrow2 2 _ rfl
    injection he with he
    injection he with h1 h2 h3
    subst h1 h2
    exact hc)
  have hc3 : w2.cell? ⟨blk, off + 3, none⟩ = _ := (by
    obtain ⟨b3, o3, he, hc⟩ := hrow2 3 _ rfl
    injection he with he
    injection he with h1 h2 h3
    subst h1 h2
    exact hc)
  simp only [Nat.add_zero] at hc0
  have hlt2 := World.block_lt_of_cell? _ _ hc0
  simp only at hlt2
  have HK : Hid (∀ W, Below w2.heap.size w2 W → W.cell? ⟨blk, off, none⟩ = some (.string ⟨a0.toArray⟩) ∧ W.cell? ⟨blk, off + 1, none⟩ = some (.string ⟨a1.toArray⟩) ∧ W.cell? ⟨blk, off + 2, none⟩ = some (.string ⟨a2.toArray⟩) ∧ W.cell? ⟨blk, off + 3, none⟩ = some (.string ⟨a3.toArray⟩)) := fun W hW => ⟨(hW.cell (p := ⟨blk, off, none⟩) hlt2).trans hc0, (hW.cell (p := ⟨blk, off + 1, none⟩) hlt2).trans hc1, (hW.cell (p := ⟨blk, off + 2, none⟩) hlt2).trans hc2, (hW.cell (p := ⟨blk, off + 3, none⟩) hlt2).trans hc3⟩
  clear hrow2
  go_wp2_with fail
  refine wp_loop_rounds 4 ?_
  rw [rounds_succ]
  go_wp2_with fail
  refine (CN0 _).mono ?_
  rintro e w3 ⟨rfl, hq⟩
  have hX3 : BoxF w3 w2.heap.size [.int .i64 0, .int .i64 0, .int .i64 0] := (boxF_made w2 [.int .i64 0, .int .i64 0, .int .i64 0] 2).keep hq
  have hB3 : Below w2.heap.size w2 w3 := ((Below.refl _ _).alloc (Nat.le_refl _) (.cells #[.int .i64 0, .int .i64 0, .int .i64 0] 2)).trans (hq.mono (by simp))
  have HN3 := Lib.hid (And.intro hX3 hB3)
  clear hq hX3 hB3
  have hz3 : w2.heap.size < w3.heap.size := World.block_lt_of_cell? _ _ (HN3.out.1.1 0 _ rfl)
  have v0 := HN3.out.1.1 0 _ rfl
  have fv0 := HN3.out.1.2 0 (by simp)
  have v1 := HN3.out.1.1 1 _ rfl
  have fv1 := HN3.out.1.2 1 (by simp)
  have v2 := HN3.out.1.1 2 _ rfl
  have fv2 := HN3.out.1.2 2 (by simp)
  clear hc0 hc1 hc2 hc3
  have hk := HK.out _ HN3.out.2
  obtain ⟨hc0, hc1, hc2, hc3⟩ := hk
  go_wp2_with fail
  rw [rounds_succ]
  go_wp2_with fail
  refine (CN1 _).mono ?_
  rintro e w4 ⟨rfl, hq⟩
  have hX4 : BoxF w4 w2.heap.size [.int .i64 z0, .int .i64 0, .int .i64 0] := (HN3.out.1.put 0 (by simp) (.int .i64 z0)).keep hq
  have hB4 : Below w2.heap.size w2 w4 := (HN3.out.2.setCell (p := ⟨w2.heap.size, 0, none⟩) (Nat.le_refl _) (.int .i64 z0)).trans (hq.mono (HN3.out.2.setCell (p := ⟨w2.heap.size, 0, none⟩) (Nat.le_refl _) (.int .i64 z0)).size)
  have HN4 := Lib.hid (And.intro hX4 hB4)
  clear hq hX4 hB4 v0 fv0 v1 fv1 v2 fv2
  have hz4 : w2.heap.size < w4.heap.size := World.block_lt_of_cell? _ _ (HN4.out.1.1 0 _ rfl)
  have v0 := HN4.out.1.1 0 _ rfl
  have fv0 := HN4.out.1.2 0 (by simp)
  have v1 := HN4.out.1.1 1 _ rfl
  have fv1 := HN4.out.1.2 1 (by simp)
  have v2 := HN4.out.1.1 2 _ rfl
  have fv2 := HN4.out.1.2 2 (by simp)
  clear hc0 hc1 hc2 hc3
  go_wp2_with fail
  rw [rounds_succ]
  go_wp2_with fail
  refine (CG.out _).mono ?_
  rintro e w9 ⟨rfl, hq⟩
  have hT : BoxF w9 (w4.setCell ⟨w2.heap.size, 1, none⟩ (.int .i64 z1)).heap.size [.int .i64 3, .int .i64 0, .int .i64 0, .int .i64 2, .int .i64 z0, .int .i64 z1, .int .u32 0, .int .u32 0, .slice none 0 0] := (boxF_made _ [.int .i64 3, .int .i64 0, .int .i64 0, .int .i64 2, .int .i64 z0, .int .i64 z1, .int .u32 0, .int .u32 0, .slice none 0 0] 29).keep hq
  rw [show (w4.setCell ⟨w2.heap.size, 1, none⟩ (.int .i64 z1)).heap.size = w4.heap.size by simp] at hT
  have hB9 : Below w2.heap.size w2 w9 := ((HN4.out.2.setCell (p := ⟨w2.heap.size, 1, none⟩) (Nat.le_refl _) (.int .i64 z1)).alloc (by simp; omega) (.cells #[.int .i64 3, .int .i64 0, .int .i64 0, .int .i64 2, .int .i64 z0, .int .i64 z1, .int .u32 0, .int .u32 0, .slice none 0 0] 29)).trans (hq.mono (by simp; omega))
  have t0 := hT.1 0 _ rfl
  have t1 := hT.1 1 _ rfl
  have t2 := hT.1 2 _ rfl
  have t3 := hT.1 3 _ rfl
  have t4 := hT.1 4 _ rfl
  have t5 := hT.1 5 _ rfl
  have t6 := hT.1 6 _ rfl
  have t7 := hT.1 7 _ rfl
  have t8 := hT.1 8 _ rfl
  clear v0 fv0 v1 fv1 v2 fv2
  have u0 := (HR2.out.keep hB9).1 0 _ rfl
  have fu0 := (HR2.out.keep hB9).2 0 (by simp)
  have u1 := (HR2.out.keep hB9).1 1 _ rfl
  have fu1 := (HR2.out.keep hB9).2 1 (by simp)
  have u2 := (HR2.out.keep hB9).1 2 _ rfl
  have fu2 := (HR2.out.keep hB9).2 2 (by simp)
  have u3 := (HR2.out.keep hB9).1 3 _ rfl
  have fu3 := (HR2.out.keep hB9).2 3 (by simp)
  have u4 := (HR2.out.keep hB9).1 4 _ rfl
  have fu4 := (HR2.out.keep hB9).2 4 (by simp)
  have u5 := (HR2.out.keep hB9).1 5 _ rfl
  have fu5 := (HR2.out.keep hB9).2 5 (by simp)
  have u6 := (HR2.out.keep hB9).1 6 _ rfl
  have fu6 := (HR2.out.keep hB9).2 6 (by simp)
  have u7 := (HR2.out.keep hB9).1 7 _ rfl
  have fu7 := (HR2.out.keep hB9).2 7 (by simp)
  have u8 := (HR2.out.keep hB9).1 8 _ rfl
  have fu8 := (HR2.out.keep hB9).2 8 (by simp)
  have HB := Lib.hid (HB2.out.1.trans (hB9.mono HB2.out.2))
  clear hq hT hB9
  go_wp2
  refine bodyPost_ret (v := .tuple #[.agg #[.int .i64 3, .int .i64 0, .int .i64 0, .int .i64 2, .int .i64 z0, .int .i64 z1, .int .u32 0, .int .u32 0, .slice none 0 0], .int .i64 0]) (by simp (maxDischargeDepth := 8) [results, Tryd.results29, go_sem, *]) rfl ?_
  refine actPost_ok ⟨3, 0, 0, ⟨2, z0, z1, 0, 0⟩, []⟩ none 0 0 rfl rfl rfl rfl (own_nil _ _) ?_
  · skip
    repeat (first | with_reducible refine Below.setCell ?_ (by first | exact Nat.le_refl _ | exact HB2.out.2) _ | with_reducible refine Below.drew ?_ | with_reducible refine below_drewN ?_ _)
    exact HB.out
set_option maxHeartbeats 3200000 in
set_option maxRecDepth 100000 in
theorem rone_f2_ng (s : ByteArray) (w : World) (a0 a1 a2 a3 : List UInt8) (z0 z1 : Int) (CN0 : ∀ W, Calls Tryd.prog 42 #[.string ⟨a2.toArray⟩] W (NumPost (some z0) W)) (CN1 : ∀ W, Calls Tryd.prog 42 #[.string ⟨a3.toArray⟩] W (NumPost (some z1) W)) (hvg : goodA ⟨3, 0, 0, ⟨2, z0, z1, 0, 0⟩, []⟩ = false)
    (CS : Calls Tryd.prog 28 #[.string s, .int .u8 32] (w.alloc (.cells #[.int .i64 0, .int .i64 0, .int .i64 0, .int .i64 0, .int .i64 0, .int .i64 0, .int .u32 0, .int .u32 0, .slice none 0 0] 29)) (SplitP 4 [a0, a1, a2, a3] (w.alloc (.cells #[.int .i64 0, .int .i64 0, .int .i64 0, .int .i64 0, .int .i64 0, .int .i64 0, .int .u32 0, .int .u32 0, .slice none 0 0] 29))))
    (CH : ∀ W A c, RowAt W A (strV [a0, a1, a2, a3]) → Calls Tryd.prog 41 #[.slice A 4 c] W (ShapePost 3 2 2 2 W)) :
    Calls Tryd.prog 29 #[.string s] w (ActPost (Ac0, 2) w) := by
  obtain ⟨hz, hsz⟩ := zero_of_info (show (Tryd.prog.info? 29).map (fun i => (i.zero, i.size)) = some (some (.agg #[.int .i64 0, .int .i64 0, .int .i64 0, .int .i64 0, .int .i64 0, .int .i64 0, .int .u32 0, .int .u32 0, .slice none 0 0]), 9) by kernel_rfl)
  unfold NumPost at CN0
  unfold NumPost at CN1
  have CG : ∀ W, Calls Tryd.prog 16 #[.agg #[.int .i64 3, .int .i64 0, .int .i64 0, .int .i64 2, .int .i64 z0, .int .i64 z1, .int .u32 0, .int .u32 0, .slice none 0 0]] W fun e w' => e = .returned (.bool false) ∧ Below W.heap.size W w' := fun W => refGoodV ⟨3, 0, 0, ⟨2, z0, z1, 0, 0⟩, []⟩ none 0 0 false hvg W (U8At.nil _ _) rfl
  have CG := Lib.hid CG
  clear hvg
  have hx0 : BoxF (w.alloc (.cells #[.int .i64 0, .int .i64 0, .int .i64 0, .int .i64 0, .int .i64 0, .int .i64 0, .int .u32 0, .int .u32 0, .slice none 0 0] 29)) w.heap.size [.int .i64 0, .int .i64 0, .int .i64 0, .int .i64 0, .int .i64 0, .int .i64 0, .int .u32 0, .int .u32 0, .slice none 0 0] := boxF_made w [.int .i64 0, .int .i64 0, .int .i64 0, .int .i64 0, .int .i64 0, .int .i64 0, .int .u32 0, .int .u32 0, .slice none 0 0] 29
  have hb0 : Below w.heap.size w (w.alloc (.cells #[.int .i64 0, .int .i64 0, .int .i64 0, .int .i64 0, .int .i64 0, .int .i64 0, .int .u32 0, .int .u32 0, .slice none 0 0] 29)) := (Below.refl _ _).alloc (Nat.le_refl _) _
  have HX := Lib.hid (And.intro hx0 hb0)
  have CS := Lib.hid CS
  have CH := Lib.hid CH
  clear hx0 hb0
  go_enter Tryd.func29, Tryd.ntmps29
  go_wp2_with fail
  refine CS.out.mono ?_
  rintro e w1 ⟨A, c, rfl, hlc, hrow, hq1⟩
  have hx1 := HX.out.1.keep hq1
  have hb1 : Below w.heap.size w w1 := HX.out.2.trans (hq1.mono HX.out.2.size)
  have C2 := CH.out w1 A c hrow
  have H1 := Lib.hid (And.intro hx1 (And.intro hb1 hrow))
  clear hx1 hb1 hrow hq1
  go_wp2_with fail
  refine C2.mono ?_
  rintro e w2 ⟨rfl, hq2⟩
  clear C2
  have HB2 := Lib.hid (And.intro (H1.out.2.1.trans (hq2.mono H1.out.2.1.size)) (H1.out.2.1.trans (hq2.mono H1.out.2.1.size)).size)
  have HR2 := Lib.hid (H1.out.1.keep hq2)
  have hrow2 := H1.out.2.2.keep hq2
  clear hq2
  obtain ⟨blk, off, rfl, hc0⟩ := hrow2 0 _ rfl
  have hc1 : w2.cell? ⟨blk, off + 1, none⟩ = _ := (by
    obtain ⟨b3, o3, he, hc⟩ := hrow2 1 _ rfl
    injection he with he
    injection he with h1 h2 h3
    subst h1 h2
    exact hc)
  have hc2 : w2.cell? ⟨blk, off + 2, none⟩ = _ := (by
    obtain ⟨b3, o3, he, hc⟩ := hrow2 2 _ rfl
    injection he with he
    injection he with h1 h2 h3
    subst h1 h2
    exact hc)
  have hc3 : w2.cell? ⟨blk, off + 3, none⟩ = _ := (by
    obtain ⟨b3, o3, he, hc⟩ := hrow2 3 _ rfl
    injection he with he
    injection he with h1 h2 h3
    subst h1 h2
    exact hc)
  simp only [Nat.add_zero] at hc0
  have hlt2 := World.block_lt_of_cell? _ _ hc0
  simp only at hlt2
  have HK : Hid (∀ W, Below w2.heap.size w2 W → W.cell? ⟨blk, off, none⟩ = some (.string ⟨a0.toArray⟩) ∧ W.cell? ⟨blk, off + 1, none⟩ = some (.string ⟨a1.toArray⟩) ∧ W.cell? ⟨blk, off + 2, none⟩ = some (.string ⟨a2.toArray⟩) ∧ W.cell? ⟨blk, off + 3, none⟩ = some (.string ⟨a3.toArray⟩)) := fun W hW => ⟨(hW.cell (p := ⟨blk, off, none⟩) hlt2).trans hc0, (hW.cell (p := ⟨blk, off + 1, none⟩) hlt2).trans hc1, (hW.cell (p := ⟨blk, off + 2, none⟩) hlt2).trans hc2, (hW.cell (p := ⟨blk, off + 3, none⟩) hlt2).trans hc3⟩
  clear hrow2
  go_wp2_with fail
  refine wp_loop_rounds 4 ?_
  rw [rounds_succ]
  go_wp2_with fail
  refine (CN0 _).mono ?_
  rintro e w3 ⟨rfl, hq⟩
  have hX3 : BoxF w3 w2.heap.size [.int .i64 0, .int .i64 0, .int .i64 0] := (boxF_made w2 [.int .i64 0, .int .i64 0, .int .i64 0] 2).keep hq
  have hB3 : Below w2.heap.size w2 w3 := ((Below.refl _ _).alloc (Nat.le_refl _) (.cells #[.int .i64 0, .int .i64 0, .int .i64 0] 2)).trans (hq.mono (by simp))
  have HN3 := Lib.hid (And.intro hX3 hB3)
  clear hq hX3 hB3
  have hz3 : w2.heap.size < w3.heap.size := World.block_lt_of_cell? _ _ (HN3.out.1.1 0 _ rfl)
  have v0 := HN3.out.1.1 0 _ rfl
  have fv0 := HN3.out.1.2 0 (by simp)
  have v1 := HN3.out.1.1 1 _ rfl
  have fv1 := HN3.out.1.2 1 (by simp)
  have v2 := HN3.out.1.1 2 _ rfl
  have fv2 := HN3.out.1.2 2 (by simp)
  clear hc0 hc1 hc2 hc3
  have hk := HK.out _ HN3.out.2
  obtain ⟨hc0, hc1, hc2, hc3⟩ := hk
  go_wp2_with fail
  rw [rounds_succ]
  go_wp2_with fail
  refine (CN1 _).mono ?_
  rintro e w4 ⟨rfl, hq⟩
  have hX4 : BoxF w4 w2.heap.size [.int .i64 z0, .int .i64 0, .int .i64 0] := (HN3.out.1.put 0 (by simp) (.int .i64 z0)).keep hq
  have hB4 : Below w2.heap.size w2 w4 := (HN3.out.2.setCell (p := ⟨w2.heap.size, 0, none⟩) (Nat.le_refl _) (.int .i64 z0)).trans (hq.mono (HN3.out.2.setCell (p := ⟨w2.heap.size, 0, none⟩) (Nat.le_refl _) (.int .i64 z0)).size)
  have HN4 := Lib.hid (And.intro hX4 hB4)
  clear hq hX4 hB4 v0 fv0 v1 fv1 v2 fv2
  have hz4 : w2.heap.size < w4.heap.size := World.block_lt_of_cell? _ _ (HN4.out.1.1 0 _ rfl)
  have v0 := HN4.out.1.1 0 _ rfl
  have fv0 := HN4.out.1.2 0 (by simp)
  have v1 := HN4.out.1.1 1 _ rfl
  have fv1 := HN4.out.1.2 1 (by simp)
  have v2 := HN4.out.1.1 2 _ rfl
  have fv2 := HN4.out.1.2 2 (by simp)
  clear hc0 hc1 hc2 hc3
  go_wp2_with fail
  rw [rounds_succ]
  go_wp2_with fail
  refine (CG.out _).mono ?_
  rintro e w9 ⟨rfl, hq⟩
  have hT : BoxF w9 (w4.setCell ⟨w2.heap.size, 1, none⟩ (.int .i64 z1)).heap.size [.int .i64 3, .int .i64 0, .int .i64 0, .int .i64 2, .int .i64 z0, .int .i64 z1, .int .u32 0, .int .u32 0, .slice none 0 0] := (boxF_made _ [.int .i64 3, .int .i64 0, .int .i64 0, .int .i64 2, .int .i64 z0, .int .i64 z1, .int .u32 0, .int .u32 0, .slice none 0 0] 29).keep hq
  rw [show (w4.setCell ⟨w2.heap.size, 1, none⟩ (.int .i64 z1)).heap.size = w4.heap.size by simp] at hT
  have hB9 : Below w2.heap.size w2 w9 := ((HN4.out.2.setCell (p := ⟨w2.heap.size, 1, none⟩) (Nat.le_refl _) (.int .i64 z1)).alloc (by simp; omega) (.cells #[.int .i64 3, .int .i64 0, .int .i64 0, .int .i64 2, .int .i64 z0, .int .i64 z1, .int .u32 0, .int .u32 0, .slice none 0 0] 29)).trans (hq.mono (by simp; omega))
  have t0 := hT.1 0 _ rfl
  have t1 := hT.1 1 _ rfl
  have t2 := hT.1 2 _ rfl
  have t3 := hT.1 3 _ rfl
  have t4 := hT.1 4 _ rfl
  have t5 := hT.1 5 _ rfl
  have t6 := hT.1 6 _ rfl
  have t7 := hT.1 7 _ rfl
  have t8 := hT.1 8 _ rfl
  clear v0 fv0 v1 fv1 v2 fv2
  have u0 := (HR2.out.keep hB9).1 0 _ rfl
  have fu0 := (HR2.out.keep hB9).2 0 (by simp)
  have u1 := (HR2.out.keep hB9).1 1 _ rfl
  have fu1 := (HR2.out.keep hB9).2 1 (by simp)
  have u2 := (HR2.out.keep hB9).1 2 _ rfl
  have fu2 := (HR2.out.keep hB9).2 2 (by simp)
  have u3 := (HR2.out.keep hB9).1 3 _ rfl
  have fu3 := (HR2.out.keep hB9).2 3 (by simp)
  have u4 := (HR2.out.keep hB9).1 4 _ rfl
  have fu4 := (HR2.out.keep hB9).2 4 (by simp)
  have u5 := (HR2.out.keep hB9).1 5 _ rfl
  have fu5 := (HR2.out.keep hB9).2 5 (by simp)
  have u6 := (HR2.out.keep hB9).1 6 _ rfl
  have fu6 := (HR2.out.keep hB9).2 6 (by simp)
  have u7 := (HR2.out.keep hB9).1 7 _ rfl
  have fu7 := (HR2.out.keep hB9).2 7 (by simp)
  have u8 := (HR2.out.keep hB9).1 8 _ rfl
  have fu8 := (HR2.out.keep hB9).2 8 (by simp)
  have HB := Lib.hid (HB2.out.1.trans (hB9.mono HB2.out.2))
  clear hq hT hB9
  go_wp2
  refine bodyPost_ret (v := .tuple #[.agg #[.int .i64 0, .int .i64 0, .int .i64 0, .int .i64 0, .int .i64 0, .int .i64 0, .int .u32 0, .int .u32 0, .slice none 0 0], .int .i64 2]) (by simp (maxDischargeDepth := 8) [results, Tryd.results29, go_sem, *]) rfl ?_
  refine actPost_bad Ac0 none 0 0 2 rfl rfl (by decide) ?_
  · skip
    repeat (first | with_reducible refine Below.setCell ?_ (by first | exact Nat.le_refl _ | exact HB2.out.2) _ | with_reducible refine Below.drew ?_ | with_reducible refine below_drewN ?_ _)
    exact HB.out
set_option maxHeartbeats 3200000 in
set_option maxRecDepth 100000 in
theorem rone_f3_b0 (s : ByteArray) (w : World) (a0 a1 a2 a3 a4 : List UInt8) (CN0 : ∀ W, Calls Tryd.prog 42 #[.string ⟨a2.toArray⟩] W (NumPost none W))
    (CS : Calls Tryd.prog 28 #[.string s, .int .u8 32] (w.alloc (.cells #[.int .i64 0, .int .i64 0, .int .i64 0, .int .i64 0, .int .i64 0, .int .i64 0, .int .u32 0, .int .u32 0, .slice none 0 0] 29)) (SplitP 5 [a0, a1, a2, a3, a4] (w.alloc (.cells #[.int .i64 0, .int .i64 0, .int .i64 0, .int .i64 0, .int .i64 0, .int .i64 0, .int .u32 0, .int .u32 0, .slice none 0 0] 29))))
    (CH : ∀ W A c, RowAt W A (strV [a0, a1, a2, a3, a4]) → Calls Tryd.prog 41 #[.slice A 5 c] W (ShapePost 3 3 2 3 W)) :
    Calls Tryd.prog 29 #[.string s] w (ActPost (Ac0, 5) w) := by
  obtain ⟨hz, hsz⟩ := zero_of_info (show (Tryd.prog.info? 29).map (fun i => (i.zero, i.size)) = some (some (.agg #[.int .i64 0, .int .i64 0, .int .i64 0, .int .i64 0, .int .i64 0, .int .i64 0, .int .u32 0, .int .u32 0, .slice none 0 0]), 9) by kernel_rfl)
  unfold NumPost at CN0
  have hx0 : BoxF (w.alloc (.cells #[.int .i64 0, .int .i64 0, .int .i64 0, .int .i64 0, .int .i64 0, .int .i64 0, .int .u32 0, .int .u32 0, .slice none 0 0] 29)) w.heap.size [.int .i64 0, .int .i64 0, .int .i64 0, .int .i64 0, .int .i64 0, .int .i64 0, .int .u32 0, .int .u32 0, .slice none 0 0] := boxF_made w [.int .i64 0, .int .i64 0, .int .i64 0, .int .i64 0, .int .i64 0, .int .i64 0, .int .u32 0, .int .u32 0, .slice none 0 0] 29
  have hb0 : Below w.heap.size w (w.alloc (.cells #[.int .i64 0, .int .i64 0, .int .i64 0, .int .i64 0, .int .i64 0, .int .i64 0, .int .u32 0, .int .u32 0, .slice none 0 0] 29)) := (Below.refl _ _).alloc (Nat.le_refl _) _
  have HX := Lib.hid (And.intro hx0 hb0)
  have CS := Lib.hid CS
  have CH := Lib.hid CH
  clear hx0 hb0
  go_enter Tryd.func29, Tryd.ntmps29
  go_wp2_with fail
  refine CS.out.mono ?_
  rintro e w1 ⟨A, c, rfl, hlc, hrow, hq1⟩
  have hx1 := HX.out.1.keep hq1
  have hb1 : Below w.heap.size w w1 := HX.out.2.trans (hq1.mono HX.out.2.size)
  have C2 := CH.out w1 A c hrow
  have H1 := Lib.hid (And.intro hx1 (And.intro hb1 hrow))
  clear hx1 hb1 hrow hq1
  go_wp2_with fail
  refine C2.mono ?_
  rintro e w2 ⟨rfl, hq2⟩
  clear C2
  have HB2 := Lib.hid (And.intro (H1.out.2.1.trans (hq2.mono H1.out.2.1.size)) (H1.out.2.1.trans (hq2.mono H1.out.2.1.size)).size)
  have HR2 := Lib.hid (H1.out.1.keep hq2)
  have hrow2 := H1.out.2.2.keep hq2
  clear hq2
  obtain ⟨blk, off, rfl, hc0⟩ := hrow2 0 _ rfl
  have hc1 : w2.cell? ⟨blk, off + 1, none⟩ = _ := (by
    obtain ⟨b3, o3, he, hc⟩ := hrow2 1 _ rfl
    injection he with he
    injection he with h1 h2 h3
    subst h1 h2
    exact hc)
  have hc2 : w2.cell? ⟨blk, off + 2, none⟩ = _ := (by
    obtain ⟨b3, o3, he, hc⟩ := hrow2 2 _ rfl
    injection he with he
    injection he with h1 h2 h3
    subst h1 h2
    exact hc)
  have hc3 : w2.cell? ⟨blk, off + 3, none⟩ = _ := (by
    obtain ⟨b3, o3, he, hc⟩ := hrow2 3 _ rfl
    injection he with he
    injection he with h1 h2 h3
    subst h1 h2
    exact hc)
  have hc4 : w2.cell? ⟨blk, off + 4, none⟩ = _ := (by
    obtain ⟨b3, o3, he, hc⟩ := hrow2 4 _ rfl
    injection he with he
    injection he with h1 h2 h3
    subst h1 h2
    exact hc)
  simp only [Nat.add_zero] at hc0
  have hlt2 := World.block_lt_of_cell? _ _ hc0
  simp only at hlt2
  have HK : Hid (∀ W, Below w2.heap.size w2 W → W.cell? ⟨blk, off, none⟩ = some (.string ⟨a0.toArray⟩) ∧ W.cell? ⟨blk, off + 1, none⟩ = some (.string ⟨a1.toArray⟩) ∧ W.cell? ⟨blk, off + 2, none⟩ = some (.string ⟨a2.toArray⟩) ∧ W.cell? ⟨blk, off + 3, none⟩ = some (.string ⟨a3.toArray⟩) ∧ W.cell? ⟨blk, off + 4, none⟩ = some (.string ⟨a4.toArray⟩)) := fun W hW => ⟨(hW.cell (p := ⟨blk, off, none⟩) hlt2).trans hc0, (hW.cell (p := ⟨blk, off + 1, none⟩) hlt2).trans hc1, (hW.cell (p := ⟨blk, off + 2, none⟩) hlt2).trans hc2, (hW.cell (p := ⟨blk, off + 3, none⟩) hlt2).trans hc3, (hW.cell (p := ⟨blk, off + 4, none⟩) hlt2).trans hc4⟩
  clear hrow2
  go_wp2_with fail
  refine wp_loop_rounds 5 ?_
  rw [rounds_succ]
  go_wp2_with fail
  refine (CN0 _).mono ?_
  rintro e w3 ⟨⟨mm, rfl⟩, hq⟩
  have hX3 : BoxF w3 w2.heap.size [.int .i64 0, .int .i64 0, .int .i64 0] := (boxF_made w2 [.int .i64 0, .int .i64 0, .int .i64 0] 2).keep hq
  have hB3 : Below w2.heap.size w2 w3 := ((Below.refl _ _).alloc (Nat.le_refl _) (.cells #[.int .i64 0, .int .i64 0, .int .i64 0] 2)).trans (hq.mono (by simp))
  have HN3 := Lib.hid (And.intro hX3 hB3)
  clear hq hX3 hB3
  have hz3 : w2.heap.size < w3.heap.size := World.block_lt_of_cell? _ _ (HN3.out.1.1 0 _ rfl)
  have v0 := HN3.out.1.1 0 _ rfl
  have fv0 := HN3.out.1.2 0 (by simp)
  have v1 := HN3.out.1.1 1 _ rfl
  have fv1 := HN3.out.1.2 1 (by simp)
  have v2 := HN3.out.1.1 2 _ rfl
  have fv2 := HN3.out.1.2 2 (by simp)
  have u0 := (HR2.out.keep HN3.out.2).1 0 _ rfl
  have fu0 := (HR2.out.keep HN3.out.2).2 0 (by simp)
  have u1 := (HR2.out.keep HN3.out.2).1 1 _ rfl
  have fu1 := (HR2.out.keep HN3.out.2).2 1 (by simp)
  have u2 := (HR2.out.keep HN3.out.2).1 2 _ rfl
  have fu2 := (HR2.out.keep HN3.out.2).2 2 (by simp)
  have u3 := (HR2.out.keep HN3.out.2).1 3 _ rfl
  have fu3 := (HR2.out.keep HN3.out.2).2 3 (by simp)
  have u4 := (HR2.out.keep HN3.out.2).1 4 _ rfl
  have fu4 := (HR2.out.keep HN3.out.2).2 4 (by simp)
  have u5 := (HR2.out.keep HN3.out.2).1 5 _ rfl
  have fu5 := (HR2.out.keep HN3.out.2).2 5 (by simp)
  have u6 := (HR2.out.keep HN3.out.2).1 6 _ rfl
  have fu6 := (HR2.out.keep HN3.out.2).2 6 (by simp)
  have u7 := (HR2.out.keep HN3.out.2).1 7 _ rfl
  have fu7 := (HR2.out.keep HN3.out.2).2 7 (by simp)
  have u8 := (HR2.out.keep HN3.out.2).1 8 _ rfl
  have fu8 := (HR2.out.keep HN3.out.2).2 8 (by simp)
  have HB := Lib.hid (HB2.out.1.trans (HN3.out.2.mono HB2.out.2))
  go_wp2
  refine bodyPost_ret (v := .tuple #[.agg #[.int .i64 0, .int .i64 0, .int .i64 0, .int .i64 0, .int .i64 0, .int .i64 0, .int .u32 0, .int .u32 0, .slice none 0 0], .int .i64 5]) (by simp (maxDischargeDepth := 8) [results, Tryd.results29, go_sem, *]) rfl ?_
  refine actPost_bad Ac0 none 0 0 5 rfl rfl (by decide) ?_
  · skip
    repeat (first | with_reducible refine Below.setCell ?_ (by first | exact Nat.le_refl _ | exact HB2.out.2) _ | with_reducible refine Below.drew ?_ | with_reducible refine below_drewN ?_ _)
    exact HB.out
set_option maxHeartbeats 3200000 in
set_option maxRecDepth 100000 in
theorem rone_f3_b1 (s : ByteArray) (w : World) (a0 a1 a2 a3 a4 : List UInt8) (z0 : Int) (CN0 : ∀ W, Calls Tryd.prog 42 #[.string ⟨a2.toArray⟩] W (NumPost (some z0) W)) (CN1 : ∀ W, Calls Tryd.prog 42 #[.string ⟨a3.toArray⟩] W (NumPost none W))
    (CS : Calls Tryd.prog 28 #[.string s, .int .u8 32] (w.alloc (.cells #[.int .i64 0, .int .i64 0, .int .i64 0, .int .i64 0, .int .i64 0, .int .i64 0, .int .u32 0, .int .u32 0, .slice none 0 0] 29)) (SplitP 5 [a0, a1, a2, a3, a4] (w.alloc (.cells #[.int .i64 0, .int .i64 0, .int .i64 0, .int .i64 0, .int .i64 0, .int .i64 0, .int .u32 0, .int .u32 0, .slice none 0 0] 29))))
    (CH : ∀ W A c, RowAt W A (strV [a0, a1, a2, a3, a4]) → Calls Tryd.prog 41 #[.slice A 5 c] W (ShapePost 3 3 2 3 W)) :
    Calls Tryd.prog 29 #[.string s] w (ActPost (Ac0, 5) w) := by
  obtain ⟨hz, hsz⟩ := zero_of_info (show (Tryd.prog.info? 29).map (fun i => (i.zero, i.size)) = some (some (.agg #[.int .i64 0, .int .i64 0, .int .i64 0, .int .i64 0, .int .i64 0, .int .i64 0, .int .u32 0, .int .u32 0, .slice none 0 0]), 9) by kernel_rfl)
  unfold NumPost at CN0
  unfold NumPost at CN1
  have hx0 : BoxF (w.alloc (.cells #[.int .i64 0, .int .i64 0, .int .i64 0, .int .i64 0, .int .i64 0, .int .i64 0, .int .u32 0, .int .u32 0, .slice none 0 0] 29)) w.heap.size [.int .i64 0, .int .i64 0, .int .i64 0, .int .i64 0, .int .i64 0, .int .i64 0, .int .u32 0, .int .u32 0, .slice none 0 0] := boxF_made w [.int .i64 0, .int .i64 0, .int .i64 0, .int .i64 0, .int .i64 0, .int .i64 0, .int .u32 0, .int .u32 0, .slice none 0 0] 29
  have hb0 : Below w.heap.size w (w.alloc (.cells #[.int .i64 0, .int .i64 0, .int .i64 0, .int .i64 0, .int .i64 0, .int .i64 0, .int .u32 0, .int .u32 0, .slice none 0 0] 29)) := (Below.refl _ _).alloc (Nat.le_refl _) _
  have HX := Lib.hid (And.intro hx0 hb0)
  have CS := Lib.hid CS
  have CH := Lib.hid CH
  clear hx0 hb0
  go_enter Tryd.func29, Tryd.ntmps29
  go_wp2_with fail
  refine CS.out.mono ?_
  rintro e w1 ⟨A, c, rfl, hlc, hrow, hq1⟩
  have hx1 := HX.out.1.keep hq1
  have hb1 : Below w.heap.size w w1 := HX.out.2.trans (hq1.mono HX.out.2.size)
  have C2 := CH.out w1 A c hrow
  have H1 := Lib.hid (And.intro hx1 (And.intro hb1 hrow))
  clear hx1 hb1 hrow hq1
  go_wp2_with fail
  refine C2.mono ?_
  rintro e w2 ⟨rfl, hq2⟩
  clear C2
  have HB2 := Lib.hid (And.intro (H1.out.2.1.trans (hq2.mono H1.out.2.1.size)) (H1.out.2.1.trans (hq2.mono H1.out.2.1.size)).size)
  have HR2 := Lib.hid (H1.out.1.keep hq2)
  have hrow2 := H1.out.2.2.keep hq2
  clear hq2
  obtain ⟨blk, off, rfl, hc0⟩ := hrow2 0 _ rfl
  have hc1 : w2.cell? ⟨blk, off + 1, none⟩ = _ := (by
    obtain ⟨b3, o3, he, hc⟩ := hrow2 1 _ rfl
    injection he with he
    injection he with h1 h2 h3
    subst h1 h2
    exact hc)
  have hc2 : w2.cell? ⟨blk, off + 2, none⟩ = _ := (by
    obtain ⟨b3, o3, he, hc⟩ := hrow2 2 _ rfl
    injection he with he
    injection he with h1 h2 h3
    subst h1 h2
    exact hc)
  have hc3 : w2.cell? ⟨blk, off + 3, none⟩ = _ := (by
    obtain ⟨b3, o3, he, hc⟩ := hrow2 3 _ rfl
    injection he with he
    injection he with h1 h2 h3
    subst h1 h2
    exact hc)
  have hc4 : w2.cell? ⟨blk, off + 4, none⟩ = _ := (by
    obtain ⟨b3, o3, he, hc⟩ := hrow2 4 _ rfl
    injection he with he
    injection he with h1 h2 h3
    subst h1 h2
    exact hc)
  simp only [Nat.add_zero] at hc0
  have hlt2 := World.block_lt_of_cell? _ _ hc0
  simp only at hlt2
  have HK : Hid (∀ W, Below w2.heap.size w2 W → W.cell? ⟨blk, off, none⟩ = some (.string ⟨a0.toArray⟩) ∧ W.cell? ⟨blk, off + 1, none⟩ = some (.string ⟨a1.toArray⟩) ∧ W.cell? ⟨blk, off + 2, none⟩ = some (.string ⟨a2.toArray⟩) ∧ W.cell? ⟨blk, off + 3, none⟩ = some (.string ⟨a3.toArray⟩) ∧ W.cell? ⟨blk, off + 4, none⟩ = some (.string ⟨a4.toArray⟩)) := fun W hW => ⟨(hW.cell (p := ⟨blk, off, none⟩) hlt2).trans hc0, (hW.cell (p := ⟨blk, off + 1, none⟩) hlt2).trans hc1, (hW.cell (p := ⟨blk, off + 2, none⟩) hlt2).trans hc2, (hW.cell (p := ⟨blk, off + 3, none⟩) hlt2).trans hc3, (hW.cell (p := ⟨blk, off + 4, none⟩) hlt2).trans hc4⟩
  clear hrow2
  go_wp2_with fail
  refine wp_loop_rounds 5 ?_
  rw [rounds_succ]
  go_wp2_with fail
  refine (CN0 _).mono ?_
  rintro e w3 ⟨rfl, hq⟩
  have hX3 : BoxF w3 w2.heap.size [.int .i64 0, .int .i64 0, .int .i64 0] := (boxF_made w2 [.int .i64 0, .int .i64 0, .int .i64 0] 2).keep hq
  have hB3 : Below w2.heap.size w2 w3 := ((Below.refl _ _).alloc (Nat.le_refl _) (.cells #[.int .i64 0, .int .i64 0, .int .i64 0] 2)).trans (hq.mono (by simp))
  have HN3 := Lib.hid (And.intro hX3 hB3)
  clear hq hX3 hB3
  have hz3 : w2.heap.size < w3.heap.size := World.block_lt_of_cell? _ _ (HN3.out.1.1 0 _ rfl)
  have v0 := HN3.out.1.1 0 _ rfl
  have fv0 := HN3.out.1.2 0 (by simp)
  have v1 := HN3.out.1.1 1 _ rfl
  have fv1 := HN3.out.1.2 1 (by simp)
  have v2 := HN3.out.1.1 2 _ rfl
  have fv2 := HN3.out.1.2 2 (by simp)
  clear hc0 hc1 hc2 hc3 hc4
  have hk := HK.out _ HN3.out.2
  obtain ⟨hc0, hc1, hc2, hc3, hc4⟩ := hk
  go_wp2_with fail
  rw [rounds_succ]
  go_wp2_with fail
  refine (CN1 _).mono ?_
  rintro e w4 ⟨⟨mm, rfl⟩, hq⟩
  have hX4 : BoxF w4 w2.heap.size [.int .i64 z0, .int .i64 0, .int .i64 0] := (HN3.out.1.put 0 (by simp) (.int .i64 z0)).keep hq
  have hB4 : Below w2.heap.size w2 w4 := (HN3.out.2.setCell (p := ⟨w2.heap.size, 0, none⟩) (Nat.le_refl _) (.int .i64 z0)).trans (hq.mono (HN3.out.2.setCell (p := ⟨w2.heap.size, 0, none⟩) (Nat.le_refl _) (.int .i64 z0)).size)
  have HN4 := Lib.hid (And.intro hX4 hB4)
  clear hq hX4 hB4 v0 fv0 v1 fv1 v2 fv2
  have hz4 : w2.heap.size < w4.heap.size := World.block_lt_of_cell? _ _ (HN4.out.1.1 0 _ rfl)
  have v0 := HN4.out.1.1 0 _ rfl
  have fv0 := HN4.out.1.2 0 (by simp)
  have v1 := HN4.out.1.1 1 _ rfl
  have fv1 := HN4.out.1.2 1 (by simp)
  have v2 := HN4.out.1.1 2 _ rfl
  have fv2 := HN4.out.1.2 2 (by simp)
  have u0 := (HR2.out.keep HN4.out.2).1 0 _ rfl
  have fu0 := (HR2.out.keep HN4.out.2).2 0 (by simp)
  have u1 := (HR2.out.keep HN4.out.2).1 1 _ rfl
  have fu1 := (HR2.out.keep HN4.out.2).2 1 (by simp)
  have u2 := (HR2.out.keep HN4.out.2).1 2 _ rfl
  have fu2 := (HR2.out.keep HN4.out.2).2 2 (by simp)
  have u3 := (HR2.out.keep HN4.out.2).1 3 _ rfl
  have fu3 := (HR2.out.keep HN4.out.2).2 3 (by simp)
  have u4 := (HR2.out.keep HN4.out.2).1 4 _ rfl
  have fu4 := (HR2.out.keep HN4.out.2).2 4 (by simp)
  have u5 := (HR2.out.keep HN4.out.2).1 5 _ rfl
  have fu5 := (HR2.out.keep HN4.out.2).2 5 (by simp)
  have u6 := (HR2.out.keep HN4.out.2).1 6 _ rfl
  have fu6 := (HR2.out.keep HN4.out.2).2 6 (by simp)
  have u7 := (HR2.out.keep HN4.out.2).1 7 _ rfl
  have fu7 := (HR2.out.keep HN4.out.2).2 7 (by simp)
  have u8 := (HR2.out.keep HN4.out.2).1 8 _ rfl
  have fu8 := (HR2.out.keep HN4.out.2).2 8 (by simp)
  have HB := Lib.hid (HB2.out.1.trans (HN4.out.2.mono HB2.out.2))
  go_wp2
  refine bodyPost_ret (v := .tuple #[.agg #[.int .i64 0, .int .i64 0, .int .i64 0, .int .i64 0, .int .i64 0, .int .i64 0, .int .u32 0, .int .u32 0, .slice none 0 0], .int .i64 5]) (by simp (maxDischargeDepth := 8) [results, Tryd.results29, go_sem, *]) rfl ?_
  refine actPost_bad Ac0 none 0 0 5 rfl rfl (by decide) ?_
  · skip
    repeat (first | with_reducible refine Below.setCell ?_ (by first | exact Nat.le_refl _ | exact HB2.out.2) _ | with_reducible refine Below.drew ?_ | with_reducible refine below_drewN ?_ _)
    exact HB.out
set_option maxHeartbeats 3200000 in
set_option maxRecDepth 100000 in
theorem rone_f3_b2 (s : ByteArray) (w : World) (a0 a1 a2 a3 a4 : List UInt8) (z0 z1 : Int) (CN0 : ∀ W, Calls Tryd.prog 42 #[.string ⟨a2.toArray⟩] W (NumPost (some z0) W)) (CN1 : ∀ W, Calls Tryd.prog 42 #[.string ⟨a3.toArray⟩] W (NumPost (some z1) W)) (CN2 : ∀ W, Calls Tryd.prog 42 #[.string ⟨a4.toArray⟩] W (NumPost none W))
    (CS : Calls Tryd.prog 28 #[.string s, .int .u8 32] (w.alloc (.cells #[.int .i64 0, .int .i64 0, .int .i64 0, .int .i64 0, .int .i64 0, .int .i64 0, .int .u32 0, .int .u32 0, .slice none 0 0] 29)) (SplitP 5 [a0, a1, a2, a3, a4] (w.alloc (.cells #[.int .i64 0, .int .i64 0, .int .i64 0, .int .i64 0, .int .i64 0, .int .i64 0, .int .u32 0, .int .u32 0, .slice none 0 0] 29))))
    (CH : ∀ W A c, RowAt W A (strV [a0, a1, a2, a3, a4]) → Calls Tryd.prog 41 #[.slice A 5 c] W (ShapePost 3 3 2 3 W)) :
    Calls Tryd.prog 29 #[.string s] w (ActPost (Ac0, 5) w) := by
  obtain ⟨hz, hsz⟩ := zero_of_info (show (Tryd.prog.info? 29).map (fun i => (i.zero, i.size)) = some (some (.agg #[.int .i64 0, .int .i64 0, .int .i64 0, .int .i64 0, .int .i64 0, .int .i64 0, .int .u32 0, .int .u32 0, .slice none 0 0]), 9) by kernel_rfl)
  unfold NumPost at CN0
  unfold NumPost at CN1
  unfold NumPost at CN2
  have hx0 : BoxF (w.alloc (.cells #[.int .i64 0, .int .i64 0, .int .i64 0, .int .i64 0, .int .i64 0, .int .i64 0, .int .u32 0, .int .u32 0, .slice none 0 0] 29)) w.heap.size [.int .i64 0, .int .i64 0, .int .i64 0, .int .i64 0, .int .i64 0, .int .i64 0, .int .u32 0, .int .u32 0, .slice none 0 0] := boxF_made w [.int .i64 0, .int .i64 0, .int .i64 0, .int .i64 0, .int .i64 0, .int .i64 0, .int .u32 0, .int .u32 0, .slice none 0 0] 29
  have hb0 : Below w.heap.size w (w.alloc (.cells #[.int .i64 0, .int .i64 0, .int .i64 0, .int .i64 0, .int .i64 0, .int .i64 0, .int .u32 0, .int .u32 0, .slice none 0 0] 29)) := (Below.refl _ _).alloc (Nat.le_refl _) _
  have HX := Lib.hid (And.intro hx0 hb0)
  have CS := Lib.hid CS
  have CH := Lib.hid CH
  clear hx0 hb0
  go_enter Tryd.func29, Tryd.ntmps29
  go_wp2_with fail
  refine CS.out.mono ?_
  rintro e w1 ⟨A, c, rfl, hlc, hrow, hq1⟩
  have hx1 := HX.out.1.keep hq1
  have hb1 : Below w.heap.size w w1 := HX.out.2.trans (hq1.mono HX.out.2.size)
  have C2 := CH.out w1 A c hrow
  have H1 := Lib.hid (And.intro hx1 (And.intro hb1 hrow))
  clear hx1 hb1 hrow hq1
  go_wp2_with fail
  refine C2.mono ?_
  rintro e w2 ⟨rfl, hq2⟩
  clear C2
  have HB2 := Lib.hid (And.intro (H1.out.2.1.trans (hq2.mono H1.out.2.1.size)) (H1.out.2.1.trans (hq2.mono H1.out.2.1.size)).size)
  have HR2 := Lib.hid (H1.out.1.keep hq2)
  have hrow2 := H1.out.2.2.keep hq2
  clear hq2
  obtain ⟨blk, off, rfl, hc0⟩ := hrow2 0 _ rfl
  have hc1 : w2.cell? ⟨blk, off + 1, none⟩ = _ := (by
    obtain ⟨b3, o3, he, hc⟩ := hrow2 1 _ rfl
    injection he with he
    injection he with h1 h2 h3
    subst h1 h2
    exact hc)
  have hc2 : w2.cell? ⟨blk, off + 2, none⟩ = _ := (by
    obtain ⟨b3, o3, he, hc⟩ := hrow2 2 _ rfl
    injection he with he
    injection he with h1 h2 h3
    subst h1 h2
    exact hc)
  have hc3 : w2.cell? ⟨blk, off + 3, none⟩ = _ := (by
    obtain ⟨b3, o3, he, hc⟩ := hrow2 3 _ rfl
    injection he with he
    injection he with h1 h2 h3
    subst h1 h2
    exact hc)
  have hc4 : w2.cell? ⟨blk, off + 4, none⟩ = _ := (by
    obtain ⟨b3, o3, he, hc⟩ := hrow2 4 _ rfl
    injection he with he
    injection he with h1 h2 h3
    subst h1 h2
    exact hc)
  simp only [Nat.add_zero] at hc0
  have hlt2 := World.block_lt_of_cell? _ _ hc0
  simp only at hlt2
  have HK : Hid (∀ W, Below w2.heap.size w2 W → W.cell? ⟨blk, off, none⟩ = some (.string ⟨a0.toArray⟩) ∧ W.cell? ⟨blk, off + 1, none⟩ = some (.string ⟨a1.toArray⟩) ∧ W.cell? ⟨blk, off + 2, none⟩ = some (.string ⟨a2.toArray⟩) ∧ W.cell? ⟨blk, off + 3, none⟩ = some (.string ⟨a3.toArray⟩) ∧ W.cell? ⟨blk, off + 4, none⟩ = some (.string ⟨a4.toArray⟩)) := fun W hW => ⟨(hW.cell (p := ⟨blk, off, none⟩) hlt2).trans hc0, (hW.cell (p := ⟨blk, off + 1, none⟩) hlt2).trans hc1, (hW.cell (p := ⟨blk, off + 2, none⟩) hlt2).trans hc2, (hW.cell (p := ⟨blk, off + 3, none⟩) hlt2).trans hc3, (hW.cell (p := ⟨blk, off + 4, none⟩) hlt2).trans hc4⟩
  clear hrow2
  go_wp2_with fail
  refine wp_loop_rounds 5 ?_
  rw [rounds_succ]
  go_wp2_with fail
  refine (CN0 _).mono ?_
  rintro e w3 ⟨rfl, hq⟩
  have hX3 : BoxF w3 w2.heap.size [.int .i64 0, .int .i64 0, .int .i64 0] := (boxF_made w2 [.int .i64 0, .int .i64 0, .int .i64 0] 2).keep hq
  have hB3 : Below w2.heap.size w2 w3 := ((Below.refl _ _).alloc (Nat.le_refl _) (.cells #[.int .i64 0, .int .i64 0, .int .i64 0] 2)).trans (hq.mono (by simp))
  have HN3 := Lib.hid (And.intro hX3 hB3)
  clear hq hX3 hB3
  have hz3 : w2.heap.size < w3.heap.size := World.block_lt_of_cell? _ _ (HN3.out.1.1 0 _ rfl)
  have v0 := HN3.out.1.1 0 _ rfl
  have fv0 := HN3.out.1.2 0 (by simp)
  have v1 := HN3.out.1.1 1 _ rfl
  have fv1 := HN3.out.1.2 1 (by simp)
  have v2 := HN3.out.1.1 2 _ rfl
  have fv2 := HN3.out.1.2 2 (by simp)
  clear hc0 hc1 hc2 hc3 hc4
  have hk := HK.out _ HN3.out.2
  obtain ⟨hc0, hc1, hc2, hc3, hc4⟩ := hk
  go_wp2_with fail
  rw [rounds_succ]
  go_wp2_with fail
  refine (CN1 _).mono ?_
  rintro e w4 ⟨rfl, hq⟩
  have hX4 : BoxF w4 w2.heap.size [.int .i64 z0, .int .i64 0, .int .i64 0] := (HN3.out.1.put 0 (by simp) (.int .i64 z0)).keep hq
  have hB4 : Below w2.heap.size w2 w4 := (HN3.out.2.setCell (p := ⟨w2.heap.size, 0, none⟩) (Nat.le_refl _) (.int .i64 z0)).trans (hq.mono (HN3.out.2.setCell (p := ⟨w2.heap.size, 0, none⟩) (Nat.le_refl _) (.int .i64 z0)).size)
  have HN4 := Lib.hid (And.intro hX4 hB4)
  clear hq hX4 hB4 v0 fv0 v1 fv1 v2 fv2
  have hz4 : w2.heap.size < w4.heap.size := World.block_lt_of_cell? _ _ (HN4.out.1.1 0 _ rfl)
  have v0 := HN4.out.1.1 0 _ rfl
  have fv0 := HN4.out.1.2 0 (by simp)
  have v1 := HN4.out.1.1 1 _ rfl
  have fv1 := HN4.out.1.2 1 (by simp)
  have v2 := HN4.out.1.1 2 _ rfl
  have fv2 := HN4.out.1.2 2 (by simp)
  clear hc0 hc1 hc2 hc3 hc4
  have hk := HK.out _ HN4.out.2
  obtain ⟨hc0, hc1, hc2, hc3, hc4⟩ := hk
  go_wp2_with fail
  rw [rounds_succ]
  go_wp2_with fail
  refine (CN2 _).mono ?_
  rintro e w5 ⟨⟨mm, rfl⟩, hq⟩
  have hX5 : BoxF w5 w2.heap.size [.int .i64 z0, .int .i64 z1, .int .i64 0] := (HN4.out.1.put 1 (by simp) (.int .i64 z1)).keep hq
  have hB5 : Below w2.heap.size w2 w5 := (HN4.out.2.setCell (p := ⟨w2.heap.size, 1, none⟩) (Nat.le_refl _) (.int .i64 z1)).trans (hq.mono (HN4.out.2.setCell (p := ⟨w2.heap.size, 1, none⟩) (Nat.le_refl _) (.int .i64 z1)).size)
  have HN5 := Lib.hid (And.intro hX5 hB5)
  clear hq hX5 hB5 v0 fv0 v1 fv1 v2 fv2
  have hz5 : w2.heap.size < w5.heap.size := World.block_lt_of_cell? _ _ (HN5.out.1.1 0 _ rfl)
  have v0 := HN5.out.1.1 0 _ rfl
  have fv0 := HN5.out.1.2 0 (by simp)
  have v1 := HN5.out.1.1 1 _ rfl
  have fv1 := HN5.out.1.2 1 (by simp)
  have v2 := HN5.out.1.1 2 _ rfl
  have fv2 := HN5.out.1.2 2 (by simp)
  have u0 := (HR2.out.keep HN5.out.2).1 0 _ rfl
  have fu0 := (HR2.out.keep HN5.out.2).2 0 (by simp)
  have u1 := (HR2.out.keep HN5.out.2).1 1 _ rfl
  have fu1 := (HR2.out.keep HN5.out.2).2 1 (by simp)
  have u2 := (HR2.out.keep HN5.out.2).1 2 _ rfl
  have fu2 := (HR2.out.keep HN5.out.2).2 2 (by simp)
  have u3 := (HR2.out.keep HN5.out.2).1 3 _ rfl
  have fu3 := (HR2.out.keep HN5.out.2).2 3 (by simp)
  have u4 := (HR2.out.keep HN5.out.2).1 4 _ rfl
  have fu4 := (HR2.out.keep HN5.out.2).2 4 (by simp)
  have u5 := (HR2.out.keep HN5.out.2).1 5 _ rfl
  have fu5 := (HR2.out.keep HN5.out.2).2 5 (by simp)
  have u6 := (HR2.out.keep HN5.out.2).1 6 _ rfl
  have fu6 := (HR2.out.keep HN5.out.2).2 6 (by simp)
  have u7 := (HR2.out.keep HN5.out.2).1 7 _ rfl
  have fu7 := (HR2.out.keep HN5.out.2).2 7 (by simp)
  have u8 := (HR2.out.keep HN5.out.2).1 8 _ rfl
  have fu8 := (HR2.out.keep HN5.out.2).2 8 (by simp)
  have HB := Lib.hid (HB2.out.1.trans (HN5.out.2.mono HB2.out.2))
  go_wp2
  refine bodyPost_ret (v := .tuple #[.agg #[.int .i64 0, .int .i64 0, .int .i64 0, .int .i64 0, .int .i64 0, .int .i64 0, .int .u32 0, .int .u32 0, .slice none 0 0], .int .i64 5]) (by simp (maxDischargeDepth := 8) [results, Tryd.results29, go_sem, *]) rfl ?_
  refine actPost_bad Ac0 none 0 0 5 rfl rfl (by decide) ?_
  · skip
    repeat (first | with_reducible refine Below.setCell ?_ (by first | exact Nat.le_refl _ | exact HB2.out.2) _ | with_reducible refine Below.drew ?_ | with_reducible refine below_drewN ?_ _)
    exact HB.out
set_option maxHeartbeats 3200000 in
set_option maxRecDepth 100000 in
theorem rone_f3_ok (s : ByteArray) (w : World) (a0 a1 a2 a3 a4 : List UInt8) (z0 : Int) (p q : Nat) (CN0 : ∀ W, Calls Tryd.prog 42 #[.string ⟨a2.toArray⟩] W (NumPost (some z0) W)) (CN1 : ∀ W, Calls Tryd.prog 42 #[.string ⟨a3.toArray⟩] W (NumPost (some (p : Int)) W)) (CN2 : ∀ W, Calls Tryd.prog 42 #[.string ⟨a4.toArray⟩] W (NumPost (some (q : Int)) W)) (hvg : goodA ⟨3, 0, 0, ⟨3, z0, 0, p, q⟩, []⟩ = true) (hp : p < 4294967296) (hqq : q < 4294967296)
    (CS : Calls Tryd.prog 28 #[.string s, .int .u8 32] (w.alloc (.cells #[.int .i64 0, .int .i64 0, .int .i64 0, .int .i64 0, .int .i64 0, .int .i64 0, .int .u32 0, .int .u32 0, .slice none 0 0] 29)) (SplitP 5 [a0, a1, a2, a3, a4] (w.alloc (.cells #[.int .i64 0, .int .i64 0, .int .i64 0, .int .i64 0, .int .i64 0, .int .i64 0, .int .u32 0, .int .u32 0, .slice none 0 0] 29))))
    (CH : ∀ W A c, RowAt W A (strV [a0, a1, a2, a3, a4]) → Calls Tryd.prog 41 #[.slice A 5 c] W (ShapePost 3 3 2 3 W)) :
    Calls Tryd.prog 29 #[.string s] w (ActPost (⟨3, 0, 0, ⟨3, z0, 0, p, q⟩, []⟩, 0) w) := by
  obtain ⟨hz, hsz⟩ := zero_of_info (show (Tryd.prog.info? 29).map (fun i => (i.zero, i.size)) = some (some (.agg #[.int .i64 0, .int .i64 0, .int .i64 0, .int .i64 0, .int .i64 0, .int .i64 0, .int .u32 0, .int .u32 0, .slice none 0 0]), 9) by kernel_rfl)
  unfold NumPost at CN0
  unfold NumPost at CN1
  unfold NumPost at CN2
  have CG : ∀ W, Calls Tryd.prog 16 #[.agg #[.int .i64 3, .int .i64 0, .int .i64 0, .int .i64 3, .int .i64 z0, .int .i64 0, .int .u32 (p : Int), .int .u32 (q : Int), .slice none 0 0]] W fun e w' => e = .returned (.bool true) ∧ Below W.heap.size W w' := fun W => refGoodV ⟨3, 0, 0, ⟨3, z0, 0, p, q⟩, []⟩ none 0 0 true hvg W (U8At.nil _ _) rfl
  have CG := Lib.hid CG
  clear hvg
  have hx0 : BoxF (w.alloc (.cells #[.int .i64 0, .int .i64 0, .int .i64 0, .int .i64 0, .int .i64 0, .int .i64 0, .int .u32 0, .int .u32 0, .slice none 0 0] 29)) w.heap.size [.int .i64 0, .int .i64 0, .int .i64 0, .int .i64 0, .int .i64 0, .int .i64 0, .int .u32 0, .int .u32 0, .slice none 0 0] := boxF_made w [.int .i64 0, .int .i64 0, .int .i64 0, .int .i64 0, .int .i64 0, .int .i64 0, .int .u32 0, .int .u32 0, .slice none 0 0] 29
  have hb0 : Below w.heap.size w (w.alloc (.cells #[.int .i64 0, .int .i64 0, .int .i64 0, .int .i64 0, .int .i64 0, .int .i64 0, .int .u32 0, .int .u32 0, .slice none 0 0] 29)) := (Below.refl _ _).alloc (Nat.le_refl _) _
  have HX := Lib.hid (And.intro hx0 hb0)
  have CS := Lib.hid CS
  have CH := Lib.hid CH
  clear hx0 hb0
  go_enter Tryd.func29, Tryd.ntmps29
  go_wp2_with fail
  refine CS.out.mono ?_
  rintro e w1 ⟨A, c, rfl, hlc, hrow, hq1⟩
  have hx1 := HX.out.1.keep hq1
  have hb1 : Below w.heap.size w w1 := HX.out.2.trans (hq1.mono HX.out.2.size)
  have C2 := CH.out w1 A c hrow
  have H1 := Lib.hid (And.intro hx1 (And.intro hb1 hrow))
  clear hx1 hb1 hrow hq1
  go_wp2_with fail
  refine C2.mono ?_
  rintro e w2 ⟨rfl, hq2⟩
  clear C2
  have HB2 := Lib.hid (And.intro (H1.out.2.1.trans (hq2.mono H1.out.2.1.size)) (H1.out.2.1.trans (hq2.mono H1.out.2.1.size)).size)
  have HR2 := Lib.hid (H1.out.1.keep hq2)
  have hrow2 := H1.out.2.2.keep hq2
  clear hq2
  obtain ⟨blk, off, rfl, hc0⟩ := hrow2 0 _ rfl
  have hc1 : w2.cell? ⟨blk, off + 1, none⟩ = _ := (by
    obtain ⟨b3, o3, he, hc⟩ := hrow2 1 _ rfl
    injection he with he
    injection he with h1 h2 h3
    subst h1 h2
    exact hc)
  have hc2 : w2.cell? ⟨blk, off + 2, none⟩ = _ := (by
    obtain ⟨b3, o3, he, hc⟩ := hrow2 2 _ rfl
    injection he with he
    injection he with h1 h2 h3
    subst h1 h2
    exact hc)
  have hc3 : w2.cell? ⟨blk, off + 3, none⟩ = _ := (by
    obtain ⟨b3, o3, he, hc⟩ := hrow2 3 _ rfl
    injection he with he
    injection he with h1 h2 h3
    subst h1 h2
    exact hc)
  have hc4 : w2.cell? ⟨blk, off + 4, none⟩ = _ := (by
    obtain ⟨b3, o3, he, hc⟩ := hrow2 4 _ rfl
    injection he with he
    injection he with h1 h2 h3
    subst h1 h2
    exact hc)
  simp only [Nat.add_zero] at hc0
  have hlt2 := World.block_lt_of_cell? _ _ hc0
  simp only at hlt2
  have HK : Hid (∀ W, Below w2.heap.size w2 W → W.cell? ⟨blk, off, none⟩ = some (.string ⟨a0.toArray⟩) ∧ W.cell? ⟨blk, off + 1, none⟩ = some (.string ⟨a1.toArray⟩) ∧ W.cell? ⟨blk, off + 2, none⟩ = some (.string ⟨a2.toArray⟩) ∧ W.cell? ⟨blk, off + 3, none⟩ = some (.string ⟨a3.toArray⟩) ∧ W.cell? ⟨blk, off + 4, none⟩ = some (.string ⟨a4.toArray⟩)) := fun W hW => ⟨(hW.cell (p := ⟨blk, off, none⟩) hlt2).trans hc0, (hW.cell (p := ⟨blk, off + 1, none⟩) hlt2).trans hc1, (hW.cell (p := ⟨blk, off + 2, none⟩) hlt2).trans hc2, (hW.cell (p := ⟨blk, off + 3, none⟩) hlt2).trans hc3, (hW.cell (p := ⟨blk, off + 4, none⟩) hlt2).trans hc4⟩
  clear hrow2
  go_wp2_with fail
  refine wp_loop_rounds 5 ?_
  rw [rounds_succ]
  go_wp2_with fail
  refine (CN0 _).mono ?_
  rintro e w3 ⟨rfl, hq⟩
  have hX3 : BoxF w3 w2.heap.size [.int .i64 0, .int .i64 0, .int .i64 0] := (boxF_made w2 [.int .i64 0, .int .i64 0, .int .i64 0] 2).keep hq
  have hB3 : Below w2.heap.size w2 w3 := ((Below.refl _ _).alloc (Nat.le_refl _) (.cells #[.int .i64 0, .int .i64 0, .int .i64 0] 2)).trans (hq.mono (by simp))
  have HN3 := Lib.hid (And.intro hX3 hB3)
  clear hq hX3 hB3
  have hz3 : w2.heap.size < w3.heap.size := World.block_lt_of_cell? _ _ (HN3.out.1.1 0 _ rfl)
  have v0 := HN3.out.1.1 0 _ rfl
  have fv0 := HN3.out.1.2 0 (by simp)
  have v1 := HN3.out.1.1 1 _ rfl
  have fv1 := HN3.out.1.2 1 (by simp)
  have v2 := HN3.out.1.1 2 _ rfl
  have fv2 := HN3.out.1.2 2 (by simp)
  clear hc0 hc1 hc2 hc3 hc4
  have hk := HK.out _ HN3.out.2
  obtain ⟨hc0, hc1, hc2, hc3, hc4⟩ := hk
  go_wp2_with fail
  rw [rounds_succ]
  go_wp2_with fail
  refine (CN1 _).mono ?_
  rintro e w4 ⟨rfl, hq⟩
  have hX4 : BoxF w4 w2.heap.size [.int .i64 z0, .int .i64 0, .int .i64 0] := (HN3.out.1.put 0 (by simp) (.int .i64 z0)).keep hq
  have hB4 : Below w2.heap.size w2 w4 := (HN3.out.2.setCell (p := ⟨w2.heap.size, 0, none⟩) (Nat.le_refl _) (.int .i64 z0)).trans (hq.mono (HN3.out.2.setCell (p := ⟨w2.heap.size, 0, none⟩) (Nat.le_refl _) (.int .i64 z0)).size)
  have HN4 := Lib.hid (And.intro hX4 hB4)
  clear hq hX4 hB4 v0 fv0 v1 fv1 v2 fv2
  have hz4 : w2.heap.size < w4.heap.size := World.block_lt_of_cell? _ _ (HN4.out.1.1 0 _ rfl)
  have v0 := HN4.out.1.1 0 _ rfl
  have fv0 := HN4.out.1.2 0 (by simp)
  have v1 := HN4.out.1.1 1 _ rfl
  have fv1 := HN4.out.1.2 1 (by simp)
  have v2 := HN4.out.1.1 2 _ rfl
  have fv2 := HN4.out.1.2 2 (by simp)
  clear hc0 hc1 hc2 hc3 hc4
  have hk := HK.out _ HN4.out.2
  obtain ⟨hc0, hc1, hc2, hc3, hc4⟩ := hk
  go_wp2_with fail
  rw [rounds_succ]
  go_wp2_with fail
  refine (CN2 _).mono ?_
  rintro e w5 ⟨rfl, hq⟩
  have hX5 : BoxF w5 w2.heap.size [.int .i64 z0, .int .i64 (p : Int), .int .i64 0] := (HN4.out.1.put 1 (by simp) (.int .i64 (p : Int))).keep hq
  have hB5 : Below w2.heap.size w2 w5 := (HN4.out.2.setCell (p := ⟨w2.heap.size, 1, none⟩) (Nat.le_refl _) (.int .i64 (p : Int))).trans (hq.mono (HN4.out.2.setCell (p := ⟨w2.heap.size, 1, none⟩) (Nat.le_refl _) (.int .i64 (p : Int))).size)
  have HN5 := Lib.hid (And.intro hX5 hB5)
  clear hq hX5 hB5 v0 fv0 v1 fv1 v2 fv2
  have hz5 : w2.heap.size < w5.heap.size := World.block_lt_of_cell? _ _ (HN5.out.1.1 0 _ rfl)
  have v0 := HN5.out.1.1 0 _ rfl
  have fv0 := HN5.out.1.2 0 (by simp)
  have v1 := HN5.out.1.1 1 _ rfl
  have fv1 := HN5.out.1.2 1 (by simp)
  have v2 := HN5.out.1.1 2 _ rfl
  have fv2 := HN5.out.1.2 2 (by simp)
  clear hc0 hc1 hc2 hc3 hc4
  go_wp2_with fail
  rw [rounds_succ]
  go_wp2_with fail
  go_big_region
  go_wp2_with fail
  go_quiet (fail)
  go_wp2_with fail
  refine (CG.out _).mono ?_
  rintro e w9 ⟨rfl, hq⟩
  have hq : Below ((w5.setCell ⟨w2.heap.size, 2, none⟩ (.int .i64 (q : Int))).alloc (.cells #[.int .i64 3, .int .i64 0, .int .i64 0, .int .i64 3, .int .i64 z0, .int .i64 0, .int .u32 (p : Int), .int .u32 (q : Int), .slice none 0 0] 29)).heap.size ((w5.setCell ⟨w2.heap.size, 2, none⟩ (.int .i64 (q : Int))).alloc (.cells #[.int .i64 3, .int .i64 0, .int .i64 0, .int .i64 3, .int .i64 z0, .int .i64 0, .int .u32 (p : Int), .int .u32 (q : Int), .slice none 0 0] 29)) w9 := by
    refine Below.trans ?_ hq
    repeat (first | with_reducible refine Below.drew ?_ | with_reducible refine below_drewN ?_ _)
    exact Below.refl _ _
  have hT : BoxF w9 (w5.setCell ⟨w2.heap.size, 2, none⟩ (.int .i64 (q : Int))).heap.size [.int .i64 3, .int .i64 0, .int .i64 0, .int .i64 3, .int .i64 z0, .int .i64 0, .int .u32 (p : Int), .int .u32 (q : Int), .slice none 0 0] := (boxF_made _ [.int .i64 3, .int .i64 0, .int .i64 0, .int .i64 3, .int .i64 z0, .int .i64 0, .int .u32 (p : Int), .int .u32 (q : Int), .slice none 0 0] 29).keep hq
  rw [show (w5.setCell ⟨w2.heap.size, 2, none⟩ (.int .i64 (q : Int))).heap.size = w5.heap.size by simp] at hT
  have hB9 : Below w2.heap.size w2 w9 := ((HN5.out.2.setCell (p := ⟨w2.heap.size, 2, none⟩) (Nat.le_refl _) (.int .i64 (q : Int))).alloc (by simp; omega) (.cells #[.int .i64 3, .int .i64 0, .int .i64 0, .int .i64 3, .int .i64 z0, .int .i64 0, .int .u32 (p : Int), .int .u32 (q : Int), .slice none 0 0] 29)).trans (hq.mono (by simp; omega))
  have t0 := hT.1 0 _ rfl
  have t1 := hT.1 1 _ rfl
  have t2 := hT.1 2 _ rfl
  have t3 := hT.1 3 _ rfl
  have t4 := hT.1 4 _ rfl
  have t5 := hT.1 5 _ rfl
  have t6 := hT.1 6 _ rfl
  have t7 := hT.1 7 _ rfl
  have t8 := hT.1 8 _ rfl
  clear v0 fv0 v1 fv1 v2 fv2
  have u0 := (HR2.out.keep hB9).1 0 _ rfl
  have fu0 := (HR2.out.keep hB9).2 0 (by simp)
  have u1 := (HR2.out.keep hB9).1 1 _ rfl
  have fu1 := (HR2.out.keep hB9).2 1 (by simp)
  have u2 := (HR2.out.keep hB9).1 2 _ rfl
  have fu2 := (HR2.out.keep hB9).2 2 (by simp)
  have u3 := (HR2.out.keep hB9).1 3 _ rfl
  have fu3 := (HR2.out.keep hB9).2 3 (by simp)
  have u4 := (HR2.out.keep hB9).1 4 _ rfl
  have fu4 := (HR2.out.keep hB9).2 4 (by simp)
  have u5 := (HR2.out.keep hB9).1 5 _ rfl
  have fu5 := (HR2.out.keep hB9).2 5 (by simp)
  have u6 := (HR2.out.keep hB9).1 6 _ rfl
  have fu6 := (HR2.out.keep hB9).2 6 (by simp)
  have u7 := (HR2.out.keep hB9).1 7 _ rfl
  have fu7 := (HR2.out.keep hB9).2 7 (by simp)
  have u8 := (HR2.out.keep hB9).1 8 _ rfl
  have fu8 := (HR2.out.keep hB9).2 8 (by simp)
  have HB := Lib.hid (HB2.out.1.trans (hB9.mono HB2.out.2))
  clear hq hT hB9
  go_wp2
  refine bodyPost_ret (v := .tuple #[.agg #[.int .i64 3, .int .i64 0, .int .i64 0, .int .i64 3, .int .i64 z0, .int .i64 0, .int .u32 (p : Int), .int .u32 (q : Int), .slice none 0 0], .int .i64 0]) (by simp (maxDischargeDepth := 8) [results, Tryd.results29, go_sem, *]) rfl ?_
  refine actPost_ok ⟨3, 0, 0, ⟨3, z0, 0, p, q⟩, []⟩ none 0 0 rfl rfl rfl rfl (own_nil _ _) ?_
  · skip
    repeat (first | with_reducible refine Below.setCell ?_ (by first | exact Nat.le_refl _ | exact HB2.out.2) _ | with_reducible refine Below.drew ?_ | with_reducible refine below_drewN ?_ _)
    exact HB.out
set_option maxHeartbeats 3200000 in
set_option maxRecDepth 100000 in
theorem rone_f3_ng (s : ByteArray) (w : World) (a0 a1 a2 a3 a4 : List UInt8) (z0 : Int) (p q : Nat) (CN0 : ∀ W, Calls Tryd.prog 42 #[.string ⟨a2.toArray⟩] W (NumPost (some z0) W)) (CN1 : ∀ W, Calls Tryd.prog 42 #[.string ⟨a3.toArray⟩] W (NumPost (some (p : Int)) W)) (CN2 : ∀ W, Calls Tryd.prog 42 #[.string ⟨a4.toArray⟩] W (NumPost (some (q : Int)) W)) (hvg : goodA ⟨3, 0, 0, ⟨3, z0, 0, p, q⟩, []⟩ = false) (hp : p < 4294967296) (hqq : q < 4294967296)
    (CS : Calls Tryd.prog 28 #[.string s, .int .u8 32] (w.alloc (.cells #[.int .i64 0, .int .i64 0, .int .i64 0, .int .i64 0, .int .i64 0, .int .i64 0, .int .u32 0, .int .u32 0, .slice none 0 0] 29)) (SplitP 5 [a0, a1, a2, a3, a4] (w.alloc (.cells #[.int .i64 0, .int .i64 0, .int .i64 0, .int .i64 0, .int .i64 0, .int .i64 0, .int .u32 0, .int .u32 0, .slice none 0 0] 29))))
    (CH : ∀ W A c, RowAt W A (strV [a0, a1, a2, a3, a4]) → Calls Tryd.prog 41 #[.slice A 5 c] W (ShapePost 3 3 2 3 W)) :
    Calls Tryd.prog 29 #[.string s] w (ActPost (Ac0, 2) w) := by
  obtain ⟨hz, hsz⟩ := zero_of_info (show (Tryd.prog.info? 29).map (fun i => (i.zero, i.size)) = some (some (.agg #[.int .i64 0, .int .i64 0, .int .i64 0, .int .i64 0, .int .i64 0, .int .i64 0, .int .u32 0, .int .u32 0, .slice none 0 0]), 9) by kernel_rfl)
  unfold NumPost at CN0
  unfold NumPost at CN1
  unfold NumPost at CN2
  have CG : ∀ W, Calls Tryd.prog 16 #[.agg #[.int .i64 3, .int .i64 0, .int .i64 0, .int .i64 3, .int .i64 z0, .int .i64 0, .int .u32 (p : Int), .int .u32 (q : Int), .slice none 0 0]] W fun e w' => e = .returned (.bool false) ∧ Below W.heap.size W w' := fun W => refGoodV ⟨3, 0, 0, ⟨3, z0, 0, p, q⟩, []⟩ none 0 0 false hvg W (U8At.nil _ _) rfl
  have CG := Lib.hid CG
  clear hvg
  have hx0 : BoxF (w.alloc (.cells #[.int .i64 0, .int .i64 0, .int .i64 0, .int .i64 0, .int .i64 0, .int .i64 0, .int .u32 0, .int .u32 0, .slice none 0 0] 29)) w.heap.size [.int .i64 0, .int .i64 0, .int .i64 0, .int .i64 0, .int .i64 0, .int .i64 0, .int .u32 0, .int .u32 0, .slice none 0 0] := boxF_made w [.int .i64 0, .int .i64 0, .int .i64 0, .int .i64 0, .int .i64 0, .int .i64 0, .int .u32 0, .int .u32 0, .slice none 0 0] 29
  have hb0 : Below w.heap.size w (w.alloc (.cells #[.int .i64 0, .int .i64 0, .int .i64 0, .int .i64 0, .int .i64 0, .int .i64 0, .int .u32 0, .int .u32 0, .slice none 0 0] 29)) := (Below.refl _ _).alloc (Nat.le_refl _) _
  have HX := Lib.hid (And.intro hx0 hb0)
  have CS := Lib.hid CS
  have CH := Lib.hid CH
  clear hx0 hb0
  go_enter Tryd.func29, Tryd.ntmps29
  go_wp2_with fail
  refine CS.out.mono ?_
  rintro e w1 ⟨A, c, rfl, hlc, hrow, hq1⟩
  have hx1 := HX.out.1.keep hq1
  have hb1 : Below w.heap.size w w1 := HX.out.2.trans (hq1.mono HX.out.2.size)
  have C2 := CH.out w1 A c hrow
  have H1 := Lib.hid (And.intro hx1 (And.intro hb1 hrow))
  clear hx1 hb1 hrow hq1
  go_wp2_with fail
  refine C2.mono ?_
  rintro e w2 ⟨rfl, hq2⟩
  clear C2
  have HB2 := Lib.hid (And.intro (H1.out.2.1.trans (hq2.mono H1.out.2.1.size)) (H1.out.2.1.trans (hq2.mono H1.out.2.1.size)).size)
  have HR2 := Lib.hid (H1.out.1.keep hq2)
  have hrow2 := H1.out.2.2.keep hq2
  clear hq2
  obtain ⟨blk, off, rfl, hc0⟩ := hrow2 0 _ rfl
  have hc1 : w2.cell? ⟨blk, off + 1, none⟩ = _ := (by
    obtain ⟨b3, o3, he, hc⟩ := hrow2 1 _ rfl
    injection he with he
    injection he with h1 h2 h3
    subst h1 h2
    exact hc)
  have hc2 : w2.cell? ⟨blk, off + 2, none⟩ = _ := (by
    obtain ⟨b3, o3, he, hc⟩ := hrow2 2 _ rfl
    injection he with he
    injection he with h1 h2 h3
    subst h1 h2
    exact hc)
  have hc3 : w2.cell? ⟨blk, off + 3, none⟩ = _ := (by
    obtain ⟨b3, o3, he, hc⟩ := hrow2 3 _ rfl
    injection he with he
    injection he with h1 h2 h3
    subst h1 h2
    exact hc)
  have hc4 : w2.cell? ⟨blk, off + 4, none⟩ = _ := (by
    obtain ⟨b3, o3, he, hc⟩ := hrow2 4 _ rfl
    injection he with he
    injection he with h1 h2 h3
    subst h1 h2
    exact hc)
  simp only [Nat.add_zero] at hc0
  have hlt2 := World.block_lt_of_cell? _ _ hc0
  simp only at hlt2
  have HK : Hid (∀ W, Below w2.heap.size w2 W → W.cell? ⟨blk, off, none⟩ = some (.string ⟨a0.toArray⟩) ∧ W.cell? ⟨blk, off + 1, none⟩ = some (.string ⟨a1.toArray⟩) ∧ W.cell? ⟨blk, off + 2, none⟩ = some (.string ⟨a2.toArray⟩) ∧ W.cell? ⟨blk, off + 3, none⟩ = some (.string ⟨a3.toArray⟩) ∧ W.cell? ⟨blk, off + 4, none⟩ = some (.string ⟨a4.toArray⟩)) := fun W hW => ⟨(hW.cell (p := ⟨blk, off, none⟩) hlt2).trans hc0, (hW.cell (p := ⟨blk, off + 1, none⟩) hlt2).trans hc1, (hW.cell (p := ⟨blk, off + 2, none⟩) hlt2).trans hc2, (hW.cell (p := ⟨blk, off + 3, none⟩) hlt2).trans hc3, (hW.cell (p := ⟨blk, off + 4, none⟩) hlt2).trans hc4⟩
  clear hrow2
  go_wp2_with fail
  refine wp_loop_rounds 5 ?_
  rw [rounds_succ]
  go_wp2_with fail
  refine (CN0 _).mono ?_
  rintro e w3 ⟨rfl, hq⟩
  have hX3 : BoxF w3 w2.heap.size [.int .i64 0, .int .i64 0, .int .i64 0] := (boxF_made w2 [.int .i64 0, .int .i64 0, .int .i64 0] 2).keep hq
  have hB3 : Below w2.heap.size w2 w3 := ((Below.refl _ _).alloc (Nat.le_refl _) (.cells #[.int .i64 0, .int .i64 0, .int .i64 0] 2)).trans (hq.mono (by simp))
  have HN3 := Lib.hid (And.intro hX3 hB3)
  clear hq hX3 hB3
  have hz3 : w2.heap.size < w3.heap.size := World.block_lt_of_cell? _ _ (HN3.out.1.1 0 _ rfl)
  have v0 := HN3.out.1.1 0 _ rfl
  have fv0 := HN3.out.1.2 0 (by simp)
  have v1 := HN3.out.1.1 1 _ rfl
  have fv1 := HN3.out.1.2 1 (by simp)
  have v2 := HN3.out.1.1 2 _ rfl
  have fv2 := HN3.out.1.2 2 (by simp)
  clear hc0 hc1 hc2 hc3 hc4
  have hk := HK.out _ HN3.out.2
  obtain ⟨hc0, hc1, hc2, hc3, hc4⟩ := hk
  go_wp2_with fail
  rw [rounds_succ]
  go_wp2_with fail
  refine (CN1 _).mono ?_
  rintro e w4 ⟨rfl, hq⟩
  have hX4 : BoxF w4 w2.heap.size [.int .i64 z0, .int .i64 0, .int .i64 0] := (HN3.out.1.put 0 (by simp) (.int .i64 z0)).keep hq
  have hB4 : Below w2.heap.size w2 w4 := (HN3.out.2.setCell (p := ⟨w2.heap.size, 0, none⟩) (Nat.le_refl _) (.int .i64 z0)).trans (hq.mono (HN3.out.2.setCell (p := ⟨w2.heap.size, 0, none⟩) (Nat.le_refl _) (.int .i64 z0)).size)
  have HN4 := Lib.hid (And.intro hX4 hB4)
  clear hq hX4 hB4 v0 fv0 v1 fv1 v2 fv2
  have hz4 : w2.heap.size < w4.heap.size := World.block_lt_of_cell? _ _ (HN4.out.1.1 0 _ rfl)
  have v0 := HN4.out.1.1 0 _ rfl
  have fv0 := HN4.out.1.2 0 (by simp)
  have v1 := HN4.out.1.1 1 _ rfl
  have fv1 := HN4.out.1.2 1 (by simp)
  have v2 := HN4.out.1.1 2 _ rfl
  have fv2 := HN4.out.1.2 2 (by simp)
  clear hc0 hc1 hc2 hc3 hc4
  have hk := HK.out _ HN4.out.2
  obtain ⟨hc0, hc1, hc2, hc3, hc4⟩ := hk
  go_wp2_with fail
  rw [rounds_succ]
  go_wp2_with fail
  refine (CN2 _).mono ?_
  rintro e w5 ⟨rfl, hq⟩
  have hX5 : BoxF w5 w2.heap.size [.int .i64 z0, .int .i64 (p : Int), .int .i64 0] := (HN4.out.1.put 1 (by simp) (.int .i64 (p : Int))).keep hq
  have hB5 : Below w2.heap.size w2 w5 := (HN4.out.2.setCell (p := ⟨w2.heap.size, 1, none⟩) (Nat.le_refl _) (.int .i64 (p : Int))).trans (hq.mono (HN4.out.2.setCell (p := ⟨w2.heap.size, 1, none⟩) (Nat.le_refl _) (.int .i64 (p : Int))).size)
  have HN5 := Lib.hid (And.intro hX5 hB5)
  clear hq hX5 hB5 v0 fv0 v1 fv1 v2 fv2
  have hz5 : w2.heap.size < w5.heap.size := World.block_lt_of_cell? _ _ (HN5.out.1.1 0 _ rfl)
  have v0 := HN5.out.1.1 0 _ rfl
  have fv0 := HN5.out.1.2 0 (by simp)
  have v1 := HN5.out.1.1 1 _ rfl
  have fv1 := HN5.out.1.2 1 (by simp)
  have v2 := HN5.out.1.1 2 _ rfl
  have fv2 := HN5.out.1.2 2 (by simp)
  clear hc0 hc1 hc2 hc3 hc4
  go_wp2_with fail
  rw [rounds_succ]
  go_wp2_with fail
  go_big_region
  go_wp2_with fail
  go_quiet (fail)
  go_wp2_with fail
  refine (CG.out _).mono ?_
  rintro e w9 ⟨rfl, hq⟩
  have hq : Below ((w5.setCell ⟨w2.heap.size, 2, none⟩ (.int .i64 (q : Int))).alloc (.cells #[.int .i64 3, .int .i64 0, .int .i64 0, .int .i64 3, .int .i64 z0, .int .i64 0, .int .u32 (p : Int), .int .u32 (q : Int), .slice none 0 0] 29)).heap.size ((w5.setCell ⟨w2.heap.size, 2, none⟩ (.int .i64 (q : Int))).alloc (.cells #[.int .i64 3, .int .i64 0, .int .i64 0, .int .i64 3, .int .i64 z0, .int .i64 0, .int .u32 (p : Int), .int .u32 (q : Int), .slice none 0 0] 29)) w9 := by
    refine Below.trans ?_ hq
    repeat (first | with_reducible refine Below.drew ?_ | with_reducible refine below_drewN ?_ _)
    exact Below.refl _ _
  have hT : BoxF w9 (w5.setCell ⟨w2.heap.size, 2, none⟩ (.int .i64 (q : Int))).heap.size [.int .i64 3, .int .i64 0, .int .i64 0, .int .i64 3, .int .i64 z0, .int .i64 0, .int .u32 (p : Int), .int .u32 (q : Int), .slice none 0 0] := (boxF_made _ [.int .i64 3, .int .i64 0, .int .i64 0, .int .i64 3, .int .i64 z0, .int .i64 0, .int .u32 (p : Int), .int .u32 (q : Int), .slice none 0 0] 29).keep hq
  rw [show (w5.setCell ⟨w2.heap.size, 2, none⟩ (.int .i64 (q : Int))).heap.size = w5.heap.size by simp] at hT
  have hB9 : Below w2.heap.size w2 w9 := ((HN5.out.2.setCell (p := ⟨w2.heap.size, 2, none⟩) (Nat.le_refl _) (.int .i64 (q : Int))).alloc (by simp; omega) (.cells #[.int .i64 3, .int .i64 0, .int .i64 0, .int .i64 3, .int .i64 z0, .int .i64 0, .int .u32 (p : Int), .int .u32 (q : Int), .slice none 0 0] 29)).trans (hq.mono (by simp; omega))
  have t0 := hT.1 0 _ rfl
  have t1 := hT.1 1 _ rfl
  have t2 := hT.1 2 _ rfl
  have t3 := hT.1 3 _ rfl
  have t4 := hT.1 4 _ rfl
  have t5 := hT.1 5 _ rfl
  have t6 := hT.1 6 _ rfl
  have t7 := hT.1 7 _ rfl
  have t8 := hT.1 8 _ rfl
  clear v0 fv0 v1 fv1 v2 fv2
  have u0 := (HR2.out.keep hB9).1 0 _ rfl
  have fu0 := (HR2.out.keep hB9).2 0 (by simp)
  have u1 := (HR2.out.keep hB9).1 1 _ rfl
  have fu1 := (HR2.out.keep hB9).2 1 (by simp)
  have u2 := (HR2.out.keep hB9).1 2 _ rfl
  have fu2 := (HR2.out.keep hB9).2 2 (by simp)
  have u3 := (HR2.out.keep hB9).1 3 _ rfl
  have fu3 := (HR2.out.keep hB9).2 3 (by simp)
  have u4 := (HR2.out.keep hB9).1 4 _ rfl
  have fu4 := (HR2.out.keep hB9).2 4 (by simp)
  have u5 := (HR2.out.keep hB9).1 5 _ rfl
  have fu5 := (HR2.out.keep hB9).2 5 (by simp)
  have u6 := (HR2.out.keep hB9).1 6 _ rfl
  have fu6 := (HR2.out.keep hB9).2 6 (by simp)
  have u7 := (HR2.out.keep hB9).1 7 _ rfl
  have fu7 := (HR2.out.keep hB9).2 7 (by simp)
  have u8 := (HR2.out.keep hB9).1 8 _ rfl
  have fu8 := (HR2.out.keep hB9).2 8 (by simp)
  have HB := Lib.hid (HB2.out.1.trans (hB9.mono HB2.out.2))
  clear hq hT hB9
  go_wp2
  refine bodyPost_ret (v := .tuple #[.agg #[.int .i64 0, .int .i64 0, .int .i64 0, .int .i64 0, .int .i64 0, .int .i64 0, .int .u32 0, .int .u32 0, .slice none 0 0], .int .i64 2]) (by simp (maxDischargeDepth := 8) [results, Tryd.results29, go_sem, *]) rfl ?_
  refine actPost_bad Ac0 none 0 0 2 rfl rfl (by decide) ?_
  · skip
    repeat (first | with_reducible refine Below.setCell ?_ (by first | exact Nat.le_refl _ | exact HB2.out.2) _ | with_reducible refine Below.drew ?_ | with_reducible refine below_drewN ?_ _)
    exact HB.out
set_option maxHeartbeats 3200000 in
set_option maxRecDepth 100000 in
theorem rone_f3_w1 (s : ByteArray) (w : World) (a0 a1 a2 a3 a4 : List UInt8) (z0 z1 z2 : Int) (p q : Nat) (CN0 : ∀ W, Calls Tryd.prog 42 #[.string ⟨a2.toArray⟩] W (NumPost (some z0) W)) (CN1 : ∀ W, Calls Tryd.prog 42 #[.string ⟨a3.toArray⟩] W (NumPost (some z1) W)) (CN2 : ∀ W, Calls Tryd.prog 42 #[.string ⟨a4.toArray⟩] W (NumPost (some z2) W)) (e1 : IntKind.u32.wrap z1 = (p : Int)) (e2 : z1 % 4294967296 = (p : Int)) (e3 : IntKind.u32.wrap z2 = (q : Int)) (e4 : z2 % 4294967296 = (q : Int)) (hp : p < 4294967296) (hq4 : q < 4294967296) (hw : ((p : Int) != z1) = true)
    (CS : Calls Tryd.prog 28 #[.string s, .int .u8 32] (w.alloc (.cells #[.int .i64 0, .int .i64 0, .int .i64 0, .int .i64 0, .int .i64 0, .int .i64 0, .int .u32 0, .int .u32 0, .slice none 0 0] 29)) (SplitP 5 [a0, a1, a2, a3, a4] (w.alloc (.cells #[.int .i64 0, .int .i64 0, .int .i64 0, .int .i64 0, .int .i64 0, .int .i64 0, .int .u32 0, .int .u32 0, .slice none 0 0] 29))))
    (CH : ∀ W A c, RowAt W A (strV [a0, a1, a2, a3, a4]) → Calls Tryd.prog 41 #[.slice A 5 c] W (ShapePost 3 3 2 3 W)) :
    Calls Tryd.prog 29 #[.string s] w (ActPost (Ac0, 2) w) := by
  obtain ⟨hz, hsz⟩ := zero_of_info (show (Tryd.prog.info? 29).map (fun i => (i.zero, i.size)) = some (some (.agg #[.int .i64 0, .int .i64 0, .int .i64 0, .int .i64 0, .int .i64 0, .int .i64 0, .int .u32 0, .int .u32 0, .slice none 0 0]), 9) by kernel_rfl)
  unfold NumPost at CN0
  unfold NumPost at CN1
  unfold NumPost at CN2
  have hx0 : BoxF (w.alloc (.cells #[.int .i64 0, .int .i64 0, .int .i64 0, .int .i64 0, .int .i64 0, .int .i64 0, .int .u32 0, .int .u32 0, .slice none 0 0] 29)) w.heap.size [.int .i64 0, .int .i64 0, .int .i64 0, .int .i64 0, .int .i64 0, .int .i64 0, .int .u32 0, .int .u32 0, .slice none 0 0] := boxF_made w [.int .i64 0, .int .i64 0, .int .i64 0, .int .i64 0, .int .i64 0, .int .i64 0, .int .u32 0, .int .u32 0, .slice none 0 0] 29
  have hb0 : Below w.heap.size w (w.alloc (.cells #[.int .i64 0, .int .i64 0, .int .i64 0, .int .i64 0, .int .i64 0, .int .i64 0, .int .u32 0, .int .u32 0, .slice none 0 0] 29)) := (Below.refl _ _).alloc (Nat.le_refl _) _
  have HX := Lib.hid (And.intro hx0 hb0)
  have CS := Lib.hid CS
  have CH := Lib.hid CH
  clear hx0 hb0
  go_enter Tryd.func29, Tryd.ntmps29
  go_wp2_with fail
  refine CS.out.mono ?_
  rintro e w1 ⟨A, c, rfl, hlc, hrow, hq1⟩
  have hx1 := HX.out.1.keep hq1
  have hb1 : Below w.heap.size w w1 := HX.out.2.trans (hq1.mono HX.out.2.size)
  have C2 := CH.out w1 A c hrow
  have H1 := Lib.hid (And.intro hx1 (And.intro hb1 hrow))
  clear hx1 hb1 hrow hq1
  go_wp2_with fail
  refine C2.mono ?_
  rintro e w2 ⟨rfl, hq2⟩
  clear C2
  have HB2 := Lib.hid (And.intro (H1.out.2.1.trans (hq2.mono H1.out.2.1.size)) (H1.out.2.1.trans (hq2.mono H1.out.2.1.size)).size)
  have HR2 := Lib.hid (H1.out.1.keep hq2)
  have hrow2 := H1.out.2.2.keep hq2
  clear hq2
  obtain ⟨blk, off, rfl, hc0⟩ := hrow2 0 _ rfl
  have hc1 : w2.cell? ⟨blk, off + 1, none⟩ = _ := (by
    obtain ⟨b3, o3, he, hc⟩ := hrow2 1 _ rfl
    injection he with he
    injection he with h1 h2 h3
    subst h1 h2
    exact hc)
  have hc2 : w2.cell? ⟨blk, off + 2, none⟩ = _ := (by
    obtain ⟨b3, o3, he, hc⟩ := hrow2 2 _ rfl
    injection he with he
    injection he with h1 h2 h3
    subst h1 h2
    exact hc)
  have hc3 : w2.cell? ⟨blk, off + 3, none⟩ = _ := (by
    obtain ⟨b3, o3, he, hc⟩ := hrow2 3 _ rfl
    injection he with he
    injection he with h1 h2 h3
    subst h1 h2
    exact hc)
  have hc4 : w2.cell? ⟨blk, off + 4, none⟩ = _ := (by
    obtain ⟨b3, o3, he, hc⟩ := hrow2 4 _ rfl
    injection he with he
    injection he with h1 h2 h3
    subst h1 h2
    exact hc)
  simp only [Nat.add_zero] at hc0
  have hlt2 := World.block_lt_of_cell? _ _ hc0
  simp only at hlt2
  have HK : Hid (∀ W, Below w2.heap.size w2 W → W.cell? ⟨blk, off, none⟩ = some (.string ⟨a0.toArray⟩) ∧ W.cell? ⟨blk, off + 1, none⟩ = some (.string ⟨a1.toArray⟩) ∧ W.cell? ⟨blk, off + 2, none⟩ = some (.string ⟨a2.toArray⟩) ∧ W.cell? ⟨blk, off + 3, none⟩ = some (.string ⟨a3.toArray⟩) ∧ W.cell? ⟨blk, off + 4, none⟩ = some (.string ⟨a4.toArray⟩)) := fun W hW => ⟨(hW.cell (p := ⟨blk, off, none⟩) hlt2).trans hc0, (hW.cell (p := ⟨blk, off + 1, none⟩) hlt2).trans hc1, (hW.cell (p := ⟨blk, off + 2, none⟩) hlt2).trans hc2, (hW.cell (p := ⟨blk, off + 3, none⟩) hlt2).trans hc3, (hW.cell (p := ⟨blk, off + 4, none⟩) hlt2).trans hc4⟩
  clear hrow2
  go_wp2_with fail
  refine wp_loop_rounds 5 ?_
  rw [rounds_succ]
  go_wp2_with fail
  refine (CN0 _).mono ?_
  rintro e w3 ⟨rfl, hq⟩
  have hX3 : BoxF w3 w2.heap.size [.int .i64 0, .int .i64 0, .int .i64 0] := (boxF_made w2 [.int .i64 0, .int .i64 0, .int .i64 0] 2).keep hq
  have hB3 : Below w2.heap.size w2 w3 := ((Below.refl _ _).alloc (Nat.le_refl _) (.cells #[.int .i64 0, .int .i64 0, .int .i64 0] 2)).trans (hq.mono (by simp))
  have HN3 := Lib.hid (And.intro hX3 hB3)
  clear hq hX3 hB3
  have hz3 : w2.heap.size < w3.heap.size := World.block_lt_of_cell? _ _ (HN3.out.1.1 0 _ rfl)
  have v0 := HN3.out.1.1 0 _ rfl
  have fv0 := HN3.out.1.2 0 (by simp)
  have v1 := HN3.out.1.1 1 _ rfl
  have fv1 := HN3.out.1.2 1 (by simp)
  have v2 := HN3.out.1.1 2 _ rfl
  have fv2 := HN3.out.1.2 2 (by simp)
  clear hc0 hc1 hc2 hc3 hc4
  have hk := HK.out _ HN3.out.2
  obtain ⟨hc0, hc1, hc2, hc3, hc4⟩ := hk
  go_wp2_with fail
  rw [rounds_succ]
  go_wp2_with fail
  refine (CN1 _).mono ?_
  rintro e w4 ⟨rfl, hq⟩
  have hX4 : BoxF w4 w2.heap.size [.int .i64 z0, .int .i64 0, .int .i64 0] := (HN3.out.1.put 0 (by simp) (.int .i64 z0)).keep hq
  have hB4 : Below w2.heap.size w2 w4 := (HN3.out.2.setCell (p := ⟨w2.heap.size, 0, none⟩) (Nat.le_refl _) (.int .i64 z0)).trans (hq.mono (HN3.out.2.setCell (p := ⟨w2.heap.size, 0, none⟩) (Nat.le_refl _) (.int .i64 z0)).size)
  have HN4 := Lib.hid (And.intro hX4 hB4)
  clear hq hX4 hB4 v0 fv0 v1 fv1 v2 fv2
  have hz4 : w2.heap.size < w4.heap.size := World.block_lt_of_cell? _ _ (HN4.out.1.1 0 _ rfl)
  have v0 := HN4.out.1.1 0 _ rfl
  have fv0 := HN4.out.1.2 0 (by simp)
  have v1 := HN4.out.1.1 1 _ rfl
  have fv1 := HN4.out.1.2 1 (by simp)
  have v2 := HN4.out.1.1 2 _ rfl
  have fv2 := HN4.out.1.2 2 (by simp)
  clear hc0 hc1 hc2 hc3 hc4
  have hk := HK.out _ HN4.out.2
  obtain ⟨hc0, hc1, hc2, hc3, hc4⟩ := hk
  go_wp2_with fail
  rw [rounds_succ]
  go_wp2_with fail
  refine (CN2 _).mono ?_
  rintro e w5 ⟨rfl, hq⟩
  have hX5 : BoxF w5 w2.heap.size [.int .i64 z0, .int .i64 z1, .int .i64 0] := (HN4.out.1.put 1 (by simp) (.int .i64 z1)).keep hq
  have hB5 : Below w2.heap.size w2 w5 := (HN4.out.2.setCell (p := ⟨w2.heap.size, 1, none⟩) (Nat.le_refl _) (.int .i64 z1)).trans (hq.mono (HN4.out.2.setCell (p := ⟨w2.heap.size, 1, none⟩) (Nat.le_refl _) (.int .i64 z1)).size)
  have HN5 := Lib.hid (And.intro hX5 hB5)
  clear hq hX5 hB5 v0 fv0 v1 fv1 v2 fv2
  have hz5 : w2.heap.size < w5.heap.size := World.block_lt_of_cell? _ _ (HN5.out.1.1 0 _ rfl)
  have v0 := HN5.out.1.1 0 _ rfl
  have fv0 := HN5.out.1.2 0 (by simp)
  have v1 := HN5.out.1.1 1 _ rfl
  have fv1 := HN5.out.1.2 1 (by simp)
  have v2 := HN5.out.1.1 2 _ rfl
  have fv2 := HN5.out.1.2 2 (by simp)
  clear hc0 hc1 hc2 hc3 hc4
  go_wp2_with fail
  rw [rounds_succ]
  go_wp2_with fail
  go_big_region
  go_wp2_with fail
  obtain ⟨W4, hW4⟩ : ∃ W4, ((w5.setCell ⟨w2.heap.size, 2, none⟩ (.int .i64 z2)).alloc (.cells #[.int .i64 3, .int .i64 0, .int .i64 0, .int .i64 3, .int .i64 z0, .int .i64 0, .int .u32 (p : Int), .int .u32 (q : Int), .slice none 0 0] 29)).drew = W4 := ⟨_, rfl⟩
  rw [hW4]
  have hB4 : Below w2.heap.size w2 W4 := hW4 ▸ ((HN5.out.2.setCell (p := ⟨w2.heap.size, 2, none⟩) (Nat.le_refl _) (.int .i64 z2)).alloc (by simp; omega) (.cells #[.int .i64 3, .int .i64 0, .int .i64 0, .int .i64 3, .int .i64 z0, .int .i64 0, .int .u32 (p : Int), .int .u32 (q : Int), .slice none 0 0] 29)).drew
  have hT0 := boxF_made (w5.setCell ⟨w2.heap.size, 2, none⟩ (.int .i64 z2)) [.int .i64 3, .int .i64 0, .int .i64 0, .int .i64 3, .int .i64 z0, .int .i64 0, .int .u32 (p : Int), .int .u32 (q : Int), .slice none 0 0] 29
  rw [show (w5.setCell ⟨w2.heap.size, 2, none⟩ (.int .i64 z2)).heap.size = w5.heap.size by simp] at hT0
  have hT4 : BoxF W4 w5.heap.size [.int .i64 3, .int .i64 0, .int .i64 0, .int .i64 3, .int .i64 z0, .int .i64 0, .int .u32 (p : Int), .int .u32 (q : Int), .slice none 0 0] := hW4 ▸ hT0.keep ((Below.refl _ _).drew)
  have hX4 : BoxF W4 w2.heap.size [.int .i64 z0, .int .i64 z1, .int .i64 z2] := hW4 ▸ (HN5.out.1.put 2 (by simp) (.int .i64 z2)).keep (((Below.refl _ _).alloc (Nat.le_refl _) _).drew)
  have k6 := fun W : Later W4 => (hT4.keep W.h).1 6 _ rfl
  have k7 := fun W : Later W4 => (hT4.keep W.h).1 7 _ rfl
  have l1 := fun W : Later W4 => (hX4.keep W.h).1 1 _ rfl
  have l2 := fun W : Later W4 => (hX4.keep W.h).1 2 _ rfl
  have HB4 := Lib.hid hB4
  clear hW4 hB4 hT0 hT4 hX4 v0 fv0 v1 fv1 v2 fv2
  refine wp_region_later (by kernel_rfl) (by kernel_rfl) ?_
  repeat (go_big_quiet_step (fail))
  refine wpQuiet_nil ?_
  rintro W1 ⟨⟨W9, hW⟩, rfl⟩
  clear k6 k7 l1 l2
  have hB9 : Below w2.heap.size w2 W1 := HB4.out.trans (hW.mono HB4.out.size)
  have u0 := (HR2.out.keep hB9).1 0 _ rfl
  have fu0 := (HR2.out.keep hB9).2 0 (by simp)
  have u1 := (HR2.out.keep hB9).1 1 _ rfl
  have fu1 := (HR2.out.keep hB9).2 1 (by simp)
  have u2 := (HR2.out.keep hB9).1 2 _ rfl
  have fu2 := (HR2.out.keep hB9).2 2 (by simp)
  have u3 := (HR2.out.keep hB9).1 3 _ rfl
  have fu3 := (HR2.out.keep hB9).2 3 (by simp)
  have u4 := (HR2.out.keep hB9).1 4 _ rfl
  have fu4 := (HR2.out.keep hB9).2 4 (by simp)
  have u5 := (HR2.out.keep hB9).1 5 _ rfl
  have fu5 := (HR2.out.keep hB9).2 5 (by simp)
  have u6 := (HR2.out.keep hB9).1 6 _ rfl
  have fu6 := (HR2.out.keep hB9).2 6 (by simp)
  have u7 := (HR2.out.keep hB9).1 7 _ rfl
  have fu7 := (HR2.out.keep hB9).2 7 (by simp)
  have u8 := (HR2.out.keep hB9).1 8 _ rfl
  have fu8 := (HR2.out.keep hB9).2 8 (by simp)
  have HB := Lib.hid (HB2.out.1.trans (hB9.mono HB2.out.2))
  clear hB9
  go_wp2
  refine bodyPost_ret (v := .tuple #[.agg #[.int .i64 0, .int .i64 0, .int .i64 0, .int .i64 0, .int .i64 0, .int .i64 0, .int .u32 0, .int .u32 0, .slice none 0 0], .int .i64 2]) (by simp (maxDischargeDepth := 8) [results, Tryd.results29, go_sem, *]) rfl ?_
  refine actPost_bad Ac0 none 0 0 2 rfl rfl (by decide) ?_
  · skip
    repeat (first | with_reducible refine Below.setCell ?_ (by first | exact Nat.le_refl _ | exact HB2.out.2) _ | with_reducible refine Below.drew ?_ | with_reducible refine below_drewN ?_ _)
    exact HB.out
set_option maxHeartbeats 3200000 in
set_option maxRecDepth 100000 in
theorem rone_f3_w2 (s : ByteArray) (w : World) (a0 a1 a2 a3 a4 : List UInt8) (z0 : Int) (p q : Nat) (z2 : Int) (CN0 : ∀ W, Calls Tryd.prog 42 #[.string ⟨a2.toArray⟩] W (NumPost (some z0) W)) (CN1 : ∀ W, Calls Tryd.prog 42 #[.string ⟨a3.toArray⟩] W (NumPost (some (p : Int)) W)) (CN2 : ∀ W, Calls Tryd.prog 42 #[.string ⟨a4.toArray⟩] W (NumPost (some z2) W)) (e3 : IntKind.u32.wrap z2 = (q : Int)) (e4 : z2 % 4294967296 = (q : Int)) (hp : p < 4294967296) (hq4 : q < 4294967296) (hw : ((q : Int) != z2) = true)
    (CS : Calls Tryd.prog 28 #[.string s, .int .u8 32] (w.alloc (.cells #[.int .i64 0, .int .i64 0, .int .i64 0, .int .i64 0, .int .i64 0, .int .i64 0, .int .u32 0, .int .u32 0, .slice none 0 0] 29)) (SplitP 5 [a0, a1, a2, a3, a4] (w.alloc (.cells #[.int .i64 0, .int .i64 0, .int .i64 0, .int .i64 0, .int .i64 0, .int .i64 0, .int .u32 0, .int .u32 0, .slice none 0 0] 29))))
    (CH : ∀ W A c, RowAt W A (strV [a0, a1, a2, a3, a4]) → Calls Tryd.prog 41 #[.slice A 5 c] W (ShapePost 3 3 2 3 W)) :
    Calls Tryd.prog 29 #[.string s] w (ActPost (Ac0, 2) w) := by
  obtain ⟨hz, hsz⟩ := zero_of_info (show (Tryd.prog.info? 29).map (fun i => (i.zero, i.size)) = some (some (.agg #[.int .i64 0, .int .i64 0, .int .i64 0, .int .i64 0, .int .i64 0, .int .i64 0, .int .u32 0, .int .u32 0, .slice none 0 0]), 9) by kernel_rfl)
  unfold NumPost at CN0
  unfold NumPost at CN1
  unfold NumPost at CN2
  have hx0 : BoxF (w.alloc (.cells #[.int .i64 0, .int .i64 0, .int .i64 0, .int .i64 0, .int .i64 0, .int .i64 0, .int .u32 0, .int .u32 0, .slice none 0 0] 29)) w.heap.size [.int .i64 0, .int .i64 0, .int .i64 0, .int .i64 0, .int .i64 0, .int .i64 0, .int .u32 0, .int .u32 0, .slice none 0 0] := boxF_made w [.int .i64 0, .int .i64 0, .int .i64 0, .int .i64 0, .int .i64 0, .int .i64 0, .int .u32 0, .int .u32 0, .slice none 0 0] 29
  have hb0 : Below w.heap.size w (w.alloc (.cells #[.int .i64 0, .int .i64 0, .int .i64 0, .int .i64 0, .int .i64 0, .int .i64 0, .int .u32 0, .int .u32 0, .slice none 0 0] 29)) := (Below.refl _ _).alloc (Nat.le_refl _) _
  have HX := Lib.hid (And.intro hx0 hb0)
  have CS := Lib.hid CS
  have CH := Lib.hid CH
  clear hx0 hb0
  go_enter Tryd.func29, Tryd.ntmps29
  go_wp2_with fail
  refine CS.out.mono ?_
  rintro e w1 ⟨A, c, rfl, hlc, hrow, hq1⟩
  have hx1 := HX.out.1.keep hq1
  have hb1 : Below w.heap.size w w1 := HX.out.2.trans (hq1.mono HX.out.2.size)
  have C2 := CH.out w1 A c hrow
  have H1 := Lib.hid (And.intro hx1 (And.intro hb1 hrow))
  clear hx1 hb1 hrow hq1
  go_wp2_with fail
  refine C2.mono ?_
  rintro e w2 ⟨rfl, hq2⟩
  clear C2
  have HB2 := Lib.hid (And.intro (H1.out.2.1.trans (hq2.mono H1.out.2.1.size)) (H1.out.2.1.trans (hq2.mono H1.out.2.1.size)).size)
  have HR2 := Lib.hid (H1.out.1.keep hq2)
  have hrow2 := H1.out.2.2.keep hq2
  clear hq2
  obtain ⟨blk, off, rfl, hc0⟩ := hrow2 0 _ rfl
  have hc1 : w2.cell? ⟨blk, off + 1, none⟩ = _ := (by
    obtain ⟨b3, o3, he, hc⟩ := hrow2 1 _ rfl
    injection he with he
    injection he with h1 h2 h3
    subst h1 h2
    exact hc)
  have hc2 : w2.cell? ⟨blk, off + 2, none⟩ = _ := (by
    obtain ⟨b3, o3, he, hc⟩ := hrow2 2 _ rfl
    injection he with he
    injection he with h1 h2 h3
    subst h1 h2
    exact hc)
  have hc3 : w2.cell? ⟨blk, off + 3, none⟩ = _ := (by
    obtain ⟨b3, o3, he, hc⟩ := hrow2 3 _ rfl
    injection he with he
    injection he with h1 h2 h3
    subst h1 h2
    exact hc)
  have hc4 : w2.cell? ⟨blk, off + 4, none⟩ = _ := (by
    obtain ⟨b3, o3, he, hc⟩ := hrow2 4 _ rfl
    injection he with he
    injection he with h1 h2 h3
    subst h1 h2
    exact hc)
  simp only [Nat.add_zero] at hc0
  have hlt2 := World.block_lt_of_cell? _ _ hc0
  simp only at hlt2
  have HK : Hid (∀ W, Below w2.heap.size w2 W → W.cell? ⟨blk, off, none⟩ = some (.string ⟨a0.toArray⟩) ∧ W.cell? ⟨blk, off + 1, none⟩ = some (.string ⟨a1.toArray⟩) ∧ W.cell? ⟨blk, off + 2, none⟩ = some (.string ⟨a2.toArray⟩) ∧ W.cell? ⟨blk, off + 3, none⟩ = some (.string ⟨a3.toArray⟩) ∧ W.cell? ⟨blk, off + 4, none⟩ = some (.string ⟨a4.toArray⟩)) := fun W hW => ⟨(hW.cell (p := ⟨blk, off, none⟩) hlt2).trans hc0, (hW.cell (p := ⟨blk, off + 1, none⟩) hlt2).trans hc1, (hW.cell (p := ⟨blk, off + 2, none⟩) hlt2).trans hc2, (hW.cell (p := ⟨blk, off + 3, none⟩) hlt2).trans hc3, (hW.cell (p := ⟨blk, off + 4, none⟩) hlt2).trans hc4⟩
  clear hrow2
  go_wp2_with fail
  refine wp_loop_rounds 5 ?_
  rw [rounds_succ]
  go_wp2_with fail
  refine (CN0 _).mono ?_
  rintro e w3 ⟨rfl, hq⟩
  have hX3 : BoxF w3 w2.heap.size [.int .i64 0, .int .i64 0, .int .i64 0] := (boxF_made w2 [.int .i64 0, .int .i64 0, .int .i64 0] 2).keep hq
  have hB3 : Below w2.heap.size w2 w3 := ((Below.refl _ _).alloc (Nat.le_refl _) (.cells #[.int .i64 0, .int .i64 0, .int .i64 0] 2)).trans (hq.mono (by simp))
  have HN3 := Lib.hid (And.intro hX3 hB3)
  clear hq hX3 hB3
  have hz3 : w2.heap.size < w3.heap.size := World.block_lt_of_cell? _ _ (HN3.out.1.1 0 _ rfl)
  have v0 := HN3.out.1.1 0 _ rfl
  have fv0 := HN3.out.1.2 0 (by simp)
  have v1 := HN3.out.1.1 1 _ rfl
  have fv1 := HN3.out.1.2 1 (by simp)
  have v2 := HN3.out.1.1 2 _ rfl
  have fv2 := HN3.out.1.2 2 (by simp)
  clear hc0 hc1 hc2 hc3 hc4
  have hk := HK.out _ HN3.out.2
  obtain ⟨hc0, hc1, hc2, hc3, hc4⟩ := hk
  go_wp2_with fail
  rw [rounds_succ]
  go_wp2_with fail
  refine (CN1 _).mono ?_
  rintro e w4 ⟨rfl, hq⟩
  have hX4 : BoxF w4 w2.heap.size [.int .i64 z0, .int .i64 0, .int .i64 0] := (HN3.out.1.put 0 (by simp) (.int .i64 z0)).keep hq
  have hB4 : Below w2.heap.size w2 w4 := (HN3.out.2.setCell (p := ⟨w2.heap.size, 0, none⟩) (Nat.le_refl _) (.int .i64 z0)).trans (hq.mono (HN3.out.2.setCell (p := ⟨w2.heap.size, 0, none⟩) (Nat.le_refl _) (.int .i64 z0)).size)
  have HN4 := Lib.hid (And.intro hX4 hB4)
  clear hq hX4 hB4 v0 fv0 v1 fv1 v2 fv2
  have hz4 : w2.heap.size < w4.heap.size := World.block_lt_of_cell? _ _ (HN4.out.1.1 0 _ rfl)
  have v0 := HN4.out.1.1 0 _ rfl
  have fv0 := HN4.out.1.2 0 (by simp)
  have v1 := HN4.out.1.1 1 _ rfl
  have fv1 := HN4.out.1.2 1 (by simp)
  have v2 := HN4.out.1.1 2 _ rfl
  have fv2 := HN4.out.1.2 2 (by simp)
  clear hc0 hc1 hc2 hc3 hc4
  have hk := HK.out _ HN4.out.2
  obtain ⟨hc0, hc1, hc2, hc3, hc4⟩ := hk
  go_wp2_with fail
  rw [rounds_succ]
  go_wp2_with fail
  refine (CN2 _).mono ?_
  rintro e w5 ⟨rfl, hq⟩
  have hX5 : BoxF w5 w2.heap.size [.int .i64 z0, .int .i64 (p : Int), .int .i64 0] := (HN4.out.1.put 1 (by simp) (.int .i64 (p : Int))).keep hq
  have hB5 : Below w2.heap.size w2 w5 := (HN4.out.2.setCell (p := ⟨w2.heap.size, 1, none⟩) (Nat.le_refl _) (.int .i64 (p : Int))).trans (hq.mono (HN4.out.2.setCell (p := ⟨w2.heap.size, 1, none⟩) (Nat.le_refl _) (.int .i64 (p : Int))).size)
  have HN5 := Lib.hid (And.intro hX5 hB5)
  clear hq hX5 hB5 v0 fv0 v1 fv1 v2 fv2
  have hz5 : w2.heap.size < w5.heap.size := World.block_lt_of_cell? _ _ (HN5.out.1.1 0 _ rfl)
  have v0 := HN5.out.1.1 0 _ rfl
  have fv0 := HN5.out.1.2 0 (by simp)
  have v1 := HN5.out.1.1 1 _ rfl
  have fv1 := HN5.out.1.2 1 (by simp)
  have v2 := HN5.out.1.1 2 _ rfl
  have fv2 := HN5.out.1.2 2 (by simp)
  clear hc0 hc1 hc2 hc3 hc4
  go_wp2_with fail
  rw [rounds_succ]
  go_wp2_with fail
  go_big_region
  go_wp2_with fail
  obtain ⟨W4, hW4⟩ : ∃ W4, ((w5.setCell ⟨w2.heap.size, 2, none⟩ (.int .i64 z2)).alloc (.cells #[.int .i64 3, .int .i64 0, .int .i64 0, .int .i64 3, .int .i64 z0, .int .i64 0, .int .u32 (p : Int), .int .u32 (q : Int), .slice none 0 0] 29)).drew = W4 := ⟨_, rfl⟩
  rw [hW4]
  have hB4 : Below w2.heap.size w2 W4 := hW4 ▸ ((HN5.out.2.setCell (p := ⟨w2.heap.size, 2, none⟩) (Nat.le_refl _) (.int .i64 z2)).alloc (by simp; omega) (.cells #[.int .i64 3, .int .i64 0, .int .i64 0, .int .i64 3, .int .i64 z0, .int .i64 0, .int .u32 (p : Int), .int .u32 (q : Int), .slice none 0 0] 29)).drew
  have hT0 := boxF_made (w5.setCell ⟨w2.heap.size, 2, none⟩ (.int .i64 z2)) [.int .i64 3, .int .i64 0, .int .i64 0, .int .i64 3, .int .i64 z0, .int .i64 0, .int .u32 (p : Int), .int .u32 (q : Int), .slice none 0 0] 29
  rw [show (w5.setCell ⟨w2.heap.size, 2, none⟩ (.int .i64 z2)).heap.size = w5.heap.size by simp] at hT0
  have hT4 : BoxF W4 w5.heap.size [.int .i64 3, .int .i64 0, .int .i64 0, .int .i64 3, .int .i64 z0, .int .i64 0, .int .u32 (p : Int), .int .u32 (q : Int), .slice none 0 0] := hW4 ▸ hT0.keep ((Below.refl _ _).drew)
  have hX4 : BoxF W4 w2.heap.size [.int .i64 z0, .int .i64 (p : Int), .int .i64 z2] := hW4 ▸ (HN5.out.1.put 2 (by simp) (.int .i64 z2)).keep (((Below.refl _ _).alloc (Nat.le_refl _) _).drew)
  have k6 := fun W : Later W4 => (hT4.keep W.h).1 6 _ rfl
  have k7 := fun W : Later W4 => (hT4.keep W.h).1 7 _ rfl
  have l1 := fun W : Later W4 => (hX4.keep W.h).1 1 _ rfl
  have l2 := fun W : Later W4 => (hX4.keep W.h).1 2 _ rfl
  have HB4 := Lib.hid hB4
  clear hW4 hB4 hT0 hT4 hX4 v0 fv0 v1 fv1 v2 fv2
  refine wp_region_later (by kernel_rfl) (by kernel_rfl) ?_
  repeat (go_big_quiet_step (fail))
  refine wpQuiet_nil ?_
  rintro W1 ⟨⟨W9, hW⟩, rfl⟩
  clear k6 k7 l1 l2
  have hB9 : Below w2.heap.size w2 W1 := HB4.out.trans (hW.mono HB4.out.size)
  have u0 := (HR2.out.keep hB9).1 0 _ rfl
  have fu0 := (HR2.out.keep hB9).2 0 (by simp)
  have u1 := (HR2.out.keep hB9).1 1 _ rfl
  have fu1 := (HR2.out.keep hB9).2 1 (by simp)
  have u2 := (HR2.out.keep hB9).1 2 _ rfl
  have fu2 := (HR2.out.keep hB9).2 2 (by simp)
  have u3 := (HR2.out.keep hB9).1 3 _ rfl
  have fu3 := (HR2.out.keep hB9).2 3 (by simp)
  have u4 := (HR2.out.keep hB9).1 4 _ rfl
  have fu4 := (HR2.out.keep hB9).2 4 (by simp)
  have u5 := (HR2.out.keep hB9).1 5 _ rfl
  have fu5 := (HR2.out.keep hB9).2 5 (by simp)
  have u6 := (HR2.out.keep hB9).1 6 _ rfl
  have fu6 := (HR2.out.keep hB9).2 6 (by simp)
  have u7 := (HR2.out.keep hB9).1 7 _ rfl
  have fu7 := (HR2.out.keep hB9).2 7 (by simp)
  have u8 := (HR2.out.keep hB9).1 8 _ rfl
  have fu8 := (HR2.out.keep hB9).2 8 (by simp)
  have HB := Lib.hid (HB2.out.1.trans (hB9.mono HB2.out.2))
  clear hB9
  go_wp2
  refine bodyPost_ret (v := .tuple #[.agg #[.int .i64 0, .int .i64 0, .int .i64 0, .int .i64 0, .int .i64 0, .int .i64 0, .int .u32 0, .int .u32 0, .slice none 0 0], .int .i64 2]) (by simp (maxDischargeDepth := 8) [results, Tryd.results29, go_sem, *]) rfl ?_
  refine actPost_bad Ac0 none 0 0 2 rfl rfl (by decide) ?_
  · skip
    repeat (first | with_reducible refine Below.setCell ?_ (by first | exact Nat.le_refl _ | exact HB2.out.2) _ | with_reducible refine Below.drew ?_ | with_reducible refine below_drewN ?_ _)
    exact HB.out
end Go.Proofs.YtndpdonlombodaaDoor
