/- The reference's One, case by case. -/
import Derived.Test.YtndpdonlombodaaDoorWeI
import Derived.Test.YtndpdonlombodaaDoorWeB
namespace Go.Proofs.YtndpdonlombodaaDoor
open Go.RowKit Law
set_option linter.unusedVariables false
set_option linter.unusedSimpArgs false

def SplitP (N : Nat) (ws : List (List UInt8)) (w : World) (e : Ending) (w' : World) : Prop := ∃ A c, e = .returned (.slice A N c) ∧ N ≤ c ∧ RowAt w' A (strV ws) ∧ Below w.heap.size w w'
set_option maxHeartbeats 3200000 in
set_option maxRecDepth 100000 in
theorem rone_z (s : ByteArray) (w : World) (N : Nat) (ws : List (List UInt8))
    (CS : Calls Tryd.prog 28 #[.string s, .int .u8 32] (w.alloc (.cells #[.int .i64 0, .int .i64 0, .int .i64 0, .int .i64 0, .int .i64 0, .int .i64 0, .int .u32 0, .int .u32 0, .slice none 0 0] 29)) (SplitP N ws (w.alloc (.cells #[.int .i64 0, .int .i64 0, .int .i64 0, .int .i64 0, .int .i64 0, .int .i64 0, .int .u32 0, .int .u32 0, .slice none 0 0] 29))))
    (CH : ∀ W A c, RowAt W A (strV ws) → Calls Tryd.prog 41 #[.slice A N c] W (ShapePost 0 0 0 0 W)) :
    Calls Tryd.prog 29 #[.string s] w (ActPost (Ac0, 19) w) := by
  obtain ⟨hz, hsz⟩ := zero_of_info (show (Tryd.prog.info? 29).map (fun i => (i.zero, i.size)) = some (some (.agg #[.int .i64 0, .int .i64 0, .int .i64 0, .int .i64 0, .int .i64 0, .int .i64 0, .int .u32 0, .int .u32 0, .slice none 0 0]), 9) by kernel_rfl)
  have hx0 : BoxF (w.alloc (.cells #[.int .i64 0, .int .i64 0, .int .i64 0, .int .i64 0, .int .i64 0, .int .i64 0, .int .u32 0, .int .u32 0, .slice none 0 0] 29)) w.heap.size [.int .i64 0, .int .i64 0, .int .i64 0, .int .i64 0, .int .i64 0, .int .i64 0, .int .u32 0, .int .u32 0, .slice none 0 0] := boxF_made w [.int .i64 0, .int .i64 0, .int .i64 0, .int .i64 0, .int .i64 0, .int .i64 0, .int .u32 0, .int .u32 0, .slice none 0 0] 29
  have hb0 : Below w.heap.size w (w.alloc (.cells #[.int .i64 0, .int .i64 0, .int .i64 0, .int .i64 0, .int .i64 0, .int .i64 0, .int .u32 0, .int .u32 0, .slice none 0 0] 29)) := (Below.refl _ _).alloc (Nat.le_refl _) _
  have HX := Lib.hid (And.intro hx0 hb0)
  have CS := Lib.hid CS
  have CH := Lib.hid CH
  clear hx0 hb0
  go_enter Tryd.func29, Tryd.ntmps29
  go_wp2_with fail
  refine CS.out.mono ?_
  rintro e w1 ⟨A, c, rfl, hlc, hrow, hq1⟩
  have hx1 := HX.out.1.keep hq1
  have hb1 : Below w.heap.size w w1 := HX.out.2.trans (hq1.mono HX.out.2.size)
  have C2 := CH.out w1 A c hrow
  have H1 := Lib.hid (And.intro hx1 (And.intro hb1 hrow))
  clear hx1 hb1 hrow hq1
  go_wp2_with fail
  refine C2.mono ?_
  rintro e w2 ⟨rfl, hq2⟩
  clear C2
  have HB2 := Lib.hid (And.intro (H1.out.2.1.trans (hq2.mono H1.out.2.1.size)) (H1.out.2.1.trans (hq2.mono H1.out.2.1.size)).size)
  have HR2 := Lib.hid (H1.out.1.keep hq2)
  have hrow2 := H1.out.2.2.keep hq2
  clear hq2
  clear hrow2
  have u0 := HR2.out.1 0 _ rfl
  have fu0 := HR2.out.2 0 (by simp)
  have u1 := HR2.out.1 1 _ rfl
  have fu1 := HR2.out.2 1 (by simp)
  have u2 := HR2.out.1 2 _ rfl
  have fu2 := HR2.out.2 2 (by simp)
  have u3 := HR2.out.1 3 _ rfl
  have fu3 := HR2.out.2 3 (by simp)
  have u4 := HR2.out.1 4 _ rfl
  have fu4 := HR2.out.2 4 (by simp)
  have u5 := HR2.out.1 5 _ rfl
  have fu5 := HR2.out.2 5 (by simp)
  have u6 := HR2.out.1 6 _ rfl
  have fu6 := HR2.out.2 6 (by simp)
  have u7 := HR2.out.1 7 _ rfl
  have fu7 := HR2.out.2 7 (by simp)
  have u8 := HR2.out.1 8 _ rfl
  have fu8 := HR2.out.2 8 (by simp)
  have HB := Lib.hid HB2.out.1
  go_wp2
  refine bodyPost_ret (v := .tuple #[.agg #[.int .i64 0, .int .i64 0, .int .i64 0, .int .i64 0, .int .i64 0, .int .i64 0, .int .u32 0, .int .u32 0, .slice none 0 0], .int .i64 19]) (by simp (maxDischargeDepth := 8) [results, Tryd.results29, go_sem, *]) rfl ?_
  refine actPost_bad Ac0 none 0 0 19 rfl rfl (by decide) ?_
  · skip
    repeat (first | with_reducible refine Below.setCell ?_ (by first | exact Nat.le_refl _ | exact HB2.out.2) _ | with_reducible refine Below.drew ?_ | with_reducible refine below_drewN ?_ _)
    exact HB.out
set_option maxHeartbeats 3200000 in
set_option maxRecDepth 100000 in
theorem rone_len (s : ByteArray) (w : World) (N : Nat) (ws : List (List UInt8)) (K F H NN : Int) (q0 : (K == 0) = false) (q6 : (K == 6) = false) (hH : 0 ≤ H) (hH2 : H ≤ 2) (hN : 0 ≤ NN) (hN2 : NN ≤ 3) (hne : ((N : Int) != H + NN) = true)
    (CS : Calls Tryd.prog 28 #[.string s, .int .u8 32] (w.alloc (.cells #[.int .i64 0, .int .i64 0, .int .i64 0, .int .i64 0, .int .i64 0, .int .i64 0, .int .u32 0, .int .u32 0, .slice none 0 0] 29)) (SplitP N ws (w.alloc (.cells #[.int .i64 0, .int .i64 0, .int .i64 0, .int .i64 0, .int .i64 0, .int .i64 0, .int .u32 0, .int .u32 0, .slice none 0 0] 29))))
    (CH : ∀ W A c, RowAt W A (strV ws) → Calls Tryd.prog 41 #[.slice A N c] W (ShapePost K F H NN W)) :
    Calls Tryd.prog 29 #[.string s] w (ActPost (Ac0, 19) w) := by
  obtain ⟨hz, hsz⟩ := zero_of_info (show (Tryd.prog.info? 29).map (fun i => (i.zero, i.size)) = some (some (.agg #[.int .i64 0, .int .i64 0, .int .i64 0, .int .i64 0, .int .i64 0, .int .i64 0, .int .u32 0, .int .u32 0, .slice none 0 0]), 9) by kernel_rfl)
  have hx0 : BoxF (w.alloc (.cells #[.int .i64 0, .int .i64 0, .int .i64 0, .int .i64 0, .int .i64 0, .int .i64 0, .int .u32 0, .int .u32 0, .slice none 0 0] 29)) w.heap.size [.int .i64 0, .int .i64 0, .int .i64 0, .int .i64 0, .int .i64 0, .int .i64 0, .int .u32 0, .int .u32 0, .slice none 0 0] := boxF_made w [.int .i64 0, .int .i64 0, .int .i64 0, .int .i64 0, .int .i64 0, .int .i64 0, .int .u32 0, .int .u32 0, .slice none 0 0] 29
  have hb0 : Below w.heap.size w (w.alloc (.cells #[.int .i64 0, .int .i64 0, .int .i64 0, .int .i64 0, .int .i64 0, .int .i64 0, .int .u32 0, .int .u32 0, .slice none 0 0] 29)) := (Below.refl _ _).alloc (Nat.le_refl _) _
  have HX := Lib.hid (And.intro hx0 hb0)
  have CS := Lib.hid CS
  have CH := Lib.hid CH
  clear hx0 hb0
  go_enter Tryd.func29, Tryd.ntmps29
  go_wp2_with fail
  refine CS.out.mono ?_
  rintro e w1 ⟨A, c, rfl, hlc, hrow, hq1⟩
  have hx1 := HX.out.1.keep hq1
  have hb1 : Below w.heap.size w w1 := HX.out.2.trans (hq1.mono HX.out.2.size)
  have C2 := CH.out w1 A c hrow
  have H1 := Lib.hid (And.intro hx1 (And.intro hb1 hrow))
  clear hx1 hb1 hrow hq1
  go_wp2_with fail
  refine C2.mono ?_
  rintro e w2 ⟨rfl, hq2⟩
  clear C2
  have HB2 := Lib.hid (And.intro (H1.out.2.1.trans (hq2.mono H1.out.2.1.size)) (H1.out.2.1.trans (hq2.mono H1.out.2.1.size)).size)
  have HR2 := Lib.hid (H1.out.1.keep hq2)
  have hrow2 := H1.out.2.2.keep hq2
  clear hq2
  clear hrow2
  have u0 := HR2.out.1 0 _ rfl
  have fu0 := HR2.out.2 0 (by simp)
  have u1 := HR2.out.1 1 _ rfl
  have fu1 := HR2.out.2 1 (by simp)
  have u2 := HR2.out.1 2 _ rfl
  have fu2 := HR2.out.2 2 (by simp)
  have u3 := HR2.out.1 3 _ rfl
  have fu3 := HR2.out.2 3 (by simp)
  have u4 := HR2.out.1 4 _ rfl
  have fu4 := HR2.out.2 4 (by simp)
  have u5 := HR2.out.1 5 _ rfl
  have fu5 := HR2.out.2 5 (by simp)
  have u6 := HR2.out.1 6 _ rfl
  have fu6 := HR2.out.2 6 (by simp)
  have u7 := HR2.out.1 7 _ rfl
  have fu7 := HR2.out.2 7 (by simp)
  have u8 := HR2.out.1 8 _ rfl
  have fu8 := HR2.out.2 8 (by simp)
  have HB := Lib.hid HB2.out.1
  go_wp2
  refine bodyPost_ret (v := .tuple #[.agg #[.int .i64 0, .int .i64 0, .int .i64 0, .int .i64 0, .int .i64 0, .int .i64 0, .int .u32 0, .int .u32 0, .slice none 0 0], .int .i64 19]) (by simp (maxDischargeDepth := 8) [results, Tryd.results29, go_sem, *]) rfl ?_
  refine actPost_bad Ac0 none 0 0 19 rfl rfl (by decide) ?_
  · skip
    repeat (first | with_reducible refine Below.setCell ?_ (by first | exact Nat.le_refl _ | exact HB2.out.2) _ | with_reducible refine Below.drew ?_ | with_reducible refine below_drewN ?_ _)
    exact HB.out
set_option maxHeartbeats 3200000 in
set_option maxRecDepth 100000 in
theorem rone_len6 (s : ByteArray) (w : World) (N : Nat) (ws : List (List UInt8)) (F H NN : Int) (hH : 0 ≤ H) (hH2 : H ≤ 2) (hN : 0 ≤ NN) (hN2 : NN ≤ 3) (hne : ((N : Int) != H + NN) = true) (q3 : ((N : Int) == 3) = false)
    (CS : Calls Tryd.prog 28 #[.string s, .int .u8 32] (w.alloc (.cells #[.int .i64 0, .int .i64 0, .int .i64 0, .int .i64 0, .int .i64 0, .int .i64 0, .int .u32 0, .int .u32 0, .slice none 0 0] 29)) (SplitP N ws (w.alloc (.cells #[.int .i64 0, .int .i64 0, .int .i64 0, .int .i64 0, .int .i64 0, .int .i64 0, .int .u32 0, .int .u32 0, .slice none 0 0] 29))))
    (CH : ∀ W A c, RowAt W A (strV ws) → Calls Tryd.prog 41 #[.slice A N c] W (ShapePost 6 F H NN W)) :
    Calls Tryd.prog 29 #[.string s] w (ActPost (Ac0, 19) w) := by
  obtain ⟨hz, hsz⟩ := zero_of_info (show (Tryd.prog.info? 29).map (fun i => (i.zero, i.size)) = some (some (.agg #[.int .i64 0, .int .i64 0, .int .i64 0, .int .i64 0, .int .i64 0, .int .i64 0, .int .u32 0, .int .u32 0, .slice none 0 0]), 9) by kernel_rfl)
  have hx0 : BoxF (w.alloc (.cells #[.int .i64 0, .int .i64 0, .int .i64 0, .int .i64 0, .int .i64 0, .int .i64 0, .int .u32 0, .int .u32 0, .slice none 0 0] 29)) w.heap.size [.int .i64 0, .int .i64 0, .int .i64 0, .int .i64 0, .int .i64 0, .int .i64 0, .int .u32 0, .int .u32 0, .slice none 0 0] := boxF_made w [.int .i64 0, .int .i64 0, .int .i64 0, .int .i64 0, .int .i64 0, .int .i64 0, .int .u32 0, .int .u32 0, .slice none 0 0] 29
  have hb0 : Below w.heap.size w (w.alloc (.cells #[.int .i64 0, .int .i64 0, .int .i64 0, .int .i64 0, .int .i64 0, .int .i64 0, .int .u32 0, .int .u32 0, .slice none 0 0] 29)) := (Below.refl _ _).alloc (Nat.le_refl _) _
  have HX := Lib.hid (And.intro hx0 hb0)
  have CS := Lib.hid CS
  have CH := Lib.hid CH
  clear hx0 hb0
  go_enter Tryd.func29, Tryd.ntmps29
  go_wp2_with fail
  refine CS.out.mono ?_
  rintro e w1 ⟨A, c, rfl, hlc, hrow, hq1⟩
  have hx1 := HX.out.1.keep hq1
  have hb1 : Below w.heap.size w w1 := HX.out.2.trans (hq1.mono HX.out.2.size)
  have C2 := CH.out w1 A c hrow
  have H1 := Lib.hid (And.intro hx1 (And.intro hb1 hrow))
  clear hx1 hb1 hrow hq1
  go_wp2_with fail
  refine C2.mono ?_
  rintro e w2 ⟨rfl, hq2⟩
  clear C2
  have HB2 := Lib.hid (And.intro (H1.out.2.1.trans (hq2.mono H1.out.2.1.size)) (H1.out.2.1.trans (hq2.mono H1.out.2.1.size)).size)
  have HR2 := Lib.hid (H1.out.1.keep hq2)
  have hrow2 := H1.out.2.2.keep hq2
  clear hq2
  clear hrow2
  have u0 := HR2.out.1 0 _ rfl
  have fu0 := HR2.out.2 0 (by simp)
  have u1 := HR2.out.1 1 _ rfl
  have fu1 := HR2.out.2 1 (by simp)
  have u2 := HR2.out.1 2 _ rfl
  have fu2 := HR2.out.2 2 (by simp)
  have u3 := HR2.out.1 3 _ rfl
  have fu3 := HR2.out.2 3 (by simp)
  have u4 := HR2.out.1 4 _ rfl
  have fu4 := HR2.out.2 4 (by simp)
  have u5 := HR2.out.1 5 _ rfl
  have fu5 := HR2.out.2 5 (by simp)
  have u6 := HR2.out.1 6 _ rfl
  have fu6 := HR2.out.2 6 (by simp)
  have u7 := HR2.out.1 7 _ rfl
  have fu7 := HR2.out.2 7 (by simp)
  have u8 := HR2.out.1 8 _ rfl
  have fu8 := HR2.out.2 8 (by simp)
  have HB := Lib.hid HB2.out.1
  go_wp2
  refine bodyPost_ret (v := .tuple #[.agg #[.int .i64 0, .int .i64 0, .int .i64 0, .int .i64 0, .int .i64 0, .int .i64 0, .int .u32 0, .int .u32 0, .slice none 0 0], .int .i64 19]) (by simp (maxDischargeDepth := 8) [results, Tryd.results29, go_sem, *]) rfl ?_
  refine actPost_bad Ac0 none 0 0 19 rfl rfl (by decide) ?_
  · skip
    repeat (first | with_reducible refine Below.setCell ?_ (by first | exact Nat.le_refl _ | exact HB2.out.2) _ | with_reducible refine Below.drew ?_ | with_reducible refine below_drewN ?_ _)
    exact HB.out
set_option maxHeartbeats 3200000 in
set_option maxRecDepth 100000 in
theorem rone_k1_b0 (s : ByteArray) (w : World) (a0 a1 : List UInt8) (CN0 : ∀ W, Calls Tryd.prog 42 #[.string ⟨a1.toArray⟩] W (NumPost none W))
    (CS : Calls Tryd.prog 28 #[.string s, .int .u8 32] (w.alloc (.cells #[.int .i64 0, .int .i64 0, .int .i64 0, .int .i64 0, .int .i64 0, .int .i64 0, .int .u32 0, .int .u32 0, .slice none 0 0] 29)) (SplitP 2 [a0, a1] (w.alloc (.cells #[.int .i64 0, .int .i64 0, .int .i64 0, .int .i64 0, .int .i64 0, .int .i64 0, .int .u32 0, .int .u32 0, .slice none 0 0] 29))))
    (CH : ∀ W A c, RowAt W A (strV [a0, a1]) → Calls Tryd.prog 41 #[.slice A 2 c] W (ShapePost 1 0 1 1 W)) :
    Calls Tryd.prog 29 #[.string s] w (ActPost (Ac0, 5) w) := by
  obtain ⟨hz, hsz⟩ := zero_of_info (show (Tryd.prog.info? 29).map (fun i => (i.zero, i.size)) = some (some (.agg #[.int .i64 0, .int .i64 0, .int .i64 0, .int .i64 0, .int .i64 0, .int .i64 0, .int .u32 0, .int .u32 0, .slice none 0 0]), 9) by kernel_rfl)
  unfold NumPost at CN0
  have hx0 : BoxF (w.alloc (.cells #[.int .i64 0, .int .i64 0, .int .i64 0, .int .i64 0, .int .i64 0, .int .i64 0, .int .u32 0, .int .u32 0, .slice none 0 0] 29)) w.heap.size [.int .i64 0, .int .i64 0, .int .i64 0, .int .i64 0, .int .i64 0, .int .i64 0, .int .u32 0, .int .u32 0, .slice none 0 0] := boxF_made w [.int .i64 0, .int .i64 0, .int .i64 0, .int .i64 0, .int .i64 0, .int .i64 0, .int .u32 0, .int .u32 0, .slice none 0 0] 29
  have hb0 : Below w.heap.size w (w.alloc (.cells #[.int .i64 0, .int .i64 0, .int .i64 0, .int .i64 0, .int .i64 0, .int .i64 0, .int .u32 0, .int .u32 0, .slice none 0 0] 29)) := (Below.refl _ _).alloc (Nat.le_refl _) _
  have HX := Lib.hid (And.intro hx0 hb0)
  have CS := Lib.hid CS
  have CH := Lib.hid CH
  clear hx0 hb0
  go_enter Tryd.func29, Tryd.ntmps29
  go_wp2_with fail
  refine CS.out.mono ?_
  rintro e w1 ⟨A, c, rfl, hlc, hrow, hq1⟩
  have hx1 := HX.out.1.keep hq1
  have hb1 : Below w.heap.size w w1 := HX.out.2.trans (hq1.mono HX.out.2.size)
  have C2 := CH.out w1 A c hrow
  have H1 := Lib.hid (And.intro hx1 (And.intro hb1 hrow))
  clear hx1 hb1 hrow hq1
  go_wp2_with fail
  refine C2.mono ?_
  rintro e w2 ⟨rfl, hq2⟩
  clear C2
  have HB2 := Lib.hid (And.intro (H1.out.2.1.trans (hq2.mono H1.out.2.1.size)) (H1.out.2.1.trans (hq2.mono H1.out.2.1.size)).size)
  have HR2 := Lib.hid (H1.out.1.keep hq2)
  have hrow2 := H1.out.2.2.keep hq2
  clear hq2
  obtain ⟨blk, off, rfl, hc0⟩ := hrow2 0 _ rfl
  have hc1 : w2.cell? ⟨blk, off + 1, none⟩ = _ := (by
    obtain ⟨b3, o3, he, hc⟩ := hrow2 1 _ rfl
    injection he with he
    injection he with h1 h2 h3
    subst h1 h2
    exact hc)
  simp only [Nat.add_zero] at hc0
  have hlt2 := World.block_lt_of_cell? _ _ hc0
  simp only at hlt2
  have HK : Hid (∀ W, Below w2.heap.size w2 W → W.cell? ⟨blk, off, none⟩ = some (.string ⟨a0.toArray⟩) ∧ W.cell? ⟨blk, off + 1, none⟩ = some (.string ⟨a1.toArray⟩)) := fun W hW => ⟨(hW.cell (p := ⟨blk, off, none⟩) hlt2).trans hc0, (hW.cell (p := ⟨blk, off + 1, none⟩) hlt2).trans hc1⟩
  clear hrow2
  go_wp2_with fail
  refine wp_loop_rounds 3 ?_
  rw [rounds_succ]
  go_wp2_with fail
  refine (CN0 _).mono ?_
  rintro e w3 ⟨⟨mm, rfl⟩, hq⟩
  have hX3 : BoxF w3 w2.heap.size [.int .i64 0, .int .i64 0, .int .i64 0] := (boxF_made w2 [.int .i64 0, .int .i64 0, .int .i64 0] 2).keep hq
  have hB3 : Below w2.heap.size w2 w3 := ((Below.refl _ _).alloc (Nat.le_refl _) (.cells #[.int .i64 0, .int .i64 0, .int .i64 0] 2)).trans (hq.mono (by simp))
  have HN3 := Lib.hid (And.intro hX3 hB3)
  clear hq hX3 hB3
  have hz3 : w2.heap.size < w3.heap.size := World.block_lt_of_cell? _ _ (HN3.out.1.1 0 _ rfl)
  have v0 := HN3.out.1.1 0 _ rfl
  have fv0 := HN3.out.1.2 0 (by simp)
  have v1 := HN3.out.1.1 1 _ rfl
  have fv1 := HN3.out.1.2 1 (by simp)
  have v2 := HN3.out.1.1 2 _ rfl
  have fv2 := HN3.out.1.2 2 (by simp)
  have u0 := (HR2.out.keep HN3.out.2).1 0 _ rfl
  have fu0 := (HR2.out.keep HN3.out.2).2 0 (by simp)
  have u1 := (HR2.out.keep HN3.out.2).1 1 _ rfl
  have fu1 := (HR2.out.keep HN3.out.2).2 1 (by simp)
  have u2 := (HR2.out.keep HN3.out.2).1 2 _ rfl
  have fu2 := (HR2.out.keep HN3.out.2).2 2 (by simp)
  have u3 := (HR2.out.keep HN3.out.2).1 3 _ rfl
  have fu3 := (HR2.out.keep HN3.out.2).2 3 (by simp)
  have u4 := (HR2.out.keep HN3.out.2).1 4 _ rfl
  have fu4 := (HR2.out.keep HN3.out.2).2 4 (by simp)
  have u5 := (HR2.out.keep HN3.out.2).1 5 _ rfl
  have fu5 := (HR2.out.keep HN3.out.2).2 5 (by simp)
  have u6 := (HR2.out.keep HN3.out.2).1 6 _ rfl
  have fu6 := (HR2.out.keep HN3.out.2).2 6 (by simp)
  have u7 := (HR2.out.keep HN3.out.2).1 7 _ rfl
  have fu7 := (HR2.out.keep HN3.out.2).2 7 (by simp)
  have u8 := (HR2.out.keep HN3.out.2).1 8 _ rfl
  have fu8 := (HR2.out.keep HN3.out.2).2 8 (by simp)
  have HB := Lib.hid (HB2.out.1.trans (HN3.out.2.mono HB2.out.2))
  go_wp2
  refine bodyPost_ret (v := .tuple #[.agg #[.int .i64 0, .int .i64 0, .int .i64 0, .int .i64 0, .int .i64 0, .int .i64 0, .int .u32 0, .int .u32 0, .slice none 0 0], .int .i64 5]) (by simp (maxDischargeDepth := 8) [results, Tryd.results29, go_sem, *]) rfl ?_
  refine actPost_bad Ac0 none 0 0 5 rfl rfl (by decide) ?_
  · skip
    repeat (first | with_reducible refine Below.setCell ?_ (by first | exact Nat.le_refl _ | exact HB2.out.2) _ | with_reducible refine Below.drew ?_ | with_reducible refine below_drewN ?_ _)
    exact HB.out
set_option maxHeartbeats 3200000 in
set_option maxRecDepth 100000 in
theorem rone_k1_ok (s : ByteArray) (w : World) (a0 a1 : List UInt8) (z0 : Int) (CN0 : ∀ W, Calls Tryd.prog 42 #[.string ⟨a1.toArray⟩] W (NumPost (some z0) W)) (hvg : goodA ⟨1, 0, z0, Fa0, []⟩ = true)
    (CS : Calls Tryd.prog 28 #[.string s, .int .u8 32] (w.alloc (.cells #[.int .i64 0, .int .i64 0, .int .i64 0, .int .i64 0, .int .i64 0, .int .i64 0, .int .u32 0, .int .u32 0, .slice none 0 0] 29)) (SplitP 2 [a0, a1] (w.alloc (.cells #[.int .i64 0, .int .i64 0, .int .i64 0, .int .i64 0, .int .i64 0, .int .i64 0, .int .u32 0, .int .u32 0, .slice none 0 0] 29))))
    (CH : ∀ W A c, RowAt W A (strV [a0, a1]) → Calls Tryd.prog 41 #[.slice A 2 c] W (ShapePost 1 0 1 1 W)) :
    Calls Tryd.prog 29 #[.string s] w (ActPost (⟨1, 0, z0, Fa0, []⟩, 0) w) := by
  obtain ⟨hz, hsz⟩ := zero_of_info (show (Tryd.prog.info? 29).map (fun i => (i.zero, i.size)) = some (some (.agg #[.int .i64 0, .int .i64 0, .int .i64 0, .int .i64 0, .int .i64 0, .int .i64 0, .int .u32 0, .int .u32 0, .slice none 0 0]), 9) by kernel_rfl)
  unfold NumPost at CN0
  have CG : ∀ W, Calls Tryd.prog 16 #[.agg #[.int .i64 1, .int .i64 0, .int .i64 z0, .int .i64 0, .int .i64 0, .int .i64 0, .int .u32 0, .int .u32 0, .slice none 0 0]] W fun e w' => e = .returned (.bool true) ∧ Below W.heap.size W w' := fun W => refGoodV ⟨1, 0, z0, Fa0, []⟩ none 0 0 true hvg W (U8At.nil _ _) rfl
  have CG := Lib.hid CG
  clear hvg
  have hx0 : BoxF (w.alloc (.cells #[.int .i64 0, .int .i64 0, .int .i64 0, .int .i64 0, .int .i64 0, .int .i64 0, .int .u32 0, .int .u32 0, .slice none 0 0] 29)) w.heap.size [.int .i64 0, .int .i64 0, .int .i64 0, .int .i64 0, .int .i64 0, .int .i64 0, .int .u32 0, .int .u32 0, .slice none 0 0] := boxF_made w [.int .i64 0, .int .i64 0, .int .i64 0, .int .i64 0, .int .i64 0, .int .i64 0, .int .u32 0, .int .u32 0, .slice none 0 0] 29
  have hb0 : Below w.heap.size w (w.alloc (.cells #[.int .i64 0, .int .i64 0, .int .i64 0, .int .i64 0, .int .i64 0, .int .i64 0, .int .u32 0, .int .u32 0, .slice none 0 0] 29)) := (Below.refl _ _).alloc (Nat.le_refl _) _
  have HX := Lib.hid (And.intro hx0 hb0)
  have CS := Lib.hid CS
  have CH := Lib.hid CH
  clear hx0 hb0
  go_enter Tryd.func29, Tryd.ntmps29
  go_wp2_with fail
  refine CS.out.mono ?_
  rintro e w1 ⟨A, c, rfl, hlc, hrow, hq1⟩
  have hx1 := HX.out.1.keep hq1
  have hb1 : Below w.heap.size w w1 := HX.out.2.trans (hq1.mono HX.out.2.size)
  have C2 := CH.out w1 A c hrow
  have H1 := Lib.hid (And.intro hx1 (And.intro hb1 hrow))
  clear hx1 hb1 hrow hq1
  go_wp2_with fail
  refine C2.mono ?_
  rintro e w2 ⟨rfl, hq2⟩
  clear C2
  have HB2 := Lib.hid (And.intro (H1.out.2.1.trans (hq2.mono H1.out.2.1.size)) (H1.out.2.1.trans (hq2.mono H1.out.2.1.size)).size)
  have HR2 := Lib.hid (H1.out.1.keep hq2)
  have hrow2 := H1.out.2.2.keep hq2
  clear hq2
  obtain ⟨blk, off, rfl, hc0⟩ := hrow2 0 _ rfl
  have hc1 : w2.cell? ⟨blk, off + 1, none⟩ = _ := (by
    obtain ⟨b3, o3, he, hc⟩ := hrow2 1 _ rfl
    injection he with he
    injection he with h1 h2 h3
    subst h1 h2
    exact hc)
  simp only [Nat.add_zero] at hc0
  have hlt2 := World.block_lt_of_cell? _ _ hc0
  simp only at hlt2
  have HK : Hid (∀ W, Below w2.heap.size w2 W → W.cell? ⟨blk, off, none⟩ = some (.string ⟨a0.toArray⟩) ∧ W.cell? ⟨blk, off + 1, none⟩ = some (.string ⟨a1.toArray⟩)) := fun W hW => ⟨(hW.cell (p := ⟨blk, off, none⟩) hlt2).trans hc0, (hW.cell (p := ⟨blk, off + 1, none⟩) hlt2).trans hc1⟩
  clear hrow2
  go_wp2_with fail
  refine wp_loop_rounds 3 ?_
  rw [rounds_succ]
  go_wp2_with fail
  refine (CN0 _).mono ?_
  rintro e w3 ⟨rfl, hq⟩
  have hX3 : BoxF w3 w2.heap.size [.int .i64 0, .int .i64 0, .int .i64 0] := (boxF_made w2 [.int .i64 0, .int .i64 0, .int .i64 0] 2).keep hq
  have hB3 : Below w2.heap.size w2 w3 := ((Below.refl _ _).alloc (Nat.le_refl _) (.cells #[.int .i64 0, .int .i64 0, .int .i64 0] 2)).trans (hq.mono (by simp))
  have HN3 := Lib.hid (And.intro hX3 hB3)
  clear hq hX3 hB3
  have hz3 : w2.heap.size < w3.heap.size := World.block_lt_of_cell? _ _ (HN3.out.1.1 0 _ rfl)
  have v0 := HN3.out.1.1 0 _ rfl
  have fv0 := HN3.out.1.2 0 (by simp)
  have v1 := HN3.out.1.1 1 _ rfl
  have fv1 := HN3.out.1.2 1 (by simp)
  have v2 := HN3.out.1.1 2 _ rfl
  have fv2 := HN3.out.1.2 2 (by simp)
  clear hc0 hc1
  go_wp2_with fail
  rw [rounds_succ]
  go_wp2_with fail
  refine (CG.out _).mono ?_
  rintro e w9 ⟨rfl, hq⟩
  have hT : BoxF w9 (w3.setCell ⟨w2.heap.size, 0, none⟩ (.int .i64 z0)).heap.size [.int .i64 1, .int .i64 0, .int .i64 z0, .int .i64 0, .int .i64 0, .int .i64 0, .int .u32 0, .int .u32 0, .slice none 0 0] := (boxF_made _ [.int .i64 1, .int .i64 0, .int .i64 z0, .int .i64 0, .int .i64 0, .int .i64 0, .int .u32 0, .int .u32 0, .slice none 0 0] 29).keep hq
  rw [show (w3.setCell ⟨w2.heap.size, 0, none⟩ (.int .i64 z0)).heap.size = w3.heap.size by simp] at hT
  have hB9 : Below w2.heap.size w2 w9 := ((HN3.out.2.setCell (p := ⟨w2.heap.size, 0, none⟩) (Nat.le_refl _) (.int .i64 z0)).alloc (by simp; omega) (.cells #[.int .i64 1, .int .i64 0, .int .i64 z0, .int .i64 0, .int .i64 0, .int .i64 0, .int .u32 0, .int .u32 0, .slice none 0 0] 29)).trans (hq.mono (by simp; omega))
  have t0 := hT.1 0 _ rfl
  have t1 := hT.1 1 _ rfl
  have t2 := hT.1 2 _ rfl
  have t3 := hT.1 3 _ rfl
  have t4 := hT.1 4 _ rfl
  have t5 := hT.1 5 _ rfl
  have t6 := hT.1 6 _ rfl
  have t7 := hT.1 7 _ rfl
  have t8 := hT.1 8 _ rfl
  clear v0 fv0 v1 fv1 v2 fv2
  have u0 := (HR2.out.keep hB9).1 0 _ rfl
  have fu0 := (HR2.out.keep hB9).2 0 (by simp)
  have u1 := (HR2.out.keep hB9).1 1 _ rfl
  have fu1 := (HR2.out.keep hB9).2 1 (by simp)
  have u2 := (HR2.out.keep hB9).1 2 _ rfl
  have fu2 := (HR2.out.keep hB9).2 2 (by simp)
  have u3 := (HR2.out.keep hB9).1 3 _ rfl
  have fu3 := (HR2.out.keep hB9).2 3 (by simp)
  have u4 := (HR2.out.keep hB9).1 4 _ rfl
  have fu4 := (HR2.out.keep hB9).2 4 (by simp)
  have u5 := (HR2.out.keep hB9).1 5 _ rfl
  have fu5 := (HR2.out.keep hB9).2 5 (by simp)
  have u6 := (HR2.out.keep hB9).1 6 _ rfl
  have fu6 := (HR2.out.keep hB9).2 6 (by simp)
  have u7 := (HR2.out.keep hB9).1 7 _ rfl
  have fu7 := (HR2.out.keep hB9).2 7 (by simp)
  have u8 := (HR2.out.keep hB9).1 8 _ rfl
  have fu8 := (HR2.out.keep hB9).2 8 (by simp)
  have HB := Lib.hid (HB2.out.1.trans (hB9.mono HB2.out.2))
  clear hq hT hB9
  go_wp2
  refine bodyPost_ret (v := .tuple #[.agg #[.int .i64 1, .int .i64 0, .int .i64 z0, .int .i64 0, .int .i64 0, .int .i64 0, .int .u32 0, .int .u32 0, .slice none 0 0], .int .i64 0]) (by simp (maxDischargeDepth := 8) [results, Tryd.results29, go_sem, *]) rfl ?_
  refine actPost_ok ⟨1, 0, z0, Fa0, []⟩ none 0 0 rfl rfl rfl rfl (own_nil _ _) ?_
  · skip
    repeat (first | with_reducible refine Below.setCell ?_ (by first | exact Nat.le_refl _ | exact HB2.out.2) _ | with_reducible refine Below.drew ?_ | with_reducible refine below_drewN ?_ _)
    exact HB.out
set_option maxHeartbeats 3200000 in
set_option maxRecDepth 100000 in
theorem rone_k1_ng (s : ByteArray) (w : World) (a0 a1 : List UInt8) (z0 : Int) (CN0 : ∀ W, Calls Tryd.prog 42 #[.string ⟨a1.toArray⟩] W (NumPost (some z0) W)) (hvg : goodA ⟨1, 0, z0, Fa0, []⟩ = false)
    (CS : Calls Tryd.prog 28 #[.string s, .int .u8 32] (w.alloc (.cells #[.int .i64 0, .int .i64 0, .int .i64 0, .int .i64 0, .int .i64 0, .int .i64 0, .int .u32 0, .int .u32 0, .slice none 0 0] 29)) (SplitP 2 [a0, a1] (w.alloc (.cells #[.int .i64 0, .int .i64 0, .int .i64 0, .int .i64 0, .int .i64 0, .int .i64 0, .int .u32 0, .int .u32 0, .slice none 0 0] 29))))
    (CH : ∀ W A c, RowAt W A (strV [a0, a1]) → Calls Tryd.prog 41 #[.slice A 2 c] W (ShapePost 1 0 1 1 W)) :
    Calls Tryd.prog 29 #[.string s] w (ActPost (Ac0, 2) w) := by
  obtain ⟨hz, hsz⟩ := zero_of_info (show (Tryd.prog.info? 29).map (fun i => (i.zero, i.size)) = some (some (.agg #[.int .i64 0, .int .i64 0, .int .i64 0, .int .i64 0, .int .i64 0, .int .i64 0, .int .u32 0, .int .u32 0, .slice none 0 0]), 9) by kernel_rfl)
  unfold NumPost at CN0
  have CG : ∀ W, Calls Tryd.prog 16 #[.agg #[.int .i64 1, .int .i64 0, .int .i64 z0, .int .i64 0, .int .i64 0, .int .i64 0, .int .u32 0, .int .u32 0, .slice none 0 0]] W fun e w' => e = .returned (.bool false) ∧ Below W.heap.size W w' := fun W => refGoodV ⟨1, 0, z0, Fa0, []⟩ none 0 0 false hvg W (U8At.nil _ _) rfl
  have CG := Lib.hid CG
  clear hvg
  have hx0 : BoxF (w.alloc (.cells #[.int .i64 0, .int .i64 0, .int .i64 0, .int .i64 0, .int .i64 0, .int .i64 0, .int .u32 0, .int .u32 0, .slice none 0 0] 29)) w.heap.size [.int .i64 0, .int .i64 0, .int .i64 0, .int .i64 0, .int .i64 0, .int .i64 0, .int .u32 0, .int .u32 0, .slice none 0 0] := boxF_made w [.int .i64 0, .int .i64 0, .int .i64 0, .int .i64 0, .int .i64 0, .int .i64 0, .int .u32 0, .int .u32 0, .slice none 0 0] 29
  have hb0 : Below w.heap.size w (w.alloc (.cells #[.int .i64 0, .int .i64 0, .int .i64 0, .int .i64 0, .int .i64 0, .int .i64 0, .int .u32 0, .int .u32 0, .slice none 0 0] 29)) := (Below.refl _ _).alloc (Nat.le_refl _) _
  have HX := Lib.hid (And.intro hx0 hb0)
  have CS := Lib.hid CS
  have CH := Lib.hid CH
  clear hx0 hb0
  go_enter Tryd.func29, Tryd.ntmps29
  go_wp2_with fail
  refine CS.out.mono ?_
  rintro e w1 ⟨A, c, rfl, hlc, hrow, hq1⟩
  have hx1 := HX.out.1.keep hq1
  have hb1 : Below w.heap.size w w1 := HX.out.2.trans (hq1.mono HX.out.2.size)
  have C2 := CH.out w1 A c hrow
  have H1 := Lib.hid (And.intro hx1 (And.intro hb1 hrow))
  clear hx1 hb1 hrow hq1
  go_wp2_with fail
  refine C2.mono ?_
  rintro e w2 ⟨rfl, hq2⟩
  clear C2
  have HB2 := Lib.hid (And.intro (H1.out.2.1.trans (hq2.mono H1.out.2.1.size)) (H1.out.2.1.trans (hq2.mono H1.out.2.1.size)).size)
  have HR2 := Lib.hid (H1.out.1.keep hq2)
  have hrow2 := H1.out.2.2.keep hq2
  clear hq2
  obtain ⟨blk, off, rfl, hc0⟩ := hrow2 0 _ rfl
  have hc1 : w2.cell? ⟨blk, off + 1, none⟩ = _ := (by
    obtain ⟨b3, o3, he, hc⟩ := hrow2 1 _ rfl
    injection he with he
    injection he with h1 h2 h3
    subst h1 h2
    exact hc)
  simp only [Nat.add_zero] at hc0
  have hlt2 := World.block_lt_of_cell? _ _ hc0
  simp only at hlt2
  have HK : Hid (∀ W, Below w2.heap.size w2 W → W.cell? ⟨blk, off, none⟩ = some (.string ⟨a0.toArray⟩) ∧ W.cell? ⟨blk, off + 1, none⟩ = some (.string ⟨a1.toArray⟩)) := fun W hW => ⟨(hW.cell (p := ⟨blk, off, none⟩) hlt2).trans hc0, (hW.cell (p := ⟨blk, off + 1, none⟩) hlt2).trans hc1⟩
  clear hrow2
  go_wp2_with fail
  refine wp_loop_rounds 3 ?_
  rw [rounds_succ]
  go_wp2_with fail
  refine (CN0 _).mono ?_
  rintro e w3 ⟨rfl, hq⟩
  have hX3 : BoxF w3 w2.heap.size [.int .i64 0, .int .i64 0, .int .i64 0] := (boxF_made w2 [.int .i64 0, .int .i64 0, .int .i64 0] 2).keep hq
  have hB3 : Below w2.heap.size w2 w3 := ((Below.refl _ _).alloc (Nat.le_refl _) (.cells #[.int .i64 0, .int .i64 0, .int .i64 0] 2)).trans (hq.mono (by simp))
  have HN3 := Lib.hid (And.intro hX3 hB3)
  clear hq hX3 hB3
  have hz3 : w2.heap.size < w3.heap.size := World.block_lt_of_cell? _ _ (HN3.out.1.1 0 _ rfl)
  have v0 := HN3.out.1.1 0 _ rfl
  have fv0 := HN3.out.1.2 0 (by simp)
  have v1 := HN3.out.1.1 1 _ rfl
  have fv1 := HN3.out.1.2 1 (by simp)
  have v2 := HN3.out.1.1 2 _ rfl
  have fv2 := HN3.out.1.2 2 (by simp)
  clear hc0 hc1
  go_wp2_with fail
  rw [rounds_succ]
  go_wp2_with fail
  refine (CG.out _).mono ?_
  rintro e w9 ⟨rfl, hq⟩
  have hT : BoxF w9 (w3.setCell ⟨w2.heap.size, 0, none⟩ (.int .i64 z0)).heap.size [.int .i64 1, .int .i64 0, .int .i64 z0, .int .i64 0, .int .i64 0, .int .i64 0, .int .u32 0, .int .u32 0, .slice none 0 0] := (boxF_made _ [.int .i64 1, .int .i64 0, .int .i64 z0, .int .i64 0, .int .i64 0, .int .i64 0, .int .u32 0, .int .u32 0, .slice none 0 0] 29).keep hq
  rw [show (w3.setCell ⟨w2.heap.size, 0, none⟩ (.int .i64 z0)).heap.size = w3.heap.size by simp] at hT
  have hB9 : Below w2.heap.size w2 w9 := ((HN3.out.2.setCell (p := ⟨w2.heap.size, 0, none⟩) (Nat.le_refl _) (.int .i64 z0)).alloc (by simp; omega) (.cells #[.int .i64 1, .int .i64 0, .int .i64 z0, .int .i64 0, .int .i64 0, .int .i64 0, .int .u32 0, .int .u32 0, .slice none 0 0] 29)).trans (hq.mono (by simp; omega))
  have t0 := hT.1 0 _ rfl
  have t1 := hT.1 1 _ rfl
  have t2 := hT.1 2 _ rfl
  have t3 := hT.1 3 _ rfl
  have t4 := hT.1 4 _ rfl
  have t5 := hT.1 5 _ rfl
  have t6 := hT.1 6 _ rfl
  have t7 := hT.1 7 _ rfl
  have t8 := hT.1 8 _ rfl
  clear v0 fv0 v1 fv1 v2 fv2
  have u0 := (HR2.out.keep hB9).1 0 _ rfl
  have fu0 := (HR2.out.keep hB9).2 0 (by simp)
  have u1 := (HR2.out.keep hB9).1 1 _ rfl
  have fu1 := (HR2.out.keep hB9).2 1 (by simp)
  have u2 := (HR2.out.keep hB9).1 2 _ rfl
  have fu2 := (HR2.out.keep hB9).2 2 (by simp)
  have u3 := (HR2.out.keep hB9).1 3 _ rfl
  have fu3 := (HR2.out.keep hB9).2 3 (by simp)
  have u4 := (HR2.out.keep hB9).1 4 _ rfl
  have fu4 := (HR2.out.keep hB9).2 4 (by simp)
  have u5 := (HR2.out.keep hB9).1 5 _ rfl
  have fu5 := (HR2.out.keep hB9).2 5 (by simp)
  have u6 := (HR2.out.keep hB9).1 6 _ rfl
  have fu6 := (HR2.out.keep hB9).2 6 (by simp)
  have u7 := (HR2.out.keep hB9).1 7 _ rfl
  have fu7 := (HR2.out.keep hB9).2 7 (by simp)
  have u8 := (HR2.out.keep hB9).1 8 _ rfl
  have fu8 := (HR2.out.keep hB9).2 8 (by simp)
  have HB := Lib.hid (HB2.out.1.trans (hB9.mono HB2.out.2))
  clear hq hT hB9
  go_wp2
  refine bodyPost_ret (v := .tuple #[.agg #[.int .i64 0, .int .i64 0, .int .i64 0, .int .i64 0, .int .i64 0, .int .i64 0, .int .u32 0, .int .u32 0, .slice none 0 0], .int .i64 2]) (by simp (maxDischargeDepth := 8) [results, Tryd.results29, go_sem, *]) rfl ?_
  refine actPost_bad Ac0 none 0 0 2 rfl rfl (by decide) ?_
  · skip
    repeat (first | with_reducible refine Below.setCell ?_ (by first | exact Nat.le_refl _ | exact HB2.out.2) _ | with_reducible refine Below.drew ?_ | with_reducible refine below_drewN ?_ _)
    exact HB.out
set_option maxHeartbeats 3200000 in
set_option maxRecDepth 100000 in
theorem rone_k2_b0 (s : ByteArray) (w : World) (a0 a1 a2 : List UInt8) (CN0 : ∀ W, Calls Tryd.prog 42 #[.string ⟨a1.toArray⟩] W (NumPost none W))
    (CS : Calls Tryd.prog 28 #[.string s, .int .u8 32] (w.alloc (.cells #[.int .i64 0, .int .i64 0, .int .i64 0, .int .i64 0, .int .i64 0, .int .i64 0, .int .u32 0, .int .u32 0, .slice none 0 0] 29)) (SplitP 3 [a0, a1, a2] (w.alloc (.cells #[.int .i64 0, .int .i64 0, .int .i64 0, .int .i64 0, .int .i64 0, .int .i64 0, .int .u32 0, .int .u32 0, .slice none 0 0] 29))))
    (CH : ∀ W A c, RowAt W A (strV [a0, a1, a2]) → Calls Tryd.prog 41 #[.slice A 3 c] W (ShapePost 2 0 1 2 W)) :
    Calls Tryd.prog 29 #[.string s] w (ActPost (Ac0, 5) w) := by
  obtain ⟨hz, hsz⟩ := zero_of_info (show (Tryd.prog.info? 29).map (fun i => (i.zero, i.size)) = some (some (.agg #[.int .i64 0, .int .i64 0, .int .i64 0, .int .i64 0, .int .i64 0, .int .i64 0, .int .u32 0, .int .u32 0, .slice none 0 0]), 9) by kernel_rfl)
  unfold NumPost at CN0
  have hx0 : BoxF (w.alloc (.cells #[.int .i64 0, .int .i64 0, .int .i64 0, .int .i64 0, .int .i64 0, .int .i64 0, .int .u32 0, .int .u32 0, .slice none 0 0] 29)) w.heap.size [.int .i64 0, .int .i64 0, .int .i64 0, .int .i64 0, .int .i64 0, .int .i64 0, .int .u32 0, .int .u32 0, .slice none 0 0] := boxF_made w [.int .i64 0, .int .i64 0, .int .i64 0, .int .i64 0, .int .i64 0, .int .i64 0, .int .u32 0, .int .u32 0, .slice none 0 0] 29
  have hb0 : Below w.heap.size w (w.alloc (.cells #[.int .i64 0, .int .i64 0, .int .i64 0, .int .i64 0, .int .i64 0, .int .i64 0, .int .u32 0, .int .u32 0, .slice none 0 0] 29)) := (Below.refl _ _).alloc (Nat.le_refl _) _
  have HX := Lib.hid (And.intro hx0 hb0)
  have CS := Lib.hid CS
  have CH := Lib.hid CH
  clear hx0 hb0
  go_enter Tryd.func29, Tryd.ntmps29
  go_wp2_with fail
  refine CS.out.mono ?_
  rintro e w1 ⟨A, c, rfl, hlc, hrow, hq1⟩
  have hx1 := HX.out.1.keep hq1
  have hb1 : Below w.heap.size w w1 := HX.out.2.trans (hq1.mono HX.out.2.size)
  have C2 := CH.out w1 A c hrow
  have H1 := Lib.hid (And.intro hx1 (And.intro hb1 hrow))
  clear hx1 hb1 hrow hq1
  go_wp2_with fail
  refine C2.mono ?_
  rintro e w2 ⟨rfl, hq2⟩
  clear C2
  have HB2 := Lib.hid (And.intro (H1.out.2.1.trans (hq2.mono H1.out.2.1.size)) (H1.out.2.1.trans (hq2.mono H1.out.2.1.size)).size)
  have HR2 := Lib.hid (H1.out.1.keep hq2)
  have hrow2 := H1.out.2.2.keep hq2
  clear hq2
  obtain ⟨blk, off, rfl, hc0⟩ := hrow2 0 _ rfl
  have hc1 : w2.cell? ⟨blk, off + 1, none⟩ = _ := (by
    obtain ⟨b3, o3, he, hc⟩ := hrow2 1 _ rfl
    injection he with he
    injection he with h1 h2 h3
    subst h1 h2
    exact hc)
  have hc2 : w2.cell? ⟨blk, off + 2, none⟩ = _ := (by
    obtain ⟨b3, o3, he, hc⟩ := hrow2 2 _ rfl
    injection he with he
    injection he with h1 h2 h3
    subst h1 h2
    exact hc)
  simp only [Nat.add_zero] at hc0
  have hlt2 := World.block_lt_of_cell? _ _ hc0
  simp only at hlt2
  have HK : Hid (∀ W, Below w2.heap.size w2 W → W.cell? ⟨blk, off, none⟩ = some (.string ⟨a0.toArray⟩) ∧ W.cell? ⟨blk, off + 1, none⟩ = some (.string ⟨a1.toArray⟩) ∧ W.cell? ⟨blk, off + 2, none⟩ = some (.string ⟨a2.toArray⟩)) := fun W hW => ⟨(hW.cell (p := ⟨blk, off, none⟩) hlt2).trans hc0, (hW.cell (p := ⟨blk, off + 1, none⟩) hlt2).trans hc1, (hW.cell (p := ⟨blk, off + 2, none⟩) hlt2).trans hc2⟩
  clear hrow2
  go_wp2_with fail
  refine wp_loop_rounds 4 ?_
  rw [rounds_succ]
  go_wp2_with fail
  refine (CN0 _).mono ?_
  rintro e w3 ⟨⟨mm, rfl⟩, hq⟩
  have hX3 : BoxF w3 w2.heap.size [.int .i64 0, .int .i64 0, .int .i64 0] := (boxF_made w2 [.int .i64 0, .int .i64 0, .int .i64 0] 2).keep hq
  have hB3 : Below w2.heap.size w2 w3 := ((Below.refl _ _).alloc (Nat.le_refl _) (.cells #[.int .i64 0, .int .i64 0, .int .i64 0] 2)).trans (hq.mono (by simp))
  have HN3 := Lib.hid (And.intro hX3 hB3)
  clear hq hX3 hB3
  have hz3 : w2.heap.size < w3.heap.size := World.block_lt_of_cell? _ _ (HN3.out.1.1 0 _ rfl)
  have v0 := HN3.out.1.1 0 _ rfl
  have fv0 := HN3.out.1.2 0 (by simp)
  have v1 := HN3.out.1.1 1 _ rfl
  have fv1 := HN3.out.1.2 1 (by simp)
  have v2 := HN3.out.1.1 2 _ rfl
  have fv2 := HN3.out.1.2 2 (by simp)
  have u0 := (HR2.out.keep HN3.out.2).1 0 _ rfl
  have fu0 := (HR2.out.keep HN3.out.2).2 0 (by simp)
  have u1 := (HR2.out.keep HN3.out.2).1 1 _ rfl
  have fu1 := (HR2.out.keep HN3.out.2).2 1 (by simp)
  have u2 := (HR2.out.keep HN3.out.2).1 2 _ rfl
  have fu2 := (HR2.out.keep HN3.out.2).2 2 (by simp)
  have u3 := (HR2.out.keep HN3.out.2).1 3 _ rfl
  have fu3 := (HR2.out.keep HN3.out.2).2 3 (by simp)
  have u4 := (HR2.out.keep HN3.out.2).1 4 _ rfl
  have fu4 := (HR2.out.keep HN3.out.2).2 4 (by simp)
  have u5 := (HR2.out.keep HN3.out.2).1 5 _ rfl
  have fu5 := (HR2.out.keep HN3.out.2).2 5 (by simp)
  have u6 := (HR2.out.keep HN3.out.2).1 6 _ rfl
  have fu6 := (HR2.out.keep HN3.out.2).2 6 (by simp)
  have u7 := (HR2.out.keep HN3.out.2).1 7 _ rfl
  have fu7 := (HR2.out.keep HN3.out.2).2 7 (by simp)
  have u8 := (HR2.out.keep HN3.out.2).1 8 _ rfl
  have fu8 := (HR2.out.keep HN3.out.2).2 8 (by simp)
  have HB := Lib.hid (HB2.out.1.trans (HN3.out.2.mono HB2.out.2))
  go_wp2
  refine bodyPost_ret (v := .tuple #[.agg #[.int .i64 0, .int .i64 0, .int .i64 0, .int .i64 0, .int .i64 0, .int .i64 0, .int .u32 0, .int .u32 0, .slice none 0 0], .int .i64 5]) (by simp (maxDischargeDepth := 8) [results, Tryd.results29, go_sem, *]) rfl ?_
  refine actPost_bad Ac0 none 0 0 5 rfl rfl (by decide) ?_
  · skip
    repeat (first | with_reducible refine Below.setCell ?_ (by first | exact Nat.le_refl _ | exact HB2.out.2) _ | with_reducible refine Below.drew ?_ | with_reducible refine below_drewN ?_ _)
    exact HB.out
set_option maxHeartbeats 3200000 in
set_option maxRecDepth 100000 in
theorem rone_k2_b1 (s : ByteArray) (w : World) (a0 a1 a2 : List UInt8) (z0 : Int) (CN0 : ∀ W, Calls Tryd.prog 42 #[.string ⟨a1.toArray⟩] W (NumPost (some z0) W)) (CN1 : ∀ W, Calls Tryd.prog 42 #[.string ⟨a2.toArray⟩] W (NumPost none W))
    (CS : Calls Tryd.prog 28 #[.string s, .int .u8 32] (w.alloc (.cells #[.int .i64 0, .int .i64 0, .int .i64 0, .int .i64 0, .int .i64 0, .int .i64 0, .int .u32 0, .int .u32 0, .slice none 0 0] 29)) (SplitP 3 [a0, a1, a2] (w.alloc (.cells #[.int .i64 0, .int .i64 0, .int .i64 0, .int .i64 0, .int .i64 0, .int .i64 0, .int .u32 0, .int .u32 0, .slice none 0 0] 29))))
    (CH : ∀ W A c, RowAt W A (strV [a0, a1, a2]) → Calls Tryd.prog 41 #[.slice A 3 c] W (ShapePost 2 0 1 2 W)) :
    Calls Tryd.prog 29 #[.string s] w (ActPost (Ac0, 5) w) := by
  obtain ⟨hz, hsz⟩ := zero_of_info (show (Tryd.prog.info? 29).map (fun i => (i.zero, i.size)) = some (some (.agg #[.int .i64 0, .int .i64 0, .int .i64 0, .int .i64 0, .int .i64 0, .int .i64 0, .int .u32 0, .int .u32 0, .slice none 0 0]), 9) by kernel_rfl)
  unfold NumPost at CN0
  unfold NumPost at CN1
  have hx0 : BoxF (w.alloc (.cells #[.int .i64 0, .int .i64 0, .int .i64 0, .int .i64 0, .int .i64 0, .int .i64 0, .int .u32 0, .int .u32 0, .slice none 0 0] 29)) w.heap.size [.int .i64 0, .int .i64 0, .int .i64 0, .int .i64 0, .int .i64 0, .int .i64 0, .int .u32 0, .int .u32 0, .slice none 0 0] := boxF_made w [.int .i64 0, .int .i64 0, .int .i64 0, .int .i64 0, .int .i64 0, .int .i64 0, .int .u32 0, .int .u32 0, .slice none 0 0] 29
  have hb0 : Below w.heap.size w (w.alloc (.cells #[.int .i64 0, .int .i64 0, .int .i64 0, .int .i64 0, .int .i64 0, .int .i64 0, .int .u32 0, .int .u32 0, .slice none 0 0] 29)) := (Below.refl _ _).alloc (Nat.le_refl _) _
  have HX := Lib.hid (And.intro hx0 hb0)
  have CS := Lib.hid CS
  have CH := Lib.hid CH
  clear hx0 hb0
  go_enter Tryd.func29, Tryd.ntmps29
  go_wp2_with fail
  refine CS.out.mono ?_
  rintro e w1 ⟨A, c, rfl, hlc, hrow, hq1⟩
  have hx1 := HX.out.1.keep hq1
  have hb1 : Below w.heap.size w w1 := HX.out.2.trans (hq1.mono HX.out.2.size)
  have C2 := CH.out w1 A c hrow
  have H1 := Lib.hid (And.intro hx1 (And.intro hb1 hrow))
  clear hx1 hb1 hrow hq1
  go_wp2_with fail
  refine C2.mono ?_
  rintro e w2 ⟨rfl, hq2⟩
  clear C2
  have HB2 := Lib.hid (And.intro (H1.out.2.1.trans (hq2.mono H1.out.2.1.size)) (H1.out.2.1.trans (hq2.mono H1.out.2.1.size)).size)
  have HR2 := Lib.hid (H1.out.1.keep hq2)
  have hrow2 := H1.out.2.2.keep hq2
  clear hq2
  obtain ⟨blk, off, rfl, hc0⟩ := hrow2 0 _ rfl
  have hc1 : w2.cell? ⟨blk, off + 1, none⟩ = _ := (by
    obtain ⟨b3, o3, he, hc⟩ := hrow2 1 _ rfl
    injection he with he
    injection he with h1 h2 h3
    subst h1 h2
    exact hc)
  have hc2 : w2.cell? ⟨blk, off + 2, none⟩ = _ := (by
    obtain ⟨b3, o3, he, hc⟩ := hrow2 2 _ rfl
    injection he with he
    injection he with h1 h2 h3
    subst h1 h2
    exact hc)
  simp only [Nat.add_zero] at hc0
  have hlt2 := World.block_lt_of_cell? _ _ hc0
  simp only at hlt2
  have HK : Hid (∀ W, Below w2.heap.size w2 W → W.cell? ⟨blk, off, none⟩ = some (.string ⟨a0.toArray⟩) ∧ W.cell? ⟨blk, off + 1, none⟩ = some (.string ⟨a1.toArray⟩) ∧ W.cell? ⟨blk, off + 2, none⟩ = some (.string ⟨a2.toArray⟩)) := fun W hW => ⟨(hW.cell (p := ⟨blk, off, none⟩) hlt2).trans hc0, (hW.cell (p := ⟨blk, off + 1, none⟩) hlt2).trans hc1, (hW.cell (p := ⟨blk, off + 2, none⟩) hlt2).trans hc2⟩
  clear hrow2
  go_wp2_with fail
  refine wp_loop_rounds 4 ?_
  rw [rounds_succ]
  go_wp2_with fail
  refine (CN0 _).mono ?_
  rintro e w3 ⟨rfl, hq⟩
  have hX3 : BoxF w3 w2.heap.size [.int .i64 0, .int .i64 0, .int .i64 0] := (boxF_made w2 [.int .i64 0, .int .i64 0, .int .i64 0] 2).keep hq
  have hB3 : Below w2.heap.size w2 w3 := ((Below.refl _ _).alloc (Nat.le_refl _) (.cells #[.int .i64 0, .int .i64 0, .int .i64 0] 2)).trans (hq.mono (by simp))
  have HN3 := Lib.hid (And.intro hX3 hB3)
  clear hq hX3 hB3
  have hz3 : w2.heap.size < w3.heap.size := World.block_lt_of_cell? _ _ (HN3.out.1.1 0 _ rfl)
  have v0 := HN3.out.1.1 0 _ rfl
  have fv0 := HN3.out.1.2 0 (by simp)
  have v1 := HN3.out.1.1 1 _ rfl
  have fv1 := HN3.out.1.2 1 (by simp)
  have v2 := HN3.out.1.1 2 _ rfl
  have fv2 := HN3.out.1.2 2 (by simp)
  clear hc0 hc1 hc2
  have hk := HK.out _ HN3.out.2
  obtain ⟨hc0, hc1, hc2⟩ := hk
  go_wp2_with fail
  rw [rounds_succ]
  go_wp2_with fail
  refine (CN1 _).mono ?_
  rintro e w4 ⟨⟨mm, rfl⟩, hq⟩
  have hX4 : BoxF w4 w2.heap.size [.int .i64 z0, .int .i64 0, .int .i64 0] := (HN3.out.1.put 0 (by simp) (.int .i64 z0)).keep hq
  have hB4 : Below w2.heap.size w2 w4 := (HN3.out.2.setCell (p := ⟨w2.heap.size, 0, none⟩) (Nat.le_refl _) (.int .i64 z0)).trans (hq.mono (HN3.out.2.setCell (p := ⟨w2.heap.size, 0, none⟩) (Nat.le_refl _) (.int .i64 z0)).size)
  have HN4 := Lib.hid (And.intro hX4 hB4)
  clear hq hX4 hB4 v0 fv0 v1 fv1 v2 fv2
  have hz4 : w2.heap.size < w4.heap.size := World.block_lt_of_cell? _ _ (HN4.out.1.1 0 _ rfl)
  have v0 := HN4.out.1.1 0 _ rfl
  have fv0 := HN4.out.1.2 0 (by simp)
  have v1 := HN4.out.1.1 1 _ rfl
  have fv1 := HN4.out.1.2 1 (by simp)
  have v2 := HN4.out.1.1 2 _ rfl
  have fv2 := HN4.out.1.2 2 (by simp)
  have u0 := (HR2.out.keep HN4.out.2).1 0 _ rfl
  have fu0 := (HR2.out.keep HN4.out.2).2 0 (by simp)
  have u1 := (HR2.out.keep HN4.out.2).1 1 _ rfl
  have fu1 := (HR2.out.keep HN4.out.2).2 1 (by simp)
  have u2 := (HR2.out.keep HN4.out.2).1 2 _ rfl
  have fu2 := (HR2.out.keep HN4.out.2).2 2 (by simp)
  have u3 := (HR2.out.keep HN4.out.2).1 3 _ rfl
  have fu3 := (HR2.out.keep HN4.out.2).2 3 (by simp)
  have u4 := (HR2.out.keep HN4.out.2).1 4 _ rfl
  have fu4 := (HR2.out.keep HN4.out.2).2 4 (by simp)
  have u5 := (HR2.out.keep HN4.out.2).1 5 _ rfl
  have fu5 := (HR2.out.keep HN4.out.2).2 5 (by simp)
  have u6 := (HR2.out.keep HN4.out.2).1 6 _ rfl
  have fu6 := (HR2.out.keep HN4.out.2).2 6 (by simp)
  have u7 := (HR2.out.keep HN4.out.2).1 7 _ rfl
  have fu7 := (HR2.out.keep HN4.out.2).2 7 (by simp)
  have u8 := (HR2.out.keep HN4.out.2).1 8 _ rfl
  have fu8 := (HR2.out.keep HN4.out.2).2 8 (by simp)
  have HB := Lib.hid (HB2.out.1.trans (HN4.out.2.mono HB2.out.2))
  go_wp2
  refine bodyPost_ret (v := .tuple #[.agg #[.int .i64 0, .int .i64 0, .int .i64 0, .int .i64 0, .int .i64 0, .int .i64 0, .int .u32 0, .int .u32 0, .slice none 0 0], .int .i64 5]) (by simp (maxDischargeDepth := 8) [results, Tryd.results29, go_sem, *]) rfl ?_
  refine actPost_bad Ac0 none 0 0 5 rfl rfl (by decide) ?_
  · skip
    repeat (first | with_reducible refine Below.setCell ?_ (by first | exact Nat.le_refl _ | exact HB2.out.2) _ | with_reducible refine Below.drew ?_ | with_reducible refine below_drewN ?_ _)
    exact HB.out
set_option maxHeartbeats 3200000 in
set_option maxRecDepth 100000 in
theorem rone_k2_ok (s : ByteArray) (w : World) (a0 a1 a2 : List UInt8) (z0 z1 : Int) (CN0 : ∀ W, Calls Tryd.prog 42 #[.string ⟨a1.toArray⟩] W (NumPost (some z0) W)) (CN1 : ∀ W, Calls Tryd.prog 42 #[.string ⟨a2.toArray⟩] W (NumPost (some z1) W)) (hvg : goodA ⟨2, z0, z1, Fa0, []⟩ = true)
    (CS : Calls Tryd.prog 28 #[.string s, .int .u8 32] (w.alloc (.cells #[.int .i64 0, .int .i64 0, .int .i64 0, .int .i64 0, .int .i64 0, .int .i64 0, .int .u32 0, .int .u32 0, .slice none 0 0] 29)) (SplitP 3 [a0, a1, a2] (w.alloc (.cells #[.int .i64 0, .int .i64 0, .int .i64 0, .int .i64 0, .int .i64 0, .int .i64 0, .int .u32 0, .int .u32 0, .slice none 0 0] 29))))
    (CH : ∀ W A c, RowAt W A (strV [a0, a1, a2]) → Calls Tryd.prog 41 #[.slice A 3 c] W (ShapePost 2 0 1 2 W)) :
    Calls Tryd.prog 29 #[.string s] w (ActPost (⟨2, z0, z1, Fa0, []⟩, 0) w) := by
  obtain ⟨hz, hsz⟩ := zero_of_info (show (Tryd.prog.info? 29).map (fun i => (i.zero, i.size)) = some (some (.agg #[.int .i64 0, .int .i64 0, .int .i64 0, .int .i64 0, .int .i64 0, .int .i64 0, .int .u32 0, .int .u32 0, .slice none 0 0]), 9) by kernel_rfl)
  unfold NumPost at CN0
  unfold NumPost at CN1
  have CG : ∀ W, Calls Tryd.prog 16 #[.agg #[.int .i64 2, .int .i64 z0, .int .i64 z1, .int .i64 0, .int .i64 0, .int .i64 0, .int .u32 0, .int .u32 0, .slice none 0 0]] W fun e w' => e = .returned (.bool true) ∧ Below W.heap.size W w' := fun W => refGoodV ⟨2, z0, z1, Fa0, []⟩ none 0 0 true hvg W (U8At.nil _ _) rfl
  have CG := Lib.hid CG
  clear hvg
  have hx0 : BoxF (w.alloc (.cells #[.int .i64 0, .int .i64 0, .int .i64 0, .int .i64 0, .int .i64 0, .int .i64 0, .int .u32 0, .int .u32 0, .slice none 0 0] 29)) w.heap.size [.int .i64 0, .int .i64 0, .int .i64 0, .int .i64 0, .int .i64 0, .int .i64 0, .int .u32 0, .int .u32 0, .slice none 0 0] := boxF_made w [.int .i64 0, .int .i64 0, .int .i64 0, .int .i64 0, .int .i64 0, .int .i64 0, .int .u32 0, .int .u32 0, .slice none 0 0] 29
  have hb0 : Below w.heap.size w (w.alloc (.cells #[.int .i64 0, .int .i64 0, .int .i64 0, .int .i64 0, .int .i64 0, .int .i64 0, .int .u32 0, .int .u32 0, .slice none 0 0] 29)) := (Below.refl _ _).alloc (Nat.le_refl _) _
  have HX := Lib.hid (And.intro hx0 hb0)
  have CS := Lib.hid CS
  have CH := Lib.hid CH
  clear hx0 hb0
  go_enter Tryd.func29, Tryd.ntmps29
  go_wp2_with fail
  refine CS.out.mono ?_
  rintro e w1 ⟨A, c, rfl, hlc, hrow, hq1⟩
  have hx1 := HX.out.1.keep hq1
  have hb1 : Below w.heap.size w w1 := HX.out.2.trans (hq1.mono HX.out.2.size)
  have C2 := CH.out w1 A c hrow
  have H1 := Lib.hid (And.intro hx1 (And.intro hb1 hrow))
  clear hx1 hb1 hrow hq1
  go_wp2_with fail
  refine C2.mono ?_
  rintro e w2 ⟨rfl, hq2⟩
  clear C2
  have HB2 := Lib.hid (And.intro (H1.out.2.1.trans (hq2.mono H1.out.2.1.size)) (H1.out.2.1.trans (hq2.mono H1.out.2.1.size)).size)
  have HR2 := Lib.hid (H1.out.1.keep hq2)
  have hrow2 := H1.out.2.2.keep hq2
  clear hq2
  obtain ⟨blk, off, rfl, hc0⟩ := hrow2 0 _ rfl
  have hc1 : w2.cell? ⟨blk, off + 1, none⟩ = _ := (by
    obtain ⟨b3, o3, he, hc⟩ := hrow2 1 _ rfl
    injection he with he
    injection he with h1 h2 h3
    subst h1 h2
    exact hc)
  have hc2 : w2.cell? ⟨blk, off + 2, none⟩ = _ := (by
    obtain ⟨b3, o3, he, hc⟩ := hrow2 2 _ rfl
    injection he with he
    injection he with h1 h2 h3
    subst h1 h2
    exact hc)
  simp only [Nat.add_zero] at hc0
  have hlt2 := World.block_lt_of_cell? _ _ hc0
  simp only at hlt2
  have HK : Hid (∀ W, Below w2.heap.size w2 W → W.cell? ⟨blk, off, none⟩ = some (.string ⟨a0.toArray⟩) ∧ W.cell? ⟨blk, off + 1, none⟩ = some (.string ⟨a1.toArray⟩) ∧ W.cell? ⟨blk, off + 2, none⟩ = some (.string ⟨a2.toArray⟩)) := fun W hW => ⟨(hW.cell (p := ⟨blk, off, none⟩) hlt2).trans hc0, (hW.cell (p := ⟨blk, off + 1, none⟩) hlt2).trans hc1, (hW.cell (p := ⟨blk, off + 2, none⟩) hlt2).trans hc2⟩
  clear hrow2
  go_wp2_with fail
  refine wp_loop_rounds 4 ?_
  rw [rounds_succ]
  go_wp2_with fail
  refine (CN0 _).mono ?_
  rintro e w3 ⟨rfl, hq⟩
  have hX3 : BoxF w3 w2.heap.size [.int .i64 0, .int .i64 0, .int .i64 0] := (boxF_made w2 [.int .i64 0, .int .i64 0, .int .i64 0] 2).keep hq
  have hB3 : Below w2.heap.size w2 w3 := ((Below.refl _ _).alloc (Nat.le_refl _) (.cells #[.int .i64 0, .int .i64 0, .int .i64 0] 2)).trans (hq.mono (by simp))
  have HN3 := Lib.hid (And.intro hX3 hB3)
  clear hq hX3 hB3
  have hz3 : w2.heap.size < w3.heap.size := World.block_lt_of_cell? _ _ (HN3.out.1.1 0 _ rfl)
  have v0 := HN3.out.1.1 0 _ rfl
  have fv0 := HN3.out.1.2 0 (by simp)
  have v1 := HN3.out.1.1 1 _ rfl
  have fv1 := HN3.out.1.2 1 (by simp)
  have v2 := HN3.out.1.1 2 _ rfl
  have fv2 := HN3.out.1.2 2 (by simp)
  clear hc0 hc1 hc2
  have hk := HK.out _ HN3.out.2
  obtain ⟨hc0, hc1, hc2⟩ := hk
  go_wp2_with fail
  rw [rounds_succ]
  go_wp2_with fail
  refine (CN1 _).mono ?_
  rintro e w4 ⟨rfl, hq⟩
  have hX4 : BoxF w4 w2.heap.size [.int .i64 z0, .int .i64 0, .int .i64 0] := (HN3.out.1.put 0 (by simp) (.int .i64 z0)).keep hq
  have hB4 : Below w2.heap.size w2 w4 := (HN3.out.2.setCell (p := ⟨w2.heap.size, 0, none⟩) (Nat.le_refl _) (.int .i64 z0)).trans (hq.mono (HN3.out.2.setCell (p := ⟨w2.heap.size, 0, none⟩) (Nat.le_refl _) (.int .i64 z0)).size)
  have HN4 := Lib.hid (And.intro hX4 hB4)
  clear hq hX4 hB4 v0 fv0 v1 fv1 v2 fv2
  have hz4 : w2.heap.size < w4.heap.size := World.block_lt_of_cell? _ _ (HN4.out.1.1 0 _ rfl)
  have v0 := HN4.out.1.1 0 _ rfl
  have fv0 := HN4.out.1.2 0 (by simp)
  have v1 := HN4.out.1.1 1 _ rfl
  have fv1 := HN4.out.1.2 1 (by simp)
  have v2 := HN4.out.1.1 2 _ rfl
  have fv2 := HN4.out.1.2 2 (by simp)
  clear hc0 hc1 hc2
  go_wp2_with fail
  rw [rounds_succ]
  go_wp2_with fail
  go_big_region
  go_wp2_with fail
  refine (CG.out _).mono ?_
  rintro e w9 ⟨rfl, hq⟩
  have hq : Below ((w4.setCell ⟨w2.heap.size, 1, none⟩ (.int .i64 z1)).alloc (.cells #[.int .i64 2, .int .i64 z0, .int .i64 z1, .int .i64 0, .int .i64 0, .int .i64 0, .int .u32 0, .int .u32 0, .slice none 0 0] 29)).heap.size ((w4.setCell ⟨w2.heap.size, 1, none⟩ (.int .i64 z1)).alloc (.cells #[.int .i64 2, .int .i64 z0, .int .i64 z1, .int .i64 0, .int .i64 0, .int .i64 0, .int .u32 0, .int .u32 0, .slice none 0 0] 29)) w9 := by
    refine Below.trans ?_ hq
    repeat (first | with_reducible refine Below.drew ?_ | with_reducible refine below_drewN ?_ _)
    exact Below.refl _ _
  have hT : BoxF w9 (w4.setCell ⟨w2.heap.size, 1, none⟩ (.int .i64 z1)).heap.size [.int .i64 2, .int .i64 z0, .int .i64 z1, .int .i64 0, .int .i64 0, .int .i64 0, .int .u32 0, .int .u32 0, .slice none 0 0] := (boxF_made _ [.int .i64 2, .int .i64 z0, .int .i64 z1, .int .i64 0, .int .i64 0, .int .i64 0, .int .u32 0, .int .u32 0, .slice none 0 0] 29).keep hq
  rw [show (w4.setCell ⟨w2.heap.size, 1, none⟩ (.int .i64 z1)).heap.size = w4.heap.size by simp] at hT
  have hB9 : Below w2.heap.size w2 w9 := ((HN4.out.2.setCell (p := ⟨w2.heap.size, 1, none⟩) (Nat.le_refl _) (.int .i64 z1)).alloc (by simp; omega) (.cells #[.int .i64 2, .int .i64 z0, .int .i64 z1, .int .i64 0, .int .i64 0, .int .i64 0, .int .u32 0, .int .u32 0, .slice none 0 0] 29)).trans (hq.mono (by simp; omega))
  have t0 := hT.1 0 _ rfl
  have t1 := hT.1 1 _ rfl
  have t2 := hT.1 2 _ rfl
  have t3 := hT.1 3 _ rfl
  have t4 := hT.1 4 _ rfl
  have t5 := hT.1 5 _ rfl
  have t6 := hT.1 6 _ rfl
  have t7 := hT.1 7 _ rfl
  have t8 := hT.1 8 _ rfl
  clear v0 fv0 v1 fv1 v2 fv2
  have u0 := (HR2.out.keep hB9).1 0 _ rfl
  have fu0 := (HR2.out.keep hB9).2 0 (by simp)
  have u1 := (HR2.out.keep hB9).1 1 _ rfl
  have fu1 := (HR2.out.keep hB9).2 1 (by simp)
  have u2 := (HR2.out.keep hB9).1 2 _ rfl
  have fu2 := (HR2.out.keep hB9).2 2 (by simp)
  have u3 := (HR2.out.keep hB9).1 3 _ rfl
  have fu3 := (HR2.out.keep hB9).2 3 (by simp)
  have u4 := (HR2.out.keep hB9).1 4 _ rfl
  have fu4 := (HR2.out.keep hB9).2 4 (by simp)
  have u5 := (HR2.out.keep hB9).1 5 _ rfl
  have fu5 := (HR2.out.keep hB9).2 5 (by simp)
  have u6 := (HR2.out.keep hB9).1 6 _ rfl
  have fu6 := (HR2.out.keep hB9).2 6 (by simp)
  have u7 := (HR2.out.keep hB9).1 7 _ rfl
  have fu7 := (HR2.out.keep hB9).2 7 (by simp)
  have u8 := (HR2.out.keep hB9).1 8 _ rfl
  have fu8 := (HR2.out.keep hB9).2 8 (by simp)
  have HB := Lib.hid (HB2.out.1.trans (hB9.mono HB2.out.2))
  clear hq hT hB9
  go_wp2
  refine bodyPost_ret (v := .tuple #[.agg #[.int .i64 2, .int .i64 z0, .int .i64 z1, .int .i64 0, .int .i64 0, .int .i64 0, .int .u32 0, .int .u32 0, .slice none 0 0], .int .i64 0]) (by simp (maxDischargeDepth := 8) [results, Tryd.results29, go_sem, *]) rfl ?_
  refine actPost_ok ⟨2, z0, z1, Fa0, []⟩ none 0 0 rfl rfl rfl rfl (own_nil _ _) ?_
  · skip
    repeat (first | with_reducible refine Below.setCell ?_ (by first | exact Nat.le_refl _ | exact HB2.out.2) _ | with_reducible refine Below.drew ?_ | with_reducible refine below_drewN ?_ _)
    exact HB.out
set_option maxHeartbeats 3200000 in
set_option maxRecDepth 100000 in
theorem rone_k2_ng (s : ByteArray) (w : World) (a0 a1 a2 : List UInt8) (z0 z1 : Int) (CN0 : ∀ W, Calls Tryd.prog 42 #[.string ⟨a1.toArray⟩] W (NumPost (some z0) W)) (CN1 : ∀ W, Calls Tryd.prog 42 #[.string ⟨a2.toArray⟩] W (NumPost (some z1) W)) (hvg : goodA ⟨2, z0, z1, Fa0, []⟩ = false)
    (CS : Calls Tryd.prog 28 #[.string s, .int .u8 32] (w.alloc (.cells #[.int .i64 0, .int .i64 0, .int .i64 0, .int .i64 0, .int .i64 0, .int .i64 0, .int .u32 0, .int .u32 0, .slice none 0 0] 29)) (SplitP 3 [a0, a1, a2] (w.alloc (.cells #[.int .i64 0, .int .i64 0, .int .i64 0, .int .i64 0, .int .i64 0, .int .i64 0, .int .u32 0, .int .u32 0, .slice none 0 0] 29))))
    (CH : ∀ W A c, RowAt W A (strV [a0, a1, a2]) → Calls Tryd.prog 41 #[.slice A 3 c] W (ShapePost 2 0 1 2 W)) :
    Calls Tryd.prog 29 #[.string s] w (ActPost (Ac0, 2) w) := by
  obtain ⟨hz, hsz⟩ := zero_of_info (show (Tryd.prog.info? 29).map (fun i => (i.zero, i.size)) = some (some (.agg #[.int .i64 0, .int .i64 0, .int .i64 0, .int .i64 0, .int .i64 0, .int .i64 0, .int .u32 0, .int .u32 0, .slice none 0 0]), 9) by kernel_rfl)
  unfold NumPost at CN0
  unfold NumPost at CN1
  have CG : ∀ W, Calls Tryd.prog 16 #[.agg #[.int .i64 2, .int .i64 z0, .int .i64 z1, .int .i64 0, .int .i64 0, .int .i64 0, .int .u32 0, .int .u32 0, .slice none 0 0]] W fun e w' => e = .returned (.bool false) ∧ Below W.heap.size W w' := fun W => refGoodV ⟨2, z0, z1, Fa0, []⟩ none 0 0 false hvg W (U8At.nil _ _) rfl
  have CG := Lib.hid CG
  clear hvg
  have hx0 : BoxF (w.alloc (.cells #[.int .i64 0, .int .i64 0, .int .i64 0, .int .i64 0, .int .i64 0, .int .i64 0, .int .u32 0, .int .u32 0, .slice none 0 0] 29)) w.heap.size [.int .i64 0, .int .i64 0, .int .i64 0, .int .i64 0, .int .i64 0, .int .i64 0, .int .u32 0, .int .u32 0, .slice none 0 0] := boxF_made w [.int .i64 0, .int .i64 0, .int .i64 0, .int .i64 0, .int .i64 0, .int .i64 0, .int .u32 0, .int .u32 0, .slice none 0 0] 29
  have hb0 : Below w.heap.size w (w.alloc (.cells #[.int .i64 0, .int .i64 0, .int .i64 0, .int .i64 0, .int .i64 0, .int .i64 0, .int .u32 0, .int .u32 0, .slice none 0 0] 29)) := (Below.refl _ _).alloc (Nat.le_refl _) _
  have HX := Lib.hid (And.intro hx0 hb0)
  have CS := Lib.hid CS
  have CH := Lib.hid CH
  clear hx0 hb0
  go_enter Tryd.func29, Tryd.ntmps29
  go_wp2_with fail
  refine CS.out.mono ?_
  rintro e w1 ⟨A, c, rfl, hlc, hrow, hq1⟩
  have hx1 := HX.out.1.keep hq1
  have hb1 : Below w.heap.size w w1 := HX.out.2.trans (hq1.mono HX.out.2.size)
  have C2 := CH.out w1 A c hrow
  have H1 := Lib.hid (And.intro hx1 (And.intro hb1 hrow))
  clear hx1 hb1 hrow hq1
  go_wp2_with fail
  refine C2.mono ?_
  rintro e w2 ⟨rfl, hq2⟩
  clear C2
  have HB2 := Lib.hid (And.intro (H1.out.2.1.trans (hq2.mono H1.out.2.1.size)) (H1.out.2.1.trans (hq2.mono H1.out.2.1.size)).size)
  have HR2 := Lib.hid (H1.out.1.keep hq2)
  have hrow2 := H1.out.2.2.keep hq2
  clear hq2
  obtain ⟨blk, off, rfl, hc0⟩ := hrow2 0 _ rfl
  have hc1 : w2.cell? ⟨blk, off + 1, none⟩ = _ := (by
    obtain ⟨b3, o3, he, hc⟩ := hrow2 1 _ rfl
    injection he with he
    injection he with h1 h2 h3
    subst h1 h2
    exact hc)
  have hc2 : w2.cell? ⟨blk, off + 2, none⟩ = _ := (by
    obtain ⟨b3, o3, he, hc⟩ := hrow2 2 _ rfl
    injection he with he
    injection he with h1 h2 h3
    subst h1 h2
    exact hc)
  simp only [Nat.add_zero] at hc0
  have hlt2 := World.block_lt_of_cell? _ _ hc0
  simp only at hlt2
  have HK : Hid (∀ W, Below w2.heap.size w2 W → W.cell? ⟨blk, off, none⟩ = some (.string ⟨a0.toArray⟩) ∧ W.cell? ⟨blk, off + 1, none⟩ = some (.string ⟨a1.toArray⟩) ∧ W.cell? ⟨blk, off + 2, none⟩ = some (.string ⟨a2.toArray⟩)) := fun W hW => ⟨(hW.cell (p := ⟨blk, off, none⟩) hlt2).trans hc0, (hW.cell (p := ⟨blk, off + 1, none⟩) hlt2).trans hc1, (hW.cell (p := ⟨blk, off + 2, none⟩) hlt2).trans hc2⟩
  clear hrow2
  go_wp2_with fail
  refine wp_loop_rounds 4 ?_
  rw [rounds_succ]
  go_wp2_with fail
  refine (CN0 _).mono ?_
  rintro e w3 ⟨rfl, hq⟩
  have hX3 : BoxF w3 w2.heap.size [.int .i64 0, .int .i64 0, .int .i64 0] := (boxF_made w2 [.int .i64 0, .int .i64 0, .int .i64 0] 2).keep hq
  have hB3 : Below w2.heap.size w2 w3 := ((Below.refl _ _).alloc (Nat.le_refl _) (.cells #[.int .i64 0, .int .i64 0, .int .i64 0] 2)).trans (hq.mono (by simp))
  have HN3 := Lib.hid (And.intro hX3 hB3)
  clear hq hX3 hB3
  have hz3 : w2.heap.size < w3.heap.size := World.block_lt_of_cell? _ _ (HN3.out.1.1 0 _ rfl)
  have v0 := HN3.out.1.1 0 _ rfl
  have fv0 := HN3.out.1.2 0 (by simp)
  have v1 := HN3.out.1.1 1 _ rfl
  have fv1 := HN3.out.1.2 1 (by simp)
  have v2 := HN3.out.1.1 2 _ rfl
  have fv2 := HN3.out.1.2 2 (by simp)
  clear hc0 hc1 hc2
  have hk := HK.out _ HN3.out.2
  obtain ⟨hc0, hc1, hc2⟩ := hk
  go_wp2_with fail
  rw [rounds_succ]
  go_wp2_with fail
  refine (CN1 _).mono ?_
  rintro e w4 ⟨rfl, hq⟩
  have hX4 : BoxF w4 w2.heap.size [.int .i64 z0, .int .i64 0, .int .i64 0] := (HN3.out.1.put 0 (by simp) (.int .i64 z0)).keep hq
  have hB4 : Below w2.heap.size w2 w4 := (HN3.out.2.setCell (p := ⟨w2.heap.size, 0, none⟩) (Nat.le_refl _) (.int .i64 z0)).trans (hq.mono (HN3.out.2.setCell (p := ⟨w2.heap.size, 0, none⟩) (Nat.le_refl _) (.int .i64 z0)).size)
  have HN4 := Lib.hid (And.intro hX4 hB4)
  clear hq hX4 hB4 v0 fv0 v1 fv1 v2 fv2
  have hz4 : w2.heap.size < w4.heap.size := World.block_lt_of_cell? _ _ (HN4.out.1.1 0 _ rfl)
  have v0 := HN4.out.1.1 0 _ rfl
  have fv0 := HN4.out.1.2 0 (by simp)
  have v1 := HN4.out.1.1 1 _ rfl
  have fv1 := HN4.out.1.2 1 (by simp)
  have v2 := HN4.out.1.1 2 _ rfl
  have fv2 := HN4.out.1.2 2 (by simp)
  clear hc0 hc1 hc2
  go_wp2_with fail
  rw [rounds_succ]
  go_wp2_with fail
  go_big_region
  go_wp2_with fail
  refine (CG.out _).mono ?_
  rintro e w9 ⟨rfl, hq⟩
  have hq : Below ((w4.setCell ⟨w2.heap.size, 1, none⟩ (.int .i64 z1)).alloc (.cells #[.int .i64 2, .int .i64 z0, .int .i64 z1, .int .i64 0, .int .i64 0, .int .i64 0, .int .u32 0, .int .u32 0, .slice none 0 0] 29)).heap.size ((w4.setCell ⟨w2.heap.size, 1, none⟩ (.int .i64 z1)).alloc (.cells #[.int .i64 2, .int .i64 z0, .int .i64 z1, .int .i64 0, .int .i64 0, .int .i64 0, .int .u32 0, .int .u32 0, .slice none 0 0] 29)) w9 := by
    refine Below.trans ?_ hq
    repeat (first | with_reducible refine Below.drew ?_ | with_reducible refine below_drewN ?_ _)
    exact Below.refl _ _
  have hT : BoxF w9 (w4.setCell ⟨w2.heap.size, 1, none⟩ (.int .i64 z1)).heap.size [.int .i64 2, .int .i64 z0, .int .i64 z1, .int .i64 0, .int .i64 0, .int .i64 0, .int .u32 0, .int .u32 0, .slice none 0 0] := (boxF_made _ [.int .i64 2, .int .i64 z0, .int .i64 z1, .int .i64 0, .int .i64 0, .int .i64 0, .int .u32 0, .int .u32 0, .slice none 0 0] 29).keep hq
  rw [show (w4.setCell ⟨w2.heap.size, 1, none⟩ (.int .i64 z1)).heap.size = w4.heap.size by simp] at hT
  have hB9 : Below w2.heap.size w2 w9 := ((HN4.out.2.setCell (p := ⟨w2.heap.size, 1, none⟩) (Nat.le_refl _) (.int .i64 z1)).alloc (by simp; omega) (.cells #[.int .i64 2, .int .i64 z0, .int .i64 z1, .int .i64 0, .int .i64 0, .int .i64 0, .int .u32 0, .int .u32 0, .slice none 0 0] 29)).trans (hq.mono (by simp; omega))
  have t0 := hT.1 0 _ rfl
  have t1 := hT.1 1 _ rfl
  have t2 := hT.1 2 _ rfl
  have t3 := hT.1 3 _ rfl
  have t4 := hT.1 4 _ rfl
  have t5 := hT.1 5 _ rfl
  have t6 := hT.1 6 _ rfl
  have t7 := hT.1 7 _ rfl
  have t8 := hT.1 8 _ rfl
  clear v0 fv0 v1 fv1 v2 fv2
  have u0 := (HR2.out.keep hB9).1 0 _ rfl
  have fu0 := (HR2.out.keep hB9).2 0 (by simp)
  have u1 := (HR2.out.keep hB9).1 1 _ rfl
  have fu1 := (HR2.out.keep hB9).2 1 (by simp)
  have u2 := (HR2.out.keep hB9).1 2 _ rfl
  have fu2 := (HR2.out.keep hB9).2 2 (by simp)
  have u3 := (HR2.out.keep hB9).1 3 _ rfl
  have fu3 := (HR2.out.keep hB9).2 3 (by simp)
  have u4 := (HR2.out.keep hB9).1 4 _ rfl
  have fu4 := (HR2.out.keep hB9).2 4 (by simp)
  have u5 := (HR2.out.keep hB9).1 5 _ rfl
  have fu5 := (HR2.out.keep hB9).2 5 (by simp)
  have u6 := (HR2.out.keep hB9).1 6 _ rfl
  have fu6 := (HR2.out.keep hB9).2 6 (by simp)
  have u7 := (HR2.out.keep hB9).1 7 _ rfl
  have fu7 := (HR2.out.keep hB9).2 7 (by simp)
  have u8 := (HR2.out.keep hB9).1 8 _ rfl
  have fu8 := (HR2.out.keep hB9).2 8 (by simp)
  have HB := Lib.hid (HB2.out.1.trans (hB9.mono HB2.out.2))
  clear hq hT hB9
  go_wp2
  refine bodyPost_ret (v := .tuple #[.agg #[.int .i64 0, .int .i64 0, .int .i64 0, .int .i64 0, .int .i64 0, .int .i64 0, .int .u32 0, .int .u32 0, .slice none 0 0], .int .i64 2]) (by simp (maxDischargeDepth := 8) [results, Tryd.results29, go_sem, *]) rfl ?_
  refine actPost_bad Ac0 none 0 0 2 rfl rfl (by decide) ?_
  · skip
    repeat (first | with_reducible refine Below.setCell ?_ (by first | exact Nat.le_refl _ | exact HB2.out.2) _ | with_reducible refine Below.drew ?_ | with_reducible refine below_drewN ?_ _)
    exact HB.out
set_option maxHeartbeats 3200000 in
set_option maxRecDepth 100000 in
theorem rone_ko_b0 (s : ByteArray) (w : World) (k : Int) (q0 : (k == 0) = false) (q1 : (k == 1) = false) (q2 : (k == 2) = false) (q3 : (k == 3) = false) (q6 : (k == 6) = false) (a0 a1 : List UInt8) (CN0 : ∀ W, Calls Tryd.prog 42 #[.string ⟨a1.toArray⟩] W (NumPost none W))
    (CS : Calls Tryd.prog 28 #[.string s, .int .u8 32] (w.alloc (.cells #[.int .i64 0, .int .i64 0, .int .i64 0, .int .i64 0, .int .i64 0, .int .i64 0, .int .u32 0, .int .u32 0, .slice none 0 0] 29)) (SplitP 2 [a0, a1] (w.alloc (.cells #[.int .i64 0, .int .i64 0, .int .i64 0, .int .i64 0, .int .i64 0, .int .i64 0, .int .u32 0, .int .u32 0, .slice none 0 0] 29))))
    (CH : ∀ W A c, RowAt W A (strV [a0, a1]) → Calls Tryd.prog 41 #[.slice A 2 c] W (ShapePost k 0 1 1 W)) :
    Calls Tryd.prog 29 #[.string s] w (ActPost (Ac0, 5) w) := by
  obtain ⟨hz, hsz⟩ := zero_of_info (show (Tryd.prog.info? 29).map (fun i => (i.zero, i.size)) = some (some (.agg #[.int .i64 0, .int .i64 0, .int .i64 0, .int .i64 0, .int .i64 0, .int .i64 0, .int .u32 0, .int .u32 0, .slice none 0 0]), 9) by kernel_rfl)
  unfold NumPost at CN0
  have hx0 : BoxF (w.alloc (.cells #[.int .i64 0, .int .i64 0, .int .i64 0, .int .i64 0, .int .i64 0, .int .i64 0, .int .u32 0, .int .u32 0, .slice none 0 0] 29)) w.heap.size [.int .i64 0, .int .i64 0, .int .i64 0, .int .i64 0, .int .i64 0, .int .i64 0, .int .u32 0, .int .u32 0, .slice none 0 0] := boxF_made w [.int .i64 0, .int .i64 0, .int .i64 0, .int .i64 0, .int .i64 0, .int .i64 0, .int .u32 0, .int .u32 0, .slice none 0 0] 29
  have hb0 : Below w.heap.size w (w.alloc (.cells #[.int .i64 0, .int .i64 0, .int .i64 0, .int .i64 0, .int .i64 0, .int .i64 0, .int .u32 0, .int .u32 0, .slice none 0 0] 29)) := (Below.refl _ _).alloc (Nat.le_refl _) _
  have HX := Lib.hid (And.intro hx0 hb0)
  have CS := Lib.hid CS
  have CH := Lib.hid CH
  clear hx0 hb0
  go_enter Tryd.func29, Tryd.ntmps29
  go_wp2_with fail
  refine CS.out.mono ?_
  rintro e w1 ⟨A, c, rfl, hlc, hrow, hq1⟩
  have hx1 := HX.out.1.keep hq1
  have hb1 : Below w.heap.size w w1 := HX.out.2.trans (hq1.mono HX.out.2.size)
  have C2 := CH.out w1 A c hrow
  have H1 := Lib.hid (And.intro hx1 (And.intro hb1 hrow))
  clear hx1 hb1 hrow hq1
  go_wp2_with fail
  refine C2.mono ?_
  rintro e w2 ⟨rfl, hq2⟩
  clear C2
  have HB2 := Lib.hid (And.intro (H1.out.2.1.trans (hq2.mono H1.out.2.1.size)) (H1.out.2.1.trans (hq2.mono H1.out.2.1.size)).size)
  have HR2 := Lib.hid (H1.out.1.keep hq2)
  have hrow2 := H1.out.2.2.keep hq2
  clear hq2
  obtain ⟨blk, off, rfl, hc0⟩ := hrow2 0 _ rfl
  have hc1 : w2.cell? ⟨blk, off + 1, none⟩ = _ := (by
    obtain ⟨b3, o3, he, hc⟩ := hrow2 1 _ rfl
    injection he with he
    injection he with h1 h2 h3
    subst h1 h2
    exact hc)
  simp only [Nat.add_zero] at hc0
  have hlt2 := World.block_lt_of_cell? _ _ hc0
  simp only at hlt2
  have HK : Hid (∀ W, Below w2.heap.size w2 W → W.cell? ⟨blk, off, none⟩ = some (.string ⟨a0.toArray⟩) ∧ W.cell? ⟨blk, off + 1, none⟩ = some (.string ⟨a1.toArray⟩)) := fun W hW => ⟨(hW.cell (p := ⟨blk, off, none⟩) hlt2).trans hc0, (hW.cell (p := ⟨blk, off + 1, none⟩) hlt2).trans hc1⟩
  clear hrow2
  go_wp2_with fail
  refine wp_loop_rounds 3 ?_
  rw [rounds_succ]
  go_wp2_with fail
  refine (CN0 _).mono ?_
  rintro e w3 ⟨⟨mm, rfl⟩, hq⟩
  have hX3 : BoxF w3 w2.heap.size [.int .i64 0, .int .i64 0, .int .i64 0] := (boxF_made w2 [.int .i64 0, .int .i64 0, .int .i64 0] 2).keep hq
  have hB3 : Below w2.heap.size w2 w3 := ((Below.refl _ _).alloc (Nat.le_refl _) (.cells #[.int .i64 0, .int .i64 0, .int .i64 0] 2)).trans (hq.mono (by simp))
  have HN3 := Lib.hid (And.intro hX3 hB3)
  clear hq hX3 hB3
  have hz3 : w2.heap.size < w3.heap.size := World.block_lt_of_cell? _ _ (HN3.out.1.1 0 _ rfl)
  have v0 := HN3.out.1.1 0 _ rfl
  have fv0 := HN3.out.1.2 0 (by simp)
  have v1 := HN3.out.1.1 1 _ rfl
  have fv1 := HN3.out.1.2 1 (by simp)
  have v2 := HN3.out.1.1 2 _ rfl
  have fv2 := HN3.out.1.2 2 (by simp)
  have u0 := (HR2.out.keep HN3.out.2).1 0 _ rfl
  have fu0 := (HR2.out.keep HN3.out.2).2 0 (by simp)
  have u1 := (HR2.out.keep HN3.out.2).1 1 _ rfl
  have fu1 := (HR2.out.keep HN3.out.2).2 1 (by simp)
  have u2 := (HR2.out.keep HN3.out.2).1 2 _ rfl
  have fu2 := (HR2.out.keep HN3.out.2).2 2 (by simp)
  have u3 := (HR2.out.keep HN3.out.2).1 3 _ rfl
  have fu3 := (HR2.out.keep HN3.out.2).2 3 (by simp)
  have u4 := (HR2.out.keep HN3.out.2).1 4 _ rfl
  have fu4 := (HR2.out.keep HN3.out.2).2 4 (by simp)
  have u5 := (HR2.out.keep HN3.out.2).1 5 _ rfl
  have fu5 := (HR2.out.keep HN3.out.2).2 5 (by simp)
  have u6 := (HR2.out.keep HN3.out.2).1 6 _ rfl
  have fu6 := (HR2.out.keep HN3.out.2).2 6 (by simp)
  have u7 := (HR2.out.keep HN3.out.2).1 7 _ rfl
  have fu7 := (HR2.out.keep HN3.out.2).2 7 (by simp)
  have u8 := (HR2.out.keep HN3.out.2).1 8 _ rfl
  have fu8 := (HR2.out.keep HN3.out.2).2 8 (by simp)
  have HB := Lib.hid (HB2.out.1.trans (HN3.out.2.mono HB2.out.2))
  go_wp2
  refine bodyPost_ret (v := .tuple #[.agg #[.int .i64 0, .int .i64 0, .int .i64 0, .int .i64 0, .int .i64 0, .int .i64 0, .int .u32 0, .int .u32 0, .slice none 0 0], .int .i64 5]) (by simp (maxDischargeDepth := 8) [results, Tryd.results29, go_sem, *]) rfl ?_
  refine actPost_bad Ac0 none 0 0 5 rfl rfl (by decide) ?_
  · skip
    repeat (first | with_reducible refine Below.setCell ?_ (by first | exact Nat.le_refl _ | exact HB2.out.2) _ | with_reducible refine Below.drew ?_ | with_reducible refine below_drewN ?_ _)
    exact HB.out
set_option maxHeartbeats 3200000 in
set_option maxRecDepth 100000 in
theorem rone_ko_ok (s : ByteArray) (w : World) (k : Int) (q0 : (k == 0) = false) (q1 : (k == 1) = false) (q2 : (k == 2) = false) (q3 : (k == 3) = false) (q6 : (k == 6) = false) (a0 a1 : List UInt8) (z0 : Int) (CN0 : ∀ W, Calls Tryd.prog 42 #[.string ⟨a1.toArray⟩] W (NumPost (some z0) W)) (hvg : goodA ⟨k, z0, 0, Fa0, []⟩ = true)
    (CS : Calls Tryd.prog 28 #[.string s, .int .u8 32] (w.alloc (.cells #[.int .i64 0, .int .i64 0, .int .i64 0, .int .i64 0, .int .i64 0, .int .i64 0, .int .u32 0, .int .u32 0, .slice none 0 0] 29)) (SplitP 2 [a0, a1] (w.alloc (.cells #[.int .i64 0, .int .i64 0, .int .i64 0, .int .i64 0, .int .i64 0, .int .i64 0, .int .u32 0, .int .u32 0, .slice none 0 0] 29))))
    (CH : ∀ W A c, RowAt W A (strV [a0, a1]) → Calls Tryd.prog 41 #[.slice A 2 c] W (ShapePost k 0 1 1 W)) :
    Calls Tryd.prog 29 #[.string s] w (ActPost (⟨k, z0, 0, Fa0, []⟩, 0) w) := by
  obtain ⟨hz, hsz⟩ := zero_of_info (show (Tryd.prog.info? 29).map (fun i => (i.zero, i.size)) = some (some (.agg #[.int .i64 0, .int .i64 0, .int .i64 0, .int .i64 0, .int .i64 0, .int .i64 0, .int .u32 0, .int .u32 0, .slice none 0 0]), 9) by kernel_rfl)
  unfold NumPost at CN0
  have CG : ∀ W, Calls Tryd.prog 16 #[.agg #[.int .i64 k, .int .i64 z0, .int .i64 0, .int .i64 0, .int .i64 0, .int .i64 0, .int .u32 0, .int .u32 0, .slice none 0 0]] W fun e w' => e = .returned (.bool true) ∧ Below W.heap.size W w' := fun W => refGoodV ⟨k, z0, 0, Fa0, []⟩ none 0 0 true hvg W (U8At.nil _ _) rfl
  have CG := Lib.hid CG
  clear hvg
  have hx0 : BoxF (w.alloc (.cells #[.int .i64 0, .int .i64 0, .int .i64 0, .int .i64 0, .int .i64 0, .int .i64 0, .int .u32 0, .int .u32 0, .slice none 0 0] 29)) w.heap.size [.int .i64 0, .int .i64 0, .int .i64 0, .int .i64 0, .int .i64 0, .int .i64 0, .int .u32 0, .int .u32 0, .slice none 0 0] := boxF_made w [.int .i64 0, .int .i64 0, .int .i64 0, .int .i64 0, .int .i64 0, .int .i64 0, .int .u32 0, .int .u32 0, .slice none 0 0] 29
  have hb0 : Below w.heap.size w (w.alloc (.cells #[.int .i64 0, .int .i64 0, .int .i64 0, .int .i64 0, .int .i64 0, .int .i64 0, .int .u32 0, .int .u32 0, .slice none 0 0] 29)) := (Below.refl _ _).alloc (Nat.le_refl _) _
  have HX := Lib.hid (And.intro hx0 hb0)
  have CS := Lib.hid CS
  have CH := Lib.hid CH
  clear hx0 hb0
  go_enter Tryd.func29, Tryd.ntmps29
  go_wp2_with fail
  refine CS.out.mono ?_
  rintro e w1 ⟨A, c, rfl, hlc, hrow, hq1⟩
  have hx1 := HX.out.1.keep hq1
  have hb1 : Below w.heap.size w w1 := HX.out.2.trans (hq1.mono HX.out.2.size)
  have C2 := CH.out w1 A c hrow
  have H1 := Lib.hid (And.intro hx1 (And.intro hb1 hrow))
  clear hx1 hb1 hrow hq1
  go_wp2_with fail
  refine C2.mono ?_
  rintro e w2 ⟨rfl, hq2⟩
  clear C2
  have HB2 := Lib.hid (And.intro (H1.out.2.1.trans (hq2.mono H1.out.2.1.size)) (H1.out.2.1.trans (hq2.mono H1.out.2.1.size)).size)
  have HR2 := Lib.hid (H1.out.1.keep hq2)
  have hrow2 := H1.out.2.2.keep hq2
  clear hq2
  obtain ⟨blk, off, rfl, hc0⟩ := hrow2 0 _ rfl
  have hc1 : w2.cell? ⟨blk, off + 1, none⟩ = _ := (by
    obtain ⟨b3, o3, he, hc⟩ := hrow2 1 _ rfl
    injection he with he
    injection he with h1 h2 h3
    subst h1 h2
    exact hc)
  simp only [Nat.add_zero] at hc0
  have hlt2 := World.block_lt_of_cell? _ _ hc0
  simp only at hlt2
  have HK : Hid (∀ W, Below w2.heap.size w2 W → W.cell? ⟨blk, off, none⟩ = some (.string ⟨a0.toArray⟩) ∧ W.cell? ⟨blk, off + 1, none⟩ = some (.string ⟨a1.toArray⟩)) := fun W hW => ⟨(hW.cell (p := ⟨blk, off, none⟩) hlt2).trans hc0, (hW.cell (p := ⟨blk, off + 1, none⟩) hlt2).trans hc1⟩
  clear hrow2
  go_wp2_with fail
  refine wp_loop_rounds 3 ?_
  rw [rounds_succ]
  go_wp2_with fail
  refine (CN0 _).mono ?_
  rintro e w3 ⟨rfl, hq⟩
  have hX3 : BoxF w3 w2.heap.size [.int .i64 0, .int .i64 0, .int .i64 0] := (boxF_made w2 [.int .i64 0, .int .i64 0, .int .i64 0] 2).keep hq
  have hB3 : Below w2.heap.size w2 w3 := ((Below.refl _ _).alloc (Nat.le_refl _) (.cells #[.int .i64 0, .int .i64 0, .int .i64 0] 2)).trans (hq.mono (by simp))
  have HN3 := Lib.hid (And.intro hX3 hB3)
  clear hq hX3 hB3
  have hz3 : w2.heap.size < w3.heap.size := World.block_lt_of_cell? _ _ (HN3.out.1.1 0 _ rfl)
  have v0 := HN3.out.1.1 0 _ rfl
  have fv0 := HN3.out.1.2 0 (by simp)
  have v1 := HN3.out.1.1 1 _ rfl
  have fv1 := HN3.out.1.2 1 (by simp)
  have v2 := HN3.out.1.1 2 _ rfl
  have fv2 := HN3.out.1.2 2 (by simp)
  clear hc0 hc1
  go_wp2_with fail
  rw [rounds_succ]
  go_wp2_with fail
  refine (CG.out _).mono ?_
  rintro e w9 ⟨rfl, hq⟩
  have hT : BoxF w9 (w3.setCell ⟨w2.heap.size, 0, none⟩ (.int .i64 z0)).heap.size [.int .i64 k, .int .i64 z0, .int .i64 0, .int .i64 0, .int .i64 0, .int .i64 0, .int .u32 0, .int .u32 0, .slice none 0 0] := (boxF_made _ [.int .i64 k, .int .i64 z0, .int .i64 0, .int .i64 0, .int .i64 0, .int .i64 0, .int .u32 0, .int .u32 0, .slice none 0 0] 29).keep hq
  rw [show (w3.setCell ⟨w2.heap.size, 0, none⟩ (.int .i64 z0)).heap.size = w3.heap.size by simp] at hT
  have hB9 : Below w2.heap.size w2 w9 := ((HN3.out.2.setCell (p := ⟨w2.heap.size, 0, none⟩) (Nat.le_refl _) (.int .i64 z0)).alloc (by simp; omega) (.cells #[.int .i64 k, .int .i64 z0, .int .i64 0, .int .i64 0, .int .i64 0, .int .i64 0, .int .u32 0, .int .u32 0, .slice none 0 0] 29)).trans (hq.mono (by simp; omega))
  have t0 := hT.1 0 _ rfl
  have t1 := hT.1 1 _ rfl
  have t2 := hT.1 2 _ rfl
  have t3 := hT.1 3 _ rfl
  have t4 := hT.1 4 _ rfl
  have t5 := hT.1 5 _ rfl
  have t6 := hT.1 6 _ rfl
  have t7 := hT.1 7 _ rfl
  have t8 := hT.1 8 _ rfl
  clear v0 fv0 v1 fv1 v2 fv2
  have u0 := (HR2.out.keep hB9).1 0 _ rfl
  have fu0 := (HR2.out.keep hB9).2 0 (by simp)
  have u1 := (HR2.out.keep hB9).1 1 _ rfl
  have fu1 := (HR2.out.keep hB9).2 1 (by simp)
  have u2 := (HR2.out.keep hB9).1 2 _ rfl
  have fu2 := (HR2.out.keep hB9).2 2 (by simp)
  have u3 := (HR2.out.keep hB9).1 3 _ rfl
  have fu3 := (HR2.out.keep hB9).2 3 (by simp)
  have u4 := (HR2.out.keep hB9).1 4 _ rfl
  have fu4 := (HR2.out.keep hB9).2 4 (by simp)
  have u5 := (HR2.out.keep hB9).1 5 _ rfl
  have fu5 := (HR2.out.keep hB9).2 5 (by simp)
  have u6 := (HR2.out.keep hB9).1 6 _ rfl
  have fu6 := (HR2.out.keep hB9).2 6 (by simp)
  have u7 := (HR2.out.keep hB9).1 7 _ rfl
  have fu7 := (HR2.out.keep hB9).2 7 (by simp)
  have u8 := (HR2.out.keep hB9).1 8 _ rfl
  have fu8 := (HR2.out.keep hB9).2 8 (by simp)
  have HB := Lib.hid (HB2.out.1.trans (hB9.mono HB2.out.2))
  clear hq hT hB9
  go_wp2
  refine bodyPost_ret (v := .tuple #[.agg #[.int .i64 k, .int .i64 z0, .int .i64 0, .int .i64 0, .int .i64 0, .int .i64 0, .int .u32 0, .int .u32 0, .slice none 0 0], .int .i64 0]) (by simp (maxDischargeDepth := 8) [results, Tryd.results29, go_sem, *]) rfl ?_
  refine actPost_ok ⟨k, z0, 0, Fa0, []⟩ none 0 0 rfl rfl rfl rfl (own_nil _ _) ?_
  · skip
    repeat (first | with_reducible refine Below.setCell ?_ (by first | exact Nat.le_refl _ | exact HB2.out.2) _ | with_reducible refine Below.drew ?_ | with_reducible refine below_drewN ?_ _)
    exact HB.out
set_option maxHeartbeats 3200000 in
set_option maxRecDepth 100000 in
theorem rone_ko_ng (s : ByteArray) (w : World) (k : Int) (q0 : (k == 0) = false) (q1 : (k == 1) = false) (q2 : (k == 2) = false) (q3 : (k == 3) = false) (q6 : (k == 6) = false) (a0 a1 : List UInt8) (z0 : Int) (CN0 : ∀ W, Calls Tryd.prog 42 #[.string ⟨a1.toArray⟩] W (NumPost (some z0) W)) (hvg : goodA ⟨k, z0, 0, Fa0, []⟩ = false)
    (CS : Calls Tryd.prog 28 #[.string s, .int .u8 32] (w.alloc (.cells #[.int .i64 0, .int .i64 0, .int .i64 0, .int .i64 0, .int .i64 0, .int .i64 0, .int .u32 0, .int .u32 0, .slice none 0 0] 29)) (SplitP 2 [a0, a1] (w.alloc (.cells #[.int .i64 0, .int .i64 0, .int .i64 0, .int .i64 0, .int .i64 0, .int .i64 0, .int .u32 0, .int .u32 0, .slice none 0 0] 29))))
    (CH : ∀ W A c, RowAt W A (strV [a0, a1]) → Calls Tryd.prog 41 #[.slice A 2 c] W (ShapePost k 0 1 1 W)) :
    Calls Tryd.prog 29 #[.string s] w (ActPost (Ac0, 2) w) := by
  obtain ⟨hz, hsz⟩ := zero_of_info (show (Tryd.prog.info? 29).map (fun i => (i.zero, i.size)) = some (some (.agg #[.int .i64 0, .int .i64 0, .int .i64 0, .int .i64 0, .int .i64 0, .int .i64 0, .int .u32 0, .int .u32 0, .slice none 0 0]), 9) by kernel_rfl)
  unfold NumPost at CN0
  have CG : ∀ W, Calls Tryd.prog 16 #[.agg #[.int .i64 k, .int .i64 z0, .int .i64 0, .int .i64 0, .int .i64 0, .int .i64 0, .int .u32 0, .int .u32 0, .slice none 0 0]] W fun e w' => e = .returned (.bool false) ∧ Below W.heap.size W w' := fun W => refGoodV ⟨k, z0, 0, Fa0, []⟩ none 0 0 false hvg W (U8At.nil _ _) rfl
  have CG := Lib.hid CG
  clear hvg
  have hx0 : BoxF (w.alloc (.cells #[.int .i64 0, .int .i64 0, .int .i64 0, .int .i64 0, .int .i64 0, .int .i64 0, .int .u32 0, .int .u32 0, .slice none 0 0] 29)) w.heap.size [.int .i64 0, .int .i64 0, .int .i64 0, .int .i64 0, .int .i64 0, .int .i64 0, .int .u32 0, .int .u32 0, .slice none 0 0] := boxF_made w [.int .i64 0, .int .i64 0, .int .i64 0, .int .i64 0, .int .i64 0, .int .i64 0, .int .u32 0, .int .u32 0, .slice none 0 0] 29
  have hb0 : Below w.heap.size w (w.alloc (.cells #[.int .i64 0, .int .i64 0, .int .i64 0, .int .i64 0, .int .i64 0, .int .i64 0, .int .u32 0, .int .u32 0, .slice none 0 0] 29)) := (Below.refl _ _).alloc (Nat.le_refl _) _
  have HX := Lib.hid (And.intro hx0 hb0)
  have CS := Lib.hid CS
  have CH := Lib.hid CH
  clear hx0 hb0
  go_enter Tryd.func29, Tryd.ntmps29
  go_wp2_with fail
  refine CS.out.mono ?_
  rintro e w1 ⟨A, c, rfl, hlc, hrow, hq1⟩
  have hx1 := HX.out.1.keep hq1
  have hb1 : Below w.heap.size w w1 := HX.out.2.trans (hq1.mono HX.out.2.size)
  have C2 := CH.out w1 A c hrow
  have H1 := Lib.hid (And.intro hx1 (And.intro hb1 hrow))
  clear hx1 hb1 hrow hq1
  go_wp2_with fail
  refine C2.mono ?_
  rintro e w2 ⟨rfl, hq2⟩
  clear C2
  have HB2 := Lib.hid (And.intro (H1.out.2.1.trans (hq2.mono H1.out.2.1.size)) (H1.out.2.1.trans (hq2.mono H1.out.2.1.size)).size)
  have HR2 := Lib.hid (H1.out.1.keep hq2)
  have hrow2 := H1.out.2.2.keep hq2
  clear hq2
  obtain ⟨blk, off, rfl, hc0⟩ := hrow2 0 _ rfl
  have hc1 : w2.cell? ⟨blk, off + 1, none⟩ = _ := (by
    obtain ⟨b3, o3, he, hc⟩ := hrow2 1 _ rfl
    injection he with he
    injection he with h1 h2 h3
    subst h1 h2
    exact hc)
  simp only [Nat.add_zero] at hc0
  have hlt2 := World.block_lt_of_cell? _ _ hc0
  simp only at hlt2
  have HK : Hid (∀ W, Below w2.heap.size w2 W → W.cell? ⟨blk, off, none⟩ = some (.string ⟨a0.toArray⟩) ∧ W.cell? ⟨blk, off + 1, none⟩ = some (.string ⟨a1.toArray⟩)) := fun W hW => ⟨(hW.cell (p := ⟨blk, off, none⟩) hlt2).trans hc0, (hW.cell (p := ⟨blk, off + 1, none⟩) hlt2).trans hc1⟩
  clear hrow2
  go_wp2_with fail
  refine wp_loop_rounds 3 ?_
  rw [rounds_succ]
  go_wp2_with fail
  refine (CN0 _).mono ?_
  rintro e w3 ⟨rfl, hq⟩
  have hX3 : BoxF w3 w2.heap.size [.int .i64 0, .int .i64 0, .int .i64 0] := (boxF_made w2 [.int .i64 0, .int .i64 0, .int .i64 0] 2).keep hq
  have hB3 : Below w2.heap.size w2 w3 := ((Below.refl _ _).alloc (Nat.le_refl _) (.cells #[.int .i64 0, .int .i64 0, .int .i64 0] 2)).trans (hq.mono (by simp))
  have HN3 := Lib.hid (And.intro hX3 hB3)
  clear hq hX3 hB3
  have hz3 : w2.heap.size < w3.heap.size := World.block_lt_of_cell? _ _ (HN3.out.1.1 0 _ rfl)
  have v0 := HN3.out.1.1 0 _ rfl
  have fv0 := HN3.out.1.2 0 (by simp)
  have v1 := HN3.out.1.1 1 _ rfl
  have fv1 := HN3.out.1.2 1 (by simp)
  have v2 := HN3.out.1.1 2 _ rfl
  have fv2 := HN3.out.1.2 2 (by simp)
  clear hc0 hc1
  go_wp2_with fail
  rw [rounds_succ]
  go_wp2_with fail
  refine (CG.out _).mono ?_
  rintro e w9 ⟨rfl, hq⟩
  have hT : BoxF w9 (w3.setCell ⟨w2.heap.size, 0, none⟩ (.int .i64 z0)).heap.size [.int .i64 k, .int .i64 z0, .int .i64 0, .int .i64 0, .int .i64 0, .int .i64 0, .int .u32 0, .int .u32 0, .slice none 0 0] := (boxF_made _ [.int .i64 k, .int .i64 z0, .int .i64 0, .int .i64 0, .int .i64 0, .int .i64 0, .int .u32 0, .int .u32 0, .slice none 0 0] 29).keep hq
  rw [show (w3.setCell ⟨w2.heap.size, 0, none⟩ (.int .i64 z0)).heap.size = w3.heap.size by simp] at hT
  have hB9 : Below w2.heap.size w2 w9 := ((HN3.out.2.setCell (p := ⟨w2.heap.size, 0, none⟩) (Nat.le_refl _) (.int .i64 z0)).alloc (by simp; omega) (.cells #[.int .i64 k, .int .i64 z0, .int .i64 0, .int .i64 0, .int .i64 0, .int .i64 0, .int .u32 0, .int .u32 0, .slice none 0 0] 29)).trans (hq.mono (by simp; omega))
  have t0 := hT.1 0 _ rfl
  have t1 := hT.1 1 _ rfl
  have t2 := hT.1 2 _ rfl
  have t3 := hT.1 3 _ rfl
  have t4 := hT.1 4 _ rfl
  have t5 := hT.1 5 _ rfl
  have t6 := hT.1 6 _ rfl
  have t7 := hT.1 7 _ rfl
  have t8 := hT.1 8 _ rfl
  clear v0 fv0 v1 fv1 v2 fv2
  have u0 := (HR2.out.keep hB9).1 0 _ rfl
  have fu0 := (HR2.out.keep hB9).2 0 (by simp)
  have u1 := (HR2.out.keep hB9).1 1 _ rfl
  have fu1 := (HR2.out.keep hB9).2 1 (by simp)
  have u2 := (HR2.out.keep hB9).1 2 _ rfl
  have fu2 := (HR2.out.keep hB9).2 2 (by simp)
  have u3 := (HR2.out.keep hB9).1 3 _ rfl
  have fu3 := (HR2.out.keep hB9).2 3 (by simp)
  have u4 := (HR2.out.keep hB9).1 4 _ rfl
  have fu4 := (HR2.out.keep hB9).2 4 (by simp)
  have u5 := (HR2.out.keep hB9).1 5 _ rfl
  have fu5 := (HR2.out.keep hB9).2 5 (by simp)
  have u6 := (HR2.out.keep hB9).1 6 _ rfl
  have fu6 := (HR2.out.keep hB9).2 6 (by simp)
  have u7 := (HR2.out.keep hB9).1 7 _ rfl
  have fu7 := (HR2.out.keep hB9).2 7 (by simp)
  have u8 := (HR2.out.keep hB9).1 8 _ rfl
  have fu8 := (HR2.out.keep hB9).2 8 (by simp)
  have HB := Lib.hid (HB2.out.1.trans (hB9.mono HB2.out.2))
  clear hq hT hB9
  go_wp2
  refine bodyPost_ret (v := .tuple #[.agg #[.int .i64 0, .int .i64 0, .int .i64 0, .int .i64 0, .int .i64 0, .int .i64 0, .int .u32 0, .int .u32 0, .slice none 0 0], .int .i64 2]) (by simp (maxDischargeDepth := 8) [results, Tryd.results29, go_sem, *]) rfl ?_
  refine actPost_bad Ac0 none 0 0 2 rfl rfl (by decide) ?_
  · skip
    repeat (first | with_reducible refine Below.setCell ?_ (by first | exact Nat.le_refl _ | exact HB2.out.2) _ | with_reducible refine Below.drew ?_ | with_reducible refine below_drewN ?_ _)
    exact HB.out
set_option maxHeartbeats 3200000 in
set_option maxRecDepth 100000 in
theorem rone_k6_b0 (s : ByteArray) (w : World) (a0 a1 : List UInt8) (CN0 : ∀ W, Calls Tryd.prog 42 #[.string ⟨a1.toArray⟩] W (NumPost none W))
    (CS : Calls Tryd.prog 28 #[.string s, .int .u8 32] (w.alloc (.cells #[.int .i64 0, .int .i64 0, .int .i64 0, .int .i64 0, .int .i64 0, .int .i64 0, .int .u32 0, .int .u32 0, .slice none 0 0] 29)) (SplitP 2 [a0, a1] (w.alloc (.cells #[.int .i64 0, .int .i64 0, .int .i64 0, .int .i64 0, .int .i64 0, .int .i64 0, .int .u32 0, .int .u32 0, .slice none 0 0] 29))))
    (CH : ∀ W A c, RowAt W A (strV [a0, a1]) → Calls Tryd.prog 41 #[.slice A 2 c] W (ShapePost 6 0 1 1 W)) :
    Calls Tryd.prog 29 #[.string s] w (ActPost (Ac0, 5) w) := by
  obtain ⟨hz, hsz⟩ := zero_of_info (show (Tryd.prog.info? 29).map (fun i => (i.zero, i.size)) = some (some (.agg #[.int .i64 0, .int .i64 0, .int .i64 0, .int .i64 0, .int .i64 0, .int .i64 0, .int .u32 0, .int .u32 0, .slice none 0 0]), 9) by kernel_rfl)
  unfold NumPost at CN0
  have hx0 : BoxF (w.alloc (.cells #[.int .i64 0, .int .i64 0, .int .i64 0, .int .i64 0, .int .i64 0, .int .i64 0, .int .u32 0, .int .u32 0, .slice none 0 0] 29)) w.heap.size [.int .i64 0, .int .i64 0, .int .i64 0, .int .i64 0, .int .i64 0, .int .i64 0, .int .u32 0, .int .u32 0, .slice none 0 0] := boxF_made w [.int .i64 0, .int .i64 0, .int .i64 0, .int .i64 0, .int .i64 0, .int .i64 0, .int .u32 0, .int .u32 0, .slice none 0 0] 29
  have hb0 : Below w.heap.size w (w.alloc (.cells #[.int .i64 0, .int .i64 0, .int .i64 0, .int .i64 0, .int .i64 0, .int .i64 0, .int .u32 0, .int .u32 0, .slice none 0 0] 29)) := (Below.refl _ _).alloc (Nat.le_refl _) _
  have HX := Lib.hid (And.intro hx0 hb0)
  have CS := Lib.hid CS
  have CH := Lib.hid CH
  clear hx0 hb0
  go_enter Tryd.func29, Tryd.ntmps29
  go_wp2_with fail
  refine CS.out.mono ?_
  rintro e w1 ⟨A, c, rfl, hlc, hrow, hq1⟩
  have hx1 := HX.out.1.keep hq1
  have hb1 : Below w.heap.size w w1 := HX.out.2.trans (hq1.mono HX.out.2.size)
  have C2 := CH.out w1 A c hrow
  have H1 := Lib.hid (And.intro hx1 (And.intro hb1 hrow))
  clear hx1 hb1 hrow hq1
  go_wp2_with fail
  refine C2.mono ?_
  rintro e w2 ⟨rfl, hq2⟩
  clear C2
  have HB2 := Lib.hid (And.intro (H1.out.2.1.trans (hq2.mono H1.out.2.1.size)) (H1.out.2.1.trans (hq2.mono H1.out.2.1.size)).size)
  have HR2 := Lib.hid (H1.out.1.keep hq2)
  have hrow2 := H1.out.2.2.keep hq2
  clear hq2
  obtain ⟨blk, off, rfl, hc0⟩ := hrow2 0 _ rfl
  have hc1 : w2.cell? ⟨blk, off + 1, none⟩ = _ := (by
    obtain ⟨b3, o3, he, hc⟩ := hrow2 1 _ rfl
    injection he with he
    injection he with h1 h2 h3
    subst h1 h2
    exact hc)
  simp only [Nat.add_zero] at hc0
  have hlt2 := World.block_lt_of_cell? _ _ hc0
  simp only at hlt2
  have HK : Hid (∀ W, Below w2.heap.size w2 W → W.cell? ⟨blk, off, none⟩ = some (.string ⟨a0.toArray⟩) ∧ W.cell? ⟨blk, off + 1, none⟩ = some (.string ⟨a1.toArray⟩)) := fun W hW => ⟨(hW.cell (p := ⟨blk, off, none⟩) hlt2).trans hc0, (hW.cell (p := ⟨blk, off + 1, none⟩) hlt2).trans hc1⟩
  clear hrow2
  go_wp2_with fail
  refine wp_loop_rounds 3 ?_
  rw [rounds_succ]
  go_wp2_with fail
  refine (CN0 _).mono ?_
  rintro e w3 ⟨⟨mm, rfl⟩, hq⟩
  have hX3 : BoxF w3 w2.heap.size [.int .i64 0, .int .i64 0, .int .i64 0] := (boxF_made w2 [.int .i64 0, .int .i64 0, .int .i64 0] 2).keep hq
  have hB3 : Below w2.heap.size w2 w3 := ((Below.refl _ _).alloc (Nat.le_refl _) (.cells #[.int .i64 0, .int .i64 0, .int .i64 0] 2)).trans (hq.mono (by simp))
  have HN3 := Lib.hid (And.intro hX3 hB3)
  clear hq hX3 hB3
  have hz3 : w2.heap.size < w3.heap.size := World.block_lt_of_cell? _ _ (HN3.out.1.1 0 _ rfl)
  have v0 := HN3.out.1.1 0 _ rfl
  have fv0 := HN3.out.1.2 0 (by simp)
  have v1 := HN3.out.1.1 1 _ rfl
  have fv1 := HN3.out.1.2 1 (by simp)
  have v2 := HN3.out.1.1 2 _ rfl
  have fv2 := HN3.out.1.2 2 (by simp)
  have u0 := (HR2.out.keep HN3.out.2).1 0 _ rfl
  have fu0 := (HR2.out.keep HN3.out.2).2 0 (by simp)
  have u1 := (HR2.out.keep HN3.out.2).1 1 _ rfl
  have fu1 := (HR2.out.keep HN3.out.2).2 1 (by simp)
  have u2 := (HR2.out.keep HN3.out.2).1 2 _ rfl
  have fu2 := (HR2.out.keep HN3.out.2).2 2 (by simp)
  have u3 := (HR2.out.keep HN3.out.2).1 3 _ rfl
  have fu3 := (HR2.out.keep HN3.out.2).2 3 (by simp)
  have u4 := (HR2.out.keep HN3.out.2).1 4 _ rfl
  have fu4 := (HR2.out.keep HN3.out.2).2 4 (by simp)
  have u5 := (HR2.out.keep HN3.out.2).1 5 _ rfl
  have fu5 := (HR2.out.keep HN3.out.2).2 5 (by simp)
  have u6 := (HR2.out.keep HN3.out.2).1 6 _ rfl
  have fu6 := (HR2.out.keep HN3.out.2).2 6 (by simp)
  have u7 := (HR2.out.keep HN3.out.2).1 7 _ rfl
  have fu7 := (HR2.out.keep HN3.out.2).2 7 (by simp)
  have u8 := (HR2.out.keep HN3.out.2).1 8 _ rfl
  have fu8 := (HR2.out.keep HN3.out.2).2 8 (by simp)
  have HB := Lib.hid (HB2.out.1.trans (HN3.out.2.mono HB2.out.2))
  go_wp2
  refine bodyPost_ret (v := .tuple #[.agg #[.int .i64 0, .int .i64 0, .int .i64 0, .int .i64 0, .int .i64 0, .int .i64 0, .int .u32 0, .int .u32 0, .slice none 0 0], .int .i64 5]) (by simp (maxDischargeDepth := 8) [results, Tryd.results29, go_sem, *]) rfl ?_
  refine actPost_bad Ac0 none 0 0 5 rfl rfl (by decide) ?_
  · skip
    repeat (first | with_reducible refine Below.setCell ?_ (by first | exact Nat.le_refl _ | exact HB2.out.2) _ | with_reducible refine Below.drew ?_ | with_reducible refine below_drewN ?_ _)
    exact HB.out
set_option maxHeartbeats 3200000 in
set_option maxRecDepth 100000 in
theorem rone_k6_ok (s : ByteArray) (w : World) (a0 a1 : List UInt8) (z0 : Int) (CN0 : ∀ W, Calls Tryd.prog 42 #[.string ⟨a1.toArray⟩] W (NumPost (some z0) W)) (hvg : goodA ⟨6, z0, 0, Fa0, []⟩ = true)
    (CS : Calls Tryd.prog 28 #[.string s, .int .u8 32] (w.alloc (.cells #[.int .i64 0, .int .i64 0, .int .i64 0, .int .i64 0, .int .i64 0, .int .i64 0, .int .u32 0, .int .u32 0, .slice none 0 0] 29)) (SplitP 2 [a0, a1] (w.alloc (.cells #[.int .i64 0, .int .i64 0, .int .i64 0, .int .i64 0, .int .i64 0, .int .i64 0, .int .u32 0, .int .u32 0, .slice none 0 0] 29))))
    (CH : ∀ W A c, RowAt W A (strV [a0, a1]) → Calls Tryd.prog 41 #[.slice A 2 c] W (ShapePost 6 0 1 1 W)) :
    Calls Tryd.prog 29 #[.string s] w (ActPost (⟨6, z0, 0, Fa0, []⟩, 0) w) := by
  obtain ⟨hz, hsz⟩ := zero_of_info (show (Tryd.prog.info? 29).map (fun i => (i.zero, i.size)) = some (some (.agg #[.int .i64 0, .int .i64 0, .int .i64 0, .int .i64 0, .int .i64 0, .int .i64 0, .int .u32 0, .int .u32 0, .slice none 0 0]), 9) by kernel_rfl)
  unfold NumPost at CN0
  have CG : ∀ W, Calls Tryd.prog 16 #[.agg #[.int .i64 6, .int .i64 z0, .int .i64 0, .int .i64 0, .int .i64 0, .int .i64 0, .int .u32 0, .int .u32 0, .slice none 0 0]] W fun e w' => e = .returned (.bool true) ∧ Below W.heap.size W w' := fun W => refGoodV ⟨6, z0, 0, Fa0, []⟩ none 0 0 true hvg W (U8At.nil _ _) rfl
  have CG := Lib.hid CG
  clear hvg
  have hx0 : BoxF (w.alloc (.cells #[.int .i64 0, .int .i64 0, .int .i64 0, .int .i64 0, .int .i64 0, .int .i64 0, .int .u32 0, .int .u32 0, .slice none 0 0] 29)) w.heap.size [.int .i64 0, .int .i64 0, .int .i64 0, .int .i64 0, .int .i64 0, .int .i64 0, .int .u32 0, .int .u32 0, .slice none 0 0] := boxF_made w [.int .i64 0, .int .i64 0, .int .i64 0, .int .i64 0, .int .i64 0, .int .i64 0, .int .u32 0, .int .u32 0, .slice none 0 0] 29
  have hb0 : Below w.heap.size w (w.alloc (.cells #[.int .i64 0, .int .i64 0, .int .i64 0, .int .i64 0, .int .i64 0, .int .i64 0, .int .u32 0, .int .u32 0, .slice none 0 0] 29)) := (Below.refl _ _).alloc (Nat.le_refl _) _
  have HX := Lib.hid (And.intro hx0 hb0)
  have CS := Lib.hid CS
  have CH := Lib.hid CH
  clear hx0 hb0
  go_enter Tryd.func29, Tryd.ntmps29
  go_wp2_with fail
  refine CS.out.mono ?_
  rintro e w1 ⟨A, c, rfl, hlc, hrow, hq1⟩
  have hx1 := HX.out.1.keep hq1
  have hb1 : Below w.heap.size w w1 := HX.out.2.trans (hq1.mono HX.out.2.size)
  have C2 := CH.out w1 A c hrow
  have H1 := Lib.hid (And.intro hx1 (And.intro hb1 hrow))
  clear hx1 hb1 hrow hq1
  go_wp2_with fail
  refine C2.mono ?_
  rintro e w2 ⟨rfl, hq2⟩
  clear C2
  have HB2 := Lib.hid (And.intro (H1.out.2.1.trans (hq2.mono H1.out.2.1.size)) (H1.out.2.1.trans (hq2.mono H1.out.2.1.size)).size)
  have HR2 := Lib.hid (H1.out.1.keep hq2)
  have hrow2 := H1.out.2.2.keep hq2
  clear hq2
  obtain ⟨blk, off, rfl, hc0⟩ := hrow2 0 _ rfl
  have hc1 : w2.cell? ⟨blk, off + 1, none⟩ = _ := (by
    obtain ⟨b3, o3, he, hc⟩ := hrow2 1 _ rfl
    injection he with he
    injection he with h1 h2 h3
    subst h1 h2
    exact hc)
  simp only [Nat.add_zero] at hc0
  have hlt2 := World.block_lt_of_cell? _ _ hc0
  simp only at hlt2
  have HK : Hid (∀ W, Below w2.heap.size w2 W → W.cell? ⟨blk, off, none⟩ = some (.string ⟨a0.toArray⟩) ∧ W.cell? ⟨blk, off + 1, none⟩ = some (.string ⟨a1.toArray⟩)) := fun W hW => ⟨(hW.cell (p := ⟨blk, off, none⟩) hlt2).trans hc0, (hW.cell (p := ⟨blk, off + 1, none⟩) hlt2).trans hc1⟩
  clear hrow2
  go_wp2_with fail
  refine wp_loop_rounds 3 ?_
  rw [rounds_succ]
  go_wp2_with fail
  refine (CN0 _).mono ?_
  rintro e w3 ⟨rfl, hq⟩
  have hX3 : BoxF w3 w2.heap.size [.int .i64 0, .int .i64 0, .int .i64 0] := (boxF_made w2 [.int .i64 0, .int .i64 0, .int .i64 0] 2).keep hq
  have hB3 : Below w2.heap.size w2 w3 := ((Below.refl _ _).alloc (Nat.le_refl _) (.cells #[.int .i64 0, .int .i64 0, .int .i64 0] 2)).trans (hq.mono (by simp))
  have HN3 := Lib.hid (And.intro hX3 hB3)
  clear hq hX3 hB3
  have hz3 : w2.heap.size < w3.heap.size := World.block_lt_of_cell? _ _ (HN3.out.1.1 0 _ rfl)
  have v0 := HN3.out.1.1 0 _ rfl
  have fv0 := HN3.out.1.2 0 (by simp)
  have v1 := HN3.out.1.1 1 _ rfl
  have fv1 := HN3.out.1.2 1 (by simp)
  have v2 := HN3.out.1.1 2 _ rfl
  have fv2 := HN3.out.1.2 2 (by simp)
  clear hc0 hc1
  go_wp2_with fail
  rw [rounds_succ]
  go_wp2_with fail
  refine (CG.out _).mono ?_
  rintro e w9 ⟨rfl, hq⟩
  have hT : BoxF w9 (w3.setCell ⟨w2.heap.size, 0, none⟩ (.int .i64 z0)).heap.size [.int .i64 6, .int .i64 z0, .int .i64 0, .int .i64 0, .int .i64 0, .int .i64 0, .int .u32 0, .int .u32 0, .slice none 0 0] := (boxF_made _ [.int .i64 6, .int .i64 z0, .int .i64 0, .int .i64 0, .int .i64 0, .int .i64 0, .int .u32 0, .int .u32 0, .slice none 0 0] 29).keep hq
  rw [show (w3.setCell ⟨w2.heap.size, 0, none⟩ (.int .i64 z0)).heap.size = w3.heap.size by simp] at hT
  have hB9 : Below w2.heap.size w2 w9 := ((HN3.out.2.setCell (p := ⟨w2.heap.size, 0, none⟩) (Nat.le_refl _) (.int .i64 z0)).alloc (by simp; omega) (.cells #[.int .i64 6, .int .i64 z0, .int .i64 0, .int .i64 0, .int .i64 0, .int .i64 0, .int .u32 0, .int .u32 0, .slice none 0 0] 29)).trans (hq.mono (by simp; omega))
  have t0 := hT.1 0 _ rfl
  have t1 := hT.1 1 _ rfl
  have t2 := hT.1 2 _ rfl
  have t3 := hT.1 3 _ rfl
  have t4 := hT.1 4 _ rfl
  have t5 := hT.1 5 _ rfl
  have t6 := hT.1 6 _ rfl
  have t7 := hT.1 7 _ rfl
  have t8 := hT.1 8 _ rfl
  clear v0 fv0 v1 fv1 v2 fv2
  have u0 := (HR2.out.keep hB9).1 0 _ rfl
  have fu0 := (HR2.out.keep hB9).2 0 (by simp)
  have u1 := (HR2.out.keep hB9).1 1 _ rfl
  have fu1 := (HR2.out.keep hB9).2 1 (by simp)
  have u2 := (HR2.out.keep hB9).1 2 _ rfl
  have fu2 := (HR2.out.keep hB9).2 2 (by simp)
  have u3 := (HR2.out.keep hB9).1 3 _ rfl
  have fu3 := (HR2.out.keep hB9).2 3 (by simp)
  have u4 := (HR2.out.keep hB9).1 4 _ rfl
  have fu4 := (HR2.out.keep hB9).2 4 (by simp)
  have u5 := (HR2.out.keep hB9).1 5 _ rfl
  have fu5 := (HR2.out.keep hB9).2 5 (by simp)
  have u6 := (HR2.out.keep hB9).1 6 _ rfl
  have fu6 := (HR2.out.keep hB9).2 6 (by simp)
  have u7 := (HR2.out.keep hB9).1 7 _ rfl
  have fu7 := (HR2.out.keep hB9).2 7 (by simp)
  have u8 := (HR2.out.keep hB9).1 8 _ rfl
  have fu8 := (HR2.out.keep hB9).2 8 (by simp)
  have HB := Lib.hid (HB2.out.1.trans (hB9.mono HB2.out.2))
  clear hq hT hB9
  go_wp2
  refine bodyPost_ret (v := .tuple #[.agg #[.int .i64 6, .int .i64 z0, .int .i64 0, .int .i64 0, .int .i64 0, .int .i64 0, .int .u32 0, .int .u32 0, .slice none 0 0], .int .i64 0]) (by simp (maxDischargeDepth := 8) [results, Tryd.results29, go_sem, *]) rfl ?_
  refine actPost_ok ⟨6, z0, 0, Fa0, []⟩ none 0 0 rfl rfl rfl rfl (own_nil _ _) ?_
  · skip
    repeat (first | with_reducible refine Below.setCell ?_ (by first | exact Nat.le_refl _ | exact HB2.out.2) _ | with_reducible refine Below.drew ?_ | with_reducible refine below_drewN ?_ _)
    exact HB.out
set_option maxHeartbeats 3200000 in
set_option maxRecDepth 100000 in
theorem rone_k6_ng (s : ByteArray) (w : World) (a0 a1 : List UInt8) (z0 : Int) (CN0 : ∀ W, Calls Tryd.prog 42 #[.string ⟨a1.toArray⟩] W (NumPost (some z0) W)) (hvg : goodA ⟨6, z0, 0, Fa0, []⟩ = false)
    (CS : Calls Tryd.prog 28 #[.string s, .int .u8 32] (w.alloc (.cells #[.int .i64 0, .int .i64 0, .int .i64 0, .int .i64 0, .int .i64 0, .int .i64 0, .int .u32 0, .int .u32 0, .slice none 0 0] 29)) (SplitP 2 [a0, a1] (w.alloc (.cells #[.int .i64 0, .int .i64 0, .int .i64 0, .int .i64 0, .int .i64 0, .int .i64 0, .int .u32 0, .int .u32 0, .slice none 0 0] 29))))
    (CH : ∀ W A c, RowAt W A (strV [a0, a1]) → Calls Tryd.prog 41 #[.slice A 2 c] W (ShapePost 6 0 1 1 W)) :
    Calls Tryd.prog 29 #[.string s] w (ActPost (Ac0, 2) w) := by
  obtain ⟨hz, hsz⟩ := zero_of_info (show (Tryd.prog.info? 29).map (fun i => (i.zero, i.size)) = some (some (.agg #[.int .i64 0, .int .i64 0, .int .i64 0, .int .i64 0, .int .i64 0, .int .i64 0, .int .u32 0, .int .u32 0, .slice none 0 0]), 9) by kernel_rfl)
  unfold NumPost at CN0
  have CG : ∀ W, Calls Tryd.prog 16 #[.agg #[.int .i64 6, .int .i64 z0, .int .i64 0, .int .i64 0, .int .i64 0, .int .i64 0, .int .u32 0, .int .u32 0, .slice none 0 0]] W fun e w' => e = .returned (.bool false) ∧ Below W.heap.size W w' := fun W => refGoodV ⟨6, z0, 0, Fa0, []⟩ none 0 0 false hvg W (U8At.nil _ _) rfl
  have CG := Lib.hid CG
  clear hvg
  have hx0 : BoxF (w.alloc (.cells #[.int .i64 0, .int .i64 0, .int .i64 0, .int .i64 0, .int .i64 0, .int .i64 0, .int .u32 0, .int .u32 0, .slice none 0 0] 29)) w.heap.size [.int .i64 0, .int .i64 0, .int .i64 0, .int .i64 0, .int .i64 0, .int .i64 0, .int .u32 0, .int .u32 0, .slice none 0 0] := boxF_made w [.int .i64 0, .int .i64 0, .int .i64 0, .int .i64 0, .int .i64 0, .int .i64 0, .int .u32 0, .int .u32 0, .slice none 0 0] 29
  have hb0 : Below w.heap.size w (w.alloc (.cells #[.int .i64 0, .int .i64 0, .int .i64 0, .int .i64 0, .int .i64 0, .int .i64 0, .int .u32 0, .int .u32 0, .slice none 0 0] 29)) := (Below.refl _ _).alloc (Nat.le_refl _) _
  have HX := Lib.hid (And.intro hx0 hb0)
  have CS := Lib.hid CS
  have CH := Lib.hid CH
  clear hx0 hb0
  go_enter Tryd.func29, Tryd.ntmps29
  go_wp2_with fail
  refine CS.out.mono ?_
  rintro e w1 ⟨A, c, rfl, hlc, hrow, hq1⟩
  have hx1 := HX.out.1.keep hq1
  have hb1 : Below w.heap.size w w1 := HX.out.2.trans (hq1.mono HX.out.2.size)
  have C2 := CH.out w1 A c hrow
  have H1 := Lib.hid (And.intro hx1 (And.intro hb1 hrow))
  clear hx1 hb1 hrow hq1
  go_wp2_with fail
  refine C2.mono ?_
  rintro e w2 ⟨rfl, hq2⟩
  clear C2
  have HB2 := Lib.hid (And.intro (H1.out.2.1.trans (hq2.mono H1.out.2.1.size)) (H1.out.2.1.trans (hq2.mono H1.out.2.1.size)).size)
  have HR2 := Lib.hid (H1.out.1.keep hq2)
  have hrow2 := H1.out.2.2.keep hq2
  clear hq2
  obtain ⟨blk, off, rfl, hc0⟩ := hrow2 0 _ rfl
  have hc1 : w2.cell? ⟨blk, off + 1, none⟩ = _ := (by
    obtain ⟨b3, o3, he, hc⟩ := hrow2 1 _ rfl
    injection he with he
    injection he with h1 h2 h3
    subst h1 h2
    exact hc)
  simp only [Nat.add_zero] at hc0
  have hlt2 := World.block_lt_of_cell? _ _ hc0
  simp only at hlt2
  have HK : Hid (∀ W, Below w2.heap.size w2 W → W.cell? ⟨blk, off, none⟩ = some (.string ⟨a0.toArray⟩) ∧ W.cell? ⟨blk, off + 1, none⟩ = some (.string ⟨a1.toArray⟩)) := fun W hW => ⟨(hW.cell (p := ⟨blk, off, none⟩) hlt2).trans hc0, (hW.cell (p := ⟨blk, off + 1, none⟩) hlt2).trans hc1⟩
  clear hrow2
  go_wp2_with fail
  refine wp_loop_rounds 3 ?_
  rw [rounds_succ]
  go_wp2_with fail
  refine (CN0 _).mono ?_
  rintro e w3 ⟨rfl, hq⟩
  have hX3 : BoxF w3 w2.heap.size [.int .i64 0, .int .i64 0, .int .i64 0] := (boxF_made w2 [.int .i64 0, .int .i64 0, .int .i64 0] 2).keep hq
  have hB3 : Below w2.heap.size w2 w3 := ((Below.refl _ _).alloc (Nat.le_refl _) (.cells #[.int .i64 0, .int .i64 0, .int .i64 0] 2)).trans (hq.mono (by simp))
  have HN3 := Lib.hid (And.intro hX3 hB3)
  clear hq hX3 hB3
  have hz3 : w2.heap.size < w3.heap.size := World.block_lt_of_cell? _ _ (HN3.out.1.1 0 _ rfl)
  have v0 := HN3.out.1.1 0 _ rfl
  have fv0 := HN3.out.1.2 0 (by simp)
  have v1 := HN3.out.1.1 1 _ rfl
  have fv1 := HN3.out.1.2 1 (by simp)
  have v2 := HN3.out.1.1 2 _ rfl
  have fv2 := HN3.out.1.2 2 (by simp)
  clear hc0 hc1
  go_wp2_with fail
  rw [rounds_succ]
  go_wp2_with fail
  refine (CG.out _).mono ?_
  rintro e w9 ⟨rfl, hq⟩
  have hT : BoxF w9 (w3.setCell ⟨w2.heap.size, 0, none⟩ (.int .i64 z0)).heap.size [.int .i64 6, .int .i64 z0, .int .i64 0, .int .i64 0, .int .i64 0, .int .i64 0, .int .u32 0, .int .u32 0, .slice none 0 0] := (boxF_made _ [.int .i64 6, .int .i64 z0, .int .i64 0, .int .i64 0, .int .i64 0, .int .i64 0, .int .u32 0, .int .u32 0, .slice none 0 0] 29).keep hq
  rw [show (w3.setCell ⟨w2.heap.size, 0, none⟩ (.int .i64 z0)).heap.size = w3.heap.size by simp] at hT
  have hB9 : Below w2.heap.size w2 w9 := ((HN3.out.2.setCell (p := ⟨w2.heap.size, 0, none⟩) (Nat.le_refl _) (.int .i64 z0)).alloc (by simp; omega) (.cells #[.int .i64 6, .int .i64 z0, .int .i64 0, .int .i64 0, .int .i64 0, .int .i64 0, .int .u32 0, .int .u32 0, .slice none 0 0] 29)).trans (hq.mono (by simp; omega))
  have t0 := hT.1 0 _ rfl
  have t1 := hT.1 1 _ rfl
  have t2 := hT.1 2 _ rfl
  have t3 := hT.1 3 _ rfl
  have t4 := hT.1 4 _ rfl
  have t5 := hT.1 5 _ rfl
  have t6 := hT.1 6 _ rfl
  have t7 := hT.1 7 _ rfl
  have t8 := hT.1 8 _ rfl
  clear v0 fv0 v1 fv1 v2 fv2
  have u0 := (HR2.out.keep hB9).1 0 _ rfl
  have fu0 := (HR2.out.keep hB9).2 0 (by simp)
  have u1 := (HR2.out.keep hB9).1 1 _ rfl
  have fu1 := (HR2.out.keep hB9).2 1 (by simp)
  have u2 := (HR2.out.keep hB9).1 2 _ rfl
  have fu2 := (HR2.out.keep hB9).2 2 (by simp)
  have u3 := (HR2.out.keep hB9).1 3 _ rfl
  have fu3 := (HR2.out.keep hB9).2 3 (by simp)
  have u4 := (HR2.out.keep hB9).1 4 _ rfl
  have fu4 := (HR2.out.keep hB9).2 4 (by simp)
  have u5 := (HR2.out.keep hB9).1 5 _ rfl
  have fu5 := (HR2.out.keep hB9).2 5 (by simp)
  have u6 := (HR2.out.keep hB9).1 6 _ rfl
  have fu6 := (HR2.out.keep hB9).2 6 (by simp)
  have u7 := (HR2.out.keep hB9).1 7 _ rfl
  have fu7 := (HR2.out.keep hB9).2 7 (by simp)
  have u8 := (HR2.out.keep hB9).1 8 _ rfl
  have fu8 := (HR2.out.keep hB9).2 8 (by simp)
  have HB := Lib.hid (HB2.out.1.trans (hB9.mono HB2.out.2))
  clear hq hT hB9
  go_wp2
  refine bodyPost_ret (v := .tuple #[.agg #[.int .i64 0, .int .i64 0, .int .i64 0, .int .i64 0, .int .i64 0, .int .i64 0, .int .u32 0, .int .u32 0, .slice none 0 0], .int .i64 2]) (by simp (maxDischargeDepth := 8) [results, Tryd.results29, go_sem, *]) rfl ?_
  refine actPost_bad Ac0 none 0 0 2 rfl rfl (by decide) ?_
  · skip
    repeat (first | with_reducible refine Below.setCell ?_ (by first | exact Nat.le_refl _ | exact HB2.out.2) _ | with_reducible refine Below.drew ?_ | with_reducible refine below_drewN ?_ _)
    exact HB.out
set_option maxHeartbeats 3200000 in
set_option maxRecDepth 100000 in
theorem rone_k6l_b0 (s : ByteArray) (w : World) (a0 a1 a2 : List UInt8) (CN0 : ∀ W, Calls Tryd.prog 42 #[.string ⟨a1.toArray⟩] W (NumPost none W))
    (CS : Calls Tryd.prog 28 #[.string s, .int .u8 32] (w.alloc (.cells #[.int .i64 0, .int .i64 0, .int .i64 0, .int .i64 0, .int .i64 0, .int .i64 0, .int .u32 0, .int .u32 0, .slice none 0 0] 29)) (SplitP 3 [a0, a1, a2] (w.alloc (.cells #[.int .i64 0, .int .i64 0, .int .i64 0, .int .i64 0, .int .i64 0, .int .i64 0, .int .u32 0, .int .u32 0, .slice none 0 0] 29))))
    (CH : ∀ W A c, RowAt W A (strV [a0, a1, a2]) → Calls Tryd.prog 41 #[.slice A 3 c] W (ShapePost 6 0 1 1 W)) :
    Calls Tryd.prog 29 #[.string s] w (ActPost (Ac0, 5) w) := by
  obtain ⟨hz, hsz⟩ := zero_of_info (show (Tryd.prog.info? 29).map (fun i => (i.zero, i.size)) = some (some (.agg #[.int .i64 0, .int .i64 0, .int .i64 0, .int .i64 0, .int .i64 0, .int .i64 0, .int .u32 0, .int .u32 0, .slice none 0 0]), 9) by kernel_rfl)
  unfold NumPost at CN0
  have hx0 : BoxF (w.alloc (.cells #[.int .i64 0, .int .i64 0, .int .i64 0, .int .i64 0, .int .i64 0, .int .i64 0, .int .u32 0, .int .u32 0, .slice none 0 0] 29)) w.heap.size [.int .i64 0, .int .i64 0, .int .i64 0, .int .i64 0, .int .i64 0, .int .i64 0, .int .u32 0, .int .u32 0, .slice none 0 0] := boxF_made w [.int .i64 0, .int .i64 0, .int .i64 0, .int .i64 0, .int .i64 0, .int .i64 0, .int .u32 0, .int .u32 0, .slice none 0 0] 29
  have hb0 : Below w.heap.size w (w.alloc (.cells #[.int .i64 0, .int .i64 0, .int .i64 0, .int .i64 0, .int .i64 0, .int .i64 0, .int .u32 0, .int .u32 0, .slice none 0 0] 29)) := (Below.refl _ _).alloc (Nat.le_refl _) _
  have HX := Lib.hid (And.intro hx0 hb0)
  have CS := Lib.hid CS
  have CH := Lib.hid CH
  clear hx0 hb0
  go_enter Tryd.func29, Tryd.ntmps29
  go_wp2_with fail
  refine CS.out.mono ?_
  rintro e w1 ⟨A, c, rfl, hlc, hrow, hq1⟩
  have hx1 := HX.out.1.keep hq1
  have hb1 : Below w.heap.size w w1 := HX.out.2.trans (hq1.mono HX.out.2.size)
  have C2 := CH.out w1 A c hrow
  have H1 := Lib.hid (And.intro hx1 (And.intro hb1 hrow))
  clear hx1 hb1 hrow hq1
  go_wp2_with fail
  refine C2.mono ?_
  rintro e w2 ⟨rfl, hq2⟩
  clear C2
  have HB2 := Lib.hid (And.intro (H1.out.2.1.trans (hq2.mono H1.out.2.1.size)) (H1.out.2.1.trans (hq2.mono H1.out.2.1.size)).size)
  have HR2 := Lib.hid (H1.out.1.keep hq2)
  have hrow2 := H1.out.2.2.keep hq2
  clear hq2
  obtain ⟨blk, off, rfl, hc0⟩ := hrow2 0 _ rfl
  have hc1 : w2.cell? ⟨blk, off + 1, none⟩ = _ := (by
    obtain ⟨b3, o3, he, hc⟩ := hrow2 1 _ rfl
    injection he with he
    injection he with h1 h2 h3
    subst h1 h2
    exact hc)
  have hc2 : w2.cell? ⟨blk, off + 2, none⟩ = _ := (by
    obtain ⟨b3, o3, he, hc⟩ := hrow2 2 _ rfl
    injection he with he
    injection he with h1 h2 h3
    subst h1 h2
    exact hc)
  simp only [Nat.add_zero] at hc0
  have hlt2 := World.block_lt_of_cell? _ _ hc0
  simp only at hlt2
  have HK : Hid (∀ W, Below w2.heap.size w2 W → W.cell? ⟨blk, off, none⟩ = some (.string ⟨a0.toArray⟩) ∧ W.cell? ⟨blk, off + 1, none⟩ = some (.string ⟨a1.toArray⟩) ∧ W.cell? ⟨blk, off + 2, none⟩ = some (.string ⟨a2.toArray⟩)) := fun W hW => ⟨(hW.cell (p := ⟨blk, off, none⟩) hlt2).trans hc0, (hW.cell (p := ⟨blk, off + 1, none⟩) hlt2).trans hc1, (hW.cell (p := ⟨blk, off + 2, none⟩) hlt2).trans hc2⟩
  clear hrow2
  go_wp2_with fail
  refine wp_loop_rounds 3 ?_
  rw [rounds_succ]
  go_wp2_with fail
  refine (CN0 _).mono ?_
  rintro e w3 ⟨⟨mm, rfl⟩, hq⟩
  have hX3 : BoxF w3 w2.heap.size [.int .i64 0, .int .i64 0, .int .i64 0] := (boxF_made w2 [.int .i64 0, .int .i64 0, .int .i64 0] 2).keep hq
  have hB3 : Below w2.heap.size w2 w3 := ((Below.refl _ _).alloc (Nat.le_refl _) (.cells #[.int .i64 0, .int .i64 0, .int .i64 0] 2)).trans (hq.mono (by simp))
  have HN3 := Lib.hid (And.intro hX3 hB3)
  clear hq hX3 hB3
  have hz3 : w2.heap.size < w3.heap.size := World.block_lt_of_cell? _ _ (HN3.out.1.1 0 _ rfl)
  have v0 := HN3.out.1.1 0 _ rfl
  have fv0 := HN3.out.1.2 0 (by simp)
  have v1 := HN3.out.1.1 1 _ rfl
  have fv1 := HN3.out.1.2 1 (by simp)
  have v2 := HN3.out.1.1 2 _ rfl
  have fv2 := HN3.out.1.2 2 (by simp)
  have u0 := (HR2.out.keep HN3.out.2).1 0 _ rfl
  have fu0 := (HR2.out.keep HN3.out.2).2 0 (by simp)
  have u1 := (HR2.out.keep HN3.out.2).1 1 _ rfl
  have fu1 := (HR2.out.keep HN3.out.2).2 1 (by simp)
  have u2 := (HR2.out.keep HN3.out.2).1 2 _ rfl
  have fu2 := (HR2.out.keep HN3.out.2).2 2 (by simp)
  have u3 := (HR2.out.keep HN3.out.2).1 3 _ rfl
  have fu3 := (HR2.out.keep HN3.out.2).2 3 (by simp)
  have u4 := (HR2.out.keep HN3.out.2).1 4 _ rfl
  have fu4 := (HR2.out.keep HN3.out.2).2 4 (by simp)
  have u5 := (HR2.out.keep HN3.out.2).1 5 _ rfl
  have fu5 := (HR2.out.keep HN3.out.2).2 5 (by simp)
  have u6 := (HR2.out.keep HN3.out.2).1 6 _ rfl
  have fu6 := (HR2.out.keep HN3.out.2).2 6 (by simp)
  have u7 := (HR2.out.keep HN3.out.2).1 7 _ rfl
  have fu7 := (HR2.out.keep HN3.out.2).2 7 (by simp)
  have u8 := (HR2.out.keep HN3.out.2).1 8 _ rfl
  have fu8 := (HR2.out.keep HN3.out.2).2 8 (by simp)
  have HB := Lib.hid (HB2.out.1.trans (HN3.out.2.mono HB2.out.2))
  go_wp2
  refine bodyPost_ret (v := .tuple #[.agg #[.int .i64 0, .int .i64 0, .int .i64 0, .int .i64 0, .int .i64 0, .int .i64 0, .int .u32 0, .int .u32 0, .slice none 0 0], .int .i64 5]) (by simp (maxDischargeDepth := 8) [results, Tryd.results29, go_sem, *]) rfl ?_
  refine actPost_bad Ac0 none 0 0 5 rfl rfl (by decide) ?_
  · skip
    repeat (first | with_reducible refine Below.setCell ?_ (by first | exact Nat.le_refl _ | exact HB2.out.2) _ | with_reducible refine Below.drew ?_ | with_reducible refine below_drewN ?_ _)
    exact HB.out
set_option maxHeartbeats 3200000 in
set_option maxRecDepth 100000 in
theorem rone_k6l_bb (s : ByteArray) (w : World) (a0 a1 a2 : List UInt8) (z0 : Int) (CN0 : ∀ W, Calls Tryd.prog 42 #[.string ⟨a1.toArray⟩] W (NumPost (some z0) W)) (CB : ∀ W, Calls Tryd.prog 43 #[.string ⟨a2.toArray⟩] W (BodyPost none W))
    (CS : Calls Tryd.prog 28 #[.string s, .int .u8 32] (w.alloc (.cells #[.int .i64 0, .int .i64 0, .int .i64 0, .int .i64 0, .int .i64 0, .int .i64 0, .int .u32 0, .int .u32 0, .slice none 0 0] 29)) (SplitP 3 [a0, a1, a2] (w.alloc (.cells #[.int .i64 0, .int .i64 0, .int .i64 0, .int .i64 0, .int .i64 0, .int .i64 0, .int .u32 0, .int .u32 0, .slice none 0 0] 29))))
    (CH : ∀ W A c, RowAt W A (strV [a0, a1, a2]) → Calls Tryd.prog 41 #[.slice A 3 c] W (ShapePost 6 0 1 1 W)) :
    Calls Tryd.prog 29 #[.string s] w (ActPost (Ac0, 5) w) := by
  obtain ⟨hz, hsz⟩ := zero_of_info (show (Tryd.prog.info? 29).map (fun i => (i.zero, i.size)) = some (some (.agg #[.int .i64 0, .int .i64 0, .int .i64 0, .int .i64 0, .int .i64 0, .int .i64 0, .int .u32 0, .int .u32 0, .slice none 0 0]), 9) by kernel_rfl)
  unfold NumPost at CN0
  unfold BodyPost at CB
  have hx0 : BoxF (w.alloc (.cells #[.int .i64 0, .int .i64 0, .int .i64 0, .int .i64 0, .int .i64 0, .int .i64 0, .int .u32 0, .int .u32 0, .slice none 0 0] 29)) w.heap.size [.int .i64 0, .int .i64 0, .int .i64 0, .int .i64 0, .int .i64 0, .int .i64 0, .int .u32 0, .int .u32 0, .slice none 0 0] := boxF_made w [.int .i64 0, .int .i64 0, .int .i64 0, .int .i64 0, .int .i64 0, .int .i64 0, .int .u32 0, .int .u32 0, .slice none 0 0] 29
  have hb0 : Below w.heap.size w (w.alloc (.cells #[.int .i64 0, .int .i64 0, .int .i64 0, .int .i64 0, .int .i64 0, .int .i64 0, .int .u32 0, .int .u32 0, .slice none 0 0] 29)) := (Below.refl _ _).alloc (Nat.le_refl _) _
  have HX := Lib.hid (And.intro hx0 hb0)
  have CS := Lib.hid CS
  have CH := Lib.hid CH
  clear hx0 hb0
  go_enter Tryd.func29, Tryd.ntmps29
  go_wp2_with fail
  refine CS.out.mono ?_
  rintro e w1 ⟨A, c, rfl, hlc, hrow, hq1⟩
  have hx1 := HX.out.1.keep hq1
  have hb1 : Below w.heap.size w w1 := HX.out.2.trans (hq1.mono HX.out.2.size)
  have C2 := CH.out w1 A c hrow
  have H1 := Lib.hid (And.intro hx1 (And.intro hb1 hrow))
  clear hx1 hb1 hrow hq1
  go_wp2_with fail
  refine C2.mono ?_
  rintro e w2 ⟨rfl, hq2⟩
  clear C2
  have HB2 := Lib.hid (And.intro (H1.out.2.1.trans (hq2.mono H1.out.2.1.size)) (H1.out.2.1.trans (hq2.mono H1.out.2.1.size)).size)
  have HR2 := Lib.hid (H1.out.1.keep hq2)
  have hrow2 := H1.out.2.2.keep hq2
  clear hq2
  obtain ⟨blk, off, rfl, hc0⟩ := hrow2 0 _ rfl
  have hc1 : w2.cell? ⟨blk, off + 1, none⟩ = _ := (by
    obtain ⟨b3, o3, he, hc⟩ := hrow2 1 _ rfl
    injection he with he
    injection he with h1 h2 h3
    subst h1 h2
    exact hc)
  have hc2 : w2.cell? ⟨blk, off + 2, none⟩ = _ := (by
    obtain ⟨b3, o3, he, hc⟩ := hrow2 2 _ rfl
    injection he with he
    injection he with h1 h2 h3
    subst h1 h2
    exact hc)
  simp only [Nat.add_zero] at hc0
  have hlt2 := World.block_lt_of_cell? _ _ hc0
  simp only at hlt2
  have HK : Hid (∀ W, Below w2.heap.size w2 W → W.cell? ⟨blk, off, none⟩ = some (.string ⟨a0.toArray⟩) ∧ W.cell? ⟨blk, off + 1, none⟩ = some (.string ⟨a1.toArray⟩) ∧ W.cell? ⟨blk, off + 2, none⟩ = some (.string ⟨a2.toArray⟩)) := fun W hW => ⟨(hW.cell (p := ⟨blk, off, none⟩) hlt2).trans hc0, (hW.cell (p := ⟨blk, off + 1, none⟩) hlt2).trans hc1, (hW.cell (p := ⟨blk, off + 2, none⟩) hlt2).trans hc2⟩
  clear hrow2
  go_wp2_with fail
  refine wp_loop_rounds 3 ?_
  rw [rounds_succ]
  go_wp2_with fail
  refine (CN0 _).mono ?_
  rintro e w3 ⟨rfl, hq⟩
  have hX3 : BoxF w3 w2.heap.size [.int .i64 0, .int .i64 0, .int .i64 0] := (boxF_made w2 [.int .i64 0, .int .i64 0, .int .i64 0] 2).keep hq
  have hB3 : Below w2.heap.size w2 w3 := ((Below.refl _ _).alloc (Nat.le_refl _) (.cells #[.int .i64 0, .int .i64 0, .int .i64 0] 2)).trans (hq.mono (by simp))
  have HN3 := Lib.hid (And.intro hX3 hB3)
  clear hq hX3 hB3
  have hz3 : w2.heap.size < w3.heap.size := World.block_lt_of_cell? _ _ (HN3.out.1.1 0 _ rfl)
  have v0 := HN3.out.1.1 0 _ rfl
  have fv0 := HN3.out.1.2 0 (by simp)
  have v1 := HN3.out.1.1 1 _ rfl
  have fv1 := HN3.out.1.2 1 (by simp)
  have v2 := HN3.out.1.1 2 _ rfl
  have fv2 := HN3.out.1.2 2 (by simp)
  clear hc0 hc1 hc2
  obtain ⟨hc0, hc1, hc2⟩ := HK.out _ HN3.out.2
  have hlt3 : blk < w3.heap.size := by omega
  go_wp2_with fail
  rw [rounds_succ]
  go_wp2_with fail
  refine (CB _).mono ?_
  rintro e w6 ⟨⟨A6, n6, c6, rfl⟩, hq⟩
  have hT0 := boxF_made (w3.setCell ⟨w2.heap.size, 0, none⟩ (.int .i64 z0)) [.int .i64 6, .int .i64 0, .int .i64 0, .int .i64 0, .int .i64 0, .int .i64 0, .int .u32 0, .int .u32 0, .slice none 0 0] 29
  have hsT : (w3.setCell ⟨w2.heap.size, 0, none⟩ (.int .i64 z0)).heap.size = w3.heap.size := by simp
  rw [hsT] at hT0
  have hT6 : BoxF w6 w3.heap.size [.int .i64 6, .int .i64 0, .int .i64 0, .int .i64 0, .int .i64 0, .int .i64 0, .int .u32 0, .int .u32 0, .slice none 0 0] := hT0.keep hq
  have hX6 : BoxF w6 w2.heap.size [.int .i64 z0, .int .i64 0, .int .i64 0] := ((HN3.out.1.put 0 (by simp) (.int .i64 z0)).keep ((Below.refl _ _).alloc (Nat.le_refl _) (.cells #[.int .i64 6, .int .i64 0, .int .i64 0, .int .i64 0, .int .i64 0, .int .i64 0, .int .u32 0, .int .u32 0, .slice none 0 0] 29))).keep hq
  have hB6 : Below w2.heap.size w2 w6 := ((HN3.out.2.setCell (p := ⟨w2.heap.size, 0, none⟩) (Nat.le_refl _) (.int .i64 z0)).alloc (by simp; omega) (.cells #[.int .i64 6, .int .i64 0, .int .i64 0, .int .i64 0, .int .i64 0, .int .i64 0, .int .u32 0, .int .u32 0, .slice none 0 0] 29)).trans (hq.mono (by simp; omega))
  have u0 := (HR2.out.keep hB6).1 0 _ rfl
  have fu0 := (HR2.out.keep hB6).2 0 (by simp)
  have u1 := (HR2.out.keep hB6).1 1 _ rfl
  have fu1 := (HR2.out.keep hB6).2 1 (by simp)
  have u2 := (HR2.out.keep hB6).1 2 _ rfl
  have fu2 := (HR2.out.keep hB6).2 2 (by simp)
  have u3 := (HR2.out.keep hB6).1 3 _ rfl
  have fu3 := (HR2.out.keep hB6).2 3 (by simp)
  have u4 := (HR2.out.keep hB6).1 4 _ rfl
  have fu4 := (HR2.out.keep hB6).2 4 (by simp)
  have u5 := (HR2.out.keep hB6).1 5 _ rfl
  have fu5 := (HR2.out.keep hB6).2 5 (by simp)
  have u6 := (HR2.out.keep hB6).1 6 _ rfl
  have fu6 := (HR2.out.keep hB6).2 6 (by simp)
  have u7 := (HR2.out.keep hB6).1 7 _ rfl
  have fu7 := (HR2.out.keep hB6).2 7 (by simp)
  have u8 := (HR2.out.keep hB6).1 8 _ rfl
  have fu8 := (HR2.out.keep hB6).2 8 (by simp)
  have HB := Lib.hid (HB2.out.1.trans (hB6.mono HB2.out.2))
  clear hq hT0 hsT hT6 hX6 hB6 v0 fv0 v1 fv1 v2 fv2 hc0 hc1 hc2
  go_wp2
  refine bodyPost_ret (v := .tuple #[.agg #[.int .i64 0, .int .i64 0, .int .i64 0, .int .i64 0, .int .i64 0, .int .i64 0, .int .u32 0, .int .u32 0, .slice none 0 0], .int .i64 5]) (by simp (maxDischargeDepth := 8) [results, Tryd.results29, go_sem, *]) rfl ?_
  refine actPost_bad Ac0 none 0 0 5 rfl rfl (by decide) ?_
  · skip
    repeat (first | with_reducible refine Below.setCell ?_ (by first | exact Nat.le_refl _ | exact HB2.out.2) _ | with_reducible refine Below.drew ?_ | with_reducible refine below_drewN ?_ _)
    exact HB.out
set_option maxHeartbeats 3200000 in
set_option maxRecDepth 100000 in
theorem rone_k6l_ok (s : ByteArray) (w : World) (a0 a1 a2 : List UInt8) (z0 : Int) (b : List UInt8) (CN0 : ∀ W, Calls Tryd.prog 42 #[.string ⟨a1.toArray⟩] W (NumPost (some z0) W)) (CB : ∀ W, Calls Tryd.prog 43 #[.string ⟨a2.toArray⟩] W (BodyPost (some b) W)) (hvg : goodA ⟨6, z0, 0, Fa0, b⟩ = true)
    (CS : Calls Tryd.prog 28 #[.string s, .int .u8 32] (w.alloc (.cells #[.int .i64 0, .int .i64 0, .int .i64 0, .int .i64 0, .int .i64 0, .int .i64 0, .int .u32 0, .int .u32 0, .slice none 0 0] 29)) (SplitP 3 [a0, a1, a2] (w.alloc (.cells #[.int .i64 0, .int .i64 0, .int .i64 0, .int .i64 0, .int .i64 0, .int .i64 0, .int .u32 0, .int .u32 0, .slice none 0 0] 29))))
    (CH : ∀ W A c, RowAt W A (strV [a0, a1, a2]) → Calls Tryd.prog 41 #[.slice A 3 c] W (ShapePost 6 0 1 1 W)) :
    Calls Tryd.prog 29 #[.string s] w (ActPost (⟨6, z0, 0, Fa0, b⟩, 0) w) := by
  obtain ⟨hz, hsz⟩ := zero_of_info (show (Tryd.prog.info? 29).map (fun i => (i.zero, i.size)) = some (some (.agg #[.int .i64 0, .int .i64 0, .int .i64 0, .int .i64 0, .int .i64 0, .int .i64 0, .int .u32 0, .int .u32 0, .slice none 0 0]), 9) by kernel_rfl)
  unfold NumPost at CN0
  unfold BodyPost at CB
  have HV := Lib.hid hvg
  clear hvg
  have hx0 : BoxF (w.alloc (.cells #[.int .i64 0, .int .i64 0, .int .i64 0, .int .i64 0, .int .i64 0, .int .i64 0, .int .u32 0, .int .u32 0, .slice none 0 0] 29)) w.heap.size [.int .i64 0, .int .i64 0, .int .i64 0, .int .i64 0, .int .i64 0, .int .i64 0, .int .u32 0, .int .u32 0, .slice none 0 0] := boxF_made w [.int .i64 0, .int .i64 0, .int .i64 0, .int .i64 0, .int .i64 0, .int .i64 0, .int .u32 0, .int .u32 0, .slice none 0 0] 29
  have hb0 : Below w.heap.size w (w.alloc (.cells #[.int .i64 0, .int .i64 0, .int .i64 0, .int .i64 0, .int .i64 0, .int .i64 0, .int .u32 0, .int .u32 0, .slice none 0 0] 29)) := (Below.refl _ _).alloc (Nat.le_refl _) _
  have HX := Lib.hid (And.intro hx0 hb0)
  have CS := Lib.hid CS
  have CH := Lib.hid CH
  clear hx0 hb0
  go_enter Tryd.func29, Tryd.ntmps29
  go_wp2_with fail
  refine CS.out.mono ?_
  rintro e w1 ⟨A, c, rfl, hlc, hrow, hq1⟩
  have hx1 := HX.out.1.keep hq1
  have hb1 : Below w.heap.size w w1 := HX.out.2.trans (hq1.mono HX.out.2.size)
  have C2 := CH.out w1 A c hrow
  have H1 := Lib.hid (And.intro hx1 (And.intro hb1 hrow))
  clear hx1 hb1 hrow hq1
  go_wp2_with fail
  refine C2.mono ?_
  rintro e w2 ⟨rfl, hq2⟩
  clear C2
  have HB2 := Lib.hid (And.intro (H1.out.2.1.trans (hq2.mono H1.out.2.1.size)) (H1.out.2.1.trans (hq2.mono H1.out.2.1.size)).size)
  have HR2 := Lib.hid (H1.out.1.keep hq2)
  have hrow2 := H1.out.2.2.keep hq2
  clear hq2
  obtain ⟨blk, off, rfl, hc0⟩ := hrow2 0 _ rfl
  have hc1 : w2.cell? ⟨blk, off + 1, none⟩ = _ := (by
    obtain ⟨b3, o3, he, hc⟩ := hrow2 1 _ rfl
    injection he with he
    injection he with h1 h2 h3
    subst h1 h2
    exact hc)
  have hc2 : w2.cell? ⟨blk, off + 2, none⟩ = _ := (by
    obtain ⟨b3, o3, he, hc⟩ := hrow2 2 _ rfl
    injection he with he
    injection he with h1 h2 h3
    subst h1 h2
    exact hc)
  simp only [Nat.add_zero] at hc0
  have hlt2 := World.block_lt_of_cell? _ _ hc0
  simp only at hlt2
  have HK : Hid (∀ W, Below w2.heap.size w2 W → W.cell? ⟨blk, off, none⟩ = some (.string ⟨a0.toArray⟩) ∧ W.cell? ⟨blk, off + 1, none⟩ = some (.string ⟨a1.toArray⟩) ∧ W.cell? ⟨blk, off + 2, none⟩ = some (.string ⟨a2.toArray⟩)) := fun W hW => ⟨(hW.cell (p := ⟨blk, off, none⟩) hlt2).trans hc0, (hW.cell (p := ⟨blk, off + 1, none⟩) hlt2).trans hc1, (hW.cell (p := ⟨blk, off + 2, none⟩) hlt2).trans hc2⟩
  clear hrow2
  go_wp2_with fail
  refine wp_loop_rounds 3 ?_
  rw [rounds_succ]
  go_wp2_with fail
  refine (CN0 _).mono ?_
  rintro e w3 ⟨rfl, hq⟩
  have hX3 : BoxF w3 w2.heap.size [.int .i64 0, .int .i64 0, .int .i64 0] := (boxF_made w2 [.int .i64 0, .int .i64 0, .int .i64 0] 2).keep hq
  have hB3 : Below w2.heap.size w2 w3 := ((Below.refl _ _).alloc (Nat.le_refl _) (.cells #[.int .i64 0, .int .i64 0, .int .i64 0] 2)).trans (hq.mono (by simp))
  have HN3 := Lib.hid (And.intro hX3 hB3)
  clear hq hX3 hB3
  have hz3 : w2.heap.size < w3.heap.size := World.block_lt_of_cell? _ _ (HN3.out.1.1 0 _ rfl)
  have v0 := HN3.out.1.1 0 _ rfl
  have fv0 := HN3.out.1.2 0 (by simp)
  have v1 := HN3.out.1.1 1 _ rfl
  have fv1 := HN3.out.1.2 1 (by simp)
  have v2 := HN3.out.1.1 2 _ rfl
  have fv2 := HN3.out.1.2 2 (by simp)
  clear hc0 hc1 hc2
  obtain ⟨hc0, hc1, hc2⟩ := HK.out _ HN3.out.2
  have hlt3 : blk < w3.heap.size := by omega
  go_wp2_with fail
  rw [rounds_succ]
  go_wp2_with fail
  refine (CB _).mono ?_
  rintro e w6 ⟨A6, c6, rfl, hO, hq⟩
  have hT0 := boxF_made (w3.setCell ⟨w2.heap.size, 0, none⟩ (.int .i64 z0)) [.int .i64 6, .int .i64 0, .int .i64 0, .int .i64 0, .int .i64 0, .int .i64 0, .int .u32 0, .int .u32 0, .slice none 0 0] 29
  have hsT : (w3.setCell ⟨w2.heap.size, 0, none⟩ (.int .i64 z0)).heap.size = w3.heap.size := by simp
  rw [hsT] at hT0
  have hT6 : BoxF w6 w3.heap.size [.int .i64 6, .int .i64 0, .int .i64 0, .int .i64 0, .int .i64 0, .int .i64 0, .int .u32 0, .int .u32 0, .slice none 0 0] := hT0.keep hq
  have hX6 : BoxF w6 w2.heap.size [.int .i64 z0, .int .i64 0, .int .i64 0] := ((HN3.out.1.put 0 (by simp) (.int .i64 z0)).keep ((Below.refl _ _).alloc (Nat.le_refl _) (.cells #[.int .i64 6, .int .i64 0, .int .i64 0, .int .i64 0, .int .i64 0, .int .i64 0, .int .u32 0, .int .u32 0, .slice none 0 0] 29))).keep hq
  have hB6 : Below w2.heap.size w2 w6 := ((HN3.out.2.setCell (p := ⟨w2.heap.size, 0, none⟩) (Nat.le_refl _) (.int .i64 z0)).alloc (by simp; omega) (.cells #[.int .i64 6, .int .i64 0, .int .i64 0, .int .i64 0, .int .i64 0, .int .i64 0, .int .u32 0, .int .u32 0, .slice none 0 0] 29)).trans (hq.mono (by simp; omega))
  rw [World.size_alloc, hsT] at hO
  have hap : ∀ ad, A6 = some ad → ad.block ≠ w3.heap.size := fun ad had => by have := own_ap hO ad had; omega
  have hU6 := ownU8 hO rfl
  have hU8 : U8At ((w6.setCell ⟨w3.heap.size, 8, none⟩ (.slice A6 b.length c6)).setCell ⟨w3.heap.size, 1, none⟩ (.int .i64 z0)) A6 b := U8At.other (a := ⟨w3.heap.size, 1, none⟩) (U8At.other (a := ⟨w3.heap.size, 8, none⟩) hU6 (fun ad had => hap ad had) _) (fun ad had => hap ad had) _
  have CG : Calls Tryd.prog 16 #[.agg #[.int .i64 6, .int .i64 z0, .int .i64 0, .int .i64 0, .int .i64 0, .int .i64 0, .int .u32 0, .int .u32 0, .slice A6 b.length c6]] ((w6.setCell ⟨w3.heap.size, 8, none⟩ (.slice A6 b.length c6)).setCell ⟨w3.heap.size, 1, none⟩ (.int .i64 z0)) fun e w' => e = .returned (.bool true) ∧ Below ((w6.setCell ⟨w3.heap.size, 8, none⟩ (.slice A6 b.length c6)).setCell ⟨w3.heap.size, 1, none⟩ (.int .i64 z0)).heap.size ((w6.setCell ⟨w3.heap.size, 8, none⟩ (.slice A6 b.length c6)).setCell ⟨w3.heap.size, 1, none⟩ (.int .i64 z0)) w' := refGoodV ⟨6, z0, 0, Fa0, b⟩ A6 b.length c6 true HV.out ((w6.setCell ⟨w3.heap.size, 8, none⟩ (.slice A6 b.length c6)).setCell ⟨w3.heap.size, 1, none⟩ (.int .i64 z0)) hU8 rfl
  have hT8 : BoxF ((w6.setCell ⟨w3.heap.size, 8, none⟩ (.slice A6 b.length c6)).setCell ⟨w3.heap.size, 1, none⟩ (.int .i64 z0)) w3.heap.size [.int .i64 6, .int .i64 z0, .int .i64 0, .int .i64 0, .int .i64 0, .int .i64 0, .int .u32 0, .int .u32 0, .slice A6 b.length c6] := (hT6.put 8 (by simp) (.slice A6 b.length c6)).put 1 (by simp) (.int .i64 z0)
  have hB8 : Below w2.heap.size w2 ((w6.setCell ⟨w3.heap.size, 8, none⟩ (.slice A6 b.length c6)).setCell ⟨w3.heap.size, 1, none⟩ (.int .i64 z0)) := (hB6.setCell (p := ⟨w3.heap.size, 8, none⟩) (by simp; omega) (.slice A6 b.length c6)).setCell (p := ⟨w3.heap.size, 1, none⟩) (by simp; omega) (.int .i64 z0)
  have hO8 : ((w6.setCell ⟨w3.heap.size, 8, none⟩ (.slice A6 b.length c6)).setCell ⟨w3.heap.size, 1, none⟩ (.int .i64 z0)).ownsRow (w3.heap.size + 1) 5 1 (.slice A6 b.length c6) b.length (u8V b) := own_set (own_set hO (Nat.lt_succ_self _) 8 (.slice A6 b.length c6)) (Nat.lt_succ_self _) 1 (.int .i64 z0)
  clear v0 fv0 v1 fv1 v2 fv2 hc0 hc1 hc2
  have v0 := hX6.1 0 _ rfl
  have t1 := hT6.1 1 _ rfl
  have ft1 := hT6.2 1 (by simp)
  have t8 := hT6.1 8 _ rfl
  have ft8 := hT6.2 8 (by simp)
  have t0 := hT6.1 0 _ rfl
  have t2 := hT6.1 2 _ rfl
  have t3 := hT6.1 3 _ rfl
  have t4 := hT6.1 4 _ rfl
  have t5 := hT6.1 5 _ rfl
  have t6 := hT6.1 6 _ rfl
  have t7 := hT6.1 7 _ rfl
  have hz6 : w3.heap.size < w6.heap.size := World.block_lt_of_cell? _ _ t1
  have CG := Lib.hid CG
  have H8 := Lib.hid (And.intro hT8 (And.intro hB8 hO8))
  clear hq hT0 hsT hT6 hX6 hB6 hO hap hU6 hU8 hT8 hB8 hO8
  go_wp2_with fail
  refine CG.out.mono ?_
  rintro e w9 ⟨rfl, hq⟩
  have hB9 : Below w2.heap.size w2 w9 := H8.out.2.1.trans (hq.mono H8.out.2.1.size)
  have hT9 := H8.out.1.keep hq
  have HO9 := Lib.hid (ownsRow_kept H8.out.2.2 hq)
  clear v0 t0 t1 t2 t3 t4 t5 t6 t7 t8 ft1 ft8
  have t0 := hT9.1 0 _ rfl
  have t1 := hT9.1 1 _ rfl
  have t2 := hT9.1 2 _ rfl
  have t3 := hT9.1 3 _ rfl
  have t4 := hT9.1 4 _ rfl
  have t5 := hT9.1 5 _ rfl
  have t6 := hT9.1 6 _ rfl
  have t7 := hT9.1 7 _ rfl
  have t8 := hT9.1 8 _ rfl
  have u0 := (HR2.out.keep hB9).1 0 _ rfl
  have fu0 := (HR2.out.keep hB9).2 0 (by simp)
  have u1 := (HR2.out.keep hB9).1 1 _ rfl
  have fu1 := (HR2.out.keep hB9).2 1 (by simp)
  have u2 := (HR2.out.keep hB9).1 2 _ rfl
  have fu2 := (HR2.out.keep hB9).2 2 (by simp)
  have u3 := (HR2.out.keep hB9).1 3 _ rfl
  have fu3 := (HR2.out.keep hB9).2 3 (by simp)
  have u4 := (HR2.out.keep hB9).1 4 _ rfl
  have fu4 := (HR2.out.keep hB9).2 4 (by simp)
  have u5 := (HR2.out.keep hB9).1 5 _ rfl
  have fu5 := (HR2.out.keep hB9).2 5 (by simp)
  have u6 := (HR2.out.keep hB9).1 6 _ rfl
  have fu6 := (HR2.out.keep hB9).2 6 (by simp)
  have u7 := (HR2.out.keep hB9).1 7 _ rfl
  have fu7 := (HR2.out.keep hB9).2 7 (by simp)
  have u8 := (HR2.out.keep hB9).1 8 _ rfl
  have fu8 := (HR2.out.keep hB9).2 8 (by simp)
  have HB := Lib.hid (HB2.out.1.trans (hB9.mono HB2.out.2))
  clear hq hT9 hB9
  go_wp2
  refine bodyPost_ret (v := .tuple #[.agg #[.int .i64 6, .int .i64 z0, .int .i64 0, .int .i64 0, .int .i64 0, .int .i64 0, .int .u32 0, .int .u32 0, .slice A6 b.length c6], .int .i64 0]) (by simp (maxDischargeDepth := 8) [results, Tryd.results29, go_sem, *]) rfl ?_
  refine actPost_ok ⟨6, z0, 0, Fa0, b⟩ A6 b.length c6 rfl rfl rfl rfl ?_ ?_
  · have hR3 : w.heap.size < w3.heap.size + 1 := by have := HB2.out.2; omega
    refine ownsRow_base (base := w3.heap.size + 1) ?_ (Nat.le_of_lt hR3)
    repeat (with_reducible refine own_set ?_ hR3 _ _)
    exact HO9.out
  · skip
    repeat (first | with_reducible refine Below.setCell ?_ (by first | exact Nat.le_refl _ | exact HB2.out.2) _ | with_reducible refine Below.drew ?_ | with_reducible refine below_drewN ?_ _)
    exact HB.out
set_option maxHeartbeats 3200000 in
set_option maxRecDepth 100000 in
theorem rone_k6l_ng (s : ByteArray) (w : World) (a0 a1 a2 : List UInt8) (z0 : Int) (b : List UInt8) (CN0 : ∀ W, Calls Tryd.prog 42 #[.string ⟨a1.toArray⟩] W (NumPost (some z0) W)) (CB : ∀ W, Calls Tryd.prog 43 #[.string ⟨a2.toArray⟩] W (BodyPost (some b) W)) (hvg : goodA ⟨6, z0, 0, Fa0, b⟩ = false)
    (CS : Calls Tryd.prog 28 #[.string s, .int .u8 32] (w.alloc (.cells #[.int .i64 0, .int .i64 0, .int .i64 0, .int .i64 0, .int .i64 0, .int .i64 0, .int .u32 0, .int .u32 0, .slice none 0 0] 29)) (SplitP 3 [a0, a1, a2] (w.alloc (.cells #[.int .i64 0, .int .i64 0, .int .i64 0, .int .i64 0, .int .i64 0, .int .i64 0, .int .u32 0, .int .u32 0, .slice none 0 0] 29))))
    (CH : ∀ W A c, RowAt W A (strV [a0, a1, a2]) → Calls Tryd.prog 41 #[.slice A 3 c] W (ShapePost 6 0 1 1 W)) :
    Calls Tryd.prog 29 #[.string s] w (ActPost (Ac0, 2) w) := by
  obtain ⟨hz, hsz⟩ := zero_of_info (show (Tryd.prog.info? 29).map (fun i => (i.zero, i.size)) = some (some (.agg #[.int .i64 0, .int .i64 0, .int .i64 0, .int .i64 0, .int .i64 0, .int .i64 0, .int .u32 0, .int .u32 0, .slice none 0 0]), 9) by kernel_rfl)
  unfold NumPost at CN0
  unfold BodyPost at CB
  have HV := Lib.hid hvg
  clear hvg
  have hx0 : BoxF (w.alloc (.cells #[.int .i64 0, .int .i64 0, .int .i64 0, .int .i64 0, .int .i64 0, .int .i64 0, .int .u32 0, .int .u32 0, .slice none 0 0] 29)) w.heap.size [.int .i64 0, .int .i64 0, .int .i64 0, .int .i64 0, .int .i64 0, .int .i64 0, .int .u32 0, .int .u32 0, .slice none 0 0] := boxF_made w [.int .i64 0, .int .i64 0, .int .i64 0, .int .i64 0, .int .i64 0, .int .i64 0, .int .u32 0, .int .u32 0, .slice none 0 0] 29
  have hb0 : Below w.heap.size w (w.alloc (.cells #[.int .i64 0, .int .i64 0, .int .i64 0, .int .i64 0, .int .i64 0, .int .i64 0, .int .u32 0, .int .u32 0, .slice none 0 0] 29)) := (Below.refl _ _).alloc (Nat.le_refl _) _
  have HX := Lib.hid (And.intro hx0 hb0)
  have CS := Lib.hid CS
  have CH := Lib.hid CH
  clear hx0 hb0
  go_enter Tryd.func29, Tryd.ntmps29
  go_wp2_with fail
  refine CS.out.mono ?_
  rintro e w1 ⟨A, c, rfl, hlc, hrow, hq1⟩
  have hx1 := HX.out.1.keep hq1
  have hb1 : Below w.heap.size w w1 := HX.out.2.trans (hq1.mono HX.out.2.size)
  have C2 := CH.out w1 A c hrow
  have H1 := Lib.hid (And.intro hx1 (And.intro hb1 hrow))
  clear hx1 hb1 hrow hq1
  go_wp2_with fail
  refine C2.mono ?_
  rintro e w2 ⟨rfl, hq2⟩
  clear C2
  have HB2 := Lib.hid (And.intro (H1.out.2.1.trans (hq2.mono H1.out.2.1.size)) (H1.out.2.1.trans (hq2.mono H1.out.2.1.size)).size)
  have HR2 := Lib.hid (H1.out.1.keep hq2)
  have hrow2 := H1.out.2.2.keep hq2
  clear hq2
  obtain ⟨blk, off, rfl, hc0⟩ := hrow2 0 _ rfl
  have hc1 : w2.cell? ⟨blk, off + 1, none⟩ = _ := (by
    obtain ⟨b3, o3, he, hc⟩ := hrow2 1 _ rfl
    injection he with he
    injection he with h1 h2 h3
    subst h1 h2
    exact hc)
  have hc2 : w2.cell? ⟨blk, off + 2, none⟩ = _ := (by
    obtain ⟨b3, o3, he, hc⟩ := hrow2 2 _ rfl
    injection he with he
    injection he with h1 h2 h3
    subst h1 h2
    exact hc)
  simp only [Nat.add_zero] at hc0
  have hlt2 := World.block_lt_of_cell? _ _ hc0
  simp only at hlt2
  have HK : Hid (∀ W, Below w2.heap.size w2 W → W.cell? ⟨blk, off, none⟩ = some (.string ⟨a0.toArray⟩) ∧ W.cell? ⟨blk, off + 1, none⟩ = some (.string ⟨a1.toArray⟩) ∧ W.cell? ⟨blk, off + 2, none⟩ = some (.string ⟨a2.toArray⟩)) := fun W hW => ⟨(hW.cell (p := ⟨blk, off, none⟩) hlt2).trans hc0, (hW.cell (p := ⟨blk, off + 1, none⟩) hlt2).trans hc1, (hW.cell (p := ⟨blk, off + 2, none⟩) hlt2).trans hc2⟩
  clear hrow2
  go_wp2_with fail
  refine wp_loop_rounds 3 ?_
  rw [rounds_succ]
  go_wp2_with fail
  refine (CN0 _).mono ?_
  rintro e w3 ⟨rfl, hq⟩
  have hX3 : BoxF w3 w2.heap.size [.int .i64 0, .int .i64 0, .int .i64 0] := (boxF_made w2 [.int .i64 0, .int .i64 0, .int .i64 0] 2).keep hq
  have hB3 : Below w2.heap.size w2 w3 := ((Below.refl _ _).alloc (Nat.le_refl _) (.cells #[.int .i64 0, .int .i64 0, .int .i64 0] 2)).trans (hq.mono (by simp))
  have HN3 := Lib.hid (And.intro hX3 hB3)
  clear hq hX3 hB3
  have hz3 : w2.heap.size < w3.heap.size := World.block_lt_of_cell? _ _ (HN3.out.1.1 0 _ rfl)
  have v0 := HN3.out.1.1 0 _ rfl
  have fv0 := HN3.out.1.2 0 (by simp)
  have v1 := HN3.out.1.1 1 _ rfl
  have fv1 := HN3.out.1.2 1 (by simp)
  have v2 := HN3.out.1.1 2 _ rfl
  have fv2 := HN3.out.1.2 2 (by simp)
  clear hc0 hc1 hc2
  obtain ⟨hc0, hc1, hc2⟩ := HK.out _ HN3.out.2
  have hlt3 : blk < w3.heap.size := by omega
  go_wp2_with fail
  rw [rounds_succ]
  go_wp2_with fail
  refine (CB _).mono ?_
  rintro e w6 ⟨A6, c6, rfl, hO, hq⟩
  have hT0 := boxF_made (w3.setCell ⟨w2.heap.size, 0, none⟩ (.int .i64 z0)) [.int .i64 6, .int .i64 0, .int .i64 0, .int .i64 0, .int .i64 0, .int .i64 0, .int .u32 0, .int .u32 0, .slice none 0 0] 29
  have hsT : (w3.setCell ⟨w2.heap.size, 0, none⟩ (.int .i64 z0)).heap.size = w3.heap.size := by simp
  rw [hsT] at hT0
  have hT6 : BoxF w6 w3.heap.size [.int .i64 6, .int .i64 0, .int .i64 0, .int .i64 0, .int .i64 0, .int .i64 0, .int .u32 0, .int .u32 0, .slice none 0 0] := hT0.keep hq
  have hX6 : BoxF w6 w2.heap.size [.int .i64 z0, .int .i64 0, .int .i64 0] := ((HN3.out.1.put 0 (by simp) (.int .i64 z0)).keep ((Below.refl _ _).alloc (Nat.le_refl _) (.cells #[.int .i64 6, .int .i64 0, .int .i64 0, .int .i64 0, .int .i64 0, .int .i64 0, .int .u32 0, .int .u32 0, .slice none 0 0] 29))).keep hq
  have hB6 : Below w2.heap.size w2 w6 := ((HN3.out.2.setCell (p := ⟨w2.heap.size, 0, none⟩) (Nat.le_refl _) (.int .i64 z0)).alloc (by simp; omega) (.cells #[.int .i64 6, .int .i64 0, .int .i64 0, .int .i64 0, .int .i64 0, .int .i64 0, .int .u32 0, .int .u32 0, .slice none 0 0] 29)).trans (hq.mono (by simp; omega))
  rw [World.size_alloc, hsT] at hO
  have hap : ∀ ad, A6 = some ad → ad.block ≠ w3.heap.size := fun ad had => by have := own_ap hO ad had; omega
  have hU6 := ownU8 hO rfl
  have hU8 : U8At ((w6.setCell ⟨w3.heap.size, 8, none⟩ (.slice A6 b.length c6)).setCell ⟨w3.heap.size, 1, none⟩ (.int .i64 z0)) A6 b := U8At.other (a := ⟨w3.heap.size, 1, none⟩) (U8At.other (a := ⟨w3.heap.size, 8, none⟩) hU6 (fun ad had => hap ad had) _) (fun ad had => hap ad had) _
  have CG : Calls Tryd.prog 16 #[.agg #[.int .i64 6, .int .i64 z0, .int .i64 0, .int .i64 0, .int .i64 0, .int .i64 0, .int .u32 0, .int .u32 0, .slice A6 b.length c6]] ((w6.setCell ⟨w3.heap.size, 8, none⟩ (.slice A6 b.length c6)).setCell ⟨w3.heap.size, 1, none⟩ (.int .i64 z0)) fun e w' => e = .returned (.bool false) ∧ Below ((w6.setCell ⟨w3.heap.size, 8, none⟩ (.slice A6 b.length c6)).setCell ⟨w3.heap.size, 1, none⟩ (.int .i64 z0)).heap.size ((w6.setCell ⟨w3.heap.size, 8, none⟩ (.slice A6 b.length c6)).setCell ⟨w3.heap.size, 1, none⟩ (.int .i64 z0)) w' := refGoodV ⟨6, z0, 0, Fa0, b⟩ A6 b.length c6 false HV.out ((w6.setCell ⟨w3.heap.size, 8, none⟩ (.slice A6 b.length c6)).setCell ⟨w3.heap.size, 1, none⟩ (.int .i64 z0)) hU8 rfl
  have hT8 : BoxF ((w6.setCell ⟨w3.heap.size, 8, none⟩ (.slice A6 b.length c6)).setCell ⟨w3.heap.size, 1, none⟩ (.int .i64 z0)) w3.heap.size [.int .i64 6, .int .i64 z0, .int .i64 0, .int .i64 0, .int .i64 0, .int .i64 0, .int .u32 0, .int .u32 0, .slice A6 b.length c6] := (hT6.put 8 (by simp) (.slice A6 b.length c6)).put 1 (by simp) (.int .i64 z0)
  have hB8 : Below w2.heap.size w2 ((w6.setCell ⟨w3.heap.size, 8, none⟩ (.slice A6 b.length c6)).setCell ⟨w3.heap.size, 1, none⟩ (.int .i64 z0)) := (hB6.setCell (p := ⟨w3.heap.size, 8, none⟩) (by simp; omega) (.slice A6 b.length c6)).setCell (p := ⟨w3.heap.size, 1, none⟩) (by simp; omega) (.int .i64 z0)
  have hO8 : ((w6.setCell ⟨w3.heap.size, 8, none⟩ (.slice A6 b.length c6)).setCell ⟨w3.heap.size, 1, none⟩ (.int .i64 z0)).ownsRow (w3.heap.size + 1) 5 1 (.slice A6 b.length c6) b.length (u8V b) := own_set (own_set hO (Nat.lt_succ_self _) 8 (.slice A6 b.length c6)) (Nat.lt_succ_self _) 1 (.int .i64 z0)
  clear v0 fv0 v1 fv1 v2 fv2 hc0 hc1 hc2
  have v0 := hX6.1 0 _ rfl
  have t1 := hT6.1 1 _ rfl
  have ft1 := hT6.2 1 (by simp)
  have t8 := hT6.1 8 _ rfl
  have ft8 := hT6.2 8 (by simp)
  have t0 := hT6.1 0 _ rfl
  have t2 := hT6.1 2 _ rfl
  have t3 := hT6.1 3 _ rfl
  have t4 := hT6.1 4 _ rfl
  have t5 := hT6.1 5 _ rfl
  have t6 := hT6.1 6 _ rfl
  have t7 := hT6.1 7 _ rfl
  have hz6 : w3.heap.size < w6.heap.size := World.block_lt_of_cell? _ _ t1
  have CG := Lib.hid CG
  have H8 := Lib.hid (And.intro hT8 (And.intro hB8 hO8))
  clear hq hT0 hsT hT6 hX6 hB6 hO hap hU6 hU8 hT8 hB8 hO8
  go_wp2_with fail
  refine CG.out.mono ?_
  rintro e w9 ⟨rfl, hq⟩
  have hB9 : Below w2.heap.size w2 w9 := H8.out.2.1.trans (hq.mono H8.out.2.1.size)
  have hT9 := H8.out.1.keep hq
  have HO9 := Lib.hid (ownsRow_kept H8.out.2.2 hq)
  clear v0 t0 t1 t2 t3 t4 t5 t6 t7 t8 ft1 ft8
  have t0 := hT9.1 0 _ rfl
  have t1 := hT9.1 1 _ rfl
  have t2 := hT9.1 2 _ rfl
  have t3 := hT9.1 3 _ rfl
  have t4 := hT9.1 4 _ rfl
  have t5 := hT9.1 5 _ rfl
  have t6 := hT9.1 6 _ rfl
  have t7 := hT9.1 7 _ rfl
  have t8 := hT9.1 8 _ rfl
  have u0 := (HR2.out.keep hB9).1 0 _ rfl
  have fu0 := (HR2.out.keep hB9).2 0 (by simp)
  have u1 := (HR2.out.keep hB9).1 1 _ rfl
  have fu1 := (HR2.out.keep hB9).2 1 (by simp)
  have u2 := (HR2.out.keep hB9).1 2 _ rfl
  have fu2 := (HR2.out.keep hB9).2 2 (by simp)
  have u3 := (HR2.out.keep hB9).1 3 _ rfl
  have fu3 := (HR2.out.keep hB9).2 3 (by simp)
  have u4 := (HR2.out.keep hB9).1 4 _ rfl
  have fu4 := (HR2.out.keep hB9).2 4 (by simp)
  have u5 := (HR2.out.keep hB9).1 5 _ rfl
  have fu5 := (HR2.out.keep hB9).2 5 (by simp)
  have u6 := (HR2.out.keep hB9).1 6 _ rfl
  have fu6 := (HR2.out.keep hB9).2 6 (by simp)
  have u7 := (HR2.out.keep hB9).1 7 _ rfl
  have fu7 := (HR2.out.keep hB9).2 7 (by simp)
  have u8 := (HR2.out.keep hB9).1 8 _ rfl
  have fu8 := (HR2.out.keep hB9).2 8 (by simp)
  have HB := Lib.hid (HB2.out.1.trans (hB9.mono HB2.out.2))
  clear hq hT9 hB9
  go_wp2
  refine bodyPost_ret (v := .tuple #[.agg #[.int .i64 0, .int .i64 0, .int .i64 0, .int .i64 0, .int .i64 0, .int .i64 0, .int .u32 0, .int .u32 0, .slice none 0 0], .int .i64 2]) (by simp (maxDischargeDepth := 8) [results, Tryd.results29, go_sem, *]) rfl ?_
  refine actPost_bad Ac0 none 0 0 2 rfl rfl (by decide) ?_
  · skip
    repeat (first | with_reducible refine Below.setCell ?_ (by first | exact Nat.le_refl _ | exact HB2.out.2) _ | with_reducible refine Below.drew ?_ | with_reducible refine below_drewN ?_ _)
    exact HB.out
end Go.Proofs.YtndpdonlombodaaDoor
